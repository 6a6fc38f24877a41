/- known: the examples of the chapter. -/
import Derived.Test.YtmbmhepmeajnoaaDer10
namespace Go.Proofs.Ytmbmhepmeajnoaa
open Go Go.RowKit

/-- A contract that hands back new bytes, at bytes that are written out. -/
theorem ret_lit {e : Ending} {w w' : World} {L : List UInt8} (M : List UInt8) (n : Nat) (hM : L = M) (hn : n = M.length)
    (h : ∃ A c, e = .returned (.slice A L.length c) ∧ OB 5 w' w.heap.size (.slice A L.length c) L ∧ Ext w w') :
    ∃ A c, e = .returned (.slice A n c) ∧ BS w' (.slice A n c) M ∧ (convert 24 9 (.slice A n c)).run Try.prog w' = .ok (.string ⟨M.toArray⟩) w' ∧ Ext w w' := by
  subst hM; subst hn
  obtain ⟨A, c, he, hb, hx⟩ := h
  exact ⟨A, c, he, hb.bs, run_str w' _ _ 5 _ _ Try.underlying24 Try.underlying5 Try.underlying9 hb.bs, hx⟩

set_option maxRecDepth 100000 in
set_option maxHeartbeats 2000000 in
theorem known_at (w : World) :
    Calls Try.prog 10 #[] w fun e w' => e = .returned (.bool true) ∧ Ext w w' := by
  have e0 : encInt 0 = [2, 1, 0] := by decide
  have e1 : encInt 128 = [2, 2, 0, 128] := by decide
  have e2 : encInt (-129) = [2, 2, 255, 127] := by decide
  have e3 : encTime 1 = [24, 6, 0, 0, 0, 0, 0, 1] := by decide
  have e4 : encBits 5 = [3, 5, 0, 0, 0, 0, 5] := by decide
  have E0 := Lib.hid e0; have E1 := Lib.hid e1; have E2 := Lib.hid e2; have E3 := Lib.hid e3; have E4 := Lib.hid e4
  have e5 : encInt 5 = [2, 1, 5] := by decide
  have e6 : encString [97] = [27, 1, 97] := by decide
  have e7 : encWrap 160 1 [27, 1, 97] = [161, 3, 27, 1, 97] := by decide
  have e8 : encWrap 160 2 [] = [] := by decide
  have e9 : encSeq [[2, 1, 5], [161, 3, 27, 1, 97], []] = [48, 8, 2, 1, 5, 161, 3, 27, 1, 97] := by decide
  have E5 := Lib.hid e5; have E6 := Lib.hid e6; have E7 := Lib.hid e7; have E8 := Lib.hid e8; have E9 := Lib.hid e9
  clear e0 e1 e2 e3 e4 e5 e6 e7 e8 e9
  go_enter Try.func10, Try.ntmps10
  go_wp2_with fail
  refine ((Integer_at 0 _).mono fun _ _ h => ret_lit [2, 1, 0] 3 E0.out rfl h).mono ?_
  rintro e w1 ⟨A1, c1, rfl, hb1, hs1, hx1⟩
  go_wp2_with fail
  refine ((Integer_at 128 _).mono fun _ _ h => ret_lit [2, 2, 0, 128] 4 E1.out rfl h).mono ?_
  rintro e w2 ⟨A2, c2, rfl, hb2, hs2, hx2⟩
  go_wp2_with fail
  refine ((Integer_at (-129) _).mono fun _ _ h => ret_lit [2, 2, 255, 127] 4 E2.out rfl h).mono ?_
  rintro e w3 ⟨A3, c3, rfl, hb3, hs3, hx3⟩
  go_wp2_with fail
  refine ((Time_at 1 _).mono fun _ _ h => ret_lit [24, 6, 0, 0, 0, 0, 0, 1] 8 E3.out rfl h).mono ?_
  rintro e w4 ⟨A4, c4, rfl, hb4, hs4, hx4⟩
  go_wp2_with fail
  refine ((Bits_at 5 (by omega) (by omega) _).mono fun _ _ h => ret_lit [3, 5, 0, 0, 0, 0, 5] 7 E4.out rfl h).mono ?_
  rintro e w5 ⟨A5, c5, rfl, hb5, hs5, hx5⟩
  go_wp2_with fail
  clear hs1 hs2 hs3 hs4 hs5
  have hX5 := (((hx1.trans hx2).trans hx3).trans hx4).trans hx5
  clear hb1 hb2 hb3 hb4 hb5 hx1 hx2 hx3 hx4 hx5
  refine ((Integer_at 5 _).mono fun _ _ h => ret_lit [2, 1, 5] 3 E5.out rfl h).mono ?_
  rintro e w6 ⟨A6, c6, rfl, hb6, hs6, hx6⟩
  go_wp2_with fail
  refine ((String_at [97] _ (by simp [maxLen])).mono fun _ _ h => ret_lit [27, 1, 97] 3 E6.out rfl h).mono ?_
  rintro e w7 ⟨A7, c7, rfl, hb7, hs7, hx7⟩
  go_wp2_with fail
  refine ((Tagged_at 1 A7 c7 [27, 1, 97] _ hb7).mono fun _ _ h => ret_lit [161, 3, 27, 1, 97] 5 E7.out rfl h).mono ?_
  rintro e w8 ⟨A8, c8, rfl, hb8, hs8, hx8⟩
  go_wp2_with fail
  refine ((Tagged_at 2 none 0 [] _ (BS.nil _)).mono fun _ _ h => ret_lit [] 0 E8.out rfl h).mono ?_
  rintro e w9 ⟨A9, c9, rfl, hb9, hs9, hx9⟩
  go_wp2_with fail
  clear hs6 hs7 hs8 hs9
  refine ((Sequence_at _ [[2, 1, 5], [161, 3, 27, 1, 97], []] _ (BSS.new3 w9 _ _ _ _ _ _ _ (hb6.ext ((hx7.trans hx8).trans hx9)) (hb8.ext hx9) hb9)).mono fun _ _ h => ret_lit [48, 8, 2, 1, 5, 161, 3, 27, 1, 97] 10 E9.out rfl h).mono ?_
  rintro e w10 ⟨A10, c10, rfl, hb10, hs10, hx10⟩
  have hX10 : Ext w w10 := (((hX5.trans hx6).trans hx7).trans hx8).trans (hx9.trans (((Ext.refl w9).alloc _).trans hx10))
  clear hX5 hx6 hx7 hx8 hx9 hx10 hb6 hb7 hb8 hb9 hb10
  go_wp2_with fail
  refine (New_at _ _ [2, 2, 0, 5] _ (BS.new' w10 5 [.int .u8 2, .int .u8 2, .int .u8 0, .int .u8 5] [2, 2, 0, 5] rfl 4 rfl (by simp [maxLen])) (by simp)).mono ?_
  rintro e w11 ⟨g11, rfl, hg11, hr11, hx11⟩
  clear hs10
  go_wp2_with fail
  refine (RdInteger_at g11 [2, 2, 0, 5] 0 [2, 2, 0, 5] rfl 0 6 0 (by decide) _ hr11).mono ?_
  rintro e w12 ⟨rfl, _, hgr11⟩
  have hX12 : Ext w w12 := Ext.of_grown ((hX10.alloc _).trans hx11) hgr11 (by have := hX10.size; simp at hg11; omega)
  clear hgr11 hg11 hr11 hx11 hX10
  go_wp2_with fail
  refine (New_at _ _ [2, 129, 1, 5] _ (BS.new' w12 5 [.int .u8 2, .int .u8 129, .int .u8 1, .int .u8 5] [2, 129, 1, 5] rfl 4 rfl (by simp [maxLen])) (by simp)).mono ?_
  rintro e w13 ⟨g13, rfl, hg13, hr13, hx13⟩
  skip
  go_wp2_with fail
  refine (RdInteger_at g13 [2, 129, 1, 5] 0 [2, 129, 1, 5] rfl 0 6 0 (by decide) _ hr13).mono ?_
  rintro e w14 ⟨rfl, _, hgr13⟩
  have hX14 : Ext w w14 := Ext.of_grown ((hX12.alloc _).trans hx13) hgr13 (by have := hX12.size; simp at hg13; omega)
  clear hgr13 hg13 hr13 hx13 hX12
  go_wp2_with fail
  refine (New_at _ _ [2, 2, 5] _ (BS.new' w14 5 [.int .u8 2, .int .u8 2, .int .u8 5] [2, 2, 5] rfl 3 rfl (by simp [maxLen])) (by simp)).mono ?_
  rintro e w15 ⟨g15, rfl, hg15, hr15, hx15⟩
  skip
  go_wp2_with fail
  refine (RdInteger_at g15 [2, 2, 5] 0 [2, 2, 5] rfl 0 4 0 (by decide) _ hr15).mono ?_
  rintro e w16 ⟨rfl, _, hgr15⟩
  have hX16 : Ext w w16 := Ext.of_grown ((hX14.alloc _).trans hx15) hgr15 (by have := hX14.size; simp at hg15; omega)
  clear hgr15 hg15 hr15 hx15 hX14
  go_wp2_with fail
  refine (New_at _ _ [4, 1, 5] _ (BS.new' w16 5 [.int .u8 4, .int .u8 1, .int .u8 5] [4, 1, 5] rfl 3 rfl (by simp [maxLen])) (by simp)).mono ?_
  rintro e w17 ⟨g17, rfl, hg17, hr17, hx17⟩
  skip
  go_wp2_with fail
  refine (RdInteger_at g17 [4, 1, 5] 0 [4, 1, 5] rfl 0 6 0 (by decide) _ hr17).mono ?_
  rintro e w18 ⟨rfl, _, hgr17⟩
  have hX18 : Ext w w18 := Ext.of_grown ((hX16.alloc _).trans hx17) hgr17 (by have := hX16.size; simp at hg17; omega)
  clear hgr17 hg17 hr17 hx17 hX16
  go_wp2_with fail
  go_ret
  exact ⟨rfl, hX18⟩
#print axioms known_at
end Go.Proofs.Ytmbmhepmeajnoaa
