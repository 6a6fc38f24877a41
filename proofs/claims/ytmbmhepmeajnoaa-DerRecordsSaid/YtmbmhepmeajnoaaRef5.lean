/- The reference's Data. -/
import Derived.Test.YtmbmhepmeajnoaaRef4
import Derived.Test.YtmbmhepmeajnoaaDs
import Derived.Deep.RegionLaw
namespace Go.Proofs.Ytmbmhepmeajnoaa
open Go Go.RowKit

def RB (xs : List (Int × List UInt8)) (k : Nat) : List UInt8 := ((xs.take k).map fun x => twoF x.1 x.2).flatten
theorem RB_succ (xs : List (Int × List UInt8)) (k : Nat) (h : k < xs.length) : RB xs (k + 1) = RB xs k ++ twoF xs[k].1 xs[k].2 := by
  unfold RB
  rw [List.take_succ_eq_append_getElem h, List.map_append, List.flatten_append]; simp
theorem twoF_len (k : Int) (b : List UInt8) (hb : b.length ≤ 1000) : (twoF k b).length ≤ 1100 := by
  have h1 := encTag_le 0 (encInt k)
  have h2 := encTag_le 1 (encOctets b)
  have h3 := encInt_le k
  have h4 := elem_le 4 b
  have h5 := elem_le 48 ([encTag 0 (encInt k), encTag 1 (encOctets b)].flatten)
  have h6 : [encTag 0 (encInt k), encTag 1 (encOctets b)].flatten.length = (encTag 0 (encInt k)).length + ((encTag 1 (encOctets b)).length + 0) := by
    simp only [List.flatten_cons, List.flatten_nil, List.length_append, List.length_nil]
  have h7 : (encOctets b).length ≤ b.length + 5 := h4
  unfold twoF encSeq
  omega
theorem RB_len (xs : List (Int × List UInt8)) (hb : ∀ x ∈ xs, x.2.length ≤ 1000) : ∀ k, k ≤ xs.length → (RB xs k).length ≤ k * 1100
  | 0, _ => by simp [RB]
  | k + 1, h => by
    rw [RB_succ xs k h, List.length_append]
    have := RB_len xs hb k (by omega)
    have := twoF_len xs[k].1 xs[k].2 (hb _ (List.getElem_mem h))
    omega

set_option maxHeartbeats 4000000 in
set_option maxRecDepth 100000 in
theorem RData_at (pv : Value) (xs : List (Int × List UInt8)) (hb : ∀ x ∈ xs, x.2.length ≤ 1000) (hn : xs.length ≤ 1000) (w : World) (hD : DS w pv xs) :
    Calls Try.prog 38 #[pv] w fun e w' => ∃ A c, e = .returned (.slice A (dataR xs).length c) ∧ OB 5 w' w.heap.size (.slice A (dataR xs).length c) (dataR xs) ∧ Ext w w' := by
  obtain ⟨i0, hi, hz0, hz1, hz2⟩ := info_parts u8info
  obtain ⟨A, c, rfl, hc1, hc2, hcell⟩ := hD
  unfold maxLen at hc2
  have HB := Lib.hid hb
  obtain ⟨R, hR⟩ : ∃ R, R = dataR xs := ⟨_, rfl⟩
  rw [← hR]
  have HR := Lib.hid hR
  clear hR hb
  go_enter Try.func38, Try.ntmps38
  go_wp2
  go_loopw [3, 4] (fun o i wr => ∃ k : Nat, k ≤ xs.length ∧ k ≤ 16 ∧ i = .int .i64 k ∧ (∀ x ∈ xs.take k, encInt x.1 ≠ []) ∧ OB 5 wr w.heap.size o (RB xs k) ∧ Ext w wr) (fun _ i _ => xs.length - (intOf i).toNat)
  case atStart => exact ⟨0, Nat.zero_le _, by omega, rfl, by simp, OB.nil _ _ _, Ext.refl _⟩
  case round =>
    obtain ⟨k, hk, hk16, rfl, hne, ho, hx⟩ := hrel
    by_cases hlt : k < xs.length
    · obtain ⟨ad, B, d, rfl, hc0, hc1, hbk⟩ := hcell k hlt
      have hc0' := hx.cell hc0
      have hc1' := hx.cell hc1
      have hbk' := hbk.ext hx
      have hmem := List.getElem_mem hlt
      have HT := Lib.hid (RB_succ xs k hlt)
      have HL := Lib.hid (RB_len xs HB.out k hk)
      have htk : xs.take (k + 1) = xs.take k ++ [xs[k]] := List.take_succ_eq_append_getElem hlt
      obtain ⟨x, hx0⟩ : ∃ x, x = xs[k] := ⟨_, rfl⟩
      rw [← hx0] at hc0' hc1' hbk' hmem HT htk
      obtain ⟨kd, b⟩ := x
      dsimp only at hc0' hc1' hbk' HT
      have hc2' : wr.cell? ⟨(ad.add (k * 2)).block, (ad.add (k * 2)).off + 1, none⟩ = some (.slice B b.length d) := by rw [cell_add1, add_of_add]; exact hc1'
      have HI := Lib.hid (fun w1 => RInteger_at kd w1)
      have hi13 := encInt_le kd
      have hbl := HB.out _ hmem
      have h2l := twoF_len kd b hbl
      obtain ⟨N, hN⟩ : ∃ N, N = encInt kd := ⟨_, rfl⟩
      have HN := Lib.hid hN
      rw [← hN] at HI hi13
      clear hcell hc0 hc1 hbk hx0 hN
      by_cases h0 : N = []
      · have hz : ((N.length : Int) == 0) = true := by rw [h0]; rfl
        have e : R = [] := by
          rw [HR.out]; unfold dataR
          rw [if_pos (.inl ⟨(kd, b), hmem, by rw [← HN.out]; exact h0⟩)]
        subst e
        clear h0 HN HT htk hmem
        go_wp2_with fail
        refine (HI.out _).mono ?_
        rintro e w1 ⟨A1, c1, rfl, hb1, hx1⟩
        go_wp2_with fail
        go_ret
        exact ⟨none, 0, rfl, OB.nil _ _ _, hx.trans hx1⟩
      have hz : ((N.length : Int) == 0) = false := by
        rw [beq_eq_false_iff_ne]; have := List.length_pos_iff.2 h0; omega
      by_cases h16 : k = 16
      · have hk6 : ((k : Int) == 16) = true := by rw [h16]; rfl
        have e : R = [] := by
          rw [HR.out]; unfold dataR
          rw [if_pos (.inr (by omega))]
        subst e
        clear h0 HN HT htk hmem h16
        go_wp2_with fail
        refine (HI.out _).mono ?_
        rintro e w1 ⟨A1, c1, rfl, hb1, hx1⟩
        go_wp2_with fail
        go_ret
        exact ⟨none, 0, rfl, OB.nil _ _ _, hx.trans hx1⟩
      have hk6 : ((k : Int) == 16) = false := by rw [beq_eq_false_iff_ne]; omega
      go_wp2_with fail
      refine (HI.out _).mono ?_
      rintro e w1 ⟨A1, c1, rfl, hb1, hx1⟩
      go_upto_region 7 with fail
      have hne' : ∀ x ∈ xs.take (k + 1), encInt x.1 ≠ [] := by
        rw [htk]
        intro y hy
        rcases List.mem_append.1 hy with hy | hy
        · exact hne y hy
        · simp only [List.mem_singleton] at hy; rw [hy, ← HN.out]; exact h0
      have HNE := Lib.hid hne'
      have hla := hx1.cell hc0'
      have hlb := hx1.cell hc2'
      have ho1 := ho.ext hx1
      have hxx := hx.trans hx1
      have hbk1 := hbk'.ext hx1
      have hobl : (encOctets b).length ≤ 1005 := by have h4 := elem_le 4 b; have h7 : (encOctets b).length ≤ b.length + 5 := h4; omega
      have HTW : Hid (twoF kd b = encSeq [encWrap 160 0 N, encWrap 160 1 (encOctets b)]) := by show _ = _; rw [HN.out]; rfl
      have HTL : Hid ([encWrap 160 0 N, encWrap 160 1 (encOctets b)].flatten.length ≤ 70368744177664) := by
        have g0 := encTag_le 0 N; have g1 := encTag_le 1 (encOctets b)
        have e0 : encTag 0 N = encWrap 160 0 N := rfl
        have e1 : encTag 1 (encOctets b) = encWrap 160 1 (encOctets b) := rfl
        rw [e0] at g0; rw [e1] at g1
        show _ ≤ _
        simp only [List.flatten_cons, List.flatten_nil, List.length_append, List.length_nil]
        omega
      rw [HTW.out] at h2l HT
      have HBY : Hid ((RB xs k).length + (encSeq [encWrap 160 0 N, encWrap 160 1 (encOctets b)]).length ≤ 140737488355328) := by have := HL.out; show _ ≤ _; omega
      obtain ⟨O, hO⟩ : ∃ O, O = encOctets b := ⟨_, rfl⟩
      have HO := Lib.hid (fun w1 h => ROctets_at B d b w1 h)
      rw [← hO] at HTL HBY HT HO
      clear hne' hne htk h0 hmem hc0' hc1' hc2' ho hx hbk' hb1 hx1 h2l hbl hobl hi13 hO HTW
      go_region_law (first
        | (refine step_append_bs _ (by rfl) (.tmp 23) (.tmp 39) 24 (by rfl) w.heap.size 5 i0 (.int .u8 0) Try.underlying24 hi hz0 hz1 hz2 (by rfl) _ (RB xs k) (by rfl) (ho1.ext hx16) _ (encSeq [encWrap 160 0 N, encWrap 160 1 O]) (by rfl) hb6.bs HBY.out (hxx.trans hx16).size ?_; intro v7 w7 ho7 hg7)
        | (go_simp; go_at_call 20; refine (HI.out _).mono ?_; rintro e w2 ⟨A2, c2, rfl, hb2, hx2⟩; have hx12 := (Ext.drew w1).trans hx2; have hl2 := hx12.cell hlb)
        | (go_simp; go_at_call 14; refine (RTagged_at 0 A2 c2 N _ hb2.bs).mono ?_; rintro e w3 ⟨A3, c3, rfl, hb3, hx3⟩; have hx13 := hx12.trans hx3; have hl3 := hx13.cell hlb)
        | (go_simp; go_at_call 26; refine (HO.out _ (hbk1.ext hx13)).mono ?_; rintro e w4 ⟨A4, c4, rfl, hb4, hx4⟩)
        | (go_simp; go_at_call 14; refine (RTagged_at 1 A4 c4 O _ hb4.bs).mono ?_; rintro e w5 ⟨A5, c5, rfl, hb5, hx5⟩)
        | (go_simp; go_at_call 16; refine (RSequence_at _ [encWrap 160 0 N, encWrap 160 1 O] _ (BSS.new2 w5 24 _ _ _ _ (hb3.bs.ext (hx4.trans hx5)) hb5.bs rfl) HTL.out).mono ?_; rintro e w6 ⟨A6, c6, rfl, hb6, hx6⟩; have hx16 := (hx13.trans (hx4.trans hx5)).trans (((Ext.refl w5).alloc _).trans hx6)))
      all_goals
        focus
          go_wp2_with fail
          go_roundw
          case rel => exact ⟨k + 1, by omega, by omega, by go_num, HNE.out, by rw [HT.out]; exact ho7, (hxx.trans hx16).grown hg7 (fun j hj => OB.lt ho1 j hj)⟩
          case measure => simp [intOf] <;> omega
    · obtain rfl : k = xs.length := by omega
      rw [List.take_length] at hne
      have e : RB xs xs.length = (xs.map fun x => twoF x.1 x.2).flatten := by unfold RB; rw [List.take_length]
      rw [e] at ho
      have e2 : R = elem 48 (xs.map fun x => twoF x.1 x.2).flatten := by
        rw [HR.out]; unfold dataR
        rw [if_neg]
        · rfl
        · rintro (⟨x, hm, he⟩ | h)
          · exact hne x hm he
          · omega
      obtain ⟨L, hL⟩ : ∃ L, L = (xs.map fun x => twoF x.1 x.2).flatten := ⟨_, rfl⟩
      rw [← hL] at ho e2
      subst e2
      obtain ⟨A5, c5, rfl⟩ := ho.shape
      clear hL e hne hcell HR HB
      go_wp2_with (go_at_call 56; refine (Make_at 48 48 rfl _ _ L _ ho.bs).mono ?_; rintro e w2 ⟨A2, c2, rfl, hb2, hx2⟩)
      go_ret
      exact ⟨_, _, rfl, hb2.up hx, hx.trans hx2⟩
end Go.Proofs.Ytmbmhepmeajnoaa
