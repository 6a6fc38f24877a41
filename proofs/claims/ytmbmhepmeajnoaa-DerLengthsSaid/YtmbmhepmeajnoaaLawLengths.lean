/- DerLengths: the walk of the law. -/
import Derived.Test.YtmbmhepmeajnoaaKnown
import Derived.Test.YtmbmhepmeajnoaaRef3
import Derived.Test.YtmbmhepmeajnoaaDer12
import Derived.Test.YtmbmhepmeajnoaaPure6
namespace Go.Proofs.Ytmbmhepmeajnoaa.derLengths
open Go Go.RowKit

def VB (L : List UInt8) (v : Value) (w : World) : Prop := ∃ A c, v = .slice A L.length c ∧ BS w (.slice A L.length c) L
theorem VB.str {L : List UInt8} {A : Option Addr} {c : Nat} {w w' : World} (h : BS w (.slice A L.length c) L) (hx : Ext w w') : (convert 24 9 (.slice A L.length c)).run Try.prog w' = .ok (.string ⟨L.toArray⟩) w' :=
  run_str w' _ _ 5 _ _ Try.underlying24 Try.underlying5 Try.underlying9 (h.ext hx)

set_option maxRecDepth 100000 in
set_option maxHeartbeats 4000000 in
theorem law_walk (n b : Int) (w : World) (hb0 : 0 ≤ b) (hb1 : b ≤ 255) :
    Calls Try.prog 6 #[.int .i64 n, .int .u8 b] w fun e w' => e = .returned (.bool true) ∧ Ext w w' := by
  obtain ⟨i0, hi, hz0, hz1, hz2⟩ := info_parts u8info
  by_cases h0 : n < 0
  · go_enter Try.func6, Try.ntmps6
    go_wp2_with (go_at_call 10; refine (known_at _).mono ?_; rintro e w1 ⟨rfl, hx1⟩)
    go_ret
    exact ⟨rfl, hx1⟩
  by_cases h7 : 70000 < n
  · have hd : decide (70000 < n) = true := decide_eq_true h7
    clear h7
    go_enter Try.func6, Try.ntmps6
    go_wp2_with (go_at_call 10; refine (known_at _).mono ?_; rintro e w1 ⟨rfl, hx1⟩)
    go_ret
    exact ⟨rfl, hx1⟩
  obtain ⟨N, rfl⟩ : ∃ N : Nat, n = (N : Int) := ⟨n.toNat, by omega⟩
  obtain ⟨bb, rfl⟩ : ∃ bb : UInt8, b = (bb.toNat : Int) := ⟨UInt8.ofNat b.toNat, by simp only [UInt8.toNat_ofNat']; omega⟩
  have hd : decide (70000 < (N : Int)) = false := decide_eq_false h7
  have HN := Lib.hid (show N ≤ 70000 by omega)
  clear h7 h0 hb0 hb1
  go_enter Try.func6, Try.ntmps6
  go_wp2_with (at_make; refine wpList_make_full _ rfl _ _ 24 rfl w.heap.size 5 i0 (.int .u8 0) 1 Try.underlying24 hi hz0 hz1 .i64 .i64 _ _ N rfl rfl rfl rfl (by have := HN.out; rw [hz2]; omega) (by have := HN.out; unfold maxLen; omega) (Nat.le_refl _) ?_; intro w1 hown1 hg1)
  have HB : w1.ownsRow w.heap.size 5 1 (.slice (some ⟨w.heap.size, 0, none⟩) N N) N (bv (List.replicate N 0)) := by
    rw [bv_replicate]
    have e : (madeCells (Value.int .u8 0).cells (N * 1)).toList = List.replicate N (.int .u8 0) := by rw [Nat.mul_one]; exact toList_madeCells_one _ _
    rw [← e]; exact hown1
  have HX : Ext w w1 := (Ext.refl w).grown hg1 (fun k hk => by cases hk)
  clear hown1 hg1
  go_loopw [6] (fun i wr => ∃ (k : Nat) (X : List UInt8), k ≤ N + 97 ∧ i = .int .i64 k ∧ X.length = N ∧ wr.ownsRow w.heap.size 5 1 (.slice (some ⟨w.heap.size, 0, none⟩) N N) N (bv X) ∧ Ext w wr) (fun i _ => N + 97 - (intOf i).toNat)
  case atStart => exact ⟨0, _, Nat.zero_le _, rfl, List.length_replicate, HB, HX⟩
  case round =>
    obtain ⟨k, X, hk, rfl, hX, hb, hx⟩ := hrel
    by_cases hlt : k < N
    · have hl : k < (bv X).length := by rw [bv_length]; omega
      have hc := (hb.cellAt k (by omega)).trans (List.getElem?_eq_getElem hl)
      have hf := hb.frozenAt k
      have hst := (hb.stored k (.int .u8 (bb.toNat : Int))).1
      have HS : Hid ((wr.setCell ⟨w.heap.size, k, none⟩ (.int .u8 (bb.toNat : Int))).ownsRow w.heap.size 5 1 (.slice (some ⟨w.heap.size, 0, none⟩) N N) N (bv (X.set k bb))) := by
        rw [bv_set]; exact hst
      have hk7 : (k : Int) < 70000 := by have := HN.out; omega
      clear hst
      go_wp2
      go_roundw
      case rel => exact ⟨k + 97, X.set k bb, by omega, by go_num, by rw [List.length_set]; exact hX, HS.out, hx.setCell (Nat.le_refl _) _⟩
      case measure => simp [intOf]; omega
    · have hb2 : OB 5 wr w.heap.size (.slice (some ⟨w.heap.size, 0, none⟩) X.length N) X := by unfold OB; rw [hX]; exact hb
      have hbs := hb2.bs
      have hXl : X.length ≤ 70000 := by have := HN.out; omega
      rw [← hX] at hlt hb hbs ⊢
      clear hX hd HN HB HX hb2 hb hk
      have hXl2 : X.length < 16777216 := by omega
      have hel : (encOctets X).length ≤ 140737488355328 := by have := elem_le 4 X; unfold encOctets; omega
      have hrd := readOctets_enc X [] hXl2
      rw [List.append_nil] at hrd
      have hrd0 : readOctetsF ((encOctets X).drop 0) = (X, 0, (encOctets X).length) := hrd
      have HR := Lib.hid hrd0
      have HE := Lib.hid hel
      clear hXl hXl2 hel hrd hrd0
      go_upto_region 10 with (first
        | (go_at_call 25; refine (Octets_at _ _ X _ hbs).mono ?_; rintro e w1 ⟨A1, c1, rfl, hb1, hx1⟩)
        | (go_at_call 31; refine (New_at A1 c1 (encOctets X) _ hb1.bs HE.out).mono ?_; rintro e w2 ⟨g, rfl, hg, hr2, hx2⟩))

      have hbs2 := hbs.ext (hx1.trans hx2)
      have hO2 := hb1.bs.ext hx2
      have hxw := hx.trans (hx1.trans hx2)
      have hgw : w.heap.size ≤ g := Nat.le_trans (hx.trans hx1).size hg
      clear hb1 hx1 hx2 hx hbs hlt hg
      refine wp_region_ext (fun i v' w' => match i with | 3 => VB (encOctets X) v' w' | 9 => True | _ => False) (by kernel_rfl) (by kernel_rfl) ?_
      refine wpE_op rfl rfl (fun w' hw' K' hK' => ?_)
      have hE := hw'.1
      go_step
      refine hK' _ ⟨_, rfl⟩ ?_
      clear hK' K'  hE hw' w'
      refine wpE_op rfl rfl (fun w' hw' K' hK' => ?_)
      have hE := hw'.1
      have hs := VB.str hO2 ((Ext.drew w2).trans hE)
      go_step
      refine hK' _ ⟨_, rfl⟩ ?_
      clear hK' K' hs hE hw' w'
      refine wpE_op rfl rfl (fun w' hw' K' hK' => ?_)
      have hE := hw'.1
      go_step
      refine hK' _ ⟨_, rfl⟩ ?_
      clear hK' K'  hE hw' w'
      refine wpE_call 36 rfl (by simp) rfl (fun w' hw' K' hK' => ?_) ?_
      · have hE := hw'.1
        go_step
        refine (ROctets_at _ _ X _ (hbs2.ext ((Ext.drew w2).trans hE))).mono ?_
        rintro e w2 ⟨A2, c2, rfl, hb, hx⟩
        exact hK' _ _ ⟨_, rfl, A2, c2, rfl, hb.bs⟩ hx
      rintro _ w3 hE3 ⟨A3, c3, rfl, hb3⟩
      simp only [Act.put, List.setIfInBounds_toArray, List.set_cons_succ, List.set_cons_zero]
      refine wpE_op rfl rfl (fun w' hw' K' hK' => ?_)
      have hE := hw'.1
      have hM36 : Ext w3 w' := hw'.2 36 w3 (by simp [adds]) (by decide)
      have hs := VB.str hb3 hM36
      go_step
      refine hK' _ ⟨_, rfl⟩ ?_
      clear hK' K' hs hM36 hE hw' w'
      refine wpE_op rfl rfl (fun w' hw' K' hK' => ?_)
      have hE := hw'.1
      go_step
      refine hK' _ ⟨_, rfl⟩ ?_
      clear hK' K'  hE hw' w'
      refine wpE_op rfl rfl (fun w' hw' K' hK' => ?_)
      have hE := hw'.1
      go_step
      refine hK' _ ⟨_, rfl⟩ ?_
      clear hK' K'  hE hw' w'
      refine wpE_op rfl rfl (fun w' hw' K' hK' => ?_)
      have hE := hw'.1
      go_step
      refine hK' _ ⟨_, rfl⟩ ?_
      clear hK' K'  hE hw' w'
      refine wpE_op rfl rfl (fun w' hw' K' hK' => ?_)
      have hE := hw'.1
      go_step
      refine hK' _ ⟨_, rfl⟩ ?_
      clear hK' K'  hE hw' w'
      refine wpE_op rfl rfl (fun w' hw' K' hK' => ?_)
      have hE := hw'.1
      go_step
      refine hK' _ ⟨_, rfl⟩ ?_
      clear hK' K'  hE hw' w'
      refine wpE_nil (fun w4 hw4 => ?_)
      have hx4 : Ext w2 w4 := (Ext.drew w2).trans hw4.1
      have hbs4 := hbs2.ext hx4
      have hr4 := hr2.ext hx4
      have hxw4 := hxw.trans hx4
      clear hw4 hx4 hbs2 hr2 hxw
      go_upto_region 13 with (go_at_call 32; refine (RdOctets_at g (encOctets X) 0 _ rfl X 0 _ HR.out HE.out _ hr4).mono ?_; rintro e w5 ⟨A5, c5, rfl, hb5, hr5, hg5⟩)

      have hbs5 := hbs4.but hr4.noU8 hg5
      have hxw5 : Ext w w5 := hxw4.of_grown hg5 hgw
      have hs1 := VB.str hb5.bs (Ext.refl w5)
      have hs2 := VB.str hbs5 (Ext.refl w5)
      have hend := End_at g (encOctets X) _ w5 hr5
      rw [if_neg (by omega)] at hend
      have HEND := Lib.hid hend
      clear hend hbs4 hr4 hg5 hxw4 hb5 hr5 hgw
      go_wp2_with (first
        | (go_at_call 33; refine HEND.out.mono ?_; rintro e w6 ⟨rfl, hx6⟩)
        | (go_at_call 10; refine (known_at _).mono ?_; rintro e w7 ⟨rfl, hx7⟩))
      go_ret
      exact ⟨rfl, hxw5.trans (hx6.trans hx7)⟩
#print axioms law_walk
end Go.Proofs.Ytmbmhepmeajnoaa.derLengths
