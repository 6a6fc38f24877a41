/- DerWraps: the walk of the law. -/
import Derived.Test.YtmbmhepmeajnoaaKnown
import Derived.Test.YtmbmhepmeajnoaaRef3
namespace Go.Proofs.Ytmbmhepmeajnoaa
open Go Go.RowKit

def VB (L : List UInt8) (v : Value) (w : World) : Prop := ∃ A c, v = .slice A L.length c ∧ BS w (.slice A L.length c) L
theorem VB.str {L : List UInt8} {A : Option Addr} {c : Nat} {w w' : World} (h : BS w (.slice A L.length c) L) (hx : Ext w w') : (convert 24 9 (.slice A L.length c)).run Try.prog w' = .ok (.string ⟨L.toArray⟩) w' :=
  run_str w' _ _ 5 _ _ Try.underlying24 Try.underlying5 Try.underlying9 (h.ext hx)

set_option maxRecDepth 100000 in
set_option maxHeartbeats 2000000 in
theorem law_walk (A : Option Addr) (c : Nat) (ls : List (List UInt8)) (n : Int) (w : World) (hB : BSS w (.slice A ls.length c) ls) :
    Calls Try.prog 3 #[.slice A ls.length c, .int .i64 n] w fun e w' => e = .returned (.bool true) ∧ Ext w w' := by
  obtain ⟨A', c', he, hc1, hc2, _, hcell⟩ := hB.open_
  injection he with e1 _ e3
  subst e1; subst e3
  unfold maxLen at hc2
  by_cases h6 : (6 : Int) < ls.length
  · go_enter Try.func3, Try.ntmps3
    go_wp2_with (go_at_call 10; refine (known_at _).mono ?_; rintro e w1 ⟨rfl, hx1⟩)
    go_ret
    exact ⟨rfl, hx1⟩
  have hl6 : ls.length ≤ 6 := by omega
  have HCELL := Lib.hid hcell; clear hcell
  go_enter Try.func3, Try.ntmps3
  go_wp2_with fail
  go_loopw [5] (fun i wr => ∃ k : Nat, k ≤ ls.length ∧ i = .int .i64 k ∧ Ext w wr ∧ Hid (∀ j (hj : j < ls.length), j < k → ls[j].length ≤ 100)) (fun i _ => ls.length - (intOf i).toNat)
  case atStart => exact ⟨0, Nat.zero_le _, rfl, Ext.refl _, fun j hj h => absurd h (by omega)⟩
  case round =>
    obtain ⟨k, hk, rfl, hx, hsm⟩ := hrel
    by_cases hlt : k < ls.length
    · obtain ⟨ad, B, d, rfl, hc0, hbk0⟩ := HCELL.out k hlt
      have hc := hx.cell hc0
      have hbk := hbk0.ext hx
      by_cases h100 : (100 : Int) < ls[k].length
      · go_wp2_with (go_at_call 10; refine (known_at _).mono ?_; rintro e w1 ⟨rfl, hx1⟩)
        go_ret
        exact ⟨rfl, hx.trans hx1⟩
      have HR := Lib.hid (show ls[k].length ≤ 100 by omega)
      have HC := Lib.hid hc
      obtain ⟨m, hm⟩ : ∃ m, m = ls[k] := ⟨_, rfl⟩
      rw [← hm] at hbk hc h100 HC
      have HM := Lib.hid hm; clear hm hc0 hbk0
      go_upto_region 8 with fail
      clear hc
      refine wp_region_ext (fun i v w' => match i with | 5 => VB (encWrap 96 n m) v w' | 12 => VB (encWrap 96 n m) v w' | 21 => VB (encWrap 160 n m) v w' | 28 => VB (encWrap 160 n m) v w' | _ => False) (by kernel_rfl) (by kernel_rfl) ?_
      refine wpE_op rfl rfl (fun w' hw' K' hK' => ?_)
      have hE := hw'.1
      go_step
      refine hK' _ ⟨_, rfl⟩ ?_
      clear hK' K'  hE hw' w'
      refine wpE_op rfl rfl (fun w' hw' K' hK' => ?_)
      have hE := hw'.1
      go_step
      refine hK' _ ⟨_, rfl⟩ ?_
      clear hK' K'  hE hw' w'
      refine wpE_op rfl rfl (fun w' hw' K' hK' => ?_)
      have hE := hw'.1
      go_step
      refine hK' _ ⟨_, rfl⟩ ?_
      clear hK' K'  hE hw' w'
      refine wpE_op rfl rfl (fun w' hw' K' hK' => ?_)
      have hE := hw'.1
      go_step
      refine hK' _ ⟨_, rfl⟩ ?_
      clear hK' K'  hE hw' w'
      refine wpE_op rfl rfl (fun w' hw' K' hK' => ?_)
      have hE := hw'.1
      have hc := hE.cell HC.out
      go_step
      refine hK' _ ⟨_, rfl⟩ ?_
      clear hK' K' hc hE hw' w'
      refine wpE_call 28 rfl (by simp) rfl (fun w' hw' K' hK' => ?_) ?_
      · have hE := hw'.1
        go_step
        refine (Application_at n B d m _ (hbk.ext ((Ext.drew wr).trans hE))).mono ?_
        rintro e w2 ⟨A2, c2, rfl, hb, hx⟩
        exact hK' _ _ ⟨_, rfl, A2, c2, rfl, hb.bs⟩ hx
      rintro _ w1 hE1 ⟨A1, c1, rfl, hb1⟩
      simp only [Act.put, List.setIfInBounds_toArray, List.set_cons_succ, List.set_cons_zero]
      refine wpE_op rfl rfl (fun w' hw' K' hK' => ?_)
      have hE := hw'.1
      have hM28 : Ext w1 w' := hw'.2 28 w1 (by simp [adds]) (by decide)
      have hs := VB.str hb1 hM28
      go_step
      refine hK' _ ⟨_, rfl⟩ ?_
      clear hK' K' hs hM28 hE hw' w'
      refine wpE_op rfl rfl (fun w' hw' K' hK' => ?_)
      have hE := hw'.1
      go_step
      refine hK' _ ⟨_, rfl⟩ ?_
      clear hK' K'  hE hw' w'
      refine wpE_op rfl rfl (fun w' hw' K' hK' => ?_)
      have hE := hw'.1
      go_step
      refine hK' _ ⟨_, rfl⟩ ?_
      clear hK' K'  hE hw' w'
      refine wpE_op rfl rfl (fun w' hw' K' hK' => ?_)
      have hE := hw'.1
      go_step
      refine hK' _ ⟨_, rfl⟩ ?_
      clear hK' K'  hE hw' w'
      refine wpE_op rfl rfl (fun w' hw' K' hK' => ?_)
      have hE := hw'.1
      go_step
      refine hK' _ ⟨_, rfl⟩ ?_
      clear hK' K'  hE hw' w'
      refine wpE_op rfl rfl (fun w' hw' K' hK' => ?_)
      have hE := hw'.1
      have hc := hE.cell HC.out
      go_step
      refine hK' _ ⟨_, rfl⟩ ?_
      clear hK' K' hc hE hw' w'
      refine wpE_call 35 rfl (by simp) rfl (fun w' hw' K' hK' => ?_) ?_
      · have hE := hw'.1
        go_step
        refine (RApplication_at n B d m _ (hbk.ext ((Ext.drew wr).trans hE))).mono ?_
        rintro e w2 ⟨A2, c2, rfl, hb, hx⟩
        exact hK' _ _ ⟨_, rfl, A2, c2, rfl, hb.bs⟩ hx
      rintro _ w2 hE2 ⟨A2, c2, rfl, hb2⟩
      simp only [Act.put, List.setIfInBounds_toArray, List.set_cons_succ, List.set_cons_zero]
      refine wpE_op rfl rfl (fun w' hw' K' hK' => ?_)
      have hE := hw'.1
      have hM35 : Ext w2 w' := hw'.2 35 w2 (by simp [adds]) (by decide)
      have hs := VB.str hb2 hM35
      go_step
      refine hK' _ ⟨_, rfl⟩ ?_
      clear hK' K' hs hM35 hE hw' w'
      refine wpE_op rfl rfl (fun w' hw' K' hK' => ?_)
      have hE := hw'.1
      go_step
      refine hK' _ ⟨_, rfl⟩ ?_
      clear hK' K'  hE hw' w'
      refine wpE_op rfl rfl (fun w' hw' K' hK' => ?_)
      have hE := hw'.1
      go_step
      refine hK' _ ⟨_, rfl⟩ ?_
      clear hK' K'  hE hw' w'
      refine wpE_op rfl rfl (fun w' hw' K' hK' => ?_)
      have hE := hw'.1
      go_step
      refine hK' _ ⟨_, rfl⟩ ?_
      clear hK' K'  hE hw' w'
      refine wpE_op rfl rfl (fun w' hw' K' hK' => ?_)
      have hE := hw'.1
      go_step
      refine hK' _ ⟨_, rfl⟩ ?_
      clear hK' K'  hE hw' w'
      refine wpE_op rfl rfl (fun w' hw' K' hK' => ?_)
      have hE := hw'.1
      go_step
      refine hK' _ ⟨_, rfl⟩ ?_
      clear hK' K'  hE hw' w'
      refine wpE_op rfl rfl (fun w' hw' K' hK' => ?_)
      have hE := hw'.1
      go_step
      refine hK' _ ⟨_, rfl⟩ ?_
      clear hK' K'  hE hw' w'
      refine wpE_op rfl rfl (fun w' hw' K' hK' => ?_)
      have hE := hw'.1
      have hc := hE.cell HC.out
      go_step
      refine hK' _ ⟨_, rfl⟩ ?_
      clear hK' K' hc hE hw' w'
      refine wpE_call 44 rfl (by simp) rfl (fun w' hw' K' hK' => ?_) ?_
      · have hE := hw'.1
        go_step
        refine (Tagged_at n B d m _ (hbk.ext ((Ext.drew wr).trans hE))).mono ?_
        rintro e w2 ⟨A2, c2, rfl, hb, hx⟩
        exact hK' _ _ ⟨_, rfl, A2, c2, rfl, hb.bs⟩ hx
      rintro _ w3 hE3 ⟨A3, c3, rfl, hb3⟩
      simp only [Act.put, List.setIfInBounds_toArray, List.set_cons_succ, List.set_cons_zero]
      refine wpE_op rfl rfl (fun w' hw' K' hK' => ?_)
      have hE := hw'.1
      have hM44 : Ext w3 w' := hw'.2 44 w3 (by simp [adds]) (by decide)
      have hs := VB.str hb3 hM44
      go_step
      refine hK' _ ⟨_, rfl⟩ ?_
      clear hK' K' hs hM44 hE hw' w'
      refine wpE_op rfl rfl (fun w' hw' K' hK' => ?_)
      have hE := hw'.1
      go_step
      refine hK' _ ⟨_, rfl⟩ ?_
      clear hK' K'  hE hw' w'
      refine wpE_op rfl rfl (fun w' hw' K' hK' => ?_)
      have hE := hw'.1
      go_step
      refine hK' _ ⟨_, rfl⟩ ?_
      clear hK' K'  hE hw' w'
      refine wpE_op rfl rfl (fun w' hw' K' hK' => ?_)
      have hE := hw'.1
      go_step
      refine hK' _ ⟨_, rfl⟩ ?_
      clear hK' K'  hE hw' w'
      refine wpE_op rfl rfl (fun w' hw' K' hK' => ?_)
      have hE := hw'.1
      go_step
      refine hK' _ ⟨_, rfl⟩ ?_
      clear hK' K'  hE hw' w'
      refine wpE_op rfl rfl (fun w' hw' K' hK' => ?_)
      have hE := hw'.1
      have hc := hE.cell HC.out
      go_step
      refine hK' _ ⟨_, rfl⟩ ?_
      clear hK' K' hc hE hw' w'
      refine wpE_call 51 rfl (by simp) rfl (fun w' hw' K' hK' => ?_) ?_
      · have hE := hw'.1
        go_step
        refine (RTagged_at n B d m _ (hbk.ext ((Ext.drew wr).trans hE))).mono ?_
        rintro e w2 ⟨A2, c2, rfl, hb, hx⟩
        exact hK' _ _ ⟨_, rfl, A2, c2, rfl, hb.bs⟩ hx
      rintro _ w4 hE4 ⟨A4, c4, rfl, hb4⟩
      simp only [Act.put, List.setIfInBounds_toArray, List.set_cons_succ, List.set_cons_zero]
      refine wpE_op rfl rfl (fun w' hw' K' hK' => ?_)
      have hE := hw'.1
      have hM51 : Ext w4 w' := hw'.2 51 w4 (by simp [adds]) (by decide)
      have hs := VB.str hb4 hM51
      go_step
      refine hK' _ ⟨_, rfl⟩ ?_
      clear hK' K' hs hM51 hE hw' w'
      refine wpE_op rfl rfl (fun w' hw' K' hK' => ?_)
      have hE := hw'.1
      go_step
      refine hK' _ ⟨_, rfl⟩ ?_
      clear hK' K'  hE hw' w'
      refine wpE_op rfl rfl (fun w' hw' K' hK' => ?_)
      have hE := hw'.1
      go_step
      refine hK' _ ⟨_, rfl⟩ ?_
      clear hK' K'  hE hw' w'
      refine wpE_nil (fun w5 hw5 => ?_)
      have hx5 : Ext wr w5 := (Ext.drew wr).trans hw5.1
      clear hw5 hE1 hE2 hE3 hE4 hb1 hb2 hb3 hb4
      go_wp2_with fail
      go_roundw
      case rel => exact ⟨k + 1, by omega, by go_num, hx.trans hx5, fun j hj hlt' => by
        rcases Nat.lt_or_ge j k with h | h
        · exact hsm.out j hj h
        · obtain rfl : j = k := by omega
          exact HR.out⟩
      case measure => simp [intOf] <;> omega
    · go_upto_region 10 with fail
      have hall : ∀ j (hj : j < ls.length), ls[j].length ≤ 100 := fun j hj => hsm.out j hj (by omega)
      have HT : Hid (ls.flatten.length ≤ 70368744177664) := by have := flatten_le 100 ls hall; show _ ≤ _; omega
      clear hall
      have hBr := hB.ext hx
      refine wp_region_ext (fun i v w' => match i with | 1 => VB (encSeq ls) v w' | 4 => VB (encSeq ls) v w' | 8 => v = .bool true | _ => False) (by kernel_rfl) (by kernel_rfl) ?_
      refine wpE_op rfl rfl (fun w' hw' K' hK' => ?_)
      have hE := hw'.1
      go_step
      refine hK' _ ⟨_, rfl⟩ ?_
      clear hK' K'  hE hw' w'
      refine wpE_call 56 rfl (by simp) rfl (fun w' hw' K' hK' => ?_) ?_
      · have hE := hw'.1
        go_step
        refine (Sequence_at _ ls _ (hBr.ext ((Ext.drew wr).trans hE))).mono ?_
        rintro e w2 ⟨A2, c2, rfl, hb, hx⟩
        exact hK' _ _ ⟨_, rfl, A2, c2, rfl, hb.bs⟩ hx
      rintro _ w1 hE1 ⟨A1, c1, rfl, hb1⟩
      simp only [Act.put, List.setIfInBounds_toArray, List.set_cons_succ, List.set_cons_zero]
      refine wpE_op rfl rfl (fun w' hw' K' hK' => ?_)
      have hE := hw'.1
      have hM56 : Ext w1 w' := hw'.2 56 w1 (by simp [adds]) (by decide)
      have hs := VB.str hb1 hM56
      go_step
      refine hK' _ ⟨_, rfl⟩ ?_
      clear hK' K' hs hM56 hE hw' w'
      refine wpE_op rfl rfl (fun w' hw' K' hK' => ?_)
      have hE := hw'.1
      go_step
      refine hK' _ ⟨_, rfl⟩ ?_
      clear hK' K'  hE hw' w'
      refine wpE_call 59 rfl (by simp) rfl (fun w' hw' K' hK' => ?_) ?_
      · have hE := hw'.1
        go_step
        refine (RSequence_at _ ls _ (hBr.ext ((Ext.drew wr).trans hE)) HT.out).mono ?_
        rintro e w2 ⟨A2, c2, rfl, hb, hx⟩
        exact hK' _ _ ⟨_, rfl, A2, c2, rfl, hb.bs⟩ hx
      rintro _ w2 hE2 ⟨A2, c2, rfl, hb2⟩
      simp only [Act.put, List.setIfInBounds_toArray, List.set_cons_succ, List.set_cons_zero]
      refine wpE_op rfl rfl (fun w' hw' K' hK' => ?_)
      have hE := hw'.1
      have hM59 : Ext w2 w' := hw'.2 59 w2 (by simp [adds]) (by decide)
      have hs := VB.str hb2 hM59
      go_step
      refine hK' _ ⟨_, rfl⟩ ?_
      clear hK' K' hs hM59 hE hw' w'
      refine wpE_op rfl rfl (fun w' hw' K' hK' => ?_)
      have hE := hw'.1
      go_step
      refine hK' _ ⟨_, rfl⟩ ?_
      clear hK' K'  hE hw' w'
      refine wpE_op rfl rfl (fun w' hw' K' hK' => ?_)
      have hE := hw'.1
      go_step
      refine hK' _ ⟨_, rfl⟩ ?_
      clear hK' K'  hE hw' w'
      refine wpE_call 63 rfl (by simp) rfl (fun w' hw' K' hK' => ?_) ?_
      · have hE := hw'.1
        go_step
        refine (known_at _).mono ?_
        rintro e w2 ⟨rfl, hx⟩
        exact hK' _ _ ⟨_, rfl, rfl⟩ hx
      rintro _ w3 hE3 rfl
      simp only [Act.put, List.setIfInBounds_toArray, List.set_cons_succ, List.set_cons_zero]
      refine wpE_op rfl rfl (fun w' hw' K' hK' => ?_)
      have hE := hw'.1
      go_step
      refine hK' _ ⟨_, rfl⟩ ?_
      clear hK' K'  hE hw' w'
      refine wpE_op rfl rfl (fun w' hw' K' hK' => ?_)
      have hE := hw'.1
      go_step
      refine hK' _ ⟨_, rfl⟩ ?_
      clear hK' K'  hE hw' w'
      refine wpE_nil (fun w5 hw5 => ?_)
      have hx5 : Ext wr w5 := (Ext.drew wr).trans hw5.1
      clear hw5 hE1 hE2 hE3 hb1 hb2
      go_wp2_with fail
      go_ret
      exact ⟨rfl, hx.trans hx5⟩
#print axioms law_walk
end Go.Proofs.Ytmbmhepmeajnoaa
