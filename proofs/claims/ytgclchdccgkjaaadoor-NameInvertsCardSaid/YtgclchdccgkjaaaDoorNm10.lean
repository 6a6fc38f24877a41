/- Names: the reference's order, Compare, Equal. -/
import Derived.Test.YtgclchdccgkjaaaDoorNm9
namespace Go.Proofs.YtgclchdccgkjaaaDoor
open Go Go.RowKit
set_option linter.unusedVariables false

/-- The order of two strings. -/
def ordB (a b : List UInt8) : Int := if Op.bytesLess a b = true then -1 else if (a == b) = true then 0 else 1
def cmpL : List (List UInt8) → List (List UInt8) → Int
  | [], [] => 0
  | [], _ :: _ => -1
  | _ :: _, [] => 1
  | a :: l, b :: m => if ordB a b ≠ 0 then ordB a b else cmpL l m
def cmpN (ps : List (List UInt8)) (r : List UInt8) (qs : List (List UInt8)) (t : List UInt8) : Int := if ordB r t ≠ 0 then ordB r t else cmpL ps qs
theorem ordB_bd (a b : List UInt8) : -1 ≤ ordB a b ∧ ordB a b ≤ 1 := by unfold ordB; split <;> (try split) <;> omega
theorem order_at (a b : ByteArray) (w : World) :
    Calls Tryd.prog 52 #[.string a, .string b] w fun e w' => e = .returned (.int .i64 (ordB a.data.toList b.data.toList)) ∧ w = w' := by
  obtain ⟨x, hx⟩ : ∃ x, ordB a.data.toList b.data.toList = x := ⟨_, rfl⟩
  rw [hx]
  unfold ordB at hx
  cases h1 : Op.bytesLess a.data.toList b.data.toList with
  | true =>
    rw [if_pos h1] at hx
    have e1 : Op.bytesLess a.toList b.toList = true := by rw [ByteArray.toList_eq, ByteArray.toList_eq]; exact h1
    subst hx
    clear h1
    go_enter Tryd.func52, Tryd.ntmps52
    go_wp2
    go_ret
    exact ⟨rfl, rfl⟩
  | false =>
    rw [if_neg (by rw [h1]; simp)] at hx
    have e1 : Op.bytesLess a.toList b.toList = false := by rw [ByteArray.toList_eq, ByteArray.toList_eq]; exact h1
    cases h2 : (a.data.toList == b.data.toList) with
    | true =>
      rw [if_pos h2] at hx
      have e2 : (a.toList == b.toList) = true := by rw [ByteArray.toList_eq, ByteArray.toList_eq]; exact h2
      subst hx
      clear h1 h2
      go_enter Tryd.func52, Tryd.ntmps52
      go_wp2
      go_ret
      exact ⟨rfl, rfl⟩
    | false =>
      rw [if_neg (by rw [h2]; simp)] at hx
      have e2 : (a.toList == b.toList) = false := by rw [ByteArray.toList_eq, ByteArray.toList_eq]; exact h2
      subst hx
      clear h1 h2
      go_enter Tryd.func52, Tryd.ntmps52
      go_wp2
      go_ret
      exact ⟨rfl, rfl⟩
theorem cmpL_drop {la lb : List (List UInt8)} {k : Nat} (h1 : k < la.length) (h2 : k < lb.length) : cmpL (la.drop k) (lb.drop k) = if ordB la[k] lb[k] ≠ 0 then ordB la[k] lb[k] else cmpL (la.drop (k + 1)) (lb.drop (k + 1)) := by
  rw [List.drop_eq_getElem_cons h1, List.drop_eq_getElem_cons h2, cmpL]
theorem cmpL_end {la lb : List (List UInt8)} {k : Nat} (hk1 : k ≤ la.length) (hk2 : k ≤ lb.length) (h : ¬ (k < la.length ∧ k < lb.length)) : cmpL (la.drop k) (lb.drop k) = if la.length < lb.length then -1 else if lb.length < la.length then 1 else 0 := by
  by_cases h1 : k < la.length
  · have h2 : k = lb.length := by omega
    rw [List.drop_eq_getElem_cons h1, List.drop_eq_nil_of_le (by omega : lb.length ≤ k), cmpL, if_neg (by omega), if_pos (by omega)]
  · rw [List.drop_eq_nil_of_le (by omega : la.length ≤ k)]
    by_cases h2 : k < lb.length
    · rw [List.drop_eq_getElem_cons h2, cmpL, if_pos (by omega)]
    · rw [List.drop_eq_nil_of_le (by omega : lb.length ≤ k), cmpL, if_neg (by omega), if_neg (by omega)]

set_option maxRecDepth 100000 in
set_option maxHeartbeats 2000000 in
theorem RCompare_at (A : Option Addr) (c : Nat) (ps : List ByteArray) (r : ByteArray) (B : Option Addr) (d : Nat) (qs : List ByteArray) (t : ByteArray) (hn : ps.length ≤ 1000) (hm : qs.length ≤ 1000) (w : World) (hR : RS w (.slice A ps.length c) (sv ps)) (hQ : RS w (.slice B qs.length d) (sv qs)) :
    Calls Tryd.prog 31 #[.agg #[.slice A ps.length c, .string r], .agg #[.slice B qs.length d, .string t]] w fun e w' => e = .returned (.int .i64 (cmpN (dat ps) r.data.toList (dat qs) t.data.toList)) ∧ Ext w w' := by
  obtain ⟨X, hX⟩ : ∃ X, cmpN (dat ps) r.data.toList (dat qs) t.data.toList = X := ⟨_, rfl⟩
  rw [hX]
  unfold cmpN at hX
  have HX := Lib.hid hX; clear hX
  have hT := heap_alloc_new w (.cells #[.slice A ps.length c, .string r] 24)
  have hU := heap_alloc_new (w.alloc (.cells #[.slice A ps.length c, .string r] 24)) (.cells #[.slice B qs.length d, .string t] 24)
  rw [World.size_alloc] at hU
  have x1 := (Ext.refl w).alloc (.cells #[.slice A ps.length c, .string r] 24)
  have x2 := (Ext.refl (w.alloc (.cells #[.slice A ps.length c, .string r] 24))).alloc (.cells #[.slice B qs.length d, .string t] 24)
  have hT2 := x2.heap hT
  have hx := x1.trans x2
  obtain ⟨wb, hwb⟩ : ∃ wb, wb = (w.alloc (.cells #[.slice A ps.length c, .string r] 24)).alloc (.cells #[.slice B qs.length d, .string t] 24) := ⟨_, rfl⟩
  rw [← hwb] at hT2 hU hx
  have HT : Hid (PB wb w.heap.size (.slice A ps.length c) r) := Lib.hid hT2
  have HU : Hid (PB wb (w.heap.size + 1) (.slice B qs.length d) t) := Lib.hid hU
  have HXB := Lib.hid hx; have HR := Lib.hid hR; have HQ := Lib.hid hQ
  obtain ⟨q0, q1⟩ := HT.out.cells
  obtain ⟨q2, q3⟩ := HU.out.cells
  clear hT hT2 hU hx x1 x2 hR hQ
  have HOR := Lib.hid (order_at r t wb)
  obtain ⟨y, hy⟩ : ∃ y, ordB r.data.toList t.data.toList = y := ⟨_, rfl⟩
  rw [hy] at HX HOR
  clear hy
  go_enter Tryd.func31, Tryd.ntmps31
  go_wp2_with fail
  rw [← hwb]
  clear hwb
  refine HOR.out.mono ?_
  rintro _ w' ⟨rfl, rfl⟩
  by_cases hy0 : y = 0
  · subst hy0
    have HY := Lib.hid (show cmpL (dat ps) (dat qs) = X by have := HX.out; rwa [if_neg (by simp)] at this)
    go_wp2_with fail
    clear q0 q1 q2 q3
    go_loopw [6, 7] (fun i _ wr => ∃ k : Nat, k ≤ ps.length ∧ k ≤ qs.length ∧ i = .int .i64 k ∧ Hid (cmpL ((dat ps).drop k) ((dat qs).drop k) = X) ∧ Hid (Ext wb wr)) (fun i _ _ => ps.length - (intOf i).toNat)
    case atStart => exact ⟨0, Nat.zero_le _, Nat.zero_le _, rfl, HY, Lib.hid (Ext.refl _)⟩
    case round =>
      obtain ⟨k, hk1, hk2, rfl, HC, HE⟩ := hrel
      obtain ⟨q0, q1⟩ := (HT.out.ext HE.out).cells
      obtain ⟨q2, q3⟩ := (HU.out.ext HE.out).cells
      by_cases h1 : k < ps.length
      · by_cases h2 : k < qs.length
        · obtain ⟨A', c', he, e1, e2, e3⟩ := (HR.out.ext (HXB.out.trans HE.out)).ext (Ext.drew wr)
          obtain ⟨B', d', he', e1', e2', e3'⟩ := (HQ.out.ext (HXB.out.trans HE.out)).ext (Ext.drew wr)
          rw [sv_length] at e1 e3 he
          rw [sv_length] at e1' e3' he'
          injection he with z1 _ z3
          injection he' with z1' _ z3'
          subst z1; subst z3; subst z1'; subst z3'
          obtain ⟨ad, rfl, _, hcell⟩ := e3 (by omega)
          obtain ⟨bd, rfl, _, hcell'⟩ := e3' (by omega)
          have g1 := hcell k _ (sv_get ps k h1)
          have g2 := hcell' k _ (sv_get qs k h2)
          obtain ⟨u0, u1⟩ := ((HT.out.ext HE.out).ext (Ext.drew wr)).cells
          obtain ⟨u2, u3⟩ := ((HU.out.ext HE.out).ext (Ext.drew wr)).cells
          have HO := Lib.hid (order_at ps[k] qs[k] wr.drew)
          have HD := Lib.hid (show (if ordB ps[k].data.toList qs[k].data.toList ≠ 0 then ordB ps[k].data.toList qs[k].data.toList else cmpL ((dat ps).drop (k + 1)) ((dat qs).drop (k + 1))) = X by
            rw [← HC.out, cmpL_drop (k := k) (la := dat ps) (lb := dat qs) (by rw [dat_length]; exact h1) (by rw [dat_length]; exact h2)]
            simp [dat])
          obtain ⟨z, hz⟩ : ∃ z, ordB ps[k].data.toList qs[k].data.toList = z := ⟨_, rfl⟩
          rw [hz] at HO HD
          clear hcell hcell' e1 e2 e3 e1' e2' e3' hz
          go_wp2_with fail
          refine still_tail 10 (by kernel_rfl) (by kernel_rfl) ?_
          simp only [List.take_succ_cons, List.take_zero, List.drop_succ_cons, List.drop_zero]
          repeat still_step
          refine wpStill_nil ?_
          go_wp2_with fail
          refine HO.out.mono ?_
          rintro _ w' ⟨rfl, rfl⟩
          by_cases hz0 : z = 0
          · subst hz0
            have HD2 := Lib.hid (show cmpL ((dat ps).drop (k + 1)) ((dat qs).drop (k + 1)) = X by have := HD.out; rwa [if_neg (by simp)] at this)
            go_wp2_with fail
            go_roundw
            case rel => exact ⟨k + 1, by omega, by omega, by go_num, HD2, Lib.hid (HE.out.trans (Ext.drew wr))⟩
            case measure => simp [intOf]; omega
          · have hzb : (z != 0) = true := by rw [bne_iff_ne]; exact hz0
            have HD2 := Lib.hid (show z = X by have := HD.out; rwa [if_pos hz0] at this)
            clear hz0
            go_wp2_with fail
            go_ret
            refine ⟨?_, (HXB.out.trans HE.out).trans (Ext.drew wr)⟩
            rw [← HD2.out]; rfl
        · have HF := Lib.hid (show (1 : Int) = X by rw [← HC.out, cmpL_end (by rw [dat_length]; exact hk1) (by rw [dat_length]; exact hk2) (by rw [dat_length, dat_length]; omega), dat_length, dat_length, if_neg (by omega), if_pos (by omega)])
          have d1 : decide (qs.length ≤ k) = true := decide_eq_true (by omega)
          have d2 : ¬ (k : Int) < (qs.length : Int) := by omega
          have d3 : ¬ (ps.length : Int) < (qs.length : Int) := by omega
          have d4 : (qs.length : Int) < (ps.length : Int) := by omega
          have hkq : k = qs.length := by omega
          subst hkq
          clear d1 d2
          go_wp2_with fail
          go_ret
          refine ⟨?_, HXB.out.trans HE.out⟩
          rw [← HF.out]; rfl
      · have hkp : k = ps.length := by omega
        subst hkp
        by_cases h3 : ps.length < qs.length
        · have HF := Lib.hid (show (-1 : Int) = X by rw [← HC.out, cmpL_end (by rw [dat_length]; exact hk1) (by rw [dat_length]; exact hk2) (by rw [dat_length, dat_length]; omega), dat_length, dat_length, if_pos h3])
          go_wp2_with fail
          go_ret
          refine ⟨?_, HXB.out.trans HE.out⟩
          rw [← HF.out]; rfl
        · have HF := Lib.hid (show (0 : Int) = X by rw [← HC.out, cmpL_end (by rw [dat_length]; exact hk1) (by rw [dat_length]; exact hk2) (by rw [dat_length, dat_length]; omega), dat_length, dat_length, if_neg h3, if_neg (by omega)])
          have heq : qs.length = ps.length := by omega
          go_wp2_with fail
          go_ret
          refine ⟨?_, HXB.out.trans HE.out⟩
          rw [← HF.out]; rfl
  · have hyb : (y != 0) = true := by rw [bne_iff_ne]; exact hy0
    have HY := Lib.hid (show y = X by have := HX.out; rwa [if_pos hy0] at this)
    clear hy0
    go_wp2_with fail
    go_ret
    refine ⟨?_, HXB.out⟩
    rw [← HY.out]; rfl
end Go.Proofs.YtgclchdccgkjaaaDoor
