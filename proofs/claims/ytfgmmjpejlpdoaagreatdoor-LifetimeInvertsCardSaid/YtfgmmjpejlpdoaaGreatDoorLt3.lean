/- Lifetimes: the rules of request.times. -/
import Derived.Test.YtfgmmjpejlpdoaaGreatDoorLt1
import Derived.Test.YtfgmmjpejlpdoaaGreatDoorRd
import Derived.OpenShut
import Derived.Deep.RegionHeld
namespace Go.Proofs.YtfgmmjpejlpdoaaGreatDoor
open Go Go.RowKit
set_option linter.unusedVariables false

/-- Block T holds times. -/
def TB (w : World) (T : Nat) (a s e r : Int) : Prop := w.heap[T]? = some (.cells #[.int .i64 a, .int .i64 s, .int .i64 e, .int .i64 r] 23 (0, 0))
/-- Block R holds a request. -/
def RQ (w : World) (R : Nat) (f t n l m now skew : Int) (B : Option Addr) : Prop :=
  w.heap[R]? = some (.cells #[.int .i64 f, .int .i64 t, .int .i64 n, .int .i64 l, .int .i64 m, .int .i64 now, .int .i64 skew, .pointer B] 72 (0, 0))
section
variable {w w' : World} {T R : Nat} {a s e r f t n l m now skew : Int} {B : Option Addr}
theorem TB.cells (h : TB w T a s e r) : w.cell? ⟨T, 0, none⟩ = some (.int .i64 a) ∧ w.cell? ⟨T, 1, none⟩ = some (.int .i64 s) ∧ w.cell? ⟨T, 2, none⟩ = some (.int .i64 e) ∧ w.cell? ⟨T, 3, none⟩ = some (.int .i64 r) :=
  ⟨by rw [cell_of_row w T 0 _ _ (0, 0) h]; rfl, by rw [cell_of_row w T 1 _ _ (0, 0) h]; rfl, by rw [cell_of_row w T 2 _ _ (0, 0) h]; rfl, by rw [cell_of_row w T 3 _ _ (0, 0) h]; rfl⟩
theorem TB.soft (h : TB w T a s e r) (k : Nat) : w.frozen? ⟨T, k, none⟩ = false := frozen_of_row w T k _ _ h
theorem TB.lt (h : TB w T a s e r) : T < w.heap.size := (Array.getElem?_eq_some_iff.1 h).1
theorem TB.ext (h : TB w T a s e r) (hx : Ext w w') : TB w' T a s e r := hx.heap h
theorem TB.but {T' : Nat} (h : TB w T a s e r) (hne : T ≠ T') (hb : w.grownBy w' (some T')) : TB w' T a s e r := (hb.block T h.lt (by intro e; exact hne (by injection e))).trans h
theorem TB.set0 (h : TB w T a s e r) (x : Int) : TB (w.setCell ⟨T, 0, none⟩ (.int .i64 x)) T x s e r := by
  unfold TB; rw [heap_setCell_same w T 0 _ _ _ h]; rfl
theorem TB.set1 (h : TB w T a s e r) (x : Int) : TB (w.setCell ⟨T, 1, none⟩ (.int .i64 x)) T a x e r := by
  unfold TB; rw [heap_setCell_same w T 1 _ _ _ h]; rfl
theorem TB.set2 (h : TB w T a s e r) (x : Int) : TB (w.setCell ⟨T, 2, none⟩ (.int .i64 x)) T a s x r := by
  unfold TB; rw [heap_setCell_same w T 2 _ _ _ h]; rfl
theorem TB.set3 (h : TB w T a s e r) (x : Int) : TB (w.setCell ⟨T, 3, none⟩ (.int .i64 x)) T a s e x := by
  unfold TB; rw [heap_setCell_same w T 3 _ _ _ h]; rfl
theorem RQ.lt (h : RQ w R f t n l m now skew B) : R < w.heap.size := (Array.getElem?_eq_some_iff.1 h).1
theorem RQ.ext (h : RQ w R f t n l m now skew B) (hx : Ext w w') : RQ w' R f t n l m now skew B := hx.heap h
theorem RQ.but {T' : Nat} (h : RQ w R f t n l m now skew B) (hne : R ≠ T') (hb : w.grownBy w' (some T')) : RQ w' R f t n l m now skew B := (hb.block R h.lt (by intro e; exact hne (by injection e))).trans h
theorem RQ.cells (h : RQ w R f t n l m now skew B) : w.cell? ⟨R, 0, none⟩ = some (.int .i64 f) ∧ w.cell? ⟨R, 1, none⟩ = some (.int .i64 t) ∧ w.cell? ⟨R, 2, none⟩ = some (.int .i64 n) ∧ w.cell? ⟨R, 3, none⟩ = some (.int .i64 l) ∧ w.cell? ⟨R, 4, none⟩ = some (.int .i64 m) ∧ w.cell? ⟨R, 5, none⟩ = some (.int .i64 now) ∧ w.cell? ⟨R, 6, none⟩ = some (.int .i64 skew) ∧ w.cell? ⟨R, 7, none⟩ = some (.pointer B) :=
  ⟨by rw [cell_of_row w R 0 _ _ (0, 0) h]; rfl, by rw [cell_of_row w R 1 _ _ (0, 0) h]; rfl, by rw [cell_of_row w R 2 _ _ (0, 0) h]; rfl, by rw [cell_of_row w R 3 _ _ (0, 0) h]; rfl, by rw [cell_of_row w R 4 _ _ (0, 0) h]; rfl, by rw [cell_of_row w R 5 _ _ (0, 0) h]; rfl, by rw [cell_of_row w R 6 _ _ (0, 0) h]; rfl, by rw [cell_of_row w R 7 _ _ (0, 0) h]; rfl⟩
end

/-- The base, if there is one. -/
def BQ (w : World) (B : Option Nat) (ba bs be br : Int) : Prop := ∀ b, B = some b → TB w b ba bs be br
def bp (B : Option Nat) : Option Addr := B.map fun b => ⟨b, 0, none⟩

set_option maxRecDepth 100000 in
theorem postdated_at (f t n l m now skew : Int) (B : Option Addr) (hn : 0 ≤ now ∧ now ≤ 1099511627776) (hk : 0 ≤ skew ∧ skew ≤ 86400) (w : World) :
    Calls Tryz.prog 56 #[.agg #[.int .i64 f, .int .i64 t, .int .i64 n, .int .i64 l, .int .i64 m, .int .i64 now, .int .i64 skew, .pointer B]] w fun en w' => en = .returned (.bool (decide (now + skew < f))) ∧ Ext w w' := by
  obtain ⟨h1, h2⟩ := hn
  obtain ⟨h3, h4⟩ := hk
  go_enter Tryz.func56, Tryz.ntmps56
  go_wp2
  go_ret
  exact ⟨rfl, (Ext.refl w).alloc _⟩

theorem cell_apart {w : World} {T R : Nat} (hne : R ≠ T) (i k : Nat) (u v : Value) (h : w.cell? ⟨R, k, none⟩ = some v) : (w.setCell ⟨T, i, none⟩ u).cell? ⟨R, k, none⟩ = some v := by
  rw [World.cell?_setCell_far _ _ _ _ (fun h => hne h.symm)]; exact h

set_option maxRecDepth 100000 in
theorem rule1_none (R T : Nat) (a s e r f t n l m now skew : Int) (w : World) (hR : RQ w R f t n l m now skew none) (hT : TB w T a s e r) (hne : R ≠ T) :
    Calls Tryz.prog 54 #[.pointer (some ⟨R, 0, none⟩), .pointer (some ⟨T, 0, none⟩)] w fun en w' => en = .returned (.tuple #[]) ∧ TB w' T now s e r ∧ w.grownBy w' (some T) := by
  obtain ⟨r0, r1, r2, r3, r4, r5, r6, r7⟩ := hR.cells
  obtain ⟨q0, q1, q2, q3⟩ := hT.cells
  have f0 := hT.soft 0
  have r7' := cell_apart hne 0 7 (.int .i64 now) _ r7
  have HT := Lib.hid hT; clear hT hR
  go_enter Tryz.func54, Tryz.ntmps54
  go_wp2
  go_end0
  exact ⟨rfl, HT.out.set0 _, grown_set (grown_refl w _) 0 _⟩

set_option maxRecDepth 100000 in
theorem rule1_some (R T B : Nat) (a s e r f t n l m now skew ba bs be br : Int) (w : World) (hR : RQ w R f t n l m now skew (some ⟨B, 0, none⟩)) (hT : TB w T a s e r) (hB : TB w B ba bs be br) (hne : R ≠ T) (hnb : B ≠ T) :
    Calls Tryz.prog 54 #[.pointer (some ⟨R, 0, none⟩), .pointer (some ⟨T, 0, none⟩)] w fun en w' => en = .returned (.tuple #[]) ∧ TB w' T ba s e r ∧ w.grownBy w' (some T) := by
  obtain ⟨r0, r1, r2, r3, r4, r5, r6, r7⟩ := hR.cells
  obtain ⟨q0, q1, q2, q3⟩ := hT.cells
  obtain ⟨b0, b1, b2, b3⟩ := hB.cells
  have f0 := hT.soft 0
  have f0' := (hT.set0 now).soft 0
  have r7' := cell_apart hne 0 7 (.int .i64 now) _ r7
  have b0' := cell_apart hnb 0 0 (.int .i64 now) _ b0
  have q0' := ((hT.set0 now).cells).1
  have HT := Lib.hid hT; clear hT hR hB
  go_enter Tryz.func54, Tryz.ntmps54
  go_wp2
  go_end0
  exact ⟨rfl, (HT.out.set0 _).set0 _, grown_set (grown_set (grown_refl w _) 0 _) 0 _⟩

set_option maxRecDepth 100000 in
theorem rule2_of (R T : Nat) (a s e r f t n l m now skew M : Int) (B : Option Addr) (hn : 0 ≤ now ∧ now ≤ 1099511627776) (hk : 0 ≤ skew ∧ skew ≤ 86400) (w : World) (hR : RQ w R f t n l m now skew B) (hT : TB w T a s e r) (hne : R ≠ T)
    (hM : (now < a ∧ M = a) ∨ (¬ now < a ∧ M = now)) :
    Calls Tryz.prog 55 #[.pointer (some ⟨R, 0, none⟩), .pointer (some ⟨T, 0, none⟩)] w fun en w' => en = .returned (.tuple #[]) ∧ TB w' T a (if now + skew < f then f else M) e r ∧ w.grownBy w' (some T) := by
  obtain ⟨r0, r1, r2, r3, r4, r5, r6, r7⟩ := hR.cells
  obtain ⟨q0, q1, q2, q3⟩ := hT.cells
  have f1 := hT.soft 1
  have HT := Lib.hid hT; have HR := Lib.hid hR; clear hT hR
  have hp := postdated_at f t n l m now skew B hn hk
  have HP := Lib.hid hp; clear hp hn hk
  by_cases hc : now + skew < f
  · rw [if_pos hc]
    have hd : decide (now + skew < f) = true := decide_eq_true hc
    clear hc
    rcases hM with ⟨hM, rfl⟩ | ⟨hM, rfl⟩
    all_goals
      go_enter Tryz.func55, Tryz.ntmps55
      go_wp2_with fail
      refine (HP.out _).mono ?_
      rintro en w1 ⟨rfl, hx1⟩
      have hT1 := (HT.out.set1 M).ext hx1
      have hg1 := grown_ext (grown_set (grown_refl w (some T)) 1 (.int .i64 M)) hx1
      have hR1 := HR.out.but hne hg1
      obtain ⟨r0', r1', r2', r3', r4', r5', r6', r7'⟩ := hR1.cells
      obtain ⟨q0', q1', q2', q3'⟩ := hT1.cells
      have f1' := hT1.soft 1
      have HG := Lib.hid hg1; have HT1 := Lib.hid hT1
      clear hx1 hR1 hg1 hT1
      go_wp2
      go_end0
      exact ⟨rfl, HT1.out.set1 _, grown_set HG.out 1 _⟩
  · rw [if_neg hc]
    have hd : decide (now + skew < f) = false := decide_eq_false hc
    clear hc
    rcases hM with ⟨hM, rfl⟩ | ⟨hM, rfl⟩
    all_goals
      go_enter Tryz.func55, Tryz.ntmps55
      go_wp2_with fail
      refine (HP.out _).mono ?_
      rintro en w1 ⟨rfl, hx1⟩
      have hT1 := (HT.out.set1 M).ext hx1
      have hg1 := grown_ext (grown_set (grown_refl w (some T)) 1 (.int .i64 M)) hx1
      have HG := Lib.hid hg1; have HT1 := Lib.hid hT1
      clear hx1 hg1 hT1
      go_wp2
      go_end0
      exact ⟨rfl, HT1.out, HG.out⟩
theorem rule2 (R T : Nat) (a s e r f t n l m now skew : Int) (B : Option Addr) (hn : 0 ≤ now ∧ now ≤ 1099511627776) (hk : 0 ≤ skew ∧ skew ≤ 86400) (w : World) (hR : RQ w R f t n l m now skew B) (hT : TB w T a s e r) (hne : R ≠ T) :
    Calls Tryz.prog 55 #[.pointer (some ⟨R, 0, none⟩), .pointer (some ⟨T, 0, none⟩)] w fun en w' => en = .returned (.tuple #[]) ∧ TB w' T a (if now + skew < f then f else max now a) e r ∧ w.grownBy w' (some T) :=
  rule2_of R T a s e r f t n l m now skew (max now a) B hn hk w hR hT hne (by omega)

/-- The end: the rule without a base. -/
def endF (s l t : Int) : Int := if t = 0 then min (s + l) 1099511627776 else min (min (s + l) 1099511627776) t

theorem TB.to2 {w : World} {T : Nat} {a s e e' r : Int} (h : TB w T a s e r) (he : e = e') : TB w T a s e' r := he ▸ h
theorem TB.to3 {w : World} {T : Nat} {a s e r r' : Int} (h : TB w T a s e r) (hr : r = r') : TB w T a s e r' := hr ▸ h

set_option maxRecDepth 100000 in
theorem rule3_none (R T : Nat) (a s e r f t n l m now skew : Int) (hs : 0 ≤ s ∧ s ≤ 1099511627776) (hl : 0 ≤ l ∧ l ≤ 2147483648) (w : World) (hR : RQ w R f t n l m now skew none) (hT : TB w T a s e r) (hne : R ≠ T) :
    Calls Tryz.prog 57 #[.pointer (some ⟨T, 0, none⟩), .pointer (some ⟨R, 0, none⟩)] w fun en w' => en = .returned (.tuple #[]) ∧ TB w' T a s (endF s l t) r ∧ w.grownBy w' (some T) := by
  obtain ⟨r0, r1, r2, r3, r4, r5, r6, r7⟩ := hR.cells
  obtain ⟨q0, q1, q2, q3⟩ := hT.cells
  obtain ⟨s1, s2⟩ := hs
  obtain ⟨l1, l2⟩ := hl
  have f2 := hT.soft 2
  have HT := Lib.hid hT; have HR := Lib.hid hR; clear hT hR
  obtain ⟨M, hM⟩ : ∃ M, endF s l t = M := ⟨_, rfl⟩
  rw [hM]
  unfold endF at hM
  by_cases ht : t = 0
  · rw [if_pos ht] at hM
    subst ht
    have HM := Lib.hid hM; clear hM
    go_enter Tryz.func57, Tryz.ntmps57
    go_wp2
    all_goals
      go_end0
      exact ⟨rfl, (HT.out.set2 _).to2 (by have := HM.out; omega), grown_set (grown_refl w _) 2 _⟩
  · rw [if_neg ht] at hM
    have HM := Lib.hid hM; clear hM
    have ht' : (t != 0) = true := by simpa using ht
    clear ht
    go_enter Tryz.func57, Tryz.ntmps57
    go_wp2
    all_goals
      go_end0
      exact ⟨rfl, ((HT.out.set2 _).set2 _).to2 (by have := HM.out; omega), grown_set (grown_set (grown_refl w _) 2 _) 2 _⟩

set_option maxRecDepth 100000 in
theorem rule3_some (R T B : Nat) (a s e r f t n l m now skew ba bs be br : Int) (hs : 0 ≤ s ∧ s ≤ 1099511627776) (hl : 0 ≤ l ∧ l ≤ 2147483648) (w : World) (hR : RQ w R f t n l m now skew (some ⟨B, 0, none⟩)) (hT : TB w T a s e r) (hB : TB w B ba bs be br) (hne : R ≠ T) (hnb : B ≠ T) :
    Calls Tryz.prog 57 #[.pointer (some ⟨T, 0, none⟩), .pointer (some ⟨R, 0, none⟩)] w fun en w' => en = .returned (.tuple #[]) ∧ TB w' T a s (min (endF s l t) be) r ∧ w.grownBy w' (some T) := by
  obtain ⟨r0, r1, r2, r3, r4, r5, r6, r7⟩ := hR.cells
  obtain ⟨q0, q1, q2, q3⟩ := hT.cells
  obtain ⟨b0, b1, b2, b3⟩ := hB.cells
  obtain ⟨s1, s2⟩ := hs
  obtain ⟨l1, l2⟩ := hl
  have f2 := hT.soft 2
  have HT := Lib.hid hT; have HR := Lib.hid hR; clear hT hR hB
  obtain ⟨M, hM⟩ : ∃ M, min (endF s l t) be = M := ⟨_, rfl⟩
  rw [hM]
  unfold endF at hM
  by_cases ht : t = 0
  · rw [if_pos ht] at hM
    subst ht
    have HM := Lib.hid hM; clear hM
    go_enter Tryz.func57, Tryz.ntmps57
    go_wp2_with fail
    all_goals
      refine still_tail 9 (by kernel_rfl) (by kernel_rfl) ?_
      simp only [List.take_succ_cons, List.take_zero, List.drop_succ_cons, List.drop_zero]
      repeat still_step
      refine wpStill_nil ?_
      go_wp2
      all_goals
        go_end0
        exact ⟨rfl, (((HT.out.set2 _).set2 _).ext (Ext.drew _)).to2 (by have := HM.out; omega), grown_ext (grown_set (grown_set (grown_refl w _) 2 _) 2 _) (Ext.drew _)⟩
  · rw [if_neg ht] at hM
    have HM := Lib.hid hM; clear hM
    have ht' : (t != 0) = true := by simpa using ht
    clear ht
    go_enter Tryz.func57, Tryz.ntmps57
    go_wp2_with fail
    all_goals
      refine still_tail 9 (by kernel_rfl) (by kernel_rfl) ?_
      simp only [List.take_succ_cons, List.take_zero, List.drop_succ_cons, List.drop_zero]
      repeat still_step
      refine wpStill_nil ?_
      go_wp2
      all_goals
        go_end0
        exact ⟨rfl, ((((HT.out.set2 _).set2 _).set2 _).ext (Ext.drew _)).to2 (by have := HM.out; omega), grown_ext (grown_set (grown_set (grown_set (grown_refl w _) 2 _) 2 _) 2 _) (Ext.drew _)⟩

/-- The renewal: what is written at last. -/
def renF (n m s e q : Int) : Int := if min (min (min n (s + m)) 1099511627776) q < e then 0 else min (min (min n (s + m)) 1099511627776) q

set_option maxRecDepth 100000 in
theorem rule4_not (R T : Nat) (f t n l m now skew : Int) (B : Option Addr) (a s e r : Int) (w : World) (hR : RQ w R f t n l m now skew B) (hT : TB w T a s e r) (h : n = 0 ∨ m = 0) :
    Calls Tryz.prog 58 #[.pointer (some ⟨R, 0, none⟩), .pointer (some ⟨T, 0, none⟩)] w fun en w' => en = .returned (.tuple #[]) ∧ TB w' T a s e r ∧ w.grownBy w' (some T) := by
  obtain ⟨r0, r1, r2, r3, r4, r5, r6, r7⟩ := hR.cells
  have HT := Lib.hid hT; have HR := Lib.hid hR; clear hT hR
  rcases (show n = 0 ∨ (n ≠ 0 ∧ m = 0) by omega) with rfl | ⟨h1, rfl⟩
  · clear h
    go_enter Tryz.func58, Tryz.ntmps58
    go_wp2
    refine bodyPost_ret (results_none rfl _ _ _) rfl ?_
    exact ⟨rfl, HT.out, grown_refl w _⟩
  · have h2 : (n == 0) = false := by simpa using h1
    clear h h1
    go_enter Tryz.func58, Tryz.ntmps58
    go_wp2
    refine bodyPost_ret (results_none rfl _ _ _) rfl ?_
    exact ⟨rfl, HT.out, grown_refl w _⟩

set_option maxRecDepth 100000 in
theorem rule4_none (R T : Nat) (a s e r f t n l m now skew : Int) (hs : 0 ≤ s ∧ s ≤ 1099511627776) (hm : 0 ≤ m ∧ m ≤ 2147483648) (hn : n ≠ 0) (hm0 : m ≠ 0) (w : World) (hR : RQ w R f t n l m now skew none) (hT : TB w T a s e r) (hne : R ≠ T) :
    Calls Tryz.prog 58 #[.pointer (some ⟨R, 0, none⟩), .pointer (some ⟨T, 0, none⟩)] w fun en w' => en = .returned (.tuple #[]) ∧ TB w' T a s e (renF n m s e 1099511627776) ∧ w.grownBy w' (some T) := by
  obtain ⟨r0, r1, r2, r3, r4, r5, r6, r7⟩ := hR.cells
  obtain ⟨q0, q1, q2, q3⟩ := hT.cells
  obtain ⟨s1, s2⟩ := hs
  obtain ⟨l1, l2⟩ := hm
  have f3 := hT.soft 3
  have HT := Lib.hid hT; have HR := Lib.hid hR; clear hT hR
  have h1 : (n == 0) = false := by simpa using hn
  have h2 : (m == 0) = false := by simpa using hm0
  clear hn hm0
  obtain ⟨M, hM⟩ : ∃ M, renF n m s e 1099511627776 = M := ⟨_, rfl⟩
  rw [hM]
  unfold renF at hM
  have HM := Lib.hid hM; clear hM
  go_enter Tryz.func58, Tryz.ntmps58
  go_wp2
  all_goals
    go_end0
    first
      | exact ⟨rfl, (HT.out.set3 _).to3 (by have := HM.out; omega), grown_set (grown_refl w _) 3 _⟩
      | exact ⟨rfl, ((HT.out.set3 _).set3 _).to3 (by have := HM.out; omega), grown_set (grown_set (grown_refl w _) 3 _) 3 _⟩

set_option maxRecDepth 100000 in
set_option maxHeartbeats 2000000 in
theorem rule4_some (R T B : Nat) (a s e r f t n l m now skew ba bs be br : Int) (hs : 0 ≤ s ∧ s ≤ 1099511627776) (hm : 0 ≤ m ∧ m ≤ 2147483648) (hn : n ≠ 0) (hm0 : m ≠ 0) (w : World) (hR : RQ w R f t n l m now skew (some ⟨B, 0, none⟩)) (hT : TB w T a s e r) (hB : TB w B ba bs be br) (hne : R ≠ T) (hnb : B ≠ T) :
    Calls Tryz.prog 58 #[.pointer (some ⟨R, 0, none⟩), .pointer (some ⟨T, 0, none⟩)] w fun en w' => en = .returned (.tuple #[]) ∧ TB w' T a s e (renF n m s e br) ∧ w.grownBy w' (some T) := by
  obtain ⟨r0, r1, r2, r3, r4, r5, r6, r7⟩ := hR.cells
  obtain ⟨q0, q1, q2, q3⟩ := hT.cells
  obtain ⟨b0, b1, b2, b3⟩ := hB.cells
  obtain ⟨s1, s2⟩ := hs
  obtain ⟨l1, l2⟩ := hm
  have f3 := hT.soft 3
  have HT := Lib.hid hT; have HR := Lib.hid hR; clear hT hR hB
  have h1 : (n == 0) = false := by simpa using hn
  have h2 : (m == 0) = false := by simpa using hm0
  clear hn hm0
  obtain ⟨M, hM⟩ : ∃ M, renF n m s e br = M := ⟨_, rfl⟩
  rw [hM]
  unfold renF at hM
  have HM := Lib.hid hM; clear hM
  go_enter Tryz.func58, Tryz.ntmps58
  go_wp2_with fail
  all_goals
    refine still_tail 9 (by kernel_rfl) (by kernel_rfl) ?_
    simp only [List.take_succ_cons, List.take_zero, List.drop_succ_cons, List.drop_zero]
    repeat still_step
    refine wpStill_nil ?_
    go_wp2
    all_goals
      go_end0
      refine ⟨rfl, ?_, ?_⟩
      · first
          | with_reducible refine (((HT.out.set3 _).set3 _).ext (Ext.drew _)).to3 ?_
          | with_reducible refine ((((HT.out.set3 _).set3 _).set3 _).ext (Ext.drew _)).to3 ?_
        have := HM.out
        omega
      · repeat (first | with_reducible refine grown_ext ?_ (Ext.drew _) | with_reducible refine grown_set ?_ 3 _ | with_reducible exact grown_refl w _)
end Go.Proofs.YtfgmmjpejlpdoaaGreatDoor
