/- The reference's Decode of times. -/
import Derived.Test.YtfgmmjpejlpdoaaDoorLtD5
import Derived.Test.YtfgmmjpejlpdoaaDoorLtD4
namespace Go.Proofs.YtfgmmjpejlpdoaaDoor
open Go Go.RowKit
set_option linter.unusedVariables false

set_option maxRecDepth 100000 in
set_option maxHeartbeats 2000000 in
theorem LDec_at (A0 : Option Addr) (c0 : Nat) (b : List UInt8) (hbl : b.length ≤ 1000000) (a s e r : Int) (er : Nat) (hres : timesDec b = ((a, s, e, r), er)) (w : World) (hB : BS w (.slice A0 b.length c0) b) :
    Calls Tryd.prog 29 #[.slice A0 b.length c0] w fun en w' => en = .returned (.tuple #[.agg #[.int .i64 a, .int .i64 s, .int .i64 e, .int .i64 r], .int .i64 (er : Int)]) ∧ Ext w w' := by
  obtain ⟨⟨a1, s1, e1, r1⟩, er1, u1, hR⟩ : ∃ T er u, timesRd b = (T, er, u) := ⟨_, _, _, rfl⟩
  unfold timesDec at hres
  rw [hR] at hres
  have hz := timesRd_zero b
  rw [hR] at hz
  obtain ⟨W1, hW1, hx1, hT1⟩ : ∃ W1, w.alloc (.cells #[.int .i64 0, .int .i64 0, .int .i64 0, .int .i64 0] 27) = W1 ∧ Ext w W1 ∧ TB W1 w.heap.size 0 0 0 0 := ⟨_, rfl, (Ext.refl _).alloc _, heap_alloc_new w _⟩
  have HRD := Lib.hid (show Calls Tryd.prog 32 #[.slice A0 b.length c0, .int .i64 0] W1 (fun en w' => en = .returned (.tuple #[.agg #[.int .i64 a1, .int .i64 s1, .int .i64 e1, .int .i64 r1], .int .i64 ((u1 : Nat) : Int), .int .i64 (er1 : Int)]) ∧ Ext W1 w') from
    (LRead_at A0 c0 b 0 (by omega) hbl a1 s1 e1 r1 er1 u1 (by rw [List.drop_zero]; exact hR) W1 (hB.ext hx1)).mono (fun en w' h => by rw [Nat.zero_add] at h; exact h))
  have HX1 := Lib.hid hx1; have HT1 := Lib.hid hT1
  clear hR hx1 hT1
  go_enter Tryd.func29, Tryd.ntmps29
  go_wp2_with fail
  refine HRD.out.mono ?_
  rintro en w2 ⟨rfl, hx2⟩
  obtain ⟨W3, hW3, hx3, hT3, hT3n⟩ : ∃ W3, w2.alloc (.cells #[.int .i64 a1, .int .i64 s1, .int .i64 e1, .int .i64 r1] 27) = W3 ∧ Ext w W3 ∧ TB W3 w2.heap.size a1 s1 e1 r1 ∧ TB W3 w.heap.size 0 0 0 0 := ⟨_, rfl, (HX1.out.trans hx2).trans ((Ext.refl _).alloc _), heap_alloc_new w2 _, (HT1.out.ext hx2).ext ((Ext.refl _).alloc _)⟩
  obtain ⟨t0, t1, t2, t3⟩ := hT3.cells
  obtain ⟨q0, q1, q2, q3⟩ := hT3n.cells
  have f0 := hT3n.soft 0; have f1 := hT3n.soft 1; have f2 := hT3n.soft 2; have f3 := hT3n.soft 3
  have HX3 := Lib.hid hx3; have HT3 := Lib.hid hT3n
  have HRES := Lib.hid hres; have HZ := Lib.hid hz
  clear hx2 hx3 hT3 hT3n hres hz
  by_cases he1 : er1 = 0
  · subst he1
    have hres := HRES.out
    rw [if_neg (by simp)] at hres
    by_cases hlt : u1 < b.length
    · rw [if_pos hlt] at hres
      simp only [Prod.mk.injEq] at hres
      obtain ⟨⟨rfl, rfl, rfl, rfl⟩, rfl⟩ := hres
      obtain ⟨WF, hWF, hxF, d0, d1, d2, d3⟩ := put4 HX3.out (Nat.le_refl _) HT3.out 0 0 0 0
      have hq9 : ((u1 : Nat) : Int) < (b.length : Int) := by omega
      have hq8 : decide (u1 < b.length) = true := decide_eq_true hlt
      go_wp2_with fail
      refine bodyPost_ret (v := .tuple #[.agg #[.int .i64 0, .int .i64 0, .int .i64 0, .int .i64 0], .int .i64 5]) (by simp [results, Tryd.results29, go_sem, d0, d1, d2, d3]; try rfl) rfl ?_
      exact ⟨rfl, hxF⟩
    · rw [if_neg hlt] at hres
      simp only [Prod.mk.injEq] at hres
      obtain ⟨⟨rfl, rfl, rfl, rfl⟩, rfl⟩ := hres
      obtain ⟨WF, hWF, hxF, d0, d1, d2, d3⟩ := put4 HX3.out (Nat.le_refl _) HT3.out a1 s1 e1 r1
      have hq9 : ¬ ((u1 : Nat) : Int) < (b.length : Int) := by omega
      have hq8 : decide (u1 < b.length) = false := decide_eq_false hlt
      go_wp2_with fail
      refine bodyPost_ret (v := .tuple #[.agg #[.int .i64 a1, .int .i64 s1, .int .i64 e1, .int .i64 r1], .int .i64 0]) (by simp [results, Tryd.results29, go_sem, d0, d1, d2, d3]; try rfl) rfl ?_
      exact ⟨rfl, hxF⟩
  · have hne : ((er1 : Int) == 0) = false := by rw [beq_eq_false_iff_ne]; omega
    have hne2 : decide ((er1 : Int) = 0) = false := decide_eq_false (by omega)
    have HE := Lib.hid he1; clear he1
    obtain ⟨WF, hWF, hxF, d0, d1, d2, d3⟩ := put4 HX3.out (Nat.le_refl _) HT3.out a1 s1 e1 r1
    go_wp2_with fail
    refine bodyPost_ret (v := .tuple #[.agg #[.int .i64 a1, .int .i64 s1, .int .i64 e1, .int .i64 r1], .int .i64 (er1 : Int)]) (by simp [results, Tryd.results29, go_sem, d0, d1, d2, d3]; try rfl) rfl ?_
    have hres := HRES.out
    have hz := HZ.out HE.out
    rw [if_pos HE.out] at hres
    simp only [Prod.mk.injEq] at hres hz
    obtain ⟨⟨rfl, rfl, rfl, rfl⟩, rfl⟩ := hres
    obtain ⟨⟨rfl, rfl, rfl, rfl⟩, _, _⟩ := hz
    exact ⟨rfl, hxF⟩
end Go.Proofs.YtfgmmjpejlpdoaaDoor
