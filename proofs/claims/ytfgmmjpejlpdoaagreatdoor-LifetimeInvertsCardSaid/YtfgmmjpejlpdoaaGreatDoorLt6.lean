/- Lifetimes: Renew. -/
import Derived.Test.YtfgmmjpejlpdoaaGreatDoorLt5
namespace Go.Proofs.YtfgmmjpejlpdoaaGreatDoor
open Go Go.RowKit

theorem boxes2 (w : World) (a s e r : Int) : ∃ wr, (w.alloc (.cells #[.int .i64 a, .int .i64 s, .int .i64 e, .int .i64 r] 23)).alloc (.cells #[.int .i64 0, .int .i64 0, .int .i64 0, .int .i64 0] 23) = wr ∧ Ext w wr ∧ TB wr w.heap.size a s e r ∧ TB wr (w.heap.size + 1) 0 0 0 0 := by
  refine ⟨_, rfl, ((Ext.refl w).alloc _).alloc _, TB.ext (heap_alloc_new w _) ((Ext.refl _).alloc _), ?_⟩
  have := heap_alloc_new (w.alloc (.cells #[.int .i64 a, .int .i64 s, .int .i64 e, .int .i64 r] 23)) (.cells #[.int .i64 0, .int .i64 0, .int .i64 0, .int .i64 0] 23)
  simpa [TB] using this

set_option maxRecDepth 100000 in
set_option maxHeartbeats 2000000 in
theorem Renew_is (a s e r now skew A S E Q er : Int) (hres : renewF a s e r now skew = (A, S, E, Q, er)) (w : World) :
    Calls Tryz.prog 14 #[.agg #[.int .i64 a, .int .i64 s, .int .i64 e, .int .i64 r], .int .i64 now, .int .i64 skew] w fun en w' =>
      en = .returned (.tuple #[.agg #[.int .i64 A, .int .i64 S, .int .i64 E, .int .i64 Q], .int .i64 er]) ∧ Ext w w' := by
  obtain ⟨wr, hwr, hx0, hV, hT⟩ := boxes2 w a s e r
  obtain ⟨g0, g1, g2, g3⟩ := hV.cells
  have HX0 := Lib.hid hx0; have HV := Lib.hid hV; have HT := Lib.hid hT
  clear hx0 hV hT
  have hus := Usable_at a s e r now skew
  have hre := Renewable_at a s e r now skew
  have hcs := usableF_cases a s e r now skew
  have hrn : renewableB a s e r now skew = true → r ≠ 0 := fun h => by simp [renewableB] at h; exact h.2.1
  unfold renewF at hres
  obtain ⟨u, hu⟩ : ∃ u, usableF a s e r now skew = u := ⟨_, rfl⟩
  obtain ⟨v, hv⟩ : ∃ v, renewableB a s e r now skew = v := ⟨_, rfl⟩
  rw [hu] at hres hus hcs
  rw [hv] at hres hre hrn
  have HUS := Lib.hid hus; have HRE := Lib.hid hre
  clear hus hre hu hv
  by_cases hu0 : u = 0
  · subst hu0
    rw [if_pos rfl] at hres
    have hok : validB a s e r = true ∧ momB now = true ∧ skwB skew = true := by
      rcases hcs with h | h
      · omega
      · exact h.2
    obtain ⟨v1, v2, v3, v4, v5, v6, v7⟩ := validB_bd hok.1
    obtain ⟨n1, n2⟩ := momB_bd hok.2.1
    clear hcs hok
    cases v with
    | false =>
      rw [if_neg (by simp)] at hres
      simp only [Prod.mk.injEq] at hres
      obtain ⟨rfl, rfl, rfl, rfl, rfl⟩ := hres
      clear hrn v1 v2 v3 v4 v5 v6 v7 n1 n2
      go_enter Tryz.func14, Tryz.ntmps14
      go_wp2_with fail
      try rw [hwr]
      clear hwr
      refine (HUS.out _).mono ?_
      rintro en w1 ⟨rfl, hx1⟩
      obtain ⟨q0, q1, q2, q3⟩ := (HV.out.ext hx1).cells
      have HX1 := Lib.hid hx1; clear hx1
      go_wp2_with fail
      refine (HRE.out _).mono ?_
      rintro en w2 ⟨rfl, hx2⟩
      have hT2 := HT.out.ext (HX1.out.trans hx2)
      obtain ⟨c0, c1, c2, c3⟩ := hT2.cells
      have f0 := hT2.soft 0; have f1 := hT2.soft 1; have f2 := hT2.soft 2; have f3 := hT2.soft 3
      have HX2 := Lib.hid ((HX0.out.trans HX1.out).trans hx2); have HT2 := Lib.hid hT2
      clear hx2 hT2
      go_wp2
      obtain ⟨d0, d1, d2, d3⟩ := HT2.out.end_ 0 0 0 0
      refine bodyPost_ret (by simp [results, Tryz.results14, go_sem, d0, d1, d2, d3]; try rfl) rfl ?_
      exact ⟨rfl, ext4 HX2.out (by omega) _ _ _ _⟩
    | true =>
      have hr0 := hrn rfl
      rw [if_pos rfl] at hres
      simp only at hres
      obtain ⟨st, hst⟩ : ∃ st, max now a = st := ⟨_, rfl⟩
      obtain ⟨en', hen⟩ : ∃ en', min (max now a + e - s) r = en' := ⟨_, rfl⟩
      rw [hen, hst] at hres
      have hst2 : (now < a ∧ st = a) ∨ (¬ now < a ∧ st = now) := by omega
      rw [hst] at hen
      have hen2 : (r < st + e - s ∧ en' = r) ∨ (¬ r < st + e - s ∧ en' = st + e - s) := by omega
      have hsb : 0 ≤ st ∧ st ≤ 1099511627776 := by omega
      obtain ⟨sb1, sb2⟩ := hsb
      clear hrn hst hen hr0
      have HRS := Lib.hid hres; have HEN := Lib.hid hen2
      clear hres hen2
      rcases hst2 with ⟨h1, rfl⟩ | ⟨h1, rfl⟩
      all_goals
        rcases HEN.out with ⟨h2, rfl⟩ | ⟨h2, rfl⟩
        all_goals
          go_enter Tryz.func14, Tryz.ntmps14
          go_wp2_with fail
          try rw [hwr]
          clear hwr
          refine (HUS.out _).mono ?_
          rintro en w1 ⟨rfl, hx1⟩
          obtain ⟨q0, q1, q2, q3⟩ := (HV.out.ext hx1).cells
          have HX1 := Lib.hid hx1; clear hx1
          go_wp2_with fail
          refine (HRE.out _).mono ?_
          rintro en w2 ⟨rfl, hx2⟩
          obtain ⟨p0, p1, p2, p3⟩ := (HV.out.ext (HX1.out.trans hx2)).cells
          have hT2 := HT.out.ext (HX1.out.trans hx2)
          obtain ⟨c0, c1, c2, c3⟩ := hT2.cells
          have f0 := hT2.soft 0; have f1 := hT2.soft 1; have f2 := hT2.soft 2; have f3 := hT2.soft 3
          have HX2 := Lib.hid ((HX0.out.trans HX1.out).trans hx2); have HT2 := Lib.hid hT2
          clear hx2 hT2 q0 q1 q2 q3
          go_wp2
          all_goals
            have h9 := HRS.out
            have e0 : ∀ A, (w2.setCell ⟨w.heap.size + 1, 0, none⟩ (.int .i64 A)).cell? ⟨w.heap.size + 1, 0, none⟩ = some (.int .i64 A) := fun A => (HT2.out.end_ A 0 0 0).1
            have e1 : ∀ A S, ((w2.setCell ⟨w.heap.size + 1, 0, none⟩ (.int .i64 A)).setCell ⟨w.heap.size + 1, 1, none⟩ (.int .i64 S)).cell? ⟨w.heap.size + 1, 1, none⟩ = some (.int .i64 S) := fun A S => (HT2.out.end_ A S 0 0).2.1
            have e2 : ∀ A S E, (((w2.setCell ⟨w.heap.size + 1, 0, none⟩ (.int .i64 A)).setCell ⟨w.heap.size + 1, 1, none⟩ (.int .i64 S)).setCell ⟨w.heap.size + 1, 2, none⟩ (.int .i64 E)).cell? ⟨w.heap.size + 1, 2, none⟩ = some (.int .i64 E) := fun A S E => (HT2.out.end_ A S E 0).2.2.1
            have e3 : ∀ A S E Q, ((((w2.setCell ⟨w.heap.size + 1, 0, none⟩ (.int .i64 A)).setCell ⟨w.heap.size + 1, 1, none⟩ (.int .i64 S)).setCell ⟨w.heap.size + 1, 2, none⟩ (.int .i64 E)).setCell ⟨w.heap.size + 1, 3, none⟩ (.int .i64 Q)).cell? ⟨w.heap.size + 1, 3, none⟩ = some (.int .i64 Q) := fun A S E Q => (HT2.out.end_ A S E Q).2.2.2
            first
              | rw [if_pos (by omega)] at h9
              | rw [if_neg (by omega)] at h9
            simp only [Prod.mk.injEq] at h9
            obtain ⟨h9a, h9b, h9c, h9d, h9e⟩ := h9
            subst h9a; subst h9b; subst h9c; subst h9d; subst h9e
            refine bodyPost_ret (by simp [results, Tryz.results14, go_sem, e0, e1, e2, e3]; try rfl) rfl ?_
            exact ⟨rfl, ext4 HX2.out (by omega) _ _ _ _⟩
  · rw [if_neg hu0] at hres
    simp only [Prod.mk.injEq] at hres
    obtain ⟨rfl, rfl, rfl, rfl, rfl⟩ := hres
    have hu1 : (u != 0) = true := by simpa using hu0
    clear hcs hu0 hrn
    go_enter Tryz.func14, Tryz.ntmps14
    go_wp2_with fail
    try rw [hwr]
    clear hwr
    refine (HUS.out _).mono ?_
    rintro en w1 ⟨rfl, hx1⟩
    have hT2 := HT.out.ext hx1
    obtain ⟨c0, c1, c2, c3⟩ := hT2.cells
    have f0 := hT2.soft 0; have f1 := hT2.soft 1; have f2 := hT2.soft 2; have f3 := hT2.soft 3
    have HX2 := Lib.hid (HX0.out.trans hx1); have HT2 := Lib.hid hT2
    clear hx1 hT2
    go_wp2
    obtain ⟨d0, d1, d2, d3⟩ := HT2.out.end_ 0 0 0 0
    refine bodyPost_ret (by simp [results, Tryz.results14, go_sem, d0, d1, d2, d3]; try rfl) rfl ?_
    exact ⟨rfl, ext4 HX2.out (by omega) _ _ _ _⟩
end Go.Proofs.YtfgmmjpejlpdoaaGreatDoor
