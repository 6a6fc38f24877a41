/- Lifetimes: the reference's tests. -/
import Derived.Test.YtfgmmjpejlpdoaaDoorLt6
namespace Go.Proofs.YtfgmmjpejlpdoaaDoor
open Go Go.RowKit

theorem LTime_is (v : Int) (r : Bool) (hr : momB v = r) (w : World) : Calls Tryd.prog 21 #[.int .i64 v] w fun e w' => e = .returned (.bool r) ∧ w' = w := by
  have hr' : r = momB v := hr.symm
  unfold momB at hr'
  clear hr
  rcases (show v < 0 ∨ (0 ≤ v ∧ 1099511627776 < v) ∨ (0 ≤ v ∧ v ≤ 1099511627776) by omega) with h | ⟨h, h2⟩ | ⟨h, h2⟩
  · obtain rfl : r = false := by rw [hr']; simp; omega
    clear hr'
    go_enter Tryd.func21, Tryd.ntmps21
    go_wp2
    go_ret
    exact ⟨rfl, rfl⟩
  · obtain rfl : r = false := by rw [hr']; simp; omega
    clear hr'
    go_enter Tryd.func21, Tryd.ntmps21
    go_wp2
    go_ret
    exact ⟨by simp <;> omega, rfl⟩
  · obtain rfl : r = true := by rw [hr']; simp; omega
    clear hr'
    go_enter Tryd.func21, Tryd.ntmps21
    go_wp2
    go_ret
    exact ⟨by simp <;> omega, rfl⟩
theorem LSkew_is (v : Int) (r : Bool) (hr : skwB v = r) (w : World) : Calls Tryd.prog 22 #[.int .i64 v] w fun e w' => e = .returned (.bool r) ∧ w' = w := by
  have hr' : r = skwB v := hr.symm
  unfold skwB at hr'
  clear hr
  rcases (show v < 0 ∨ (0 ≤ v ∧ 86400 < v) ∨ (0 ≤ v ∧ v ≤ 86400) by omega) with h | ⟨h, h2⟩ | ⟨h, h2⟩
  · obtain rfl : r = false := by rw [hr']; simp; omega
    clear hr'
    go_enter Tryd.func22, Tryd.ntmps22
    go_wp2
    go_ret
    exact ⟨rfl, rfl⟩
  · obtain rfl : r = false := by rw [hr']; simp; omega
    clear hr'
    go_enter Tryd.func22, Tryd.ntmps22
    go_wp2
    go_ret
    exact ⟨by simp <;> omega, rfl⟩
  · obtain rfl : r = true := by rw [hr']; simp; omega
    clear hr'
    go_enter Tryd.func22, Tryd.ntmps22
    go_wp2
    go_ret
    exact ⟨by simp <;> omega, rfl⟩
theorem LLimits_is (l m : Int) (r : Bool) (hr : limB l m = r) (w : World) : Calls Tryd.prog 46 #[.int .i64 l, .int .i64 m] w fun e w' => e = .returned (.bool r) ∧ w' = w := by
  have hr' : r = limB l m := hr.symm
  unfold limB at hr'
  clear hr
  have HR := Lib.hid hr'; clear hr'
  rcases (show l < 1 ∨ (1 ≤ l ∧ 2147483648 < l) ∨ (1 ≤ l ∧ l ≤ 2147483648 ∧ m < 0) ∨ (1 ≤ l ∧ l ≤ 2147483648 ∧ 0 ≤ m ∧ 2147483648 < m) ∨ (1 ≤ l ∧ l ≤ 2147483648 ∧ 0 ≤ m ∧ m ≤ 2147483648) by omega) with h | ⟨h, h2⟩ | ⟨h, h2, h3⟩ | ⟨h, h2, h3, h4⟩ | ⟨h, h2, h3, h4⟩
  all_goals
    go_enter Tryd.func46, Tryd.ntmps46
    go_wp2
    go_ret
    refine ⟨?_, rfl⟩
    rw [HR.out]
    simp
    try omega
    try (rw [Bool.eq_iff_iff]; simp; omega)

set_option maxRecDepth 100000 in
theorem LVal_is (a s e r : Int) (b : Bool) (hb : validB a s e r = b) (w : World) : Calls Tryd.prog 24 #[.agg #[.int .i64 a, .int .i64 s, .int .i64 e, .int .i64 r]] w fun en w' => en = .returned (.bool b) ∧ Ext w w' := by
  have hb' : b = validB a s e r := hb.symm
  clear hb
  have hva : ¬ (momB a = true ∧ momB s = true ∧ momB e = true ∧ momB r = true) → b = false := by
    intro h
    rw [hb']
    unfold validB
    unfold momB at h
    simp only [decide_eq_true_eq] at h
    simp only [decide_eq_false_iff_not]
    omega
  have hvb : momB a = true ∧ momB s = true ∧ momB e = true ∧ momB r = true → b = decide (a ≤ s ∧ s < e ∧ (r = 0 ∨ e ≤ r)) := by
    intro h
    rw [hb', Bool.eq_iff_iff]
    unfold validB
    unfold momB at h
    simp only [decide_eq_true_eq] at h ⊢
    omega
  clear hb'
  have h1 := LTime_is a; have h2 := LTime_is s; have h3 := LTime_is e; have h4 := LTime_is r
  obtain ⟨b1, hb1⟩ : ∃ b, momB a = b := ⟨_, rfl⟩
  obtain ⟨b2, hb2⟩ : ∃ b, momB s = b := ⟨_, rfl⟩
  obtain ⟨b3, hb3⟩ : ∃ b, momB e = b := ⟨_, rfl⟩
  obtain ⟨b4, hb4⟩ : ∃ b, momB r = b := ⟨_, rfl⟩
  have H1 := Lib.hid (h1 b1 hb1); have H2 := Lib.hid (h2 b2 hb2); have H3 := Lib.hid (h3 b3 hb3); have H4 := Lib.hid (h4 b4 hb4)
  rw [hb1, hb2, hb3, hb4] at hva hvb
  clear h1 h2 h3 h4 hb1 hb2 hb3 hb4
  by_cases hall : b1 = true ∧ b2 = true ∧ b3 = true ∧ b4 = true
  · have hb := hvb hall
    obtain ⟨rfl, rfl, rfl, rfl⟩ := hall
    clear hva hvb
    have HB := Lib.hid hb; clear hb
    rcases (show s < a ∨ (a ≤ s ∧ e ≤ s) ∨ (a ≤ s ∧ s < e ∧ r = 0) ∨ (a ≤ s ∧ s < e ∧ r ≠ 0) by omega) with h | ⟨h, h'⟩ | ⟨h, h', rfl⟩ | ⟨h, h', h''⟩
    · have hd : decide (a ≤ s) = false := decide_eq_false (by omega)
      obtain rfl : b = false := by rw [HB.out]; simp; omega
      clear h
      go_enter Tryd.func24, Tryd.ntmps24
      go_wp2_with fail
      refine (H1.out _).mono ?_; rintro _ w1 ⟨rfl, rfl⟩
      go_wp2_with fail
      refine (H2.out _).mono ?_; rintro _ w1 ⟨rfl, rfl⟩
      go_wp2_with fail
      refine (H3.out _).mono ?_; rintro _ w1 ⟨rfl, rfl⟩
      go_wp2_with fail
      refine (H4.out _).mono ?_; rintro _ w1 ⟨rfl, rfl⟩
      go_wp2_with fail
      go_ret
      exact ⟨rfl, (Ext.refl w).alloc _⟩
    · have hd : decide (a ≤ s) = true := decide_eq_true (by omega)
      have hd2 : decide (s < e) = false := decide_eq_false (by omega)
      obtain rfl : b = false := by rw [HB.out]; simp; omega
      clear h h'
      go_enter Tryd.func24, Tryd.ntmps24
      go_wp2_with fail
      refine (H1.out _).mono ?_; rintro _ w1 ⟨rfl, rfl⟩
      go_wp2_with fail
      refine (H2.out _).mono ?_; rintro _ w1 ⟨rfl, rfl⟩
      go_wp2_with fail
      refine (H3.out _).mono ?_; rintro _ w1 ⟨rfl, rfl⟩
      go_wp2_with fail
      refine (H4.out _).mono ?_; rintro _ w1 ⟨rfl, rfl⟩
      go_wp2_with fail
      go_ret
      exact ⟨rfl, (Ext.refl w).alloc _⟩
    · have hd : decide (a ≤ s) = true := decide_eq_true (by omega)
      have hd2 : decide (s < e) = true := decide_eq_true (by omega)
      obtain rfl : b = true := by rw [HB.out]; simp; omega
      clear h h'
      go_enter Tryd.func24, Tryd.ntmps24
      go_wp2_with fail
      refine (H1.out _).mono ?_; rintro _ w1 ⟨rfl, rfl⟩
      go_wp2_with fail
      refine (H2.out _).mono ?_; rintro _ w1 ⟨rfl, rfl⟩
      go_wp2_with fail
      refine (H3.out _).mono ?_; rintro _ w1 ⟨rfl, rfl⟩
      go_wp2_with fail
      refine (H4.out _).mono ?_; rintro _ w1 ⟨rfl, rfl⟩
      go_wp2_with fail
      go_ret
      exact ⟨rfl, (Ext.refl w).alloc _⟩
    · have hd : decide (a ≤ s) = true := decide_eq_true (by omega)
      have hd2 : decide (s < e) = true := decide_eq_true (by omega)
      have hd3 : (r == 0) = false := by simpa using h''
      have hb2 : b = decide (e ≤ r) := by
        rw [HB.out]
        rw [Bool.eq_iff_iff]
        simp
        omega
      subst hb2
      clear h h' h''
      go_enter Tryd.func24, Tryd.ntmps24
      go_wp2_with fail
      refine (H1.out _).mono ?_; rintro _ w1 ⟨rfl, rfl⟩
      go_wp2_with fail
      refine (H2.out _).mono ?_; rintro _ w1 ⟨rfl, rfl⟩
      go_wp2_with fail
      refine (H3.out _).mono ?_; rintro _ w1 ⟨rfl, rfl⟩
      go_wp2_with fail
      refine (H4.out _).mono ?_; rintro _ w1 ⟨rfl, rfl⟩
      go_wp2_with fail
      go_ret
      exact ⟨rfl, (Ext.refl w).alloc _⟩
  · have hb := hva hall
    subst hb
    clear hva hvb
    rcases (show b1 = false ∨ (b1 = true ∧ b2 = false) ∨ (b1 = true ∧ b2 = true ∧ b3 = false) ∨ (b1 = true ∧ b2 = true ∧ b3 = true ∧ b4 = false) by
      cases b1 <;> cases b2 <;> cases b3 <;> cases b4 <;> simp at hall ⊢) with rfl | ⟨rfl, rfl⟩ | ⟨rfl, rfl, rfl⟩ | ⟨rfl, rfl, rfl, rfl⟩
    all_goals
      clear hall
      go_enter Tryd.func24, Tryd.ntmps24
      go_wp2_with fail
      refine (H1.out _).mono ?_; rintro _ w1 ⟨rfl, rfl⟩
      go_wp2_with fail
      try (refine (H2.out _).mono ?_; rintro _ w1 ⟨rfl, rfl⟩; go_wp2_with fail)
      try (refine (H3.out _).mono ?_; rintro _ w1 ⟨rfl, rfl⟩; go_wp2_with fail)
      try (refine (H4.out _).mono ?_; rintro _ w1 ⟨rfl, rfl⟩; go_wp2_with fail)
      go_ret
      exact ⟨rfl, (Ext.refl w).alloc _⟩
end Go.Proofs.YtfgmmjpejlpdoaaDoor
