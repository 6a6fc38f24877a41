/- LifetimeWithin: the law. -/
import Derived.Test.YtfgmmjpejlpdoaaDoorLtK2
import Derived.Test.YtfgmmjpejlpdoaaDoorLtR1
namespace Go.Proofs.YtfgmmjpejlpdoaaDoor.lifetimeWithin
open Go Go.RowKit

set_option maxRecDepth 100000 in
theorem law_walk (a b skew : Int) (w : World) (hp : Pow w) :
    Calls Tryd.prog 7 #[.int .i64 a, .int .i64 b, .int .i64 skew] w fun en w' => en = .returned (.bool true) ∧ Ext w w' := by
  have HP := Lib.hid hp; clear hp
  obtain ⟨u, hu⟩ : ∃ u, nearB a b skew = u := ⟨_, rfl⟩
  have hw := Within_at a b skew
  rw [hu] at hw
  have HW := Lib.hid hw; clear hw
  obtain ⟨b1, hb1⟩ : ∃ x, momB a = x := ⟨_, rfl⟩
  obtain ⟨b2, hb2⟩ : ∃ x, momB b = x := ⟨_, rfl⟩
  obtain ⟨b3, hb3⟩ : ∃ x, skwB skew = x := ⟨_, rfl⟩
  have H1 := Lib.hid (LTime_is a b1 hb1); have H2 := Lib.hid (LTime_is b b2 hb2); have H3 := Lib.hid (LSkew_is skew b3 hb3)
  unfold nearB at hu
  rw [hb1, hb2, hb3] at hu
  by_cases hall : b1 = true ∧ b2 = true ∧ b3 = true
  · obtain ⟨rfl, rfl, rfl⟩ := hall
    obtain ⟨v1, v2⟩ := momB_bd hb1
    obtain ⟨n1, n2⟩ := momB_bd hb2
    obtain ⟨k1, k2⟩ := skwB_bd hb3
    simp only [Bool.and_self, Bool.true_and] at hu
    unfold wiB at hu
    clear hb1 hb2 hb3
    rcases (show skew < a - b ∨ (a - b ≤ skew ∧ skew < b - a) ∨ (a - b ≤ skew ∧ b - a ≤ skew) by omega) with h | ⟨h, h'⟩ | ⟨h, h'⟩
    · obtain rfl : u = false := by rw [← hu]; simp; omega
      have hd : decide (a - b ≤ skew) = false := decide_eq_false (by omega)
      clear hu h
      go_enter Tryd.func7, Tryd.ntmps7
      go_wp2_with fail
      refine (H1.out _).mono ?_; rintro _ w1 ⟨rfl, rfl⟩
      go_wp2_with fail
      refine (H2.out _).mono ?_; rintro _ w1 ⟨rfl, rfl⟩
      go_wp2_with fail
      refine (H3.out _).mono ?_; rintro _ w1 ⟨rfl, rfl⟩
      go_wp2_with fail
      refine (HW.out _).mono ?_; rintro _ w1 ⟨rfl, hx1⟩
      have HX := Lib.hid hx1; clear hx1
      go_wp2_with fail
      refine (known_at _ (HP.out.ext HX.out)).mono ?_; rintro _ w2 ⟨rfl, hx2⟩
      have HX2 := Lib.hid (HX.out.trans hx2); clear hx2
      go_wp2
      go_ret
      exact ⟨rfl, HX2.out⟩
    · obtain rfl : u = false := by rw [← hu]; simp; omega
      have hd : decide (a - b ≤ skew) = true := decide_eq_true (by omega)
      have hd2 : decide (b - a ≤ skew) = false := decide_eq_false (by omega)
      clear hu h h'
      go_enter Tryd.func7, Tryd.ntmps7
      go_wp2_with fail
      refine (H1.out _).mono ?_; rintro _ w1 ⟨rfl, rfl⟩
      go_wp2_with fail
      refine (H2.out _).mono ?_; rintro _ w1 ⟨rfl, rfl⟩
      go_wp2_with fail
      refine (H3.out _).mono ?_; rintro _ w1 ⟨rfl, rfl⟩
      go_wp2_with fail
      refine (HW.out _).mono ?_; rintro _ w1 ⟨rfl, hx1⟩
      have HX := Lib.hid hx1; clear hx1
      go_wp2_with fail
      refine (known_at _ (HP.out.ext HX.out)).mono ?_; rintro _ w2 ⟨rfl, hx2⟩
      have HX2 := Lib.hid (HX.out.trans hx2); clear hx2
      go_wp2
      go_ret
      exact ⟨rfl, HX2.out⟩
    · obtain rfl : u = true := by rw [← hu]; simp; omega
      have hd : decide (a - b ≤ skew) = true := decide_eq_true (by omega)
      have hd2 : decide (b - a ≤ skew) = true := decide_eq_true (by omega)
      clear hu h h'
      go_enter Tryd.func7, Tryd.ntmps7
      go_wp2_with fail
      refine (H1.out _).mono ?_; rintro _ w1 ⟨rfl, rfl⟩
      go_wp2_with fail
      refine (H2.out _).mono ?_; rintro _ w1 ⟨rfl, rfl⟩
      go_wp2_with fail
      refine (H3.out _).mono ?_; rintro _ w1 ⟨rfl, rfl⟩
      go_wp2_with fail
      refine (HW.out _).mono ?_; rintro _ w1 ⟨rfl, hx1⟩
      have HX := Lib.hid hx1; clear hx1
      go_wp2_with fail
      refine (known_at _ (HP.out.ext HX.out)).mono ?_; rintro _ w2 ⟨rfl, hx2⟩
      have HX2 := Lib.hid (HX.out.trans hx2); clear hx2
      go_wp2
      go_ret
      exact ⟨rfl, HX2.out⟩
  · obtain rfl : u = false := by
      rw [← hu]
      cases b1 <;> cases b2 <;> cases b3 <;> simp at hall ⊢
    clear hu hb1 hb2 hb3
    rcases (show b1 = false ∨ (b1 = true ∧ b2 = false) ∨ (b1 = true ∧ b2 = true ∧ b3 = false) by
      cases b1 <;> cases b2 <;> cases b3 <;> simp at hall ⊢) with rfl | ⟨rfl, rfl⟩ | ⟨rfl, rfl, rfl⟩
    all_goals
      clear hall
      go_enter Tryd.func7, Tryd.ntmps7
      go_wp2_with fail
      refine (H1.out _).mono ?_; rintro _ w1 ⟨rfl, rfl⟩
      go_wp2_with fail
      try (refine (H2.out _).mono ?_; rintro _ w1 ⟨rfl, rfl⟩; go_wp2_with fail)
      try (refine (H3.out _).mono ?_; rintro _ w1 ⟨rfl, rfl⟩; go_wp2_with fail)
      refine (HW.out _).mono ?_; rintro _ w1 ⟨rfl, hx1⟩
      have HX := Lib.hid hx1; clear hx1
      go_wp2_with fail
      refine (known_at _ (HP.out.ext HX.out)).mono ?_; rintro _ w2 ⟨rfl, hx2⟩
      have HX2 := Lib.hid (HX.out.trans hx2); clear hx2
      go_wp2
      go_ret
      exact ⟨rfl, HX2.out⟩
end Go.Proofs.YtfgmmjpejlpdoaaDoor.lifetimeWithin
