/- Lifetimes: the reference's fresh. -/
import Derived.Test.YtfgmmjpejlpdoaaDoorLtR2
import Derived.Handy
namespace Go.Proofs.YtfgmmjpejlpdoaaDoor
open Go Go.RowKit

theorem least_lit (xs : List Int) (v : Int) (hv : leastF xs = v) (w : World) (n z : Nat) (hn : n = xs.length) (hz : z = w.heap.size) (h0 : 0 < xs.length) (hl : xs.length ≤ 100) :
    Calls Tryd.prog 50 #[.slice (some ⟨z, 0, none⟩) n n] (w.alloc (.cells (ilv xs).toArray 3)) fun e w' => e = .returned (.int .i64 v) ∧ w.alloc (.cells (ilv xs).toArray 3) = w' := by
  subst hn; subst hz; subst hv
  have h := RS.new w 3 (ilv xs) (by rw [ilv_length]; unfold maxLen; omega)
  rw [ilv_length] at h
  exact least_at _ _ xs _ h0 h

set_option maxRecDepth 100000 in
set_option maxHeartbeats 2000000 in
theorem fresh_is (auth start till wish life renew last longest A S E Q er : Int) (hs : 0 ≤ start ∧ start ≤ 1099511627776) (hl : 0 ≤ life ∧ life ≤ 2147483648) (hr : 0 ≤ renew ∧ renew ≤ 2147483648)
    (hres : freshF auth start till wish life renew last longest = (A, S, E, Q, er)) (w : World) :
    Calls Tryd.prog 47 #[.int .i64 auth, .int .i64 start, .int .i64 till, .int .i64 wish, .int .i64 life, .int .i64 renew, .int .i64 last, .int .i64 longest] w fun en w' =>
      en = .returned (.tuple #[.agg #[.int .i64 A, .int .i64 S, .int .i64 E, .int .i64 Q], .int .i64 er]) ∧ Ext w w' := by
  obtain ⟨s1, s2⟩ := hs
  obtain ⟨l1, l2⟩ := hl
  obtain ⟨r1, r2⟩ := hr
  obtain ⟨m1, hm1⟩ : ∃ m, leastF [start + life, 1099511627776, last] = m := ⟨_, rfl⟩
  obtain ⟨m2, hm2⟩ : ∃ m, leastF [m1, till] = m := ⟨_, rfl⟩
  obtain ⟨q, hq⟩ : ∃ m, leastF [wish, start + renew, 1099511627776, longest] = m := ⟨_, rfl⟩
  have h1 : m1 = min (min (start + life) 1099511627776) last := by rw [← hm1]; rfl
  have h2 : m2 = min (min (min (start + life) 1099511627776) last) till := by rw [← hm2, h1]; rfl
  have h3 : q = min (min (min wish (start + renew)) 1099511627776) longest := by rw [← hq]; rfl
  obtain ⟨e0, he0⟩ : ∃ e0, (if till = 0 then m1 else m2) = e0 := ⟨_, rfl⟩
  have hres' : (if e0 ≤ start then ((0 : Int), (0 : Int), (0 : Int), (0 : Int), (143 : Int)) else (auth, start, e0, (if wish = 0 ∨ renew = 0 ∨ longest = 0 then 0 else if q < e0 then 0 else q), 0)) = (A, S, E, Q, er) := by
    rw [← hres, ← he0, h1, h2, h3]
    rfl
  clear hres h1 h2 h3
  have HRES := Lib.hid hres'; have HM1 := Lib.hid hm1; have HM2 := Lib.hid hm2; have HQ := Lib.hid hq
  clear hres' hm1 hm2 hq
  by_cases ht : till = 0
  · rw [if_pos ht] at he0
    subst ht; subst he0
    have HR := Lib.hid (show m1 ≤ start ∨ (¬ m1 ≤ start ∧ wish = 0) ∨ (¬ m1 ≤ start ∧ wish ≠ 0 ∧ renew = 0) ∨ (¬ m1 ≤ start ∧ wish ≠ 0 ∧ renew ≠ 0 ∧ longest = 0) ∨ (¬ m1 ≤ start ∧ wish ≠ 0 ∧ renew ≠ 0 ∧ longest ≠ 0 ∧ q < m1) ∨ (¬ m1 ≤ start ∧ wish ≠ 0 ∧ renew ≠ 0 ∧ longest ≠ 0 ∧ ¬ q < m1) by omega)
    have hres := HRES.out
    rcases HR.out with h | ⟨h, rfl⟩ | ⟨h, h4, rfl⟩ | ⟨h, h4, h5, rfl⟩ | ⟨h, h4, h5, h6, h7⟩ | ⟨h, h4, h5, h6, h7⟩
    · have hd : decide (m1 ≤ start) = true := decide_eq_true h
      rw [if_pos h] at hres
      simp only [Prod.mk.injEq] at hres
      obtain ⟨rfl, rfl, rfl, rfl, rfl⟩ := hres
      clear h
      go_enter Tryd.func47, Tryd.ntmps47
      go_wp2_with fail
      refine (least_lit [start + life, 1099511627776, last] m1 HM1.out _ 3 _ rfl (by simp) (by simp) (by simp)).mono ?_
      rintro en w1 ⟨rfl, rfl⟩
      go_wp2_with fail
      go_returns
      refine ⟨rfl, ?_⟩
      unfold Ext
      go_grown
    · have hd : decide (m1 ≤ start) = false := decide_eq_false (by omega)
      rw [if_neg (by omega)] at hres
      rw [if_pos (by simp)] at hres
      simp only [Prod.mk.injEq] at hres
      obtain ⟨rfl, rfl, rfl, rfl, rfl⟩ := hres
      clear h
      go_enter Tryd.func47, Tryd.ntmps47
      go_wp2_with fail
      refine (least_lit [start + life, 1099511627776, last] m1 HM1.out _ 3 _ rfl (by simp) (by simp) (by simp)).mono ?_
      rintro en w1 ⟨rfl, rfl⟩
      go_wp2_with fail
      go_returns
      refine ⟨rfl, ?_⟩
      unfold Ext
      go_grown
    · have hd : decide (m1 ≤ start) = false := decide_eq_false (by omega)
      rw [if_neg (by omega)] at hres
      have b4 : (wish != 0) = true := by simpa using h4
      rw [if_pos (by simp)] at hres
      simp only [Prod.mk.injEq] at hres
      obtain ⟨rfl, rfl, rfl, rfl, rfl⟩ := hres
      clear h h4
      go_enter Tryd.func47, Tryd.ntmps47
      go_wp2_with fail
      refine (least_lit [start + life, 1099511627776, last] m1 HM1.out _ 3 _ rfl (by simp) (by simp) (by simp)).mono ?_
      rintro en w1 ⟨rfl, rfl⟩
      go_wp2_with fail
      go_returns
      refine ⟨rfl, ?_⟩
      unfold Ext
      go_grown
    · have hd : decide (m1 ≤ start) = false := decide_eq_false (by omega)
      rw [if_neg (by omega)] at hres
      have b4 : (wish != 0) = true := by simpa using h4
      have b5 : (renew != 0) = true := by simpa using h5
      rw [if_pos (by simp)] at hres
      simp only [Prod.mk.injEq] at hres
      obtain ⟨rfl, rfl, rfl, rfl, rfl⟩ := hres
      clear h h4 h5
      go_enter Tryd.func47, Tryd.ntmps47
      go_wp2_with fail
      refine (least_lit [start + life, 1099511627776, last] m1 HM1.out _ 3 _ rfl (by simp) (by simp) (by simp)).mono ?_
      rintro en w1 ⟨rfl, rfl⟩
      go_wp2_with fail
      go_returns
      refine ⟨rfl, ?_⟩
      unfold Ext
      go_grown
    · have hd : decide (m1 ≤ start) = false := decide_eq_false (by omega)
      rw [if_neg (by omega)] at hres
      have b4 : (wish != 0) = true := by simpa using h4
      have b5 : (renew != 0) = true := by simpa using h5
      have b6 : (longest != 0) = true := by simpa using h6
      rw [if_neg (by simp [h4, h5, h6]), if_pos h7] at hres
      have b7 : decide (q < m1) = true := decide_eq_true h7
      simp only [Prod.mk.injEq] at hres
      obtain ⟨rfl, rfl, rfl, rfl, rfl⟩ := hres
      clear h h4 h5 h6 h7
      go_enter Tryd.func47, Tryd.ntmps47
      go_wp2_with fail
      refine (least_lit [start + life, 1099511627776, last] m1 HM1.out _ 3 _ rfl (by simp) (by simp) (by simp)).mono ?_
      rintro en w1 ⟨rfl, rfl⟩
      go_wp2_with fail
      refine (least_lit [wish, start + renew, 1099511627776, longest] _ HQ.out _ 4 _ rfl (by simp) (by simp) (by simp)).mono ?_
      rintro en w1 ⟨rfl, rfl⟩
      go_wp2_with fail
      go_returns
      refine ⟨rfl, ?_⟩
      unfold Ext
      go_grown
    · have hd : decide (m1 ≤ start) = false := decide_eq_false (by omega)
      rw [if_neg (by omega)] at hres
      have b4 : (wish != 0) = true := by simpa using h4
      have b5 : (renew != 0) = true := by simpa using h5
      have b6 : (longest != 0) = true := by simpa using h6
      rw [if_neg (by simp [h4, h5, h6]), if_neg (by omega)] at hres
      have b7 : decide (q < m1) = false := decide_eq_false (by omega)
      simp only [Prod.mk.injEq] at hres
      obtain ⟨rfl, rfl, rfl, rfl, rfl⟩ := hres
      clear h h4 h5 h6 h7
      go_enter Tryd.func47, Tryd.ntmps47
      go_wp2_with fail
      refine (least_lit [start + life, 1099511627776, last] m1 HM1.out _ 3 _ rfl (by simp) (by simp) (by simp)).mono ?_
      rintro en w1 ⟨rfl, rfl⟩
      go_wp2_with fail
      refine (least_lit [wish, start + renew, 1099511627776, longest] _ HQ.out _ 4 _ rfl (by simp) (by simp) (by simp)).mono ?_
      rintro en w1 ⟨rfl, rfl⟩
      go_wp2_with fail
      go_returns
      refine ⟨rfl, ?_⟩
      unfold Ext
      go_grown
  · rw [if_neg ht] at he0
    subst he0
    have ht' : (till != 0) = true := by simpa using ht
    clear ht
    have HR := Lib.hid (show m2 ≤ start ∨ (¬ m2 ≤ start ∧ wish = 0) ∨ (¬ m2 ≤ start ∧ wish ≠ 0 ∧ renew = 0) ∨ (¬ m2 ≤ start ∧ wish ≠ 0 ∧ renew ≠ 0 ∧ longest = 0) ∨ (¬ m2 ≤ start ∧ wish ≠ 0 ∧ renew ≠ 0 ∧ longest ≠ 0 ∧ q < m2) ∨ (¬ m2 ≤ start ∧ wish ≠ 0 ∧ renew ≠ 0 ∧ longest ≠ 0 ∧ ¬ q < m2) by omega)
    have hres := HRES.out
    rcases HR.out with h | ⟨h, rfl⟩ | ⟨h, h4, rfl⟩ | ⟨h, h4, h5, rfl⟩ | ⟨h, h4, h5, h6, h7⟩ | ⟨h, h4, h5, h6, h7⟩
    · have hd : decide (m2 ≤ start) = true := decide_eq_true h
      rw [if_pos h] at hres
      simp only [Prod.mk.injEq] at hres
      obtain ⟨rfl, rfl, rfl, rfl, rfl⟩ := hres
      clear h
      go_enter Tryd.func47, Tryd.ntmps47
      go_wp2_with fail
      refine (least_lit [start + life, 1099511627776, last] m1 HM1.out _ 3 _ rfl (by simp) (by simp) (by simp)).mono ?_
      rintro en w1 ⟨rfl, rfl⟩
      go_wp2_with fail
      refine (least_lit [m1, till] _ HM2.out _ 2 _ rfl (by simp) (by simp) (by simp)).mono ?_
      rintro en w1 ⟨rfl, rfl⟩
      go_wp2_with fail
      go_returns
      refine ⟨rfl, ?_⟩
      unfold Ext
      go_grown
    · have hd : decide (m2 ≤ start) = false := decide_eq_false (by omega)
      rw [if_neg (by omega)] at hres
      rw [if_pos (by simp)] at hres
      simp only [Prod.mk.injEq] at hres
      obtain ⟨rfl, rfl, rfl, rfl, rfl⟩ := hres
      clear h
      go_enter Tryd.func47, Tryd.ntmps47
      go_wp2_with fail
      refine (least_lit [start + life, 1099511627776, last] m1 HM1.out _ 3 _ rfl (by simp) (by simp) (by simp)).mono ?_
      rintro en w1 ⟨rfl, rfl⟩
      go_wp2_with fail
      refine (least_lit [m1, till] _ HM2.out _ 2 _ rfl (by simp) (by simp) (by simp)).mono ?_
      rintro en w1 ⟨rfl, rfl⟩
      go_wp2_with fail
      go_returns
      refine ⟨rfl, ?_⟩
      unfold Ext
      go_grown
    · have hd : decide (m2 ≤ start) = false := decide_eq_false (by omega)
      rw [if_neg (by omega)] at hres
      have b4 : (wish != 0) = true := by simpa using h4
      rw [if_pos (by simp)] at hres
      simp only [Prod.mk.injEq] at hres
      obtain ⟨rfl, rfl, rfl, rfl, rfl⟩ := hres
      clear h h4
      go_enter Tryd.func47, Tryd.ntmps47
      go_wp2_with fail
      refine (least_lit [start + life, 1099511627776, last] m1 HM1.out _ 3 _ rfl (by simp) (by simp) (by simp)).mono ?_
      rintro en w1 ⟨rfl, rfl⟩
      go_wp2_with fail
      refine (least_lit [m1, till] _ HM2.out _ 2 _ rfl (by simp) (by simp) (by simp)).mono ?_
      rintro en w1 ⟨rfl, rfl⟩
      go_wp2_with fail
      go_returns
      refine ⟨rfl, ?_⟩
      unfold Ext
      go_grown
    · have hd : decide (m2 ≤ start) = false := decide_eq_false (by omega)
      rw [if_neg (by omega)] at hres
      have b4 : (wish != 0) = true := by simpa using h4
      have b5 : (renew != 0) = true := by simpa using h5
      rw [if_pos (by simp)] at hres
      simp only [Prod.mk.injEq] at hres
      obtain ⟨rfl, rfl, rfl, rfl, rfl⟩ := hres
      clear h h4 h5
      go_enter Tryd.func47, Tryd.ntmps47
      go_wp2_with fail
      refine (least_lit [start + life, 1099511627776, last] m1 HM1.out _ 3 _ rfl (by simp) (by simp) (by simp)).mono ?_
      rintro en w1 ⟨rfl, rfl⟩
      go_wp2_with fail
      refine (least_lit [m1, till] _ HM2.out _ 2 _ rfl (by simp) (by simp) (by simp)).mono ?_
      rintro en w1 ⟨rfl, rfl⟩
      go_wp2_with fail
      go_returns
      refine ⟨rfl, ?_⟩
      unfold Ext
      go_grown
    · have hd : decide (m2 ≤ start) = false := decide_eq_false (by omega)
      rw [if_neg (by omega)] at hres
      have b4 : (wish != 0) = true := by simpa using h4
      have b5 : (renew != 0) = true := by simpa using h5
      have b6 : (longest != 0) = true := by simpa using h6
      rw [if_neg (by simp [h4, h5, h6]), if_pos h7] at hres
      have b7 : decide (q < m2) = true := decide_eq_true h7
      simp only [Prod.mk.injEq] at hres
      obtain ⟨rfl, rfl, rfl, rfl, rfl⟩ := hres
      clear h h4 h5 h6 h7
      go_enter Tryd.func47, Tryd.ntmps47
      go_wp2_with fail
      refine (least_lit [start + life, 1099511627776, last] m1 HM1.out _ 3 _ rfl (by simp) (by simp) (by simp)).mono ?_
      rintro en w1 ⟨rfl, rfl⟩
      go_wp2_with fail
      refine (least_lit [m1, till] _ HM2.out _ 2 _ rfl (by simp) (by simp) (by simp)).mono ?_
      rintro en w1 ⟨rfl, rfl⟩
      go_wp2_with fail
      refine (least_lit [wish, start + renew, 1099511627776, longest] _ HQ.out _ 4 _ rfl (by simp) (by simp) (by simp)).mono ?_
      rintro en w1 ⟨rfl, rfl⟩
      go_wp2_with fail
      go_returns
      refine ⟨rfl, ?_⟩
      unfold Ext
      go_grown
    · have hd : decide (m2 ≤ start) = false := decide_eq_false (by omega)
      rw [if_neg (by omega)] at hres
      have b4 : (wish != 0) = true := by simpa using h4
      have b5 : (renew != 0) = true := by simpa using h5
      have b6 : (longest != 0) = true := by simpa using h6
      rw [if_neg (by simp [h4, h5, h6]), if_neg (by omega)] at hres
      have b7 : decide (q < m2) = false := decide_eq_false (by omega)
      simp only [Prod.mk.injEq] at hres
      obtain ⟨rfl, rfl, rfl, rfl, rfl⟩ := hres
      clear h h4 h5 h6 h7
      go_enter Tryd.func47, Tryd.ntmps47
      go_wp2_with fail
      refine (least_lit [start + life, 1099511627776, last] m1 HM1.out _ 3 _ rfl (by simp) (by simp) (by simp)).mono ?_
      rintro en w1 ⟨rfl, rfl⟩
      go_wp2_with fail
      refine (least_lit [m1, till] _ HM2.out _ 2 _ rfl (by simp) (by simp) (by simp)).mono ?_
      rintro en w1 ⟨rfl, rfl⟩
      go_wp2_with fail
      refine (least_lit [wish, start + renew, 1099511627776, longest] _ HQ.out _ 4 _ rfl (by simp) (by simp) (by simp)).mono ?_
      rintro en w1 ⟨rfl, rfl⟩
      go_wp2_with fail
      go_returns
      refine ⟨rfl, ?_⟩
      unfold Ext
      go_grown
end Go.Proofs.YtfgmmjpejlpdoaaDoor
