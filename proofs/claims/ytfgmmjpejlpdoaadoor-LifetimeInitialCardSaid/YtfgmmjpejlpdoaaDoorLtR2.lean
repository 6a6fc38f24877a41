/- Lifetimes: the reference's Usable, Renewable, least. -/
import Derived.Test.YtfgmmjpejlpdoaaDoorLtR1
namespace Go.Proofs.YtfgmmjpejlpdoaaDoor
open Go Go.RowKit

set_option maxRecDepth 100000 in
theorem LUse_is (a s e r now skew u : Int) (hu : usableF a s e r now skew = u) (w : World) :
    Calls Tryd.prog 25 #[.agg #[.int .i64 a, .int .i64 s, .int .i64 e, .int .i64 r], .int .i64 now, .int .i64 skew] w fun en w' => en = .returned (.int .i64 u) ∧ Ext w w' := by
  unfold usableF at hu
  have h1 := LVal_is a s e r; have h2 := LTime_is now; have h3 := LSkew_is skew
  obtain ⟨b1, hb1⟩ : ∃ b, validB a s e r = b := ⟨_, rfl⟩
  obtain ⟨b2, hb2⟩ : ∃ b, momB now = b := ⟨_, rfl⟩
  obtain ⟨b3, hb3⟩ : ∃ b, skwB skew = b := ⟨_, rfl⟩
  have H1 := Lib.hid (h1 b1 hb1); have H2 := Lib.hid (h2 b2 hb2); have H3 := Lib.hid (h3 b3 hb3)
  clear h1 h2 h3
  by_cases hall : b1 = true ∧ b2 = true ∧ b3 = true
  · obtain ⟨rfl, rfl, rfl⟩ := hall
    rw [if_pos ⟨hb1, hb2, hb3⟩] at hu
    obtain ⟨v1, v2, v3, v4, v5, v6, _⟩ := validB_bd hb1
    obtain ⟨n1, n2⟩ := momB_bd hb2
    obtain ⟨k1, k2⟩ := skwB_bd hb3
    clear hb1 hb2 hb3
    have HU := Lib.hid hu; clear hu
    rcases (show now < s - skew ∨ (¬ now < s - skew ∧ e + skew < now) ∨ (¬ now < s - skew ∧ ¬ e + skew < now) by omega) with h | ⟨h, h'⟩ | ⟨h, h'⟩
    · have hu := HU.out
      rw [if_pos (by omega)] at hu
      subst hu
      have hd : decide (now + skew < s) = true := decide_eq_true (by omega)
      clear h
      go_enter Tryd.func25, Tryd.ntmps25
      go_wp2_with fail
      refine (H1.out _).mono ?_
      rintro en w1 ⟨rfl, hx1⟩
      obtain ⟨_, q1, q2, _⟩ := times_new w a s e r hx1
      have HX := Lib.hid (((Ext.refl w).alloc _).trans hx1); clear hx1
      go_wp2_with fail
      refine (H2.out _).mono ?_; rintro _ w2 ⟨rfl, rfl⟩
      go_wp2_with fail
      refine (H3.out _).mono ?_; rintro _ w2 ⟨rfl, rfl⟩
      go_wp2_with fail
      go_ret
      exact ⟨rfl, HX.out⟩
    · have hu := HU.out
      rw [if_neg (by omega), if_pos (by omega)] at hu
      subst hu
      have hd : decide (now + skew < s) = false := decide_eq_false (by omega)
      have hd2 : decide (e < now - skew) = true := decide_eq_true (by omega)
      clear h h'
      go_enter Tryd.func25, Tryd.ntmps25
      go_wp2_with fail
      refine (H1.out _).mono ?_
      rintro en w1 ⟨rfl, hx1⟩
      obtain ⟨_, q1, q2, _⟩ := times_new w a s e r hx1
      have HX := Lib.hid (((Ext.refl w).alloc _).trans hx1); clear hx1
      go_wp2_with fail
      refine (H2.out _).mono ?_; rintro _ w2 ⟨rfl, rfl⟩
      go_wp2_with fail
      refine (H3.out _).mono ?_; rintro _ w2 ⟨rfl, rfl⟩
      go_wp2_with fail
      go_ret
      exact ⟨rfl, HX.out⟩
    · have hu := HU.out
      rw [if_neg (by omega), if_neg (by omega)] at hu
      subst hu
      have hd : decide (now + skew < s) = false := decide_eq_false (by omega)
      have hd2 : decide (e < now - skew) = false := decide_eq_false (by omega)
      clear h h'
      go_enter Tryd.func25, Tryd.ntmps25
      go_wp2_with fail
      refine (H1.out _).mono ?_
      rintro en w1 ⟨rfl, hx1⟩
      obtain ⟨_, q1, q2, _⟩ := times_new w a s e r hx1
      have HX := Lib.hid (((Ext.refl w).alloc _).trans hx1); clear hx1
      go_wp2_with fail
      refine (H2.out _).mono ?_; rintro _ w2 ⟨rfl, rfl⟩
      go_wp2_with fail
      refine (H3.out _).mono ?_; rintro _ w2 ⟨rfl, rfl⟩
      go_wp2_with fail
      go_ret
      exact ⟨rfl, HX.out⟩
  · rw [hb1, hb2, hb3, if_neg hall] at hu
    subst hu
    clear hb1 hb2 hb3
    rcases (show b1 = false ∨ (b1 = true ∧ b2 = false) ∨ (b1 = true ∧ b2 = true ∧ b3 = false) by
      cases b1 <;> cases b2 <;> cases b3 <;> simp at hall ⊢) with rfl | ⟨rfl, rfl⟩ | ⟨rfl, rfl, rfl⟩
    all_goals
      clear hall
      go_enter Tryd.func25, Tryd.ntmps25
      go_wp2_with fail
      refine (H1.out _).mono ?_
      rintro en w1 ⟨rfl, hx1⟩
      have HX := Lib.hid (((Ext.refl w).alloc _).trans hx1); clear hx1
      go_wp2_with fail
      try (refine (H2.out _).mono ?_; rintro _ w2 ⟨rfl, rfl⟩; go_wp2_with fail)
      try (refine (H3.out _).mono ?_; rintro _ w2 ⟨rfl, rfl⟩; go_wp2_with fail)
      go_ret
      exact ⟨rfl, HX.out⟩

set_option maxRecDepth 100000 in
theorem LRen_is (a s e r now skew : Int) (b : Bool) (hb : renewableB a s e r now skew = b) (w : World) :
    Calls Tryd.prog 26 #[.agg #[.int .i64 a, .int .i64 s, .int .i64 e, .int .i64 r], .int .i64 now, .int .i64 skew] w fun en w' => en = .returned (.bool b) ∧ Ext w w' := by
  unfold renewableB at hb
  have hcs := usableF_cases a s e r now skew
  obtain ⟨u, hu⟩ : ∃ u, usableF a s e r now skew = u := ⟨_, rfl⟩
  have HU := Lib.hid (LUse_is a s e r now skew u hu)
  rw [hu] at hb hcs
  clear hu
  have HB := Lib.hid hb; clear hb
  by_cases hu0 : u = 0
  · subst hu0
    have hok : validB a s e r = true ∧ momB now = true ∧ skwB skew = true := by
      rcases hcs with h | h
      · omega
      · exact h.2
    obtain ⟨v1, v2, v3, v4, v5, v6, v7⟩ := validB_bd hok.1
    obtain ⟨k1, k2⟩ := skwB_bd hok.2.2
    clear hcs hok
    by_cases hr : r = 0
    · subst hr
      obtain rfl : b = false := by rw [← HB.out]; simp
      go_enter Tryd.func26, Tryd.ntmps26
      go_wp2_with fail
      refine (HU.out _).mono ?_
      rintro en w1 ⟨rfl, hx1⟩
      obtain ⟨_, _, _, q3⟩ := times_new w a s e 0 hx1
      have HX := Lib.hid (((Ext.refl w).alloc _).trans hx1); clear hx1
      go_wp2
      go_ret
      exact ⟨rfl, HX.out⟩
    · have hr' : (r != 0) = true := by simpa using hr
      obtain rfl : b = decide (now ≤ r + skew) := by rw [← HB.out, Bool.eq_iff_iff]; simp [hr]
      clear hr
      go_enter Tryd.func26, Tryd.ntmps26
      go_wp2_with fail
      refine (HU.out _).mono ?_
      rintro en w1 ⟨rfl, hx1⟩
      obtain ⟨_, _, _, q3⟩ := times_new w a s e r hx1
      have HX := Lib.hid (((Ext.refl w).alloc _).trans hx1); clear hx1
      go_wp2
      go_ret
      exact ⟨rfl, HX.out⟩
  · have hu1 : (u == 0) = false := by simpa using hu0
    obtain rfl : b = false := by rw [← HB.out]; simp [hu0]
    clear hcs hu0
    go_enter Tryd.func26, Tryd.ntmps26
    go_wp2_with fail
    refine (HU.out _).mono ?_
    rintro en w1 ⟨rfl, hx1⟩
    have HX := Lib.hid (((Ext.refl w).alloc _).trans hx1); clear hx1
    go_wp2
    go_ret
    exact ⟨rfl, HX.out⟩

/-- Numbers as values. -/
def ilv (xs : List Int) : List Value := xs.map (Value.int .i64)
theorem ilv_length (xs : List Int) : (ilv xs).length = xs.length := by simp [ilv]
theorem ilv_get (xs : List Int) (j : Nat) (h : j < xs.length) : (ilv xs)[j]? = some (.int .i64 xs[j]) := by simp [ilv, h]
def leastF : List Int → Int
  | [] => 0
  | x :: xs => xs.foldl min x
theorem leastF_one (xs : List Int) (h : 0 < xs.length) : leastF (xs.take 1) = xs[0] := by
  cases xs with
  | nil => simp at h
  | cons x xs => rfl
theorem leastF_succ (xs : List Int) (k : Nat) (h1 : 1 ≤ k) (h : k < xs.length) : leastF (xs.take (k + 1)) = min (leastF (xs.take k)) xs[k] := by
  cases xs with
  | nil => simp at h
  | cons x xs =>
    obtain ⟨j, rfl⟩ : ∃ j, k = j + 1 := ⟨k - 1, by omega⟩
    simp only [List.length_cons] at h
    simp only [List.take_succ_cons, leastF, List.getElem_cons_succ]
    rw [List.take_succ_eq_append_getElem (by omega), List.foldl_append]
    rfl

set_option maxRecDepth 100000 in
theorem least_at (A : Option Addr) (c : Nat) (xs : List Int) (w : World) (h0 : 0 < xs.length) (h : RS w (.slice A xs.length c) (ilv xs)) :
    Calls Tryd.prog 50 #[.slice A xs.length c] w fun e w' => e = .returned (.int .i64 (leastF xs)) ∧ w = w' := by
  obtain ⟨A', c', he, h1, h2, h3⟩ := h
  rw [ilv_length] at h1 h3 he
  injection he with e1 _ e3
  subst e1; subst e3
  unfold maxLen at h2
  obtain ⟨ad, rfl, hb, hc⟩ := h3 h0
  have hc0 : w.cell? ad = some (.int .i64 xs[0]) := hc 0 _ (ilv_get xs 0 h0)
  have HC := Lib.hid hc; clear hc h3
  obtain ⟨x0, hx0⟩ : ∃ x, xs[0] = x := ⟨_, rfl⟩
  rw [hx0] at hc0
  have HX0 := Lib.hid hx0; clear hx0
  go_enter Tryd.func50, Tryd.ntmps50
  go_wp2
  go_loop [3, 4] (fun v i => ∃ k : Nat, 1 ≤ k ∧ k ≤ xs.length ∧ i = .int .i64 k ∧ v = .int .i64 (leastF (xs.take k))) (fun _ i => xs.length - (intOf i).toNat)
  case atStart => exact ⟨1, by omega, by omega, rfl, by rw [leastF_one xs h0, HX0.out]⟩
  case round =>
    obtain ⟨k, hk1, hk, rfl, rfl⟩ := hrel
    by_cases hlt : k < xs.length
    · have hck := HC.out k _ (ilv_get xs k hlt)
      have hs := leastF_succ xs k hk1 hlt
      obtain ⟨v, hv⟩ : ∃ v, leastF (xs.take k) = v := ⟨_, rfl⟩
      obtain ⟨x, hx⟩ : ∃ x, xs[k] = x := ⟨_, rfl⟩
      rw [hv, hx] at hs
      rw [hx] at hck
      rw [hv]
      have HS := Lib.hid hs; clear hs hv hx
      by_cases hlx : x < v
      all_goals
        go_wp2
        go_round
        case rel => exact ⟨k + 1, by omega, by omega, by go_num, by rw [HS.out]; congr 1; omega⟩
        case measure => simp [intOf]; omega
    · obtain rfl : k = xs.length := by omega
      rw [List.take_length]
      go_wp2
      go_ret
      exact ⟨rfl, rfl⟩
end Go.Proofs.YtfgmmjpejlpdoaaDoor
