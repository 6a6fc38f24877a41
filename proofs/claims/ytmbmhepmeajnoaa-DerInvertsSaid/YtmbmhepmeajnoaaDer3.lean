/- Integer and its kin. -/
import Derived.Test.YtmbmhepmeajnoaaDer2
namespace Go.Proofs.Ytmbmhepmeajnoaa
open Go Go.RowKit

theorem element_at (ti : Int) (t : UInt8) (ht : ti = (t.toNat : Int)) (pv : Value) (ls : List (List UInt8)) (L : List UInt8) (hL : ls.flatten = L) (w : World) (hB : BSS w pv ls) :
    Calls Try.prog 55 #[.int .u8 ti, pv] w fun e w' => ∃ A c, e = .returned (.slice A (elem t L).length c) ∧ OB 5 w' w.heap.size (.slice A (elem t L).length c) (elem t L) ∧ Ext w w' := by
  subst ht; subst hL; exact (element_any t pv ls w hB).mono fun _ _ h => OB.ret h
theorem number_at (v : Int) (n : Nat) (hn : n ≤ 8) (w : World) :
    Calls Try.prog 57 #[.int .i64 v, .int .i64 (n : Int)] w fun e w' => ∃ A c, e = .returned (.slice A (beBytes v n).length c) ∧ OB 5 w' w.heap.size (.slice A (beBytes v n).length c) (beBytes v n) ∧ Ext w w' :=
  (number_any v n hn w).mono fun _ _ h => OB.ret h

set_option maxRecDepth 100000 in
set_option maxHeartbeats 1000000 in
theorem Integer_no (v : Int) (h : inRange v = false) (w : World) :
    Calls Try.prog 19 #[.int .i64 v] w fun e w' => e = .returned (.slice none 0 0) ∧ w = w' := by
  have hh : v < -4611686018427387904 ∨ (¬ v < -4611686018427387904 ∧ 4611686018427387904 < v) := by
    simp only [inRange, Bool.and_eq_false_iff, decide_eq_false_iff_not] at h; omega
  clear h
  rcases hh with h1 | ⟨h1, h2⟩
  · have hd : decide (v < -4611686018427387904) = true := decide_eq_true h1
    clear h1
    go_enter Try.func19, Try.ntmps19
    go_wp2
    go_ret
    exact ⟨rfl, rfl⟩
  · have hd : decide (v < -4611686018427387904) = false := decide_eq_false h1
    have hd2 : decide (4611686018427387904 < v) = true := decide_eq_true h2
    clear h1 h2
    go_enter Try.func19, Try.ntmps19
    go_wp2
    go_ret
    exact ⟨rfl, rfl⟩

set_option maxRecDepth 100000 in
set_option maxHeartbeats 1000000 in
theorem Integer_yes (v : Int) (h : inRange v = true) (w : World) :
    Calls Try.prog 19 #[.int .i64 v] w fun e w' => ∃ r, e = .returned r ∧ OB 5 w' w.heap.size r (encInt v) ∧ Ext w w' := by
  have hh : ¬ v < -4611686018427387904 ∧ ¬ 4611686018427387904 < v := by
    rw [inRange_iff] at h; omega
  have H := Lib.hid h; clear h
  obtain ⟨h1, h2⟩ := hh
  have hd : decide (v < -4611686018427387904) = false := decide_eq_false h1
  have hd2 : decide (4611686018427387904 < v) = false := decide_eq_false h2
  clear h1 h2
  go_enter Try.func19, Try.ntmps19
  go_wp2_with fail
  go_loop [3, 4] (fun n r => ∃ k : Nat, 1 ≤ k ∧ k ≤ 8 ∧ n = .int .i64 k ∧ r = .int .i64 (v / 256 ^ (k - 1)) ∧ Hid (intSize v = szF (8 - k) v k)) (fun n _ => 8 - (intOf n).toNat)
  case atStart => exact ⟨1, by omega, by omega, rfl, by simp, rfl⟩
  case round =>
    obtain ⟨k, hk1, hk8, rfl, rfl, hs⟩ := hrel
    have hf : Hid (fits v k = true ↔ ¬ (v / 256 ^ (k - 1) < -128) ∧ ¬ (127 < v / 256 ^ (k - 1))) := fits_iff v k
    obtain ⟨q, hq⟩ : ∃ q, q = v / 256 ^ (k - 1) := ⟨_, rfl⟩
    rw [← hq] at hf ⊢
    have HQ := Lib.hid hq; clear hq
    rcases (show q < -128 ∨ (¬ q < -128 ∧ 127 < q) ∨ (¬ q < -128 ∧ ¬ 127 < q) by omega) with h | h | h
    · have hk : k < 8 := by
        rcases Nat.lt_or_ge k 8 with h0 | h0
        · exact h0
        · exfalso
          obtain rfl : k = 8 := by omega
          have := hf.out.1 (fits_8 v H.out)
          omega
      have hno : fits v k = false := by
        rw [Bool.eq_false_iff]; intro hc; have := hf.out.1 hc; omega
      have HN := Lib.hid hno; clear hno
      go_wp2
      go_round
      case rel => exact ⟨k + 1, by omega, by omega, by go_num, by rw [HQ.out, div_step v k hk1], by have := hs.out; rw [szF_no v k hk HN.out] at this; exact this⟩
      case measure => simp [intOf]; omega
    · have hk : k < 8 := by
        rcases Nat.lt_or_ge k 8 with h0 | h0
        · exact h0
        · exfalso
          obtain rfl : k = 8 := by omega
          have := hf.out.1 (fits_8 v H.out)
          omega
      have hno : fits v k = false := by
        rw [Bool.eq_false_iff]; intro hc; have := hf.out.1 hc; omega
      have HN := Lib.hid hno; clear hno
      obtain ⟨h1, h2⟩ := h
      go_wp2
      go_round
      case rel => exact ⟨k + 1, by omega, by omega, by go_num, by rw [HQ.out, div_step v k hk1], by have := hs.out; rw [szF_no v k hk HN.out] at this; exact this⟩
      case measure => simp [intOf]; omega
    · have hyes : fits v k = true := hf.out.2 h
      have hs2 : intSize v = k := by have := hs.out; rw [szF_yes v k hyes] at this; exact this
      have HS2 := Lib.hid hs2; clear hs2 hyes
      obtain ⟨h1, h2⟩ := h
      go_wp2_with (first
        | (go_at_call 57; refine (number_at v k hk8 _).mono ?_; rintro e w1 ⟨A1, c1, rfl, hb, hx⟩)
        | (go_at_call 55; refine (element_at 2 2 rfl _ [beBytes v k] (beBytes v k) (by simp) _ (BSS.new1 w1 _ _ _ hb.bs)).mono ?_; rintro e w2 ⟨A2, c2, rfl, hb2, hx2⟩))
      go_ret
      have e : encInt v = elem 2 (beBytes v k) := by
        unfold encInt
        rw [if_pos H.out, HS2.out]
      rw [e]
      exact ⟨_, rfl, hb2.up (hx.alloc _), hx.trans (((Ext.refl _).alloc _).trans hx2)⟩
theorem Integer_at (v : Int) (w : World) :
    Calls Try.prog 19 #[.int .i64 v] w fun e w' => ∃ A c, e = .returned (.slice A (encInt v).length c) ∧ OB 5 w' w.heap.size (.slice A (encInt v).length c) (encInt v) ∧ Ext w w' := by
  cases h : inRange v with
  | true => exact (Integer_yes v h w).mono fun _ _ h => OB.ret h
  | false =>
    refine (Integer_no v h w).mono ?_
    rintro e w' ⟨rfl, rfl⟩
    have e : encInt v = [] := by unfold encInt; rw [h]; rfl
    rw [e]
    exact ⟨none, 0, rfl, OB.nil _ _ _, Ext.refl _⟩
#print axioms Integer_at
end Go.Proofs.Ytmbmhepmeajnoaa
