/- Flags: what holds of initial and granted flags. No program's walk. -/
import Derived.Test.YtigjecmhhjjenaaDoorFlR5
namespace Go.Proofs.YtigjecmhhjjenaaDoor
open Go Go.RowKit
set_option linter.unusedVariables false

theorem tk_bit {f : W32} : tkB f = true ↔ ∀ k, k < 32 → f.getLsbD k = true → k < 12 := by
  unfold tkB
  rw [hasB_iff]
  have hm : ∀ k : Nat, k < 32 → tkM.getLsbD k = decide (k < 12) := fun k hk => by
    have h : ∀ k : Fin 32, tkM.getLsbD k.val = decide (k.val < 12) := by decide
    exact h ⟨k, hk⟩
  constructor
  · intro h k hk hb
    have := h k hk hb
    rw [hm k hk, decide_eq_true_eq] at this
    exact this
  · intro h k hk hb
    rw [hm k hk, decide_eq_true_eq]
    exact h k hk hb
/-- Bits of a literal, by trying them all. -/
theorem lit_bits (c : W32) (p : Nat → Bool) (h : ∀ k : Fin 32, c.getLsbD k.val = p k.val) {k : Nat} (hk : k < 32) : c.getLsbD k = p k := h ⟨k, hk⟩
theorem want_bit (o a : W32) {k : Nat} (hk : k < 32) : (wantW o a).getLsbD k = (((o.getLsbD k && a.getLsbD k) && (149#32 : W32).getLsbD k) || (o.getLsbD 5 && (96#32 : W32).getLsbD k)) := by
  unfold wantW
  cases o.getLsbD 5 <;> simp [or_bit, and_bits]
theorem initW_bit (o a : W32) (p : Bool) {k : Nat} (hk : k < 32) : (initW o a p).getLsbD k = ((((o.getLsbD k && a.getLsbD k) && (149#32 : W32).getLsbD k) || (o.getLsbD 5 && (96#32 : W32).getLsbD k)) || (256#32 : W32).getLsbD k || (p && (512#32 : W32).getLsbD k)) := by
  rw [initW_ref]
  cases p <;> simp [or_bit, want_bit _ _ hk]
theorem refGW_bit (o t a : W32) {k : Nat} (hk : k < 32) : (refGW o t a).getLsbD k = (((t.getLsbD k && (514#32 : W32).getLsbD k) || (((o.getLsbD k && a.getLsbD k) && (149#32 : W32).getLsbD k) || (o.getLsbD 5 && (96#32 : W32).getLsbD k))) || (a.getLsbD k && (2048#32 : W32).getLsbD k) || (o.getLsbD k && (10#32 : W32).getLsbD k)) := by
  unfold refGW
  simp [or_bit, and_bits, want_bit _ _ hk]
theorem b149 {k : Nat} (hk : k < 32) : (149#32 : W32).getLsbD k = (decide (k = 0) || decide (k = 2) || decide (k = 4) || decide (k = 7)) := lit_bits _ (fun k => decide (k = 0) || decide (k = 2) || decide (k = 4) || decide (k = 7)) (by decide) hk
theorem b96 {k : Nat} (hk : k < 32) : (96#32 : W32).getLsbD k = (decide (k = 5) || decide (k = 6)) := lit_bits _ (fun k => decide (k = 5) || decide (k = 6)) (by decide) hk
theorem b256 {k : Nat} (hk : k < 32) : (256#32 : W32).getLsbD k = decide (k = 8) := lit_bits _ (fun k => decide (k = 8)) (by decide) hk
theorem b512 {k : Nat} (hk : k < 32) : (512#32 : W32).getLsbD k = decide (k = 9) := lit_bits _ (fun k => decide (k = 9)) (by decide) hk
theorem b514 {k : Nat} (hk : k < 32) : (514#32 : W32).getLsbD k = (decide (k = 1) || decide (k = 9)) := lit_bits _ (fun k => decide (k = 1) || decide (k = 9)) (by decide) hk
theorem b2048 {k : Nat} (hk : k < 32) : (2048#32 : W32).getLsbD k = decide (k = 11) := lit_bits _ (fun k => decide (k = 11)) (by decide) hk
theorem b10 {k : Nat} (hk : k < 32) : (10#32 : W32).getLsbD k = (decide (k = 1) || decide (k = 3)) := lit_bits _ (fun k => decide (k = 1) || decide (k = 3)) (by decide) hk
theorem b64 {k : Nat} (hk : k < 32) : (64#32 : W32).getLsbD k = decide (k = 6) := lit_bits _ (fun k => decide (k = 6)) (by decide) hk
theorem init_tk (o a : W32) (p : Bool) : tkB (initW o a p) = true := tk_bit.2 fun k hk hb => by
  rw [initW_bit o a p hk, b149 hk, b96 hk, b256 hk, b512 hk] at hb
  simp only [Bool.or_eq_true, Bool.and_eq_true, decide_eq_true_eq] at hb
  omega
theorem init_256 (o a : W32) (p : Bool) : hasB (initW o a p) 256#32 = true := by
  have h := has_bit (initW o a p) 8 (by decide)
  rw [show bitW 8 = 256#32 from rfl] at h
  rw [h, initW_bit o a p (by decide)]
  simp
theorem init_512 (o a : W32) (p : Bool) : hasB (initW o a p) 512#32 = p := by
  have h := has_bit (initW o a p) 9 (by decide)
  rw [show bitW 9 = 512#32 from rfl] at h
  rw [h, initW_bit o a p (by decide)]
  simp
theorem none_left {x y : W32} (h : ∀ k, k < 32 → x.getLsbD k = true → y.getLsbD k = true) : neW (andNotW x y) 0#32 = false := by
  have : andNotW x y = 0#32 := w_ext (fun k hk => by
    rw [andNot_bit _ _ _ hk]
    cases hx : x.getLsbD k with
    | false => simp
    | true => rw [h k hk hx]; simp)
  unfold neW
  rw [this]
  rfl
theorem init_pass (o a : W32) (p : Bool) : neW (andNotW (andW (initW o a p) 149#32) a) 0#32 = false := none_left fun k hk hb => by
  rw [and_bits, initW_bit o a p hk, b149 hk, b96 hk, b256 hk, b512 hk] at hb
  simp only [Bool.or_eq_true, Bool.and_eq_true, decide_eq_true_eq] at hb
  rcases hb with ⟨((⟨⟨_, h⟩, _⟩ | ⟨_, h⟩) | h) | ⟨_, h⟩, h2⟩
  · exact h
  all_goals omega
theorem init_mono {o a f : W32} {p : Bool} (ha : tkB a = true) (h : initE o (andW a f) = 0) : initE o a = 0 ∧ hasB (initW o a p) (initW o (andW a f) p) = true := by
  constructor
  · rw [initE_ref] at h ⊢
    rw [and_bits] at h
    rw [ha]
    revert h
    generalize optB o = x
    generalize tkB (andW a f) = y
    generalize neW (andW o 720906#32) 0#32 = z
    generalize o.getLsbD 5 = b5
    generalize a.getLsbD 4 = b4
    generalize f.getLsbD 4 = f4
    cases x <;> cases y <;> cases z <;> cases b5 <;> cases b4 <;> cases f4 <;> decide
  · rw [hasB_iff]
    intro k hk hb
    rw [initW_bit _ _ _ hk, and_bits] at hb
    rw [initW_bit _ _ _ hk]
    revert hb
    generalize o.getLsbD k = q1
    generalize a.getLsbD k = q2
    generalize f.getLsbD k = q3
    generalize o.getLsbD 5 = q5
    generalize (149#32 : W32).getLsbD k = c1
    generalize (96#32 : W32).getLsbD k = c2
    generalize (256#32 : W32).getLsbD k = c3
    generalize (512#32 : W32).getLsbD k = c4
    clear ha h
    revert p q1 q2 q3 q5 c1 c2 c3 c4
    decide
theorem grant_parts {o t a : W32} (h : grantE o t a = 0) : optB o = true ∧ tkB t = true ∧ tkB a = true ∧ (o.getLsbD 17 = false → o.getLsbD 16 = false → hasB t (andW o 149#32) = true) := by
  rw [grantE_ref, m_has] at h
  revert h
  generalize neW (andNotW o 262144#32) 131072#32 = nv
  generalize neW (andNotW o 262144#32) 65536#32 = nr
  generalize t.getLsbD 6 = i6
  generalize t.getLsbD 7 = r7
  generalize dnB o t a 1 0 = d1
  generalize dnB o t a 3 2 = d2
  generalize dnB o t a 5 4 = d3
  generalize optB o = x
  generalize tkB t = y
  generalize tkB a = z
  generalize o.getLsbD 17 = v
  generalize o.getLsbD 16 = r
  generalize hasB t (andW o 149#32) = m
  intro h
  cases x
  · simp [refGE] at h
  cases y
  · simp [refGE] at h
  cases z
  · simp [refGE] at h
  refine ⟨rfl, rfl, rfl, fun hv hr => ?_⟩
  subst hv; subst hr
  cases m
  · exfalso
    cases i6 <;> simp [refGE] at h
  · rfl
theorem grant_tk {o t a : W32} (h : grantE o t a = 0) : tkB (grantW o t a) = true := by
  obtain ⟨h1, h2, h3, h4⟩ := grant_parts h
  rw [tk_bit] at h2 ⊢
  intro k hk hb
  rw [grantW_ref] at hb
  cases hv : o.getLsbD 17 with
  | true =>
    rw [hv, cond_true, andNot_bit _ _ _ hk, Bool.and_eq_true] at hb
    exact h2 k hk hb.1
  | false =>
    rw [hv, cond_false] at hb
    cases hr : o.getLsbD 16 with
    | true =>
      rw [hr, cond_true] at hb
      exact h2 k hk hb
    | false =>
      rw [hr, cond_false, refGW_bit o t a hk, b149 hk, b96 hk, b514 hk, b2048 hk, b10 hk] at hb
      simp only [Bool.or_eq_true, Bool.and_eq_true, decide_eq_true_eq] at hb
      omega
theorem grant_pass {o t a : W32} (h : grantE o t a = 0) : neW (andNotW (andW (grantW o t a) 149#32) t) 0#32 = false := none_left fun k hk hb => by
  obtain ⟨h1, h2, h3, h4⟩ := grant_parts h
  rw [and_bits, grantW_ref, Bool.and_eq_true] at hb
  obtain ⟨hb, h149⟩ := hb
  cases hv : o.getLsbD 17 with
  | true =>
    rw [hv, cond_true, andNot_bit _ _ _ hk, Bool.and_eq_true] at hb
    exact hb.1
  | false =>
    rw [hv, cond_false] at hb
    cases hr : o.getLsbD 16 with
    | true =>
      rw [hr, cond_true] at hb
      exact hb
    | false =>
      have hm := (hasB_iff _ _).1 (h4 hv hr) k hk
      rw [and_bits] at hm
      rw [hr, cond_false, refGW_bit o t a hk, b96 hk, b514 hk, b2048 hk, b10 hk] at hb
      rw [b149 hk] at hb h149 hm
      simp only [Bool.or_eq_true, Bool.and_eq_true, decide_eq_true_eq] at hb h149 hm
      rcases hb with ((⟨_, q⟩ | (⟨⟨q, _⟩, _⟩ | ⟨_, q⟩)) | ⟨_, q⟩) | ⟨_, q⟩
      · omega
      · exact hm ⟨q, h149⟩
      all_goals omega
theorem grant_init {o t a : W32} (h : grantE o t a = 0) (hi : hasB (grantW o t a) 256#32 = true) : hasB t 256#32 = true ∧ ((andW o 196608#32) == 0#32) = false := by
  have e8 : ∀ x : W32, hasB x 256#32 = x.getLsbD 8 := fun x => has_bit x 8 (by decide)
  rw [e8, grantW_ref] at hi
  rw [e8]
  have hne : o.getLsbD 17 = true ∨ o.getLsbD 16 = true → ((andW o 196608#32) == 0#32) = false := fun hb => by
    rw [beq_eq_false_iff_ne]
    intro e
    rcases hb with hb | hb
    · have := congrArg (fun x : W32 => x.getLsbD 17) e
      simp only [and_bits, hb] at this
      exact absurd this (by decide)
    · have := congrArg (fun x : W32 => x.getLsbD 16) e
      simp only [and_bits, hb] at this
      exact absurd this (by decide)
  cases hv : o.getLsbD 17 with
  | true =>
    rw [hv, cond_true, andNot_bit _ _ _ (by decide), Bool.and_eq_true] at hi
    exact ⟨hi.1, hne (.inl hv)⟩
  | false =>
    rw [hv, cond_false] at hi
    cases hr : o.getLsbD 16 with
    | true =>
      rw [hr, cond_true] at hi
      exact ⟨hi, hne (.inr hr)⟩
    | false =>
      rw [hr, cond_false, refGW_bit o t a (by decide)] at hi
      simp at hi
theorem dn_mono (o t a f : W32) (q n : Nat) (h : dnB o t (andW a f) q n = false) : dnB o t a q n = false := by
  unfold dnB at h ⊢
  rw [and_bits] at h
  revert h
  generalize o.getLsbD q = q1
  generalize t.getLsbD n = q2
  generalize a.getLsbD n = q3
  generalize f.getLsbD n = q4
  cases q1 <;> cases q2 <;> cases q3 <;> cases q4 <;> simp
theorem grant_mono {o t a f : W32} (ha : tkB a = true) (h : grantE o t (andW a f) = 0) : grantE o t a = 0 ∧ hasB (grantW o t a) (grantW o t (andW a f)) = true := by
  constructor
  · have m1 := dn_mono o t a f 1 0
    have m2 := dn_mono o t a f 3 2
    have m3 := dn_mono o t a f 5 4
    rw [grantE_ref] at h ⊢
    rw [ha]
    revert h m1 m2 m3
    generalize optB o = x
    generalize tkB t = y
    generalize tkB (andW a f) = z
    generalize o.getLsbD 17 = v
    generalize o.getLsbD 16 = r
    generalize neW (andNotW o 262144#32) 131072#32 = nv
    generalize neW (andNotW o 262144#32) 65536#32 = nr
    generalize t.getLsbD 6 = i6
    generalize t.getLsbD 7 = r7
    generalize neW (andNotW (andW o 149#32) t) 0#32 = m
    generalize dnB o t a 1 0 = d1
    generalize dnB o t a 3 2 = d2
    generalize dnB o t a 5 4 = d3
    generalize dnB o t (andW a f) 1 0 = c1
    generalize dnB o t (andW a f) 3 2 = c2
    generalize dnB o t (andW a f) 5 4 = c3
    intro h m1 m2 m3
    cases z
    · cases x <;> cases y <;> simp [refGE] at h
    cases c1
    · rw [m1 rfl]
      cases c2
      · rw [m2 rfl]
        cases c3
        · rw [m3 rfl]; exact h
        · simp only [refGE, Bool.or_true, Bool.or_false, cond_true] at h ⊢
          revert h
          cases d3
          · cases x <;> cases y <;> cases v <;> cases r <;> cases nv <;> cases nr <;> cases i6 <;> cases r7 <;> cases m <;> simp
          · exact id
      · simp only [refGE, Bool.or_true, Bool.true_or, Bool.false_or, cond_true] at h ⊢
        revert h
        cases x <;> cases y <;> cases v <;> cases r <;> cases nv <;> cases nr <;> cases i6 <;> cases r7 <;> cases m <;> simp
    · simp only [refGE, Bool.true_or, cond_true] at h ⊢
      revert h
      cases x <;> cases y <;> cases v <;> cases r <;> cases nv <;> cases nr <;> cases i6 <;> cases r7 <;> cases m <;> simp
  · rw [hasB_iff]
    intro k hk hb
    rw [grantW_ref] at hb ⊢
    cases hv : o.getLsbD 17 with
    | true => rw [hv, cond_true] at hb; rw [cond_true]; exact hb
    | false =>
      rw [hv, cond_false] at hb
      rw [cond_false]
      cases hr : o.getLsbD 16 with
      | true => rw [hr, cond_true] at hb; rw [cond_true]; exact hb
      | false =>
        rw [hr, cond_false, refGW_bit _ _ _ hk, and_bits] at hb
        rw [cond_false, refGW_bit _ _ _ hk]
        revert hb
        generalize o.getLsbD k = q1
        generalize a.getLsbD k = q2
        generalize f.getLsbD k = q3
        generalize t.getLsbD k = q4
        generalize o.getLsbD 5 = q5
        generalize (514#32 : W32).getLsbD k = c1
        generalize (149#32 : W32).getLsbD k = c2
        generalize (96#32 : W32).getLsbD k = c3
        generalize (2048#32 : W32).getLsbD k = c4
        generalize (10#32 : W32).getLsbD k = c5
        revert q1 q2 q3 q4 q5 c1 c2 c3 c4 c5
        decide
end Go.Proofs.YtigjecmhhjjenaaDoor
