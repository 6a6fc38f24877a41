/- Names: the order is total. -/
import Derived.Test.YtgclchdccgkjaaaDoorNm12
namespace Go.Proofs.YtgclchdccgkjaaaDoor
set_option linter.unusedVariables false

structure Good {α : Type} (f : α → α → Int) : Prop where
  bd : ∀ a b, -1 ≤ f a b ∧ f a b ≤ 1
  swap : ∀ a b, f b a = - f a b
  zero : ∀ a b, f a b = 0 ↔ a = b
  trans : ∀ a b c, f a b ≤ 0 → f b c ≤ 0 → f a c ≤ 0
def lexL {α : Type} (f : α → α → Int) : List α → List α → Int
  | [], [] => 0
  | [], _ :: _ => -1
  | _ :: _, [] => 1
  | a :: x, b :: y => if f a b ≠ 0 then f a b else lexL f x y
theorem lexL_good {α : Type} {f : α → α → Int} (h : Good f) : Good (lexL f) where
  bd := by
    intro a
    induction a with
    | nil => intro b; cases b <;> simp [lexL]
    | cons a x ih =>
      intro b
      cases b with
      | nil => simp [lexL]
      | cons b y =>
        rw [lexL]
        split
        · exact h.bd a b
        · exact ih y
  swap := by
    intro a
    induction a with
    | nil => intro b; cases b <;> simp [lexL]
    | cons a x ih =>
      intro b
      cases b with
      | nil => simp [lexL]
      | cons b y =>
        rw [lexL, lexL, h.swap a b]
        by_cases hz : f a b = 0
        · rw [if_neg (by omega), if_neg (by omega)]; exact ih y
        · rw [if_pos (by omega), if_pos hz]
  zero := by
    intro a
    induction a with
    | nil => intro b; cases b <;> simp [lexL]
    | cons a x ih =>
      intro b
      cases b with
      | nil => simp [lexL]
      | cons b y =>
        rw [lexL]
        by_cases hz : f a b = 0
        · rw [if_neg (by omega), ih y, List.cons.injEq, (h.zero a b).1 hz]; simp
        · rw [if_pos hz, List.cons.injEq]
          constructor
          · intro e; exact absurd e hz
          · intro e; exact absurd ((h.zero a b).2 e.1) hz
  trans := by
    intro a
    induction a with
    | nil => intro b c; cases c <;> simp [lexL]
    | cons a x ih =>
      intro b c h1 h2
      cases b with
      | nil => simp [lexL] at h1
      | cons b y =>
        cases c with
        | nil => simp [lexL] at h2
        | cons c z =>
          rw [lexL] at h1 h2 ⊢
          have h1' : f a b ≤ 0 := by by_cases e : f a b = 0 <;> simp [e] at h1 <;> omega
          have h2' : f b c ≤ 0 := by by_cases e : f b c = 0 <;> simp [e] at h2 <;> omega
          have h3 := h.trans a b c h1' h2'
          by_cases hz : f a c = 0
          · have hac := (h.zero a c).1 hz
            subst hac
            have hs := h.swap a b
            have e1 : f a b = 0 := by omega
            have e2 : f b a = 0 := by omega
            rw [if_neg (by omega)] at h1 h2 ⊢
            exact ih y z h1 h2
          · rw [if_pos hz]; exact h3
def bcmp (a b : UInt8) : Int := if a < b then -1 else if a = b then 0 else 1
theorem bcmp_good : Good bcmp where
  bd := by intro a b; unfold bcmp; split <;> (try split) <;> omega
  swap := by
    intro a b
    unfold bcmp
    rcases Nat.lt_trichotomy a.toNat b.toNat with h | h | h
    · have h1 : a < b := UInt8.lt_iff_toNat_lt.2 h
      have h2 : ¬ b < a := fun e => by have := UInt8.lt_iff_toNat_lt.1 e; omega
      have h3 : ¬ b = a := fun e => by subst e; omega
      simp [h1, h2, h3]
    · have h1 : a = b := UInt8.toNat_inj.1 h
      subst h1
      have h2 : ¬ a < a := fun e => by have := UInt8.lt_iff_toNat_lt.1 e; omega
      simp [h2]
    · have h1 : b < a := UInt8.lt_iff_toNat_lt.2 h
      have h2 : ¬ a < b := fun e => by have := UInt8.lt_iff_toNat_lt.1 e; omega
      have h3 : ¬ a = b := fun e => by subst e; omega
      simp [h1, h2, h3]
  zero := by
    intro a b
    unfold bcmp
    by_cases h1 : a < b
    · have h3 : ¬ a = b := fun e => by subst e; have := UInt8.lt_iff_toNat_lt.1 h1; omega
      simp [h1, h3]
    · by_cases h2 : a = b <;> simp [h1, h2]
  trans := by
    intro a b c h1 h2
    have key : ∀ x y : UInt8, bcmp x y ≤ 0 ↔ x.toNat ≤ y.toNat := by
      intro x y
      unfold bcmp
      by_cases h : x < y
      · have := UInt8.lt_iff_toNat_lt.1 h
        simp [h]; omega
      · have h' : ¬ x.toNat < y.toNat := fun e => h (UInt8.lt_iff_toNat_lt.2 e)
        by_cases h2 : x = y
        · subst h2; simp [h]
        · have h2' : x.toNat ≠ y.toNat := fun e => h2 (UInt8.toNat_inj.1 e)
          simp [h, h2]; omega
    rw [key] at h1 h2 ⊢
    omega
theorem ordB_lex : ∀ (a b : List UInt8), ordB a b = lexL bcmp a b
  | [], [] => by simp [ordB, lexL, Op.bytesLess]
  | [], _ :: _ => by simp [ordB, lexL, Op.bytesLess]
  | _ :: _, [] => by simp [ordB, lexL, Op.bytesLess]
  | a :: x, b :: y => by
    have ih := ordB_lex x y
    rw [lexL, ← ih]
    unfold ordB bcmp
    rw [Op.bytesLess]
    by_cases h1 : a < b
    · simp [h1]
    · by_cases h2 : a = b
      · subst h2
        simp [h1]
      · simp [h1, h2]
theorem cmpL_lex : ∀ (a b : List (List UInt8)), cmpL a b = lexL ordB a b
  | [], [] => rfl
  | [], _ :: _ => rfl
  | _ :: _, [] => rfl
  | a :: x, b :: y => by rw [cmpL, lexL, cmpL_lex x y]
theorem ordB_good : Good ordB := by
  rw [show ordB = lexL bcmp from funext fun a => funext fun b => ordB_lex a b]
  exact lexL_good bcmp_good
theorem cmpL_good : Good cmpL := by
  rw [show cmpL = lexL ordB from funext fun a => funext fun b => cmpL_lex a b]
  exact lexL_good ordB_good
abbrev Nm := List (List UInt8) × List UInt8
def cmpP (a b : Nm) : Int := cmpN a.1 a.2 b.1 b.2
theorem cmpP_good : Good cmpP where
  bd := by
    intro a b
    unfold cmpP cmpN
    split
    · exact ordB_good.bd _ _
    · exact cmpL_good.bd _ _
  swap := by
    intro a b
    unfold cmpP cmpN
    rw [ordB_good.swap a.2 b.2, cmpL_good.swap a.1 b.1]
    by_cases hz : ordB a.2 b.2 = 0
    · rw [if_neg (by omega), if_neg (by omega)]
    · rw [if_pos (by omega), if_pos hz]
  zero := by
    intro a b
    unfold cmpP
    rw [cmpN_zero]
    constructor
    · intro h; exact Prod.ext h.1 h.2
    · rintro rfl; exact ⟨rfl, rfl⟩
  trans := by
    intro a b c h1 h2
    unfold cmpP cmpN at h1 h2 ⊢
    have h1' : ordB a.2 b.2 ≤ 0 := by by_cases e : ordB a.2 b.2 = 0 <;> simp [e] at h1 <;> omega
    have h2' : ordB b.2 c.2 ≤ 0 := by by_cases e : ordB b.2 c.2 = 0 <;> simp [e] at h2 <;> omega
    have h3 := ordB_good.trans _ _ _ h1' h2'
    by_cases hz : ordB a.2 c.2 = 0
    · have hac := (ordB_good.zero _ _).1 hz
      have hs := ordB_good.swap a.2 b.2
      rw [← hac] at h2 h2' ⊢
      rw [if_neg (by omega)] at h1 h2
      rw [if_neg (by rw [(ordB_good.zero a.2 a.2).2 rfl]; omega)]
      exact cmpL_good.trans _ _ _ h1 h2
    · rw [if_pos hz]; exact h3
/-- What the law asks of the order. -/
theorem cmp_total (a b c : Nm) : cmpP a b = - cmpP b a ∧ cmpP a a = 0 ∧ (cmpP a b ≤ 0 → cmpP b c ≤ 0 → cmpP a c ≤ 0 ∧ (cmpP a b + cmpP b c < 0 → cmpP a c = -1)) ∧ (cmpP a b = 0 → cmpP b c = cmpP a c) := by
  have hs := cmpP_good.swap a b
  refine ⟨by omega, (cmpP_good.zero a a).2 rfl, fun h1 h2 => ?_, fun h => ?_⟩
  · have h3 := cmpP_good.trans a b c h1 h2
    refine ⟨h3, fun h4 => ?_⟩
    have hb := cmpP_good.bd a c
    by_cases hz : cmpP a c = 0
    · have hac := (cmpP_good.zero a c).1 hz
      subst hac
      omega
    · omega
  · rw [(cmpP_good.zero a b).1 h]
end Go.Proofs.YtgclchdccgkjaaaDoor
