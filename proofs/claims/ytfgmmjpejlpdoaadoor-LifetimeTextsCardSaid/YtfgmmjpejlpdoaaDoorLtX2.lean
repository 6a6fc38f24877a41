/- What the reference's Parse of times computes: plain laws. -/
import Derived.Test.YtfgmmjpejlpdoaaDoorLtP0
namespace Go.Proofs.YtfgmmjpejlpdoaaDoor
open Go Go.RowKit
set_option linter.unusedVariables false

/-- The numbers that have been read: those before, the last one. -/
def rp : List Int → Int → List UInt8 → Option (List Int × Int)
  | pre, x, [] => some (pre, x)
  | pre, x, c :: r => if c.toNat = 32 then rp (pre ++ [x]) 0 r else if c.toNat < 48 ∨ 57 < c.toNat ∨ 1099511627776 < x then none else rp pre (10 * x + ((c.toNat : Int) - 48)) r
theorem rp_dec (u : Nat) (h : u ≤ 1099511627776) (pre : List Int) (r : List UInt8) : rp pre 0 (Lib.decDigits u ++ r) = rp pre (u : Int) r := by
  induction u using Nat.strongRecOn generalizing r with
  | _ u ih =>
    by_cases h10 : u < 10
    · rw [dec_lo u h10, List.singleton_append, rp, u8_dig u h10, if_neg (by omega), if_neg (by omega)]
      congr 1; omega
    · rw [dec_hi u h10, List.append_assoc, ih (u / 10) (by omega) (by omega), List.singleton_append, rp, u8_dig _ (by omega), if_neg (by omega), if_neg (by omega)]
      congr 1; omega
theorem rp_sep {pre : List Int} {x : Int} {c : UInt8} {r : List UInt8} (h : c.toNat = 32) : rp pre x (c :: r) = rp (pre ++ [x]) 0 r := by rw [rp, if_pos h]
theorem rp_bad {pre : List Int} {x : Int} {c : UInt8} {r : List UInt8} (h : c.toNat ≠ 32) (hb : c.toNat < 48 ∨ 57 < c.toNat ∨ 1099511627776 < x) : rp pre x (c :: r) = none := by rw [rp, if_neg h, if_pos hb]
theorem rp_dig {pre : List Int} {x : Int} {c : UInt8} {r : List UInt8} (h : c.toNat ≠ 32) (hb : ¬ (c.toNat < 48 ∨ 57 < c.toNat ∨ 1099511627776 < x)) : rp pre x (c :: r) = rp pre (10 * x + ((c.toNat : Int) - 48)) r := by rw [rp, if_neg h, if_neg hb]
theorem rp_blank (pre : List Int) (x : Int) (r : List UInt8) : rp pre x (32 :: r) = rp (pre ++ [x]) 0 r := by rw [rp, if_pos (by decide)]
theorem rp_text {a st e r : Int} (hv : validB a st e r = true) : rp [] 0 (textT a st e r) = some ([a, st, e], r) := by
  obtain ⟨v1, v2, v3, v4, v5, v6, _⟩ := validB_bd hv
  rw [textT_eq, itoa_of v1, itoa_of (by omega), itoa_of (by omega), itoa_of (by omega), rp_dec _ (by omega), rp_blank, rp_dec _ (by omega), rp_blank, rp_dec _ (by omega), rp_blank]
  have := rp_dec r.toNat (by omega) ([] ++ [(a.toNat : Int)] ++ [(st.toNat : Int)] ++ [(e.toNat : Int)]) []
  rw [List.append_nil] at this
  rw [this, rp]
  simp only [List.nil_append, List.cons_append, Option.some.injEq, Prod.mk.injEq, List.cons.injEq, and_true]
  omega
theorem rp_none {l : List UInt8} (h : rp [] 0 l = none) : ∀ a st e r, validB a st e r = true → textT a st e r ≠ l := fun a st e r hv ht => by
  rw [← ht, rp_text hv] at h
  cases h
theorem rp_count {l : List UInt8} {pre : List Int} {x : Int} (h : rp [] 0 l = some (pre, x)) (hl : pre.length ≠ 3) : ∀ a st e r, validB a st e r = true → textT a st e r ≠ l := fun a st e r hv ht => by
  rw [← ht, rp_text hv] at h
  injection h with h
  injection h with h _
  exact hl (by rw [← h]; rfl)
theorem rp_vals {l : List UInt8} {a st e r : Int} (h : rp [] 0 l = some ([a, st, e], r)) (hn : ¬ (validB a st e r = true ∧ textT a st e r = l)) : ∀ a st e r, validB a st e r = true → textT a st e r ≠ l := fun a' st' e' r' hv ht => by
  have hh := h
  rw [← ht, rp_text hv] at hh
  simp only [Option.some.injEq, Prod.mk.injEq, List.cons.injEq, and_true] at hh
  obtain ⟨⟨rfl, rfl, rfl⟩, rfl⟩ := hh
  exact hn ⟨hv, ht⟩
theorem list_three {α : Type} {l : List α} (h : l.length = 3) : ∃ a b c, l = [a, b, c] := by
  match l, h with
  | [a, b, c], _ => exact ⟨a, b, c, rfl⟩
end Go.Proofs.YtfgmmjpejlpdoaaDoor
