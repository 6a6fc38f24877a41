/- Decimal digits and words between blanks: plain laws. No program. -/
import Derived.Lib.AtoiAllCases
import Derived.Lib.ItoaLen
import Derived.Lib.ItoaMem
import Derived.Lib.Split
namespace Go.Proofs.YthpfomjibfbiiaaGreatDoor
open Go.Lib

theorem u8_dig (d : Nat) (h : d < 10) : (UInt8.ofNat (48 + d)).toNat = 48 + d := by
  simp [UInt8.toNat_ofNat']; omega
theorem dec_lo (u : Nat) (h : u < 10) : decDigits u = [UInt8.ofNat (48 + u)] := by rw [decDigits, dif_pos h]
theorem dec_hi (u : Nat) (h : ¬ u < 10) : decDigits u = decDigits (u / 10) ++ [UInt8.ofNat (48 + u % 10)] := by rw [decDigits, dif_neg h]
theorem dec_dig (u : Nat) : ∀ c ∈ decDigits u, 48 ≤ c.toNat ∧ c.toNat ≤ 57 := by
  induction u using Nat.strongRecOn with
  | _ u ih =>
    intro c hc
    by_cases h : u < 10
    · rw [dec_lo u h] at hc
      simp only [List.mem_singleton] at hc
      subst hc
      rw [u8_dig u h]; omega
    · rw [dec_hi u h] at hc
      rcases List.mem_append.1 hc with hc | hc
      · exact ih (u / 10) (by omega) c hc
      · simp only [List.mem_singleton] at hc
        subst hc
        rw [u8_dig _ (by omega)]; omega
theorem dec_ne (u : Nat) : decDigits u ≠ [] := by
  by_cases h : u < 10
  · rw [dec_lo u h]; simp
  · rw [dec_hi u h]; simp
/-- The number of a row of digits. -/
def valD (acc : Nat) : List UInt8 → Nat
  | [] => acc
  | c :: r => valD (10 * acc + (c.toNat - 48)) r
theorem valD_append (acc : Nat) (a b : List UInt8) : valD acc (a ++ b) = valD (valD acc a) b := by
  induction a generalizing acc with
  | nil => rfl
  | cons c r ih => exact ih _
theorem valD_one (acc : Nat) (c : UInt8) : valD acc [c] = 10 * acc + (c.toNat - 48) := rfl
theorem valD_dec (u : Nat) : valD 0 (decDigits u) = u := by
  induction u using Nat.strongRecOn with
  | _ u ih =>
    by_cases h : u < 10
    · rw [dec_lo u h, valD_one, u8_dig u h]; omega
    · rw [dec_hi u h, valD_append, ih (u / 10) (by omega), valD_one, u8_dig _ (by omega)]; omega
theorem dec_inj {u v : Nat} (h : decDigits u = decDigits v) : u = v := by rw [← valD_dec u, h, valD_dec]
theorem parse_dec (u : Nat) (h : u < 1844674407370955162) (r : List UInt8) : parseUint10 0 (decDigits u ++ r) = parseUint10 u r := by
  induction u using Nat.strongRecOn generalizing r with
  | _ u ih =>
    by_cases h10 : u < 10
    · rw [dec_lo u h10, List.singleton_append, parseUint10, u8_dig u h10, if_pos (by omega), if_neg (by omega), if_neg (by omega)]
      congr 1; omega
    · rw [dec_hi u h10, List.append_assoc, ih (u / 10) (by omega) (by omega), List.singleton_append, parseUint10, u8_dig _ (by omega), if_pos (by omega), if_neg (by omega), if_neg (by omega)]
      congr 1; omega
theorem atoi_dec (u : Nat) (h : u < 1844674407370955162) : atoiAll (decDigits u) = .ok (u : Int) := by
  have hp : parseMag (decDigits u) = .ok u := by
    have := parse_dec u h []
    rw [List.append_nil] at this
    rw [parseMag, if_neg (dec_ne u), this]; rfl
  obtain ⟨c, r, hcr⟩ : ∃ c r, decDigits u = c :: r := by
    cases hd : decDigits u with
    | nil => exact absurd hd (dec_ne u)
    | cons c r => exact ⟨c, r, rfl⟩
  have hc := dec_dig u c (by rw [hcr]; simp)
  have hne : ¬ (c.toNat = 43 ∨ c.toNat = 45) := by omega
  rw [hcr] at hp ⊢
  rw [atoiAll_plain c r (by omega) (by omega), hp]
  unfold signless
  simp only
  rw [if_neg (by omega)]

/-! Words between separators. -/
theorem index_hit (c : UInt8) : ∀ (l r : List UInt8), c ∉ l → index (l ++ c :: r) [c] = (l.length : Int)
  | [], r, _ => by simp [index, List.isPrefixOf]
  | b :: l, r, h => by
    have hb : c ≠ b := fun e => h (by simp [e])
    have ih := index_hit c l r (fun e => h (by simp [e]))
    rw [List.cons_append, index, if_neg (by simp [List.isPrefixOf, hb]), ih, if_neg (by simp)]
    simp
theorem index_miss (c : UInt8) : ∀ (l : List UInt8), c ∉ l → index l [c] = -1
  | [], _ => by simp [index]
  | b :: l, h => by
    have hb : c ≠ b := fun e => h (by simp [e])
    rw [index, if_neg (by simp [List.isPrefixOf, hb]), index_miss c l (fun e => h (by simp [e]))]; rfl
theorem splitK_hit (c : UInt8) (k : Nat) (l r : List UInt8) (h : c ∉ l) : splitK [c] 0 (k + 1) (l ++ c :: r) = l :: splitK [c] 0 k r := by
  rw [splitK, index_hit c l r h, if_neg (by simp)]
  simp
theorem splitK_miss (c : UInt8) (k : Nat) (l : List UInt8) (h : c ∉ l) : splitK [c] 0 k l = [l] := by
  cases k with
  | zero => rfl
  | succ k => rw [splitK, index_miss c l h]; rfl
theorem dec_no (u : Nat) (c : UInt8) (hc : c.toNat < 48 ∨ 57 < c.toNat) : c ∉ decDigits u := fun h => by
  have := dec_dig u c h; omega
end Go.Proofs.YthpfomjibfbiiaaGreatDoor
