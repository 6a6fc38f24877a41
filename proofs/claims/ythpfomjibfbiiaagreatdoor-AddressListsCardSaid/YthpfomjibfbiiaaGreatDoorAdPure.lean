/- Address: plain functions. No program. -/
import Derived.Test.YthpfomjibfbiiaaGreatDoorDec
import Derived.Lib.Join
namespace Go.Proofs.YthpfomjibfbiiaaGreatDoor
open Go.Lib
set_option linter.unusedVariables false

/-- A hexadecimal digit. -/
def hxc (d : Nat) : UInt8 := if d < 10 then UInt8.ofNat (48 + d) else UInt8.ofNat (87 + d)
/-- The hexadecimal digits of a number, no zero ahead. -/
def hexD (n : Nat) : List UInt8 := if h : n < 16 then [hxc n] else hexD (n / 16) ++ [hxc (n % 16)]
termination_by n
decreasing_by omega
/-- The value of a hexadecimal digit; the small letters alone, or all. -/
def hxv (c : UInt8) : Option Nat := if 48 ≤ c.toNat ∧ c.toNat ≤ 57 then some (c.toNat - 48) else if 97 ≤ c.toNat ∧ c.toNat ≤ 102 then some (c.toNat - 87) else if 65 ≤ c.toNat ∧ c.toNat ≤ 70 then some (c.toNat - 55) else none
/-- What ParseUint finds at base 16 and 16 bits, behind acc. -/
def pu16 (acc : Nat) : List UInt8 → Option Nat
  | [] => some acc
  | c :: r => match hxv c with
    | none => none
    | some d => if 65535 < acc * 16 + d then none else pu16 (acc * 16 + d) r
def pu16w (l : List UInt8) : Option Nat := if l = [] then none else pu16 0 l
/-- The same at base 10 and 8 bits. -/
def pu8 (acc : Nat) : List UInt8 → Option Nat
  | [] => some acc
  | c :: r => if 48 ≤ c.toNat ∧ c.toNat ≤ 57 then (if 255 < acc * 10 + (c.toNat - 48) then none else pu8 (acc * 10 + (c.toNat - 48)) r) else none
def pu8w (l : List UInt8) : Option Nat := if l = [] then none else pu8 0 l

theorem hxc_lt (d : Nat) (h : d < 16) : (hxc d).toNat = if d < 10 then 48 + d else 87 + d := by
  unfold hxc; split <;> simp [UInt8.toNat_ofNat'] <;> omega
theorem hxv_hxc (d : Nat) (h : d < 16) : hxv (hxc d) = some d := by
  have e := hxc_lt d h
  unfold hxv
  rw [e]
  split at e
  · next hd => rw [if_pos hd, if_pos (by omega)]; congr 1; omega
  · next hd => rw [if_neg hd, if_neg (by omega), if_pos (by omega)]; congr 1; omega
theorem hexD_lo {n : Nat} (h : n < 16) : hexD n = [hxc n] := by rw [hexD, dif_pos h]
theorem hexD_hi {n : Nat} (h : ¬ n < 16) : hexD n = hexD (n / 16) ++ [hxc (n % 16)] := by rw [hexD, dif_neg h]
theorem hexD_ne (n : Nat) : hexD n ≠ [] := by
  by_cases h : n < 16
  · rw [hexD_lo h]; simp
  · rw [hexD_hi h]; simp
theorem hexD_dig (n : Nat) : ∀ c ∈ hexD n, (48 ≤ c.toNat ∧ c.toNat ≤ 57) ∨ (97 ≤ c.toNat ∧ c.toNat ≤ 102) := by
  induction n using Nat.strongRecOn with
  | _ n ih =>
    intro c hc
    by_cases h : n < 16
    · rw [hexD_lo h] at hc
      simp only [List.mem_singleton] at hc
      subst hc
      rw [hxc_lt n h]; split <;> omega
    · rw [hexD_hi h] at hc
      rcases List.mem_append.1 hc with hc | hc
      · exact ih (n / 16) (by omega) c hc
      · simp only [List.mem_singleton] at hc
        subst hc
        rw [hxc_lt _ (by omega)]; split <;> omega
theorem hexD_no (n : Nat) (x : UInt8) (hx : x.toNat < 48 ∨ (57 < x.toNat ∧ x.toNat < 97) ∨ 102 < x.toNat) : x ∉ hexD n := fun h => by
  have := hexD_dig n x h; omega
theorem hexD_len (n : Nat) (h : n < 65536) : (hexD n).length ≤ 4 := by
  by_cases h1 : n < 16
  · rw [hexD_lo h1]; simp
  · rw [hexD_hi h1]
    by_cases h2 : n / 16 < 16
    · rw [hexD_lo h2]; simp
    · rw [hexD_hi h2]
      by_cases h3 : n / 16 / 16 < 16
      · rw [hexD_lo h3]; simp
      · rw [hexD_hi h3, hexD_lo (by omega)]; simp
theorem pu16_hex (n : Nat) (h : n < 65536) (r : List UInt8) : pu16 0 (hexD n ++ r) = pu16 n r := by
  induction n using Nat.strongRecOn generalizing r with
  | _ n ih =>
    by_cases h16 : n < 16
    · rw [hexD_lo h16, List.singleton_append, pu16, hxv_hxc n h16]
      simp only
      rw [if_neg (by omega)]
      congr 1; omega
    · rw [hexD_hi h16, List.append_assoc, ih (n / 16) (by omega) (by omega), List.singleton_append, pu16, hxv_hxc _ (by omega)]
      simp only
      rw [if_neg (by omega)]
      congr 1; omega
theorem pu16w_hex (n : Nat) (h : n < 65536) : pu16w (hexD n) = some n := by
  have := pu16_hex n h []
  rw [List.append_nil] at this
  unfold pu16w
  rw [if_neg (hexD_ne n), this]; rfl
theorem pu16_le : ∀ (l : List UInt8) (acc v : Nat), acc ≤ 65535 → pu16 acc l = some v → v ≤ 65535
  | [], acc, v, ha, h => by simp only [pu16, Option.some.injEq] at h; omega
  | c :: r, acc, v, ha, h => by
    rw [pu16] at h
    cases hc : hxv c with
    | none => rw [hc] at h; cases h
    | some d =>
      rw [hc] at h
      simp only at h
      split at h
      · cases h
      · exact pu16_le r _ v (by omega) h
theorem pu16w_le {l : List UInt8} {v : Nat} (h : pu16w l = some v) : v ≤ 65535 := by
  unfold pu16w at h
  split at h
  · cases h
  · exact pu16_le _ _ _ (by omega) h
theorem pu8_dec (n : Nat) (h : n < 256) (r : List UInt8) : pu8 0 (decDigits n ++ r) = pu8 n r := by
  induction n using Nat.strongRecOn generalizing r with
  | _ n ih =>
    by_cases h10 : n < 10
    · rw [dec_lo n h10, List.singleton_append, pu8, u8_dig n h10, if_pos (by omega), if_neg (by omega)]
      congr 1; omega
    · rw [dec_hi n h10, List.append_assoc, ih (n / 10) (by omega) (by omega), List.singleton_append, pu8, u8_dig _ (by omega), if_pos (by omega), if_neg (by omega)]
      congr 1; omega
theorem pu8w_dec (n : Nat) (h : n < 256) : pu8w (decDigits n) = some n := by
  have := pu8_dec n h []
  rw [List.append_nil] at this
  unfold pu8w
  rw [if_neg (dec_ne n), this]; rfl
theorem pu8_le : ∀ (l : List UInt8) (acc v : Nat), acc ≤ 255 → pu8 acc l = some v → v ≤ 255
  | [], acc, v, ha, h => by simp only [pu8, Option.some.injEq] at h; omega
  | c :: r, acc, v, ha, h => by
    rw [pu8] at h
    split at h
    · split at h
      · cases h
      · exact pu8_le r _ v (by omega) h
    · cases h
theorem pu8w_le {l : List UInt8} {v : Nat} (h : pu8w l = some v) : v ≤ 255 := by
  unfold pu8w at h
  split at h
  · cases h
  · exact pu8_le _ _ _ (by omega) h

/-! The string of an address. -/
/-- A visible byte. -/
def visB (c : UInt8) : Bool := decide (33 ≤ c.toNat ∧ c.toNat ≤ 126)
/-- Validity. -/
def okA (k : Int) (b : List UInt8) : Bool :=
  if k = 2 then b.length == 4 else if k = 24 then b.length == 16 else if k = 20 then (decide (1 ≤ b.length ∧ b.length ≤ 16) && b.all visB) else false
/-- The words of bytes. -/
def wds : List UInt8 → List Nat
  | a :: b :: r => (256 * a.toNat + b.toNat) :: wds r
  | _ => []
/-- How many zeros a list begins with. -/
def zrs : List Nat → Nat
  | 0 :: r => zrs r + 1
  | _ => 0
/-- The longest row of zeros, the first one: where it begins, its length; i is where the list begins. -/
def bst (i : Nat) (l : List Nat) (bg ln : Nat) : Nat × Nat := match l with
  | [] => (bg, ln)
  | x :: r => if ln < zrs (x :: r) then bst (i + 1) r i (zrs (x :: r)) else bst (i + 1) r bg ln
def hjoin (l : List Nat) : List UInt8 := join (l.map hexD) [58]
def txt6w (g : List Nat) (bg ln : Nat) : List UInt8 :=
  if ln < 2 then [91] ++ (hjoin g ++ [93]) else [91] ++ (hjoin (g.take bg) ++ ([58, 58] ++ (hjoin (g.drop (bg + ln)) ++ [93])))
def txt6 (b : List UInt8) : List UInt8 := txt6w (wds b) (bst 0 (wds b) 0 0).1 (bst 0 (wds b) 0 0).2
def txt4 (b : List UInt8) : List UInt8 := join (b.map fun c => decDigits c.toNat) [46]
def txtH (b : List UInt8) : List UInt8 := [104, 111, 115, 116, 47] ++ b
/-- The string of a valid address. -/
def txtA (k : Int) (b : List UInt8) : List UInt8 := if k = 2 then txt4 b else if k = 24 then txt6 b else txtH b
end Go.Proofs.YthpfomjibfbiiaaGreatDoor
