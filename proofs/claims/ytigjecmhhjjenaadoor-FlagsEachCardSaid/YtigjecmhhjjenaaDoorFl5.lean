/- Flags: what Parse makes of words; it inverts the string. -/
import Derived.Test.YtigjecmhhjjenaaDoorFl4
import Derived.Test.YtigjecmhhjjenaaDoorSplit
namespace Go.Proofs.YtigjecmhhjjenaaDoor
open Go Go.RowKit
set_option linter.unusedVariables false

def allW : W32 := orW tkM opM
def findK (l : List UInt8) : Option Nat := (bitsF allW).find? fun k => (nmS k).data.toList == l
/-- What Parse has when it ends, of what it has and of the words to come. -/
def parseW (f : W32) : List (List UInt8) → W32
  | [] => f
  | l :: r => match findK l with
    | none => f
    | some k => if (bitW k).toNat ≤ f.toNat then f else parseW (orW f (bitW k)) r
theorem parse_none {f : W32} {l : List UInt8} (r : List (List UInt8)) (h : ∀ k ∈ bitsF allW, (nmS k).data.toList ≠ l) : parseW f (l :: r) = f := by
  have : findK l = none := by
    unfold findK
    rw [List.find?_eq_none]
    intro k hk
    simpa using h k hk
  rw [parseW, this]
theorem find_at {l : List UInt8} {k : Nat} (h32 : k < 32) (hk : isF allW k = true) (h : ∀ j ∈ bitsTo allW k, (nmS j).data.toList ≠ l) (he : (nmS k).data.toList = l) : findK l = some k := by
  obtain ⟨rest, hr⟩ := bitsF_front allW (k + 1) (by omega)
  rw [bitsTo_yes hk] at hr
  unfold findK
  rw [hr, List.find?_append, List.find?_append]
  have : (bitsTo allW k).find? (fun k => (nmS k).data.toList == l) = none := by
    rw [List.find?_eq_none]
    intro j hj
    simpa using h j hj
  rw [this]
  simp [he]
theorem parse_stop {f : W32} {l : List UInt8} {k : Nat} (r : List (List UInt8)) (h : findK l = some k) (hle : (bitW k).toNat ≤ f.toNat) : parseW f (l :: r) = f := by
  rw [parseW, h]
  simp [hle]
theorem parse_go {f : W32} {l : List UInt8} {k : Nat} (r : List (List UInt8)) (h : findK l = some k) (hle : ¬ (bitW k).toNat ≤ f.toNat) : parseW f (l :: r) = parseW (orW f (bitW k)) r := by
  rw [parseW, h]
  simp [hle]
theorem find_names : ((List.range 32).all fun k => !(nameAt k).isSome || findK (nmS k).data.toList == some k) = true := by kernel_rfl
theorem find_name {f : W32} {k : Nat} (h32 : k < 32) (h : isF f k = true) : findK (nmS k).data.toList = some k := by
  have := (List.all_eq_true.1 find_names) k (by simpa using h32)
  unfold isF at h
  rw [Bool.and_eq_true] at h
  simpa [h.1] using this
theorem names_free : ((List.range 32).all fun k => (nmS k).data.toList.all fun c => c != 44) = true := by kernel_rfl
/-- The bits below n. -/
def lowW (f : W32) (n : Nat) : W32 := BitVec.ofNat 32 (f.toNat % 2 ^ n)
theorem lowW_nat (f : W32) (n : Nat) : (lowW f n).toNat = f.toNat % 2 ^ n := by
  unfold lowW
  rw [BitVec.toNat_ofNat]
  exact Nat.mod_eq_of_lt (Nat.lt_of_le_of_lt (Nat.mod_le _ _) f.isLt)
theorem bitW_nat (k : Nat) (h : k < 32) : (bitW k).toNat = 2 ^ k := by
  have h1 : (2 : Nat) ^ k < 4294967296 := Nat.lt_of_lt_of_le (Nat.pow_lt_pow_right (by decide) h) (by decide)
  unfold bitW
  rw [BitVec.toNat_shiftLeft, Nat.shiftLeft_eq]
  simp [Nat.mod_eq_of_lt h1]
theorem low_bit (f : W32) (n k : Nat) : (lowW f n).getLsbD k = (decide (k < n) && f.getLsbD k) := by
  rw [← BitVec.testBit_toNat, lowW_nat, Nat.testBit_mod_two_pow, BitVec.testBit_toNat]
theorem or_bit (x y : W32) (k : Nat) : (orW x y).getLsbD k = (x.getLsbD k || y.getLsbD k) := by simp [orW]
theorem low_yes {f : W32} {n : Nat} (hn : n < 32) (h : f.getLsbD n = true) : orW (lowW f n) (bitW n) = lowW f (n + 1) := by
  refine BitVec.eq_of_getLsbD_eq (fun k hk => ?_)
  rw [or_bit, low_bit, low_bit, bitW_bit n k hn]
  by_cases e : k = n
  · subst e; simp [h]
  · by_cases h2 : k < n
    · simp [h2, show k < n + 1 by omega, e]
    · simp [h2, show ¬ k < n + 1 by omega, e]
theorem low_no {f : W32} {n : Nat} (h : f.getLsbD n = false) : lowW f n = lowW f (n + 1) := by
  refine BitVec.eq_of_getLsbD_eq (fun k hk => ?_)
  rw [low_bit, low_bit]
  by_cases e : k = n
  · subst e; simp [h]
  · by_cases h2 : k < n
    · simp [h2, show k < n + 1 by omega]
    · simp [h2, show ¬ k < n + 1 by omega]
theorem parse_bits {f : W32} (hv : nmB f = true) : ∀ (m n : Nat), n + m = 32 → parseW (lowW f n) (((List.range' n m).filter (isF f)).map fun k => (nmS k).data.toList) = f
  | 0, n, h => by
    obtain rfl : n = 32 := by omega
    simp only [List.range'_zero, List.filter_nil, List.map_nil, parseW]
    refine BitVec.eq_of_toNat_eq ?_
    rw [lowW_nat]
    exact Nat.mod_eq_of_lt f.isLt
  | m + 1, n, h => by
    have ih := parse_bits hv m (n + 1) (by omega)
    rw [List.range'_succ, List.filter_cons]
    cases hb : isF f n with
    | true =>
      rw [if_pos rfl, List.map_cons, parse_go _ (find_name (by omega) hb) (by rw [bitW_nat n (by omega), lowW_nat]; have := Nat.mod_lt f.toNat (Nat.two_pow_pos n); omega), low_yes (by omega) (by rw [← isF_bit hv n (by omega)]; exact hb)]
      exact ih
    | false =>
      rw [if_neg (by simp), low_no (by rw [← isF_bit hv n (by omega)]; exact hb)]
      exact ih
theorem parse_text {f : W32} (hv : nmB f = true) (hz : f ≠ 0#32) : parseW 0#32 (splb 44 [] (joinF f)) = f := by
  have hn : ∀ m ∈ (nmL (bitsF f)).map (·.data.toList), ∀ c ∈ m, c ≠ 44 := by
    intro m hm c hc
    simp only [nmL, List.map_map, List.mem_map] at hm
    obtain ⟨k, hk, rfl⟩ := hm
    have h32 : k < 32 := by
      unfold bitsF bitsTo at hk
      rw [List.mem_filter] at hk
      simpa using hk.1
    have := (List.all_eq_true.1 names_free) k (by simpa using h32)
    have := (List.all_eq_true.1 this) c hc
    simpa using this
  have h0 := parse_bits hv 32 0 rfl
  have e0 : lowW f 0 = 0#32 := by
    refine BitVec.eq_of_toNat_eq ?_
    rw [lowW_nat]
    simp [Nat.mod_one]
  rw [e0] at h0
  have e1 : ((List.range' 0 32).filter (isF f)).map (fun k => (nmS k).data.toList) = (nmL (bitsF f)).map (·.data.toList) := by
    simp only [nmL, List.map_map, bitsF, bitsTo, List.range_eq_range']
    rfl
  rw [e1] at h0
  unfold joinF
  cases hl : (nmL (bitsF f)).map (·.data.toList) with
  | nil =>
    have := bitsF_ne hv hz
    have h1 := congrArg List.length hl
    simp [nmL] at h1
    rw [h1] at this
    simp at this
  | cons l r =>
    rw [hl] at h0 hn
    rw [splb_join 44 l r hn]
    exact h0
theorem parse_dash : parseW 0#32 (splb 44 [] [45]) = 0#32 := by kernel_rfl
theorem text_parse {f : W32} (hv : nmB f = true) : parseW 0#32 (splb 44 [] (textF f)) = f := by
  unfold textF
  by_cases hz : f = 0#32
  · subst hz; rw [if_pos rfl]; exact parse_dash
  · rw [if_neg hz]; exact parse_text hv hz
theorem textF_inj {f g : W32} (hf : nmB f = true) (hg : nmB g = true) (h : textF f = textF g) : f = g := by
  have a := text_parse hf
  rw [h, text_parse hg] at a
  exact a.symm
end Go.Proofs.YtigjecmhhjjenaaDoor
