/- Texts laid together (wip/tools/automerge.py): RowF, Pure. -/
import Derived.Test.YtigjecmhhjjenaaDoorMg2
namespace Go.Proofs.YtigjecmhhjjenaaDoor
open Go Go.RowKit
/-- No condition. -/
def NoEnv (_ : World) : Prop := True
theorem noenv (w : World) : NoEnv w := trivial
end Go.Proofs.YtigjecmhhjjenaaDoor
namespace Go.Proofs.YtigjecmhhjjenaaDoor

def encLen (n : Nat) : List UInt8 :=
  if n < 128 then [UInt8.ofNat n] else if n < 256 then [0x81, UInt8.ofNat n] else if n < 65536 then [0x82, UInt8.ofNat (n / 256), UInt8.ofNat n]
  else [0x83, UInt8.ofNat (n / 65536), UInt8.ofNat (n / 256), UInt8.ofNat n]
theorem encLen_le (n : Nat) : (encLen n).length ≤ 4 := by unfold encLen; (repeat' split) <;> simp
def elem (t : UInt8) (l : List UInt8) : List UInt8 := if l.length < 16777216 then t :: (encLen l.length ++ l) else []
theorem elem_le (t : UInt8) (l : List UInt8) : (elem t l).length ≤ l.length + 5 := by
  unfold elem
  split
  · have := encLen_le l.length
    simp only [List.length_cons, List.length_append]; omega
  · simp

/-- The sum of the lengths of the first k. -/
def sumLen (ls : List (List UInt8)) (k : Nat) : Nat := (ls.take k).flatten.length
theorem sumLen_zero (ls : List (List UInt8)) : sumLen ls 0 = 0 := by simp [sumLen]
theorem flatten_take_succ (ls : List (List UInt8)) (k : Nat) (h : k < ls.length) : (ls.take (k + 1)).flatten = (ls.take k).flatten ++ ls[k] := by
  rw [List.take_succ_eq_append_getElem h, List.flatten_append]; simp only [List.flatten_cons, List.flatten_nil, List.append_nil]
theorem sumLen_succ (ls : List (List UInt8)) (k : Nat) (h : k < ls.length) : sumLen ls (k + 1) = sumLen ls k + ls[k].length := by
  unfold sumLen; rw [flatten_take_succ ls k h]; simp
theorem sumLen_le (ls : List (List UInt8)) (k : Nat) : sumLen ls k ≤ ls.flatten.length := by
  unfold sumLen
  conv => rhs; rw [← List.take_append_drop k ls]
  rw [List.flatten_append, List.length_append]; omega
theorem sumLen_all (ls : List (List UInt8)) : sumLen ls ls.length = ls.flatten.length := by simp [sumLen]

/-- Byte number j of an integer, from the low end. -/
def byteAt (v : Int) (j : Nat) : UInt8 := UInt8.ofNat ((v / 2 ^ (8 * j)) % 256).toNat
theorem byteAt_toNat (v : Int) (j : Nat) : ((byteAt v j).toNat : Int) = (v / 2 ^ (8 * j)) % 256 := by
  have h0 : 0 ≤ (v / 2 ^ (8 * j)) % 256 := Int.emod_nonneg _ (by omega)
  have h1 : (v / 2 ^ (8 * j)) % 256 < 256 := Int.emod_lt_of_pos _ (by omega)
  unfold byteAt
  simp only [UInt8.toNat_ofNat']
  omega
/-- The last n bytes, the highest first. -/
def beBytes (v : Int) (n : Nat) : List UInt8 := (List.range n).reverse.map (byteAt v)
theorem beBytes_length (v : Int) (n : Nat) : (beBytes v n).length = n := by simp [beBytes]
theorem beBytes_succ (v : Int) (n : Nat) : beBytes v (n + 1) = byteAt v n :: beBytes v n := by simp [beBytes, List.range_succ]
/-- What 'number' holds after k rounds. -/
def numPart (v : Int) (n k : Nat) : List UInt8 := List.replicate (n - k) 0 ++ beBytes v k
theorem numPart_length (v : Int) (n k : Nat) (h : k ≤ n) : (numPart v n k).length = n := by simp [numPart, beBytes_length]; omega
theorem numPart_zero (v : Int) (n : Nat) : numPart v n 0 = List.replicate n 0 := by simp [numPart, beBytes]
theorem numPart_all (v : Int) (n : Nat) : numPart v n n = beBytes v n := by simp [numPart]
theorem numPart_succ (v : Int) (n k : Nat) (h : k < n) : numPart v n (k + 1) = (numPart v n k).set (n - 1 - k) (byteAt v k) := by
  unfold numPart
  rw [beBytes_succ]
  have e : n - k = (n - (k + 1)) + 1 := by omega
  rw [e, List.replicate_succ', List.append_assoc, List.set_append_right _ _ (by simp; omega)]
  have e2 : n - 1 - k - (List.replicate (n - (k + 1)) (0 : UInt8)).length = 0 := by simp; omega
  rw [e2]
  rfl

/-- n bytes hold the number. -/
def fits (v : Int) (n : Nat) : Bool := decide (-(128 * 256 ^ (n - 1)) ≤ v) && decide (v < 128 * 256 ^ (n - 1))
def szF : Nat → Int → Nat → Nat
  | 0, _, n => n
  | f + 1, v, n => if fits v n then n else szF f v (n + 1)
/-- How many bytes an integer takes, at most 8. -/
def intSize (v : Int) : Nat := szF 7 v 1
theorem szF_le : ∀ (f : Nat) (v : Int) (n : Nat), szF f v n ≤ n + f
  | 0, _, n => by simp [szF]
  | f + 1, v, n => by
    unfold szF
    split
    · omega
    · have := szF_le f v (n + 1); omega
theorem szF_ge : ∀ (f : Nat) (v : Int) (n : Nat), n ≤ szF f v n
  | 0, _, n => by simp [szF]
  | f + 1, v, n => by
    unfold szF
    split
    · omega
    · have := szF_ge f v (n + 1); omega
theorem intSize_le (v : Int) : intSize v ≤ 8 := szF_le 7 v 1
theorem intSize_ge (v : Int) : 1 ≤ intSize v := szF_ge 7 v 1
def inRange (v : Int) : Bool := decide (-4611686018427387904 ≤ v) && decide (v ≤ 4611686018427387904)
theorem inRange_iff (v : Int) : inRange v = true ↔ -4611686018427387904 ≤ v ∧ v ≤ 4611686018427387904 := by simp [inRange]
theorem fits_8 (v : Int) (h : inRange v = true) : fits v 8 = true := by
  rw [inRange_iff] at h
  simp only [fits, Bool.and_eq_true, decide_eq_true_eq]
  have e : (128 * 256 ^ (8 - 1) : Int) = 9223372036854775808 := by decide
  rw [e]; omega
theorem div_pow_lo (v : Int) (p : Int) (hp : 0 < p) : v / p < -128 ↔ v < -(128 * p) := by
  rw [Int.ediv_lt_iff_lt_mul hp]
  constructor <;> intro h <;> simpa [Int.neg_mul] using h
theorem div_pow_hi (v : Int) (p : Int) (hp : 0 < p) : 127 < v / p ↔ 128 * p ≤ v := by
  rw [← Int.le_ediv_iff_mul_le hp]
  omega
theorem fits_iff (v : Int) (n : Nat) : fits v n = true ↔ ¬ (v / 256 ^ (n - 1) < -128) ∧ ¬ (127 < v / 256 ^ (n - 1)) := by
  have hp : (0 : Int) < 256 ^ (n - 1) := Int.pow_pos (by omega)
  rw [div_pow_lo v _ hp, div_pow_hi v _ hp]
  simp only [fits, Bool.and_eq_true, decide_eq_true_eq]
  omega
theorem szF_no (v : Int) (k : Nat) (hk : k < 8) (h : fits v k = false) : szF (8 - k) v k = szF (8 - (k + 1)) v (k + 1) := by
  obtain ⟨m, hm⟩ : ∃ m, 8 - k = m + 1 := ⟨7 - k, by omega⟩
  rw [hm, show 8 - (k + 1) = m by omega]
  simp [szF, h]
theorem szF_yes (v : Int) (k : Nat) (h : fits v k = true) : szF (8 - k) v k = k := by
  rcases Nat.eq_zero_or_pos (8 - k) with h0 | h0
  · rw [h0]; rfl
  · obtain ⟨m, hm⟩ : ∃ m, 8 - k = m + 1 := ⟨7 - k, by omega⟩
    rw [hm]; simp [szF, h]
theorem div_step (v : Int) (k : Nat) (hk : 1 ≤ k) : v / 256 ^ (k - 1) / 256 = v / 256 ^ (k + 1 - 1) := by
  have hp : (0 : Int) < 256 ^ (k - 1) := Int.pow_pos (by omega)
  rw [Int.ediv_ediv, if_neg (by omega), ← Int.pow_succ, Int.sub_zero]
  congr 2; omega
def encInt (v : Int) : List UInt8 := if inRange v then elem 2 (beBytes v (intSize v)) else []
end Go.Proofs.YtigjecmhhjjenaaDoor
