/- Integers read. No program. -/
import Derived.Test.YtmbmhepmeajnoaaPure3
namespace Go.Proofs.Ytmbmhepmeajnoaa
/-- A byte with its sign. -/
def s8 (b : UInt8) : Int := if b.toNat < 128 then (b.toNat : Int) else (b.toNat : Int) - 256
/-- The integer in bytes, the highest first, with its sign. -/
def sInt : List UInt8 → Int
  | [] => 0
  | b :: t => t.foldl (fun v c => v * 256 + (c.toNat : Int)) (s8 b)
theorem sInt_one (l : List UInt8) (h : 0 < l.length) : sInt (l.take 1) = s8 l[0] := by
  match l, h with
  | b :: t, _ => simp [sInt]
theorem sInt_succ (l : List UInt8) (k : Nat) (h : k + 1 < l.length) : sInt (l.take (k + 1 + 1)) = sInt (l.take (k + 1)) * 256 + (l[k + 1].toNat : Int) := by
  match l, h with
  | b :: t, h =>
    have ht : k < t.length := by simpa using h
    rw [List.take_succ_cons, List.take_succ_cons, List.take_succ_eq_append_getElem ht]
    simp only [sInt, List.foldl_append, List.foldl_cons, List.foldl_nil, List.getElem_cons_succ]
theorem s8_bd (b : UInt8) : -128 ≤ s8 b ∧ s8 b < 128 := by
  have := b.toNat_lt
  unfold s8; split <;> omega
theorem sInt_bd (l : List UInt8) : ∀ k, k < l.length → -(128 * 256 ^ k) ≤ sInt (l.take (k + 1)) ∧ sInt (l.take (k + 1)) < 128 * 256 ^ k
  | 0, h => by
    rw [sInt_one l h]
    have := s8_bd l[0]
    simpa using this
  | k + 1, h => by
    have ih := sInt_bd l k (by omega)
    rw [sInt_succ l k h, Int.pow_succ]
    have := l[k + 1].toNat_lt
    generalize (256 : Int) ^ k = p at *
    omega
/-- What the closure of Integer hands back. -/
def intOk (l : List UInt8) : Bool := decide (1 ≤ l.length) && decide (l.length ≤ 8) && (encInt (sInt l) == elem 2 l)
/-- A value read by its contents: the value, the error, the bytes passed. -/
def readF {α : Type} (tag : UInt8) (z : α) (ok : List UInt8 → Bool) (val : List UInt8 → α) (m : List UInt8) : α × Nat × Nat :=
  if (takeF tag m).2.1 ≠ 0 then (z, (takeF tag m).2.1, 0) else if ok (takeF tag m).1 then (val (takeF tag m).1, 0, (takeF tag m).2.2) else (z, 6, 0)
def readIntF : List UInt8 → Int × Nat × Nat := readF 2 0 intOk sInt
end Go.Proofs.Ytmbmhepmeajnoaa
