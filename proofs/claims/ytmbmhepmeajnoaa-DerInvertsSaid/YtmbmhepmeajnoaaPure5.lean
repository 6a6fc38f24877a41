/- The other values read. No program. -/
import Derived.Test.YtmbmhepmeajnoaaPure4
namespace Go.Proofs.Ytmbmhepmeajnoaa
def boolOk (l : List UInt8) : Bool := decide (l.length = 1) && (l[0]?.getD 0 == 255 || l[0]?.getD 0 == 0)
def boolVal (l : List UInt8) : Bool := l[0]?.getD 0 == 255
def bitsOk (l : List UInt8) : Bool := decide (l.length = 5) && l[0]?.getD 0 == 0
def bitsVal (l : List UInt8) : Int := (beNat (l.drop 1) : Int)
def tmOk (l : List UInt8) : Bool := decide (l.length = 6) && decide ((beNat l : Int) ≤ 1099511627776)
def tmVal (l : List UInt8) : Int := (beNat l : Int)
def readBoolF : List UInt8 → Bool × Nat × Nat := readF 1 false boolOk boolVal
def readBitsF : List UInt8 → Int × Nat × Nat := readF 3 0 bitsOk bitsVal
def readOctetsF : List UInt8 → List UInt8 × Nat × Nat := readF 4 [] (fun _ => true) id
def readTimeF : List UInt8 → Int × Nat × Nat := readF 24 0 tmOk tmVal
def readStringF : List UInt8 → List UInt8 × Nat × Nat := readF 27 [] (fun _ => true) id
/-- A reader of contents: none, or the contents. -/
def readInF (tag : UInt8) : List UInt8 → Option (List UInt8) × Nat × Nat := readF tag none (fun _ => true) some
theorem readF_used {α : Type} (tag : UInt8) (z : α) (ok : List UInt8 → Bool) (val : List UInt8 → α) (m : List UInt8) (v : α) (er used : Nat) (h : readF tag z ok val m = (v, er, used)) : used ≤ m.length := by
  unfold readF at h
  have hu := takeF_used tag m (takeF tag m).1 (takeF tag m).2.1 (takeF tag m).2.2 rfl
  split at h
  · simp only [Prod.mk.injEq] at h; omega
  · split at h
    · simp only [Prod.mk.injEq] at h; omega
    · simp only [Prod.mk.injEq] at h; omega
end Go.Proofs.Ytmbmhepmeajnoaa
