/- Tagged elements, fields and triples, as they are read. No program. -/
import Derived.Test.YtgclchdccgkjaaaDoorMg17
import Derived.Test.YtgclchdccgkjaaaDoorPure7
namespace Go.Proofs.YtgclchdccgkjaaaDoor

def tagB (n : Nat) : UInt8 := UInt8.ofNat (160 + n)
theorem tagB_nat (n : Nat) (h : n ≤ 30) : (tagB n).toNat = 160 + n := by unfold tagB; simp only [UInt8.toNat_ofNat']; omega
/-- A tagged element, if it is there: the contents; whether; the error; how many bytes are passed. -/
def taggedF (n : Nat) (m : List UInt8) : Option (List UInt8) × Bool × Nat × Nat :=
  if m = [] ∨ m[0]?.getD 0 ≠ tagB n then (none, false, 0, 0)
  else ((readInF (tagB n) m).1, decide ((readInF (tagB n) m).2.1 = 0), (readInF (tagB n) m).2.1, (readInF (tagB n) m).2.2)
/-- A field: the value, the error, how many bytes are passed. -/
def fieldF {α : Type} (z : α) (rd : List UInt8 → α × Nat × Nat) (n : Nat) (m : List UInt8) : α × Nat × Nat :=
  if (taggedF n m).2.2.1 ≠ 0 then (z, (taggedF n m).2.2.1, 0)
  else if (taggedF n m).2.1 = false then (z, if m = [] then 4 else 6, 0)
  else if (rd ((taggedF n m).1.getD [])).2.1 ≠ 0 then (z, (rd ((taggedF n m).1.getD [])).2.1, 0)
  else if (rd ((taggedF n m).1.getD [])).2.2 < ((taggedF n m).1.getD []).length then (z, 6, 0)
  else ((rd ((taggedF n m).1.getD [])).1, 0, (taggedF n m).2.2.2)
/-- The fields of a key or of a sealed string: the contents of the sequence are given. -/
def tripleIn (x : List UInt8) : (Int × Int × List UInt8) × Nat :=
  let p := fieldF 0 readIntF 0 x
  if p.2.1 ≠ 0 then ((0, 0, []), p.2.1) else
  let v := fieldF 0 readIntF 1 (x.drop p.2.2)
  if v.2.1 ≠ 0 then ((0, 0, []), v.2.1) else
  let b := fieldF [] readOctetsF 2 (x.drop (p.2.2 + v.2.2))
  if b.2.1 ≠ 0 then ((0, 0, []), b.2.1) else
  if p.2.2 + v.2.2 + b.2.2 < x.length then ((0, 0, []), 6) else ((p.1, v.1, b.1), 0)
def tripleRd (m : List UInt8) : (Int × Int × List UInt8) × Nat × Nat :=
  if (readInF 48 m).2.1 ≠ 0 then ((0, 0, []), (readInF 48 m).2.1, 0)
  else if (tripleIn ((readInF 48 m).1.getD [])).2 ≠ 0 then ((0, 0, []), (tripleIn ((readInF 48 m).1.getD [])).2, 0)
  else ((tripleIn ((readInF 48 m).1.getD [])).1, 0, (readInF 48 m).2.2)
/-- What a reader of contents finds: contents just where there is no error. -/
theorem readIn_cases (tag : UInt8) (m : List UInt8) : (∃ x, readInF tag m = (some x, 0, (readInF tag m).2.2) ∧ x.length ≤ m.length) ∨ (∃ er, er ≠ 0 ∧ readInF tag m = (none, er, 0)) := by
  unfold readInF readF
  by_cases h : (takeF tag m).2.1 ≠ 0
  · right; rw [if_pos h]; exact ⟨_, h, rfl⟩
  · left; rw [if_neg h, if_pos rfl]
    exact ⟨_, rfl, takeF_cont tag m _ _ _ rfl⟩
theorem tagged_cases (n : Nat) (m : List UInt8) : (taggedF n m = (none, false, 0, 0) ∧ (m = [] ∨ m[0]?.getD 0 ≠ tagB n)) ∨
    ((m ≠ [] ∧ m[0]?.getD 0 = tagB n) ∧ ((∃ x used, taggedF n m = (some x, true, 0, used) ∧ readInF (tagB n) m = (some x, 0, used) ∧ x.length ≤ m.length) ∨ (∃ er, er ≠ 0 ∧ taggedF n m = (none, false, er, 0) ∧ readInF (tagB n) m = (none, er, 0)))) := by
  by_cases h : m = [] ∨ m[0]?.getD 0 ≠ tagB n
  · left; exact ⟨by unfold taggedF; rw [if_pos h], h⟩
  · right
    refine ⟨⟨fun e => h (.inl e), by_contra' (fun e => h (.inr e))⟩, ?_⟩
    rcases readIn_cases (tagB n) m with ⟨x, hx, hl⟩ | ⟨er, he, hx⟩
    · left
      refine ⟨x, (readInF (tagB n) m).2.2, ?_, hx, hl⟩
      unfold taggedF
      rw [if_neg h, hx]
      simp
    · right
      refine ⟨er, he, ?_, hx⟩
      unfold taggedF
      rw [if_neg h, hx]
      simp [he]
where by_contra' {p : Prop} (h : ¬ ¬ p) : p := Classical.byContradiction h
end Go.Proofs.YtgclchdccgkjaaaDoor
