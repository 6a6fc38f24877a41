/- Beginnings of bytes. No program. -/
import Derived.Test.YtmbmhepmeajnoaaPure11
namespace Go.Proofs.Ytmbmhepmeajnoaa

/-- x is a beginning of b, and not empty. -/
def Good (b x : List UInt8) : Prop := x ≠ [] ∧ x.length ≤ b.length ∧ b.take x.length = x
theorem good_of (b x : List UInt8) (u : Nat) (h1 : u ≤ b.length) (h2 : b.take u = x) (h3 : x ≠ []) : Good b x := by
  have hl : x.length = u := by rw [← h2, List.length_take]; omega
  exact ⟨h3, by omega, by rw [hl]; exact h2⟩
theorem readF_take_ne {α : Type} (tag : UInt8) (z : α) (ok : List UInt8 → Bool) (val : List UInt8 → α) (m : List UInt8) (v : α) (used : Nat) (h : readF tag z ok val m = (v, 0, used)) : m.take used ≠ [] := by
  obtain ⟨cont, _, _, hl, _, ht⟩ := readF_inv _ _ _ _ _ _ _ h
  rw [ht]
  exact elem_ne _ _ hl
theorem int_good (b : List UInt8) (v : Int) (u : Nat) (h : readIntF b = (v, 0, u)) : Good b (encInt v) := by
  obtain ⟨h1, h2⟩ := readInt_inv _ _ _ h
  exact good_of _ _ u h1 h2 (by rw [← h2]; exact readF_take_ne _ _ _ _ _ _ _ h)
theorem time_good (b : List UInt8) (v : Int) (u : Nat) (h : readTimeF b = (v, 0, u)) : Good b (encTime v) := by
  obtain ⟨h1, h2, _⟩ := readTime_inv _ _ _ h
  exact good_of _ _ u h1 h2 (by rw [← h2]; exact readF_take_ne _ _ _ _ _ _ _ h)
theorem bits_good (b : List UInt8) (v : Int) (u : Nat) (h : readBitsF b = (v, 0, u)) : Good b (encBits v) ∧ 0 ≤ v ∧ v ≤ 4294967295 := by
  obtain ⟨h1, h2⟩ := readBits_inv _ _ _ h
  refine ⟨good_of _ _ u h1 h2 (by rw [← h2]; exact readF_take_ne _ _ _ _ _ _ _ h), ?_⟩
  obtain ⟨cont, rfl, hok, _, _, _⟩ := readF_inv _ _ _ _ _ _ _ h
  unfold bitsOk at hok
  simp only [Bool.and_eq_true, decide_eq_true_eq] at hok
  unfold bitsVal
  have := beNat_lt (cont.drop 1)
  have hl : (cont.drop 1).length = 4 := by rw [List.length_drop, hok.1]
  rw [hl] at this
  omega
theorem octets_good (b v : List UInt8) (u : Nat) (h : readOctetsF b = (v, 0, u)) : Good b (encOctets v) := by
  obtain ⟨h1, h2⟩ := readOctets_inv _ _ _ h
  exact good_of _ _ u h1 h2 (by rw [← h2]; exact readF_take_ne _ _ _ _ _ _ _ h)
theorem triple_good (b : List UInt8) (p v : Int) (c : List UInt8) (u : Nat) (hb : b.length ≤ 900) (h : tripleRd b = ((p, v, c), 0, u)) : Good b (tripleF p v c) := by
  obtain ⟨h1, h2, h3⟩ := tripleRd_inv b p v c u hb h
  exact good_of _ _ u h1 h2 h3
end Go.Proofs.Ytmbmhepmeajnoaa
