/- Data as they are read. No program. -/
import Derived.Test.YtmbmhepmeajnoaaPure10
namespace Go.Proofs.Ytmbmhepmeajnoaa

theorem encInt_lt (v : Int) : (encInt v).length < 1000 := by
  unfold encInt
  split
  · have := elem_le 2 (beBytes v (intSize v))
    rw [beBytes_length] at this
    have := intSize_le v
    omega
  · simp
theorem encTag_ge (n : Nat) (l : List UInt8) (hn : n ≤ 30) (hl : l.length < 16777216) (hne : l ≠ []) : l.length ≤ (encTag n l).length := by
  rw [encTag_shape n l hn hne, elem_shape _ _ hl]
  simp; omega
theorem octets_le (b : List UInt8) (h5 : encOctets b ≠ []) : b.length < 16777216 ∧ b.length ≤ (encOctets b).length := by
  have hb : b.length < 16777216 := by
    apply Classical.byContradiction
    intro hb
    apply h5
    unfold encOctets elem
    rw [if_neg hb]
  exact ⟨hb, by unfold encOctets; rw [elem_shape _ _ hb]; simp; omega⟩
theorem pair_inv (x : List UInt8) (k : Int) (b : List UInt8) (u0 u1 : Nat) (h0 : fieldF 0 readIntF 0 x = (k, 0, u0)) (h1 : fieldF [] readOctetsF 1 (x.drop u0) = (b, 0, u1)) (h2 : ¬ u0 + u1 < x.length) (hx : x.length ≤ 900) : elem 48 x = pairF k b ∧ pairF k b ≠ [] := by
  have i0 := field_inv 0 readIntF encInt (fun m v u h => readInt_inv m v u h) (by unfold readIntF; rw [readF_nil]; simp) 0 (by omega) x k u0 h0
  have i1 := field_inv [] readOctetsF encOctets (fun m v u h => readOctets_inv m v u h) (by unfold readOctetsF; rw [readF_nil]; simp) 1 (by omega) (x.drop u0) b u1 h1
  have hx2 : x = encTag 0 (encInt k) ++ encTag 1 (encOctets b) := by
    have hx : x = x.take (u0 + u1) := (List.take_of_length_le (by omega)).symm
    rw [hx, take_add, i0.2.1, i1.2.1]
  have hlx : x.length = (encTag 0 (encInt k)).length + (encTag 1 (encOctets b)).length := by rw [hx2]; simp
  have l1 := encTag_ge 1 (encOctets b) (by omega) i1.2.2.2 i1.2.2.1
  have l2 := octets_le b i1.2.2.1
  have l3 := encInt_lt k
  have e := pairF_eq k b (by omega) (by omega)
  rw [if_neg i0.2.2.1] at e
  rw [e]
  refine ⟨?_, twoF_ne k b (by omega) (by omega)⟩
  unfold twoF encSeq
  rw [hx2]
  simp
theorem data_inv (x : List UInt8) (L : List (Int × List UInt8)) (h : x = (L.map fun q => pairF q.1 q.2).flatten) (hn : ∀ q ∈ L, pairF q.1 q.2 ≠ []) (hl : L.length ≤ 16) : elem 48 x = dataF L := by
  unfold dataF wholeF
  rw [if_neg (by omega), if_neg]
  · unfold encSeq
    rw [h]
  · rw [List.mem_map]
    rintro ⟨q, hq, he⟩
    exact hn q hq he
theorem readIn_pos (tag : UInt8) (m x : List UInt8) (used : Nat) (h : readInF tag m = (some x, 0, used)) : 0 < used := by
  obtain ⟨j1, j2, j3⟩ := readIn_inv _ _ _ _ h
  rcases Nat.eq_zero_or_pos used with h0 | h0
  · subst h0
    rw [elem_shape _ _ j2] at j3
    simp at j3
  · exact h0
end Go.Proofs.Ytmbmhepmeajnoaa
