/- Texts laid together (wip/tools/automerge.py): Der19, Pure11. -/
import Derived.Test.YthpfomjibfbiiaaGreatDoorDer18
import Derived.Test.YthpfomjibfbiiaaGreatDoorMg11
import Derived.Test.YthpfomjibfbiiaaGreatDoorMg37
namespace Go.Proofs.YthpfomjibfbiiaaGreatDoor
open Go Go.RowKit

theorem tripleRd_no (m : List UInt8) (er : Nat) (he : er ≠ 0) (h : readInF 48 m = (none, er, 0)) : tripleRd m = ((0, 0, []), er, 0) := by
  unfold tripleRd
  rw [h]
  simp only
  rw [if_pos he]
theorem tripleRd_in (m x : List UInt8) (us : Nat) (h : readInF 48 m = (some x, 0, us)) (p0 : Int) (e0 u0 : Nat) (h0 : fieldF 0 readIntF 0 x = (p0, e0, u0)) (p1 : Int) (e1 u1 : Nat) (h1 : fieldF 0 readIntF 1 (x.drop u0) = (p1, e1, u1))
    (b : List UInt8) (e2 u2 : Nat) (h2 : fieldF [] readOctetsF 2 (x.drop (u0 + u1)) = (b, e2, u2)) :
    (e0 ≠ 0 → tripleRd m = ((0, 0, []), e0, 0)) ∧ (e0 = 0 → e1 ≠ 0 → tripleRd m = ((0, 0, []), e1, 0)) ∧ (e0 = 0 → e1 = 0 → e2 ≠ 0 → tripleRd m = ((0, 0, []), e2, 0)) ∧
    (e0 = 0 → e1 = 0 → e2 = 0 → u0 + u1 + u2 < x.length → tripleRd m = ((0, 0, []), 6, 0)) ∧ (e0 = 0 → e1 = 0 → e2 = 0 → ¬ u0 + u1 + u2 < x.length → tripleRd m = ((p0, p1, b), 0, us)) := by
  have hu : tripleRd m = if (tripleIn x).2 ≠ 0 then ((0, 0, []), (tripleIn x).2, 0) else ((tripleIn x).1, 0, us) := by
    unfold tripleRd
    rw [h]
    simp
  rw [hu]
  unfold tripleIn
  simp only [h0, h1, h2]
  refine ⟨fun a => ?_, fun a b => ?_, fun a b c => ?_, fun a b c d => ?_, fun a b c d => ?_⟩
  · simp [a]
  · simp [a, b]
  · simp [a, b, c]
  · simp [a, b, c, d]
  · simp only [a, b, c, d, ne_eq, not_true_eq_false, if_false]
/-- What readTriple leaves. -/
def TripPost (w : World) (g : Nat) (l : List UInt8) (k : Nat) (R : (Int × Int × List UInt8) × Nat × Nat) (Z : Value → Value → Value → Value) (e : Ending) (w' : World) : Prop :=
  w.grownBy w' (some g) ∧ ((R.2.1 = 0 ∧ RD 72 w' g l (k + R.2.2) ∧ ∃ A c, e = .returned (Z (.int .i64 R.1.1) (.int .i64 R.1.2.1) (.slice A R.1.2.2.length c)) ∧ OB 5 w' w.heap.size (.slice A R.1.2.2.length c) R.1.2.2) ∨ (R.2.1 ≠ 0 ∧ (∃ k', RD 72 w' g l k') ∧ e = erp R.2.1))
theorem TripPost.no {w : World} {g : Nat} {l : List UInt8} {k : Nat} {R : (Int × Int × List UInt8) × Nat × Nat} {Z : Value → Value → Value → Value} {w' : World} {er : Nat} (hg : w.grownBy w' (some g)) (hR : R = ((0, 0, []), er, 0)) (h : er ≠ 0) {k' : Nat} (hr : RD 72 w' g l k') : TripPost w g l k R Z (erp er) w' := by
  subst hR
  exact ⟨hg, .inr ⟨h, ⟨k', hr⟩, rfl⟩⟩

/-- A reader, while a block of three cells with no byte in it turns. -/
theorem RD.far3 {T T' : TypeId} {w w' : World} {g b : Nat} {l : List UInt8} {k : Nat} {x y : Int} {p : Option Addr} {n c : Nat} (h : RD T w g l k) (hg : w.grownBy w' (some b)) (hne : g ≠ b) (hb : B3 T' w b (.int .i64 x) (.int .i64 y) (.slice p n c)) : RD T w' g l k := by
  have hn : NoU8 w b := by
    intro q hq v hv
    unfold World.cell? at hv
    rw [hq, hb] at hv
    simp only at hv
    split at hv
    · cases hv
    · obtain ⟨hlt, he⟩ := Array.getElem?_eq_some_iff.1 hv
      have h3 : q.off = 0 ∨ q.off = 1 ∨ q.off = 2 := by simp at hlt; omega
      rcases h3 with h | h | h <;> simp [h] at he
  obtain ⟨h1, A, c, hh, hbs⟩ := h
  exact ⟨h1, A, c, (hg.block g (Array.getElem?_eq_some_iff.1 hh).1 (by intro e; exact hne (by injection e))).trans hh, hbs.but hn hg⟩

end Go.Proofs.YthpfomjibfbiiaaGreatDoor
namespace Go.Proofs.YthpfomjibfbiiaaGreatDoor

theorem encInt_lt (v : Int) : (encInt v).length < 1000 := by
  unfold encInt
  split
  · have := elem_le 2 (beBytes v (intSize v))
    rw [beBytes_length] at this
    have := intSize_le v
    omega
  · simp
theorem encTag_ge (n : Nat) (l : List UInt8) (hn : n ≤ 30) (hl : l.length < 16777216) (hne : l ≠ []) : l.length ≤ (encTag n l).length := by
  rw [encTag_shape n l hn hne, elem_shape _ _ hl]
  simp; omega
theorem octets_le (b : List UInt8) (h5 : encOctets b ≠ []) : b.length < 16777216 ∧ b.length ≤ (encOctets b).length := by
  have hb : b.length < 16777216 := by
    apply Classical.byContradiction
    intro hb
    apply h5
    unfold encOctets elem
    rw [if_neg hb]
  exact ⟨hb, by unfold encOctets; rw [elem_shape _ _ hb]; simp; omega⟩
theorem pair_inv (x : List UInt8) (k : Int) (b : List UInt8) (u0 u1 : Nat) (h0 : fieldF 0 readIntF 0 x = (k, 0, u0)) (h1 : fieldF [] readOctetsF 1 (x.drop u0) = (b, 0, u1)) (h2 : ¬ u0 + u1 < x.length) (hx : x.length ≤ 900) : elem 48 x = pairF k b ∧ pairF k b ≠ [] := by
  have i0 := field_inv 0 readIntF encInt (fun m v u h => readInt_inv m v u h) (by unfold readIntF; rw [readF_nil]; simp) 0 (by omega) x k u0 h0
  have i1 := field_inv [] readOctetsF encOctets (fun m v u h => readOctets_inv m v u h) (by unfold readOctetsF; rw [readF_nil]; simp) 1 (by omega) (x.drop u0) b u1 h1
  have hx2 : x = encTag 0 (encInt k) ++ encTag 1 (encOctets b) := by
    have hx : x = x.take (u0 + u1) := (List.take_of_length_le (by omega)).symm
    rw [hx, take_add, i0.2.1, i1.2.1]
  have hlx : x.length = (encTag 0 (encInt k)).length + (encTag 1 (encOctets b)).length := by rw [hx2]; simp
  have l1 := encTag_ge 1 (encOctets b) (by omega) i1.2.2.2 i1.2.2.1
  have l2 := octets_le b i1.2.2.1
  have l3 := encInt_lt k
  have e := pairF_eq k b (by omega) (by omega)
  rw [if_neg i0.2.2.1] at e
  rw [e]
  refine ⟨?_, twoF_ne k b (by omega) (by omega)⟩
  unfold twoF encSeq
  rw [hx2]
  simp
theorem data_inv (x : List UInt8) (L : List (Int × List UInt8)) (h : x = (L.map fun q => pairF q.1 q.2).flatten) (hn : ∀ q ∈ L, pairF q.1 q.2 ≠ []) (hl : L.length ≤ 16) : elem 48 x = dataF L := by
  unfold dataF wholeF
  rw [if_neg (by omega), if_neg]
  · unfold encSeq
    rw [h]
  · rw [List.mem_map]
    rintro ⟨q, hq, he⟩
    exact hn q hq he
theorem readIn_pos (tag : UInt8) (m x : List UInt8) (used : Nat) (h : readInF tag m = (some x, 0, used)) : 0 < used := by
  obtain ⟨j1, j2, j3⟩ := readIn_inv _ _ _ _ h
  rcases Nat.eq_zero_or_pos used with h0 | h0
  · subst h0
    rw [elem_shape _ _ j2] at j3
    simp at j3
  · exact h0
end Go.Proofs.YthpfomjibfbiiaaGreatDoor
