/- Records. No program. -/
import Derived.Test.YtgclchdccgkjaaaDoorPure6
namespace Go.Proofs.YtgclchdccgkjaaaDoor

def encTag (n : Nat) (l : List UInt8) : List UInt8 := encWrap 160 (n : Int) l
def wholeF (ls : List (List UInt8)) : List UInt8 := if [] ∈ ls then [] else encSeq ls
/-- The first k, each in the element of its number. -/
def tags (ls : List (List UInt8)) (k : Nat) : List (List UInt8) := (List.range k).map fun i => encTag i (ls[i]?.getD [])
theorem tags_length (ls : List (List UInt8)) (k : Nat) : (tags ls k).length = k := by simp [tags]
theorem tags_succ (ls : List (List UInt8)) (k : Nat) (h : k < ls.length) : tags ls (k + 1) = tags ls k ++ [encTag k ls[k]] := by
  unfold tags
  rw [List.range_succ, List.map_append]
  simp [List.getElem?_eq_getElem h]
def fieldsF (ls : List (List UInt8)) : List UInt8 := wholeF (tags ls ls.length)
def tripleF (p v : Int) (b : List UInt8) : List UInt8 := fieldsF [encInt p, encInt v, encOctets b]
def pairF (k : Int) (b : List UInt8) : List UInt8 := fieldsF [encInt k, encOctets b]
def threeF (p v : Int) (b : List UInt8) : List UInt8 := if encInt p = [] ∨ encInt v = [] then [] else encSeq [encTag 0 (encInt p), encTag 1 (encInt v), encTag 2 (encOctets b)]
def twoF (k : Int) (b : List UInt8) : List UInt8 := encSeq [encTag 0 (encInt k), encTag 1 (encOctets b)]

theorem elem_ne (t : UInt8) (l : List UInt8) (h : l.length < 16777216) : elem t l ≠ [] := by rw [elem_shape t l h]; simp
theorem encTag_nil (n : Nat) : encTag n [] = [] := by unfold encTag encWrap; rw [if_neg (by simp)]
theorem encTag_ne (n : Nat) (l : List UInt8) (hn : n ≤ 30) (h : l ≠ []) (hl : l.length < 16777216) : encTag n l ≠ [] := by
  unfold encTag encWrap
  rw [if_pos ⟨by omega, by omega, h⟩]
  exact elem_ne _ _ hl
theorem encTag_le (n : Nat) (l : List UInt8) : (encTag n l).length ≤ l.length + 5 := by
  unfold encTag encWrap
  split
  · exact elem_le _ _
  · simp
theorem tripleF_eq (p v : Int) (b : List UInt8) (hp : (encInt p).length ≤ 1000) (hv : (encInt v).length ≤ 1000) (hb : b.length ≤ 1000) : tripleF p v b = threeF p v b := by
  have hob : (encOctets b).length ≤ 1005 := by have := elem_le 4 b; unfold encOctets; omega
  have hoe : encOctets b ≠ [] := elem_ne 4 b (by omega)
  have e : tags [encInt p, encInt v, encOctets b] [encInt p, encInt v, encOctets b].length = [encTag 0 (encInt p), encTag 1 (encInt v), encTag 2 (encOctets b)] := rfl
  unfold tripleF fieldsF threeF wholeF
  rw [e]
  have h2 := encTag_ne 2 _ (by omega) hoe (by omega)
  by_cases h : encInt p = [] ∨ encInt v = []
  · rw [if_pos h, if_pos]
    rcases h with h | h <;> rw [h, encTag_nil] <;> simp
  · rw [if_neg h, if_neg]
    have h0 := encTag_ne 0 (encInt p) (by omega) (fun e => h (.inl e)) (by omega)
    have h1 := encTag_ne 1 (encInt v) (by omega) (fun e => h (.inr e)) (by omega)
    simp only [List.mem_cons, List.not_mem_nil, or_false, not_or]
    exact ⟨h0.symm, h1.symm, h2.symm⟩
theorem pairF_eq (k : Int) (b : List UInt8) (hp : (encInt k).length ≤ 1000) (hb : b.length ≤ 1000) : pairF k b = if encInt k = [] then [] else twoF k b := by
  have hob : (encOctets b).length ≤ 1005 := by have := elem_le 4 b; unfold encOctets; omega
  have hoe : encOctets b ≠ [] := elem_ne 4 b (by omega)
  have e : tags [encInt k, encOctets b] [encInt k, encOctets b].length = [encTag 0 (encInt k), encTag 1 (encOctets b)] := rfl
  unfold pairF fieldsF twoF wholeF
  rw [e]
  have h2 := encTag_ne 1 _ (by omega) hoe (by omega)
  by_cases h : encInt k = []
  · rw [if_pos h, if_pos]
    rw [h, encTag_nil]; simp
  · rw [if_neg h, if_neg]
    have h0 := encTag_ne 0 (encInt k) (by omega) h (by omega)
    simp only [List.mem_cons, List.not_mem_nil, or_false, not_or]
    exact ⟨h0.symm, h2.symm⟩
theorem twoF_ne (k : Int) (b : List UInt8) (hp : (encInt k).length ≤ 1000) (hb : b.length ≤ 1000) : twoF k b ≠ [] := by
  have hob : (encOctets b).length ≤ 1005 := by have := elem_le 4 b; unfold encOctets; omega
  have h0 := encTag_le 0 (encInt k)
  have h1 := encTag_le 1 (encOctets b)
  unfold twoF encSeq
  apply elem_ne
  simp
  omega

/-- Data: der's and the reference's. -/
def dataF (ls : List (Int × List UInt8)) : List UInt8 := if 16 < ls.length then [] else wholeF (ls.map fun x => pairF x.1 x.2)
def dataR (ls : List (Int × List UInt8)) : List UInt8 := if (∃ x ∈ ls, encInt x.1 = []) ∨ 16 < ls.length then [] else encSeq (ls.map fun x => twoF x.1 x.2)
theorem dataF_eq (ls : List (Int × List UInt8)) (hk : ∀ x ∈ ls, (encInt x.1).length ≤ 1000) (hb : ∀ x ∈ ls, x.2.length ≤ 1000) : dataF ls = dataR ls := by
  unfold dataF dataR
  by_cases h : 16 < ls.length
  · rw [if_pos h, if_pos (.inr h)]
  · rw [if_neg h]
    by_cases h2 : ∃ x ∈ ls, encInt x.1 = []
    · rw [if_pos (.inl h2)]
      unfold wholeF
      rw [if_pos]
      obtain ⟨x, hx, he⟩ := h2
      rw [List.mem_map]
      exact ⟨x, hx, by rw [pairF_eq _ _ (hk x hx) (hb x hx), if_pos he]⟩
    · rw [if_neg (by intro h3; rcases h3 with h3 | h3 <;> contradiction)]
      have e : (ls.map fun x => pairF x.1 x.2) = ls.map fun x => twoF x.1 x.2 := by
        apply List.map_congr_left
        intro x hx
        rw [pairF_eq _ _ (hk x hx) (hb x hx), if_neg (fun h => h2 ⟨x, hx, h⟩)]
      rw [e]
      unfold wholeF
      rw [if_neg]
      rw [List.mem_map]
      rintro ⟨x, hx, he⟩
      exact twoF_ne _ _ (hk x hx) (hb x hx) he
end Go.Proofs.YtgclchdccgkjaaaDoor
