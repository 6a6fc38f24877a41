/- The elements of bytes, one after the other; the reference's length. No program. -/
import Derived.Test.YtigjecmhhjjenaaDoorMg7
namespace Go.Proofs.YtigjecmhhjjenaaDoor

/-- What the reference's Length hands back. -/
def lenF (l : List UInt8) (p : Nat) : Nat × Nat × Nat :=
  if l.length ≤ p then (0, 0, 4)
  else
    let s := (l[p]?.getD 0).toNat
    if s < 128 then (s, p + 1, 0)
    else if s - 128 < 1 ∨ 3 < s - 128 then (0, 0, 6)
    else if l.length < p + 1 + (s - 128) then (0, 0, 4)
    else
      let m := beNat ((l.take (p + 1 + (s - 128))).drop (p + 1))
      if m < leastF (s - 128) then (0, 0, 6) else (m, p + 1 + (s - 128), 0)

theorem drop_take_swap (l : List UInt8) (a i j : Nat) : ((l.drop a).take j).drop i = (l.take (a + j)).drop (a + i) := by
  apply List.ext_getElem
  · simp; omega
  · intro n h1 h2
    simp only [List.getElem_drop, List.getElem_take]
    congr 1
    omega

theorem measure_len_ok (l : List UInt8) (at_ b e : Nat) (hat : at_ < l.length) (h : measureF (l.drop at_) = (b, e, 0)) : lenF l (at_ + 1) = (e - b, at_ + b, 0) ∧ b ≤ e ∧ 2 ≤ e ∧ at_ + e ≤ l.length := by
  have hok := measureF_ok _ _ _ h
  simp only [List.length_drop] at hok
  refine ⟨?_, hok.2.1, by omega, by omega⟩
  unfold measureF at h
  unfold lenF
  simp only [List.length_drop, List.getElem?_drop, drop_take_swap] at h
  have ea : at_ + (2 + ((l[at_ + 1]?.getD 0).toNat - 128)) = at_ + 1 + 1 + ((l[at_ + 1]?.getD 0).toNat - 128) := by omega
  have e2 : at_ + 2 = at_ + 1 + 1 := rfl
  simp only [ea, e2] at h
  simp only at h ⊢
  obtain ⟨s, hs⟩ : ∃ s, (l[at_ + 1]?.getD 0).toNat = s := ⟨_, rfl⟩
  simp only [hs] at h ⊢
  obtain ⟨M, hM⟩ : ∃ M, beNat ((l.take (at_ + 1 + 1 + (s - 128))).drop (at_ + 1 + 1)) = M := ⟨_, rfl⟩
  simp only [hM] at h ⊢
  split at h
  · simp at h
  rw [if_neg (by omega)]
  split at h
  · rename_i h1 h2
    rw [if_pos h2]
    obtain ⟨h6, h7, _⟩ := finF_ok _ _ _ _ _ (by omega) h
    exact Prod.ext (by simp only [h6, h7]; omega) (Prod.ext (by simp only [h6]) rfl)
  rename_i h1 h2
  rw [if_neg h2]
  split at h
  · simp at h
  rename_i h3
  rw [if_neg h3]
  split at h
  · simp at h
  rename_i h4
  rw [if_neg (by omega)]
  split at h
  · simp at h
  rename_i h5
  rw [if_neg h5]
  obtain ⟨h6, h7, _⟩ := finF_ok _ _ _ _ _ (by omega) h
  exact Prod.ext (by simp only [h6, h7]; omega) (Prod.ext (by simp only [h6]; omega) rfl)

theorem measure_len_bad (l : List UInt8) (at_ : Nat) (hat : at_ < l.length) (h : (measureF (l.drop at_)).2.2 ≠ 0) : (lenF l (at_ + 1)).2.2 ≠ 0 ∨ l.length < (lenF l (at_ + 1)).2.1 + (lenF l (at_ + 1)).1 := by
  unfold measureF at h
  unfold lenF
  simp only [List.length_drop, List.getElem?_drop, drop_take_swap] at h
  have ea : at_ + (2 + ((l[at_ + 1]?.getD 0).toNat - 128)) = at_ + 1 + 1 + ((l[at_ + 1]?.getD 0).toNat - 128) := by omega
  have e2 : at_ + 2 = at_ + 1 + 1 := rfl
  simp only [ea, e2] at h
  simp only at h ⊢
  obtain ⟨s, hs⟩ : ∃ s, (l[at_ + 1]?.getD 0).toNat = s := ⟨_, rfl⟩
  simp only [hs] at h ⊢
  obtain ⟨M, hM⟩ : ∃ M, beNat ((l.take (at_ + 1 + 1 + (s - 128))).drop (at_ + 1 + 1)) = M := ⟨_, rfl⟩
  simp only [hM] at h ⊢
  split at h
  · rw [if_pos (by omega)]; simp
  rw [if_neg (by omega)]
  split at h
  · rename_i h1 h2
    rw [if_pos h2]
    unfold finF at h
    split at h
    · right; simp only; omega
    · simp at h
  rename_i h1 h2
  rw [if_neg h2]
  split at h
  · rename_i h3
    rw [if_pos h3]; simp
  rename_i h3
  rw [if_neg h3]
  split at h
  · rw [if_pos (by omega)]; simp
  rename_i h4
  rw [if_neg (by omega)]
  split at h
  · rename_i h5
    rw [if_pos h5]; simp
  rename_i h5
  rw [if_neg h5]
  unfold finF at h
  split at h
  · right; simp only; omega
  · simp at h

theorem lenF_bd (l : List UInt8) (p n f : Nat) (h : lenF l p = (n, f, 0)) : n ≤ 16777215 ∧ f ≤ p + 4 := by
  unfold lenF at h
  split at h
  · simp at h
  obtain ⟨s, hs⟩ : ∃ s, (l[p]?.getD 0).toNat = s := ⟨_, rfl⟩
  simp only [hs] at h
  split at h
  · simp only [Prod.mk.injEq] at h; omega
  split at h
  · simp at h
  split at h
  · simp at h
  split at h
  · simp at h
  · rename_i h1 h2 h3 h4 h5
    have hb := beNat_lt ((l.take (p + 1 + (s - 128))).drop (p + 1))
    have hl : ((l.take (p + 1 + (s - 128))).drop (p + 1)).length = s - 128 := by simp; omega
    rw [hl] at hb
    simp only [Prod.mk.injEq] at h
    have h8 : s - 128 = 1 ∨ s - 128 = 2 ∨ s - 128 = 3 := by omega
    obtain ⟨h6, h7, _⟩ := h
    rw [h6] at hb
    rcases h8 with e | e | e <;> rw [e] at hb h7 <;> omega
/-- The elements from an offset on: each with its offset. -/
def elemsF (l : List UInt8) : Nat → Nat → List (Nat × List UInt8)
  | 0, _ => []
  | fuel + 1, at_ => if l.length ≤ at_ then [] else if (measureF (l.drop at_)).2.2 ≠ 0 then [] else (at_, (l.drop at_).take (measureF (l.drop at_)).2.1) :: elemsF l fuel (at_ + (measureF (l.drop at_)).2.1)
/-- Enough fuel. -/
theorem elemsF_fuel (l : List UInt8) : ∀ (f at_ : Nat), l.length - at_ < f → elemsF l f at_ = elemsF l (l.length - at_ + 1) at_
  | 0, _, h => by omega
  | f + 1, at_, h => by
    by_cases h1 : l.length ≤ at_
    · simp [elemsF, h1]
    · by_cases h2 : (measureF (l.drop at_)).2.2 ≠ 0
      · simp [elemsF, h1, h2]
      · have hm : measureF (l.drop at_) = ((measureF (l.drop at_)).1, (measureF (l.drop at_)).2.1, 0) := by rw [show (0 : Nat) = (measureF (l.drop at_)).2.2 by omega]
        have hok := measureF_ok _ _ _ hm
        simp only [List.length_drop] at hok
        have e1 := elemsF_fuel l f (at_ + (measureF (l.drop at_)).2.1) (by omega)
        have e2 : elemsF l (l.length - at_) (at_ + (measureF (l.drop at_)).2.1) = elemsF l (l.length - (at_ + (measureF (l.drop at_)).2.1) + 1) (at_ + (measureF (l.drop at_)).2.1) := by
          by_cases h3 : l.length - at_ < f
          · exact elemsF_fuel l (l.length - at_) _ (by omega)
          · obtain rfl : f = l.length - at_ := by omega
            exact e1
        simp only [elemsF, if_neg h1, if_neg h2, e1, e2]
/-- All elements from an offset on. -/
def elemsAt (l : List UInt8) (at_ : Nat) : List (Nat × List UInt8) := elemsF l (l.length - at_ + 1) at_
theorem elemsAt_end (l : List UInt8) (at_ : Nat) (h : l.length ≤ at_) : elemsAt l at_ = [] := by unfold elemsAt; simp [elemsF, h]
theorem elemsAt_bad (l : List UInt8) (at_ : Nat) (h : (measureF (l.drop at_)).2.2 ≠ 0) : elemsAt l at_ = [] := by
  unfold elemsAt
  by_cases h1 : l.length ≤ at_ <;> simp [elemsF, h1, h]
theorem elemsAt_next (l : List UInt8) (at_ b e : Nat) (h1 : at_ < l.length) (h : measureF (l.drop at_) = (b, e, 0)) : elemsAt l at_ = (at_, (l.drop at_).take e) :: elemsAt l (at_ + e) := by
  have hok := measureF_ok _ _ _ h
  simp only [List.length_drop] at hok
  unfold elemsAt
  rw [elemsF, if_neg (by omega), if_neg (by rw [h]; simp), h]
  simp only
  rw [elemsF_fuel l (l.length - at_) (at_ + e) (by omega)]
/-- What is known of the element that comes next. -/
theorem elemsAt_cons (l : List UInt8) (p : Nat) (x : Nat × List UInt8) (rest : List (Nat × List UInt8)) (h : elemsAt l p = x :: rest) :
    p < l.length ∧ ∃ n f : Nat, lenF l (p + 1) = (n, f, 0) ∧ f + n ≤ l.length ∧ p < f + n ∧ x = (p, (l.take (f + n)).drop p) ∧ rest = elemsAt l (f + n) := by
  by_cases h1 : l.length ≤ p
  · rw [elemsAt_end l p h1] at h; cases h
  by_cases h2 : (measureF (l.drop p)).2.2 ≠ 0
  · rw [elemsAt_bad l p h2] at h; cases h
  have hm : measureF (l.drop p) = ((measureF (l.drop p)).1, (measureF (l.drop p)).2.1, 0) := by rw [show (0 : Nat) = (measureF (l.drop p)).2.2 by omega]
  obtain ⟨b, hb⟩ : ∃ b, (measureF (l.drop p)).1 = b := ⟨_, rfl⟩
  obtain ⟨e, he⟩ : ∃ e, (measureF (l.drop p)).2.1 = e := ⟨_, rfl⟩
  rw [hb, he] at hm
  obtain ⟨k1, k2, k3, k4⟩ := measure_len_ok l p b e (by omega) hm
  rw [elemsAt_next l p b e (by omega) hm] at h
  injection h with h3 h4
  refine ⟨by omega, e - b, p + b, k1, by omega, by omega, ?_, ?_⟩
  · rw [← h3, show p + b + (e - b) = p + e by omega]
    have := drop_take_swap l p 0 e
    rw [Nat.add_zero, List.drop_zero] at this
    rw [this]
  · rw [← h4, show p + b + (e - b) = p + e by omega]
end Go.Proofs.YtigjecmhhjjenaaDoor
