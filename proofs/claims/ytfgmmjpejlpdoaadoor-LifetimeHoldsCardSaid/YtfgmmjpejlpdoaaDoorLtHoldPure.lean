/- What initial, derived and renewed times keep: plain facts on numbers. No program. -/
import Derived.Test.YtfgmmjpejlpdoaaDoorLtPure
namespace Go.Proofs.YtfgmmjpejlpdoaaDoor

theorem fresh_holds {auth start till wish life renew last longest A S E Q : Int} (h : freshF auth start till wish life renew last longest = (A, S, E, Q, 0))
    (h1 : 0 ≤ auth) (h2 : auth ≤ start) (h3 : 0 ≤ renew) (h4 : 0 ≤ wish) (h5 : 0 ≤ longest) :
    validB A S E Q = true ∧ E - S ≤ life ∧ A = auth ∧ S = start ∧ E ≤ last ∧ Q ≤ S + renew ∧ Q ≤ wish ∧ Q ≤ longest ∧ (till ≠ 0 → E ≤ till) := by
  unfold freshF at h
  simp only at h
  obtain ⟨e, he⟩ : ∃ e, e = (if till = 0 then min (min (start + life) 1099511627776) last else min (min (min (start + life) 1099511627776) last) till) := ⟨_, rfl⟩
  rw [← he] at h
  have hE : e ≤ min (min (start + life) 1099511627776) last := by rw [he]; split <;> omega
  have hT : till ≠ 0 → e ≤ till := by intro h; rw [he, if_neg h]; omega
  clear he
  by_cases hlt : e ≤ start
  · rw [if_pos hlt] at h; simp at h
  · rw [if_neg hlt] at h
    simp only [Prod.mk.injEq, and_true] at h
    obtain ⟨rfl, rfl, rfl, hq⟩ := h
    have hQ : Q = 0 ∨ (e ≤ Q ∧ Q ≤ wish ∧ Q ≤ start + renew ∧ Q ≤ 1099511627776 ∧ Q ≤ longest) := by
      split at hq
      · exact .inl hq.symm
      · split at hq
        · exact .inl hq.symm
        · right; omega
    clear hq
    unfold validB
    simp only [decide_eq_true_eq]
    refine ⟨by omega, by omega, by first | rfl | trivial, by first | rfl | trivial, by omega, by omega, by omega, by omega, hT⟩
theorem init_holds {f t n l m now skew A S E Q : Int} (h : initF f t n l m now skew = (A, S, E, Q, 0)) :
    validB A S E Q = true ∧ E - S ≤ l ∧ A = now ∧ Q ≤ S + m ∧ (t ≠ 0 → E ≤ t) ∧ Q ≤ n := by
  unfold initF at h
  split at h
  · rename_i hv
    obtain ⟨hw, hl, hn, hs⟩ := hv
    have hw := wshB_bd hw; have hl := limB_bd hl; have hn := momB_bd hn; have hs := skwB_bd hs
    obtain ⟨k1, k2, k3, k4, k5, k6, k7, k8, k9⟩ := fresh_holds h (by omega) (by split <;> omega) (by omega) (by omega) (by omega)
    exact ⟨k1, k2, k3, k6, k9, k7⟩
  · simp at h
theorem derive_holds {ba bs be br f t n l m now skew A S E Q : Int} (h : deriveF ba bs be br f t n l m now skew = (A, S, E, Q, 0)) :
    validB A S E Q = true ∧ E - S ≤ l ∧ A = ba ∧ E ≤ be ∧ Q ≤ br ∧ usableF ba bs be br now skew = 0 := by
  unfold deriveF at h
  split at h
  · rename_i hv
    obtain ⟨hw, hl⟩ := hv
    have hw := wshB_bd hw; have hl := limB_bd hl
    split at h
    · rename_i hu
      have hu' := hu
      unfold usableF at hu'
      split at hu'
      · rename_i hv
        obtain ⟨hv, hn, hs⟩ := hv
        have hv := validB_bd hv; have hn := momB_bd hn; have hs := skwB_bd hs
        have hb : bs ≤ now + skew := by
          split at hu'
          · simp at hu'
          · omega
        obtain ⟨k1, k2, k3, k4, k5, k6, k7, k8, k9⟩ := fresh_holds h (by omega) (by split <;> omega) (by omega) (by omega) (by omega)
        exact ⟨k1, k2, k3, k5, k8, hu⟩
      · simp at hu'
    · rename_i hu
      simp only [Prod.mk.injEq] at h
      exact absurd h.2.2.2.2 hu
  · simp at h
theorem renew_holds {a s e r now skew A S E Q : Int} (h : renewF a s e r now skew = (A, S, E, Q, 0)) :
    validB A S E Q = true ∧ E ≤ r ∧ E - S ≤ e - s ∧ A = a ∧ Q = r ∧ renewableB a s e r now skew = true := by
  unfold renewF at h
  split at h
  · rename_i hu
    split at h
    · rename_i hr
      have hr' := hr
      unfold renewableB at hr'
      simp only [decide_eq_true_eq] at hr'
      unfold usableF at hu
      split at hu
      · rename_i hv
        obtain ⟨hv, hn, hs⟩ := hv
        have hv := validB_bd hv; have hn := momB_bd hn; have hs := skwB_bd hs
        simp only at h
        split at h
        · simp at h
        · rename_i hlt
          simp only [Prod.mk.injEq, and_true] at h
          obtain ⟨rfl, rfl, rfl, rfl⟩ := h
          unfold validB
          simp only [decide_eq_true_eq]
          refine ⟨by omega, by omega, by omega, by first | rfl | trivial, by first | rfl | trivial, hr⟩
      · simp at hu
    · simp at h
  · rename_i hu
    simp only [Prod.mk.injEq] at h
    exact absurd h.2.2.2.2 hu
theorem init_lim {f t n l m now skew A S E Q : Int} (h : initF f t n l m now skew = (A, S, E, Q, 0)) : 1 ≤ l ∧ l ≤ 2147483648 ∧ 0 ≤ m ∧ m ≤ 2147483648 := by
  unfold initF at h
  split at h
  · rename_i hv
    exact limB_bd hv.2.1
  · simp at h
theorem renew_base {a s e r now skew A S E Q : Int} (h : renewF a s e r now skew = (A, S, E, Q, 0)) : 0 ≤ a ∧ a ≤ s ∧ s < e ∧ e ≤ 1099511627776 ∧ 0 ≤ r ∧ r ≤ 1099511627776 ∧ (r = 0 ∨ e ≤ r) := by
  unfold renewF at h
  split at h
  · rename_i hu
    unfold usableF at hu
    split at hu
    · rename_i hv
      exact validB_bd hv.1
    · simp at hu
  · rename_i hu
    simp only [Prod.mk.injEq] at h
    exact absurd h.2.2.2.2 hu
end Go.Proofs.YtfgmmjpejlpdoaaDoor
