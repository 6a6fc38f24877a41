/- Texts laid together (wip/tools/automerge.py): LtPure, LtDPure. -/
import Derived.Lib.Hide
import Derived.Test.YtigjecmhhjjenaaDoorMg13
import Derived.Test.YtigjecmhhjjenaaDoorElPure
namespace Go.Proofs.YtigjecmhhjjenaaDoor

/-- The greatest time. -/
def MT : Int := 1099511627776
def momB (v : Int) : Bool := decide (0 ≤ v ∧ v ≤ 1099511627776)
def skwB (v : Int) : Bool := decide (0 ≤ v ∧ v ≤ 86400)
def limB (l r : Int) : Bool := decide (1 ≤ l ∧ l ≤ 2147483648 ∧ 0 ≤ r ∧ r ≤ 2147483648)
def wshB (f t r : Int) : Bool := decide ((0 ≤ f ∧ f ≤ 1099511627776) ∧ (0 ≤ t ∧ t ≤ 1099511627776) ∧ 0 ≤ r ∧ r ≤ 1099511627776)
def validB (a s e r : Int) : Bool := decide (0 ≤ a ∧ a ≤ s ∧ s < e ∧ e ≤ 1099511627776 ∧ (r = 0 ∨ e ≤ r ∧ r ≤ 1099511627776))
/-- A range. -/
def wiB (v a b : Int) : Bool := decide (a ≤ v ∧ v ≤ b)
def leftF (a s e r now : Int) : Int := if validB a s e r = true ∧ momB now = true then max 0 (e - now) else 0
def nearB (a b skew : Int) : Bool := momB a && momB b && skwB skew && wiB (a - b) (-skew) skew
def usableF (a s e r now skew : Int) : Int := if validB a s e r = true ∧ momB now = true ∧ skwB skew = true then (if now < s - skew then 140 else if e + skew < now then 141 else 0) else 2
def renewableB (a s e r now skew : Int) : Bool := decide (usableF a s e r now skew = 0 ∧ r ≠ 0 ∧ now ≤ r + skew)
/-- The times that the rules give: auth, start, end, renewed until, error. -/
def freshF (auth start till wish life renew last longest : Int) : Int × Int × Int × Int × Int :=
  let e1 := min (min (start + life) 1099511627776) last
  let e := if till = 0 then e1 else min e1 till
  if e ≤ start then (0, 0, 0, 0, 143) else
    let r := if wish = 0 ∨ renew = 0 ∨ longest = 0 then 0 else (let q := min (min (min wish (start + renew)) 1099511627776) longest; if q < e then 0 else q)
    (auth, start, e, r, 0)
def initF (f t r life renew now skew : Int) : Int × Int × Int × Int × Int :=
  if wshB f t r = true ∧ limB life renew = true ∧ momB now = true ∧ skwB skew = true then
    freshF now (if now + skew < f then f else now) t r life renew 1099511627776 1099511627776
  else (0, 0, 0, 0, 2)
def deriveF (ba bs be br f t r life renew now skew : Int) : Int × Int × Int × Int × Int :=
  if wshB f t r = true ∧ limB life renew = true then
    if usableF ba bs be br now skew = 0 then freshF ba (if now + skew < f then f else max now ba) t r life renew be br
    else (0, 0, 0, 0, usableF ba bs be br now skew)
  else (0, 0, 0, 0, 2)
def renewF (a s e r now skew : Int) : Int × Int × Int × Int × Int :=
  if usableF a s e r now skew = 0 then
    if renewableB a s e r now skew = true then
      let st := max now a
      let en := min (st + e - s) r
      if en ≤ st then (0, 0, 0, 0, 143) else (a, st, en, r, 0)
    else (0, 0, 0, 0, 142)
  else (0, 0, 0, 0, usableF a s e r now skew)
theorem momB_bd {v : Int} (h : momB v = true) : 0 ≤ v ∧ v ≤ 1099511627776 := by simpa [momB] using h
theorem skwB_bd {v : Int} (h : skwB v = true) : 0 ≤ v ∧ v ≤ 86400 := by simpa [skwB] using h
theorem limB_bd {l r : Int} (h : limB l r = true) : 1 ≤ l ∧ l ≤ 2147483648 ∧ 0 ≤ r ∧ r ≤ 2147483648 := by simpa [limB] using h
theorem wshB_bd {f t r : Int} (h : wshB f t r = true) : (0 ≤ f ∧ f ≤ 1099511627776) ∧ (0 ≤ t ∧ t ≤ 1099511627776) ∧ 0 ≤ r ∧ r ≤ 1099511627776 := by simpa [wshB] using h
theorem validB_bd {a s e r : Int} (h : validB a s e r = true) : 0 ≤ a ∧ a ≤ s ∧ s < e ∧ e ≤ 1099511627776 ∧ 0 ≤ r ∧ r ≤ 1099511627776 ∧ (r = 0 ∨ e ≤ r) := by
  unfold validB at h
  simp only [decide_eq_true_eq] at h
  omega
theorem usableF_cases (a s e r now skew : Int) : usableF a s e r now skew = 2 ∨ (usableF a s e r now skew = 140 ∨ usableF a s e r now skew = 141 ∨ usableF a s e r now skew = 0) ∧ (validB a s e r = true ∧ momB now = true ∧ skwB skew = true) := by
  unfold usableF
  by_cases h : validB a s e r = true ∧ momB now = true ∧ skwB skew = true
  · rw [if_pos h]
    right
    refine ⟨?_, h⟩
    split
    · exact .inl rfl
    · split
      · exact .inr (.inl rfl)
      · exact .inr (.inr rfl)
  · rw [if_neg h]; exact .inl rfl
end Go.Proofs.YtigjecmhhjjenaaDoor
namespace Go.Proofs.YtigjecmhhjjenaaDoor

/-- What the reference's Length says where the measure is an error. -/
theorem measure_len_err (l : List UInt8) (at_ er : Nat) (hat : at_ < l.length) (h : (measureF (l.drop at_)).2.2 = er) (he : er ≠ 0) :
    (lenF l (at_ + 1)).2.2 = er ∨ ((lenF l (at_ + 1)).2.2 = 0 ∧ l.length < (lenF l (at_ + 1)).2.1 + (lenF l (at_ + 1)).1 ∧ er = 4) := by
  unfold measureF at h
  unfold lenF
  simp only [List.length_drop, List.getElem?_drop, drop_take_swap] at h
  have ea : at_ + (2 + ((l[at_ + 1]?.getD 0).toNat - 128)) = at_ + 1 + 1 + ((l[at_ + 1]?.getD 0).toNat - 128) := by omega
  have e2 : at_ + 2 = at_ + 1 + 1 := rfl
  simp only [ea, e2] at h
  simp only at h ⊢
  obtain ⟨s, hs⟩ : ∃ s, (l[at_ + 1]?.getD 0).toNat = s := ⟨_, rfl⟩
  simp only [hs] at h ⊢
  obtain ⟨M, hM⟩ : ∃ M, beNat ((l.take (at_ + 1 + 1 + (s - 128))).drop (at_ + 1 + 1)) = M := ⟨_, rfl⟩
  simp only [hM] at h ⊢
  split at h
  · rw [if_pos (by omega)]; left; exact h
  rw [if_neg (by omega)]
  split at h
  · rename_i h1 h2
    rw [if_pos h2]
    unfold finF at h
    split at h
    · right; simp only at h ⊢; exact ⟨by first | rfl | trivial, by omega, h.symm⟩
    · simp at h; omega
  rename_i h1 h2
  rw [if_neg h2]
  split at h
  · rename_i h3
    rw [if_pos h3]; left; exact h
  rename_i h3
  rw [if_neg h3]
  split at h
  · rw [if_pos (by omega)]; left; exact h
  rename_i h4
  rw [if_neg (by omega)]
  split at h
  · rename_i h5
    rw [if_pos h5]; left; exact h
  rename_i h5
  rw [if_neg h5]
  unfold finF at h
  split at h
  · right; simp only at h ⊢; exact ⟨by first | rfl | trivial, by omega, h.symm⟩
  · simp at h; omega

/-- The last time, which may be absent. -/
def lastF (m : List UInt8) : Int × Nat × Nat :=
  if taggedF 3 m = (none, false, 0, 0) then (0, 0, 0)
  else if (fieldF 0 readTimeF 3 m).2.1 ≠ 0 then (0, (fieldF 0 readTimeF 3 m).2.1, 0)
  else if (fieldF 0 readTimeF 3 m).1 = 0 then (0, 6, 0) else fieldF 0 readTimeF 3 m
def timesIn (x : List UInt8) : (Int × Int × Int × Int) × Nat :=
  let f0 := fieldF 0 readTimeF 0 x
  if f0.2.1 ≠ 0 then ((0, 0, 0, 0), f0.2.1) else
  let f1 := fieldF 0 readTimeF 1 (x.drop f0.2.2)
  if f1.2.1 ≠ 0 then ((0, 0, 0, 0), f1.2.1) else
  let f2 := fieldF 0 readTimeF 2 (x.drop (f0.2.2 + f1.2.2))
  if f2.2.1 ≠ 0 then ((0, 0, 0, 0), f2.2.1) else
  let f3 := lastF (x.drop (f0.2.2 + f1.2.2 + f2.2.2))
  if f3.2.1 ≠ 0 then ((0, 0, 0, 0), f3.2.1) else
  if f0.2.2 + f1.2.2 + f2.2.2 + f3.2.2 < x.length ∨ validB f0.1 f1.1 f2.1 f3.1 = false then ((0, 0, 0, 0), 6) else ((f0.1, f1.1, f2.1, f3.1), 0)
def timesRd (m : List UInt8) : (Int × Int × Int × Int) × Nat × Nat :=
  if (readInF 48 m).2.1 ≠ 0 then ((0, 0, 0, 0), (readInF 48 m).2.1, 0)
  else if (timesIn ((readInF 48 m).1.getD [])).2 ≠ 0 then ((0, 0, 0, 0), (timesIn ((readInF 48 m).1.getD [])).2, 0)
  else ((timesIn ((readInF 48 m).1.getD [])).1, 0, (readInF 48 m).2.2)
theorem timesRd_no (m : List UInt8) (er : Nat) (he : er ≠ 0) (h : readInF 48 m = (none, er, 0)) : timesRd m = ((0, 0, 0, 0), er, 0) := by
  unfold timesRd
  rw [h]
  simp only
  rw [if_pos he]
theorem timesRd_zero (m : List UInt8) (h : (timesRd m).2.1 ≠ 0) : timesRd m = ((0, 0, 0, 0), (timesRd m).2.1, 0) := by
  unfold timesRd at h ⊢
  by_cases h1 : (readInF 48 m).2.1 ≠ 0
  · rw [if_pos h1]
  · rw [if_neg h1] at h ⊢
    by_cases h2 : (timesIn ((readInF 48 m).1.getD [])).2 ≠ 0
    · rw [if_pos h2]
    · rw [if_neg h2] at h
      exact absurd rfl h
/-- The ways of reading times, one after the other. -/
theorem timesRd_in (m x : List UInt8) (us : Nat) (h : readInF 48 m = (some x, 0, us)) (a : Int) (e0 u0 : Nat) (h0 : fieldF 0 readTimeF 0 x = (a, e0, u0)) (s : Int) (e1 u1 : Nat) (h1 : fieldF 0 readTimeF 1 (x.drop u0) = (s, e1, u1))
    (e : Int) (e2 u2 : Nat) (h2 : fieldF 0 readTimeF 2 (x.drop (u0 + u1)) = (e, e2, u2)) (r : Int) (e3 u3 : Nat) (h3 : lastF (x.drop (u0 + u1 + u2)) = (r, e3, u3)) :
    (e0 ≠ 0 → timesRd m = ((0, 0, 0, 0), e0, 0)) ∧ (e0 = 0 → e1 ≠ 0 → timesRd m = ((0, 0, 0, 0), e1, 0)) ∧ (e0 = 0 → e1 = 0 → e2 ≠ 0 → timesRd m = ((0, 0, 0, 0), e2, 0)) ∧
    (e0 = 0 → e1 = 0 → e2 = 0 → e3 ≠ 0 → timesRd m = ((0, 0, 0, 0), e3, 0)) ∧
    (e0 = 0 → e1 = 0 → e2 = 0 → e3 = 0 → (u0 + u1 + u2 + u3 < x.length ∨ validB a s e r = false) → timesRd m = ((0, 0, 0, 0), 6, 0)) ∧
    (e0 = 0 → e1 = 0 → e2 = 0 → e3 = 0 → ¬ (u0 + u1 + u2 + u3 < x.length ∨ validB a s e r = false) → timesRd m = ((a, s, e, r), 0, us)) := by
  have hu : timesRd m = if (timesIn x).2 ≠ 0 then ((0, 0, 0, 0), (timesIn x).2, 0) else ((timesIn x).1, 0, us) := by
    unfold timesRd
    rw [h]
    simp
  rw [hu]
  unfold timesIn
  simp only [h0, h1, h2, h3]
  refine ⟨fun k0 => ?_, fun k0 k1 => ?_, fun k0 k1 k2 => ?_, fun k0 k1 k2 k3 => ?_, fun k0 k1 k2 k3 k4 => ?_, fun k0 k1 k2 k3 k4 => ?_⟩
  · simp [k0]
  · simp [k0, k1]
  · simp [k0, k1, k2]
  · simp [k0, k1, k2, k3]
  · simp only [k0, k1, k2, k3, ne_eq, not_true_eq_false, if_false]
    rw [if_pos k4]
    simp
  · simp only [k0, k1, k2, k3, ne_eq, not_true_eq_false, if_false]
    rw [if_neg k4]
    simp
end Go.Proofs.YtigjecmhhjjenaaDoor
