/- Lifetimes: what the program and the reference compute, on numbers. No program. -/
import Derived.Lib.Hide
namespace Go.Proofs.YthpfomjibfbiiaaGreatDoor

/-- The greatest time. -/
def MT : Int := 1099511627776
def momB (v : Int) : Bool := decide (0 ≤ v ∧ v ≤ 1099511627776)
def skwB (v : Int) : Bool := decide (0 ≤ v ∧ v ≤ 86400)
def limB (l r : Int) : Bool := decide (1 ≤ l ∧ l ≤ 2147483648 ∧ 0 ≤ r ∧ r ≤ 2147483648)
def wshB (f t r : Int) : Bool := decide ((0 ≤ f ∧ f ≤ 1099511627776) ∧ (0 ≤ t ∧ t ≤ 1099511627776) ∧ 0 ≤ r ∧ r ≤ 1099511627776)
def validB (a s e r : Int) : Bool := decide (0 ≤ a ∧ a ≤ s ∧ s < e ∧ e ≤ 1099511627776 ∧ (r = 0 ∨ e ≤ r ∧ r ≤ 1099511627776))
/-- A range. -/
def wiB (v a b : Int) : Bool := decide (a ≤ v ∧ v ≤ b)
def leftF (a s e r now : Int) : Int := if validB a s e r = true ∧ momB now = true then max 0 (e - now) else 0
def nearB (a b skew : Int) : Bool := momB a && momB b && skwB skew && wiB (a - b) (-skew) skew
def usableF (a s e r now skew : Int) : Int := if validB a s e r = true ∧ momB now = true ∧ skwB skew = true then (if now < s - skew then 140 else if e + skew < now then 141 else 0) else 2
def renewableB (a s e r now skew : Int) : Bool := decide (usableF a s e r now skew = 0 ∧ r ≠ 0 ∧ now ≤ r + skew)
/-- The times that the rules give: auth, start, end, renewed until, error. -/
def freshF (auth start till wish life renew last longest : Int) : Int × Int × Int × Int × Int :=
  let e1 := min (min (start + life) 1099511627776) last
  let e := if till = 0 then e1 else min e1 till
  if e ≤ start then (0, 0, 0, 0, 143) else
    let r := if wish = 0 ∨ renew = 0 ∨ longest = 0 then 0 else (let q := min (min (min wish (start + renew)) 1099511627776) longest; if q < e then 0 else q)
    (auth, start, e, r, 0)
def initF (f t r life renew now skew : Int) : Int × Int × Int × Int × Int :=
  if wshB f t r = true ∧ limB life renew = true ∧ momB now = true ∧ skwB skew = true then
    freshF now (if now + skew < f then f else now) t r life renew 1099511627776 1099511627776
  else (0, 0, 0, 0, 2)
def deriveF (ba bs be br f t r life renew now skew : Int) : Int × Int × Int × Int × Int :=
  if wshB f t r = true ∧ limB life renew = true then
    if usableF ba bs be br now skew = 0 then freshF ba (if now + skew < f then f else max now ba) t r life renew be br
    else (0, 0, 0, 0, usableF ba bs be br now skew)
  else (0, 0, 0, 0, 2)
def renewF (a s e r now skew : Int) : Int × Int × Int × Int × Int :=
  if usableF a s e r now skew = 0 then
    if renewableB a s e r now skew = true then
      let st := max now a
      let en := min (st + e - s) r
      if en ≤ st then (0, 0, 0, 0, 143) else (a, st, en, r, 0)
    else (0, 0, 0, 0, 142)
  else (0, 0, 0, 0, usableF a s e r now skew)
theorem momB_bd {v : Int} (h : momB v = true) : 0 ≤ v ∧ v ≤ 1099511627776 := by simpa [momB] using h
theorem skwB_bd {v : Int} (h : skwB v = true) : 0 ≤ v ∧ v ≤ 86400 := by simpa [skwB] using h
theorem limB_bd {l r : Int} (h : limB l r = true) : 1 ≤ l ∧ l ≤ 2147483648 ∧ 0 ≤ r ∧ r ≤ 2147483648 := by simpa [limB] using h
theorem wshB_bd {f t r : Int} (h : wshB f t r = true) : (0 ≤ f ∧ f ≤ 1099511627776) ∧ (0 ≤ t ∧ t ≤ 1099511627776) ∧ 0 ≤ r ∧ r ≤ 1099511627776 := by simpa [wshB] using h
theorem validB_bd {a s e r : Int} (h : validB a s e r = true) : 0 ≤ a ∧ a ≤ s ∧ s < e ∧ e ≤ 1099511627776 ∧ 0 ≤ r ∧ r ≤ 1099511627776 ∧ (r = 0 ∨ e ≤ r) := by
  unfold validB at h
  simp only [decide_eq_true_eq] at h
  omega
theorem usableF_cases (a s e r now skew : Int) : usableF a s e r now skew = 2 ∨ (usableF a s e r now skew = 140 ∨ usableF a s e r now skew = 141 ∨ usableF a s e r now skew = 0) ∧ (validB a s e r = true ∧ momB now = true ∧ skwB skew = true) := by
  unfold usableF
  by_cases h : validB a s e r = true ∧ momB now = true ∧ skwB skew = true
  · rw [if_pos h]
    right
    refine ⟨?_, h⟩
    split
    · exact .inl rfl
    · split
      · exact .inr (.inl rfl)
      · exact .inr (.inr rfl)
  · rw [if_neg h]; exact .inl rfl
end Go.Proofs.YthpfomjibfbiiaaGreatDoor
