/- Texts laid together (wip/tools/automerge.py): AdD0, Gt0. -/
import Derived.Test.YthpfomjibfbiiaaGreatDoorMg10
import Derived.Test.YthpfomjibfbiiaaGreatDoorAdE1
namespace Go.Proofs.YthpfomjibfbiiaaGreatDoor
set_option linter.unusedVariables false

theorem intSize_enc (k : Int) : (encInt k).length ≤ 13 := by
  unfold encInt
  split
  · have := elem_le 2 (beBytes k (intSize k))
    rw [beBytes_length] at this
    have := intSize_le k
    omega
  · simp
theorem okA_len {k : Int} {b : List UInt8} (h : okA k b = true) : b.length ≤ 16 ∧ inRange k = true := by
  rcases okA_kinds h with ⟨rfl, h⟩ | ⟨rfl, h⟩ | ⟨rfl, h, _⟩
  · exact ⟨by omega, by decide⟩
  · exact ⟨by omega, by decide⟩
  · exact ⟨h.2, by decide⟩
theorem pair_ok {k : Int} {b : List UInt8} (h : okA k b = true) : pairF k b ≠ [] ∧ (pairF k b).length ≤ 49 := by
  obtain ⟨hb, hr⟩ := okA_len h
  have li := intSize_enc k
  have hk : encInt k ≠ [] := by
    unfold encInt
    rw [if_pos hr]
    exact elem_ne _ _ (by rw [beBytes_length]; have := intSize_le k; omega)
  have e := pairF_eq k b (by omega) (by omega)
  rw [if_neg hk] at e
  rw [e]
  refine ⟨twoF_ne k b (by omega) (by omega), ?_⟩
  have h0 := encTag_le 0 (encInt k)
  have h1 := encTag_le 1 (encOctets b)
  have h2 : (encOctets b).length ≤ b.length + 5 := elem_le 4 b
  unfold twoF encSeq
  have h3 := elem_le 48 ([encTag 0 (encInt k), encTag 1 (encOctets b)] : List (List UInt8)).flatten
  simp only [List.flatten_cons, List.flatten_nil, List.append_nil, List.length_append] at h3 ⊢
  omega
theorem vlA_iff {xs : List (Int × List UInt8)} : vlA xs = true ↔ (∀ q ∈ xs, okA q.1 q.2 = true) ∧ xs.length ≤ 16 := by
  unfold vlA
  rw [Bool.and_eq_true, List.all_eq_true, decide_eq_true_eq]
theorem flat_len {xs : List (Int × List UInt8)} (h : ∀ q ∈ xs, okA q.1 q.2 = true) : (flatP xs).length ≤ 49 * xs.length := by
  induction xs with
  | nil => simp [flatP_nil]
  | cons q t ih =>
    rw [flatP_cons, List.length_append, List.length_cons]
    have h1 := (pair_ok (h q (by simp))).2
    have h2 := ih (fun x hx => h x (List.mem_cons_of_mem _ hx))
    omega
/-- What is written of a valid list. -/
theorem vl_data {xs : List (Int × List UInt8)} (h : vlA xs = true) : dataF xs ≠ [] ∧ (dataF xs).length ≤ 900 := by
  obtain ⟨h1, h2⟩ := vlA_iff.1 h
  have h3 := flat_len h1
  obtain ⟨e, hne⟩ := dataF_ne h2 (fun q hq => (pair_ok (h1 q hq)).1) (by omega)
  refine ⟨hne, ?_⟩
  rw [e]
  have := elem_le 48 (flatP xs)
  omega
end Go.Proofs.YthpfomjibfbiiaaGreatDoor
namespace Go.Proofs.YthpfomjibfbiiaaGreatDoor
set_option linter.unusedVariables false

def frs2 (b : List UInt8) (p n : Nat) : Nat × List UInt8 × Nat := if b.length - p < n then (0, [], 0) else ((b[0]?.getD 0).toNat, (b.drop p).take n, p + n)
def nbe : List UInt8 → Nat → Nat
  | [], v => v
  | x :: r, v => nbe r (256 * v + x.toNat)
/-- The first element: its tag, its contents, its length. -/
def frst (b : List UInt8) : Nat × List UInt8 × Nat :=
  if b.length < 2 then (0, [], 0)
  else if (b[1]?.getD 0).toNat < 128 then frs2 b 2 (b[1]?.getD 0).toNat
  else if (b[1]?.getD 0).toNat - 128 < 1 ∨ 3 < (b[1]?.getD 0).toNat - 128 ∨ b.length < 2 + ((b[1]?.getD 0).toNat - 128) then (0, [], 0)
  else frs2 b (2 + ((b[1]?.getD 0).toNat - 128)) (nbe ((b.drop 2).take ((b[1]?.getD 0).toNat - 128)) 0)
theorem nbe_snoc : ∀ (l : List UInt8) (v : Nat) (x : UInt8), nbe (l ++ [x]) v = 256 * nbe l v + x.toNat
  | [], v, x => rfl
  | y :: l, v, x => by rw [List.cons_append, nbe, nbe, nbe_snoc l]
theorem nbe_lt : ∀ (l : List UInt8) (v : Nat), v ≤ 16777216 → l.length ≤ 3 → nbe l v < 16777216 * 16777216 * 16777216
  | [], v, h, _ => by rw [nbe]; omega
  | [x], v, h, _ => by have := x.toNat_lt; simp only [nbe]; omega
  | [x, y], v, h, _ => by have := x.toNat_lt; have := y.toNat_lt; simp only [nbe]; omega
  | [x, y, z], v, h, _ => by have := x.toNat_lt; have := y.toNat_lt; have := z.toNat_lt; simp only [nbe]; omega
  | _ :: _ :: _ :: _ :: _, _, _, h => by simp at h
theorem nbe_bd : ∀ (l : List UInt8) (v m : Nat), v < m → nbe l v < m * 256 ^ l.length
  | [], v, m, h => by simpa [nbe] using h
  | x :: r, v, m, h => by
    have hx := x.toNat_lt
    have := nbe_bd r (256 * v + x.toNat) (256 * m) (by omega)
    rw [nbe, List.length_cons, Nat.pow_succ]
    exact Nat.lt_of_lt_of_eq this (by rw [Nat.mul_comm 256 m, Nat.mul_assoc, Nat.mul_comm 256 (256 ^ r.length)])
theorem frs2_le (b : List UInt8) (p n : Nat) (hp : 2 ≤ p) (hb : p ≤ b.length) : (frs2 b p n).2.2 ≤ b.length ∧ ((frs2 b p n).2.2 = 0 ∨ 2 ≤ (frs2 b p n).2.2) ∧ (frs2 b p n).2.1.length ≤ b.length := by
  unfold frs2
  split
  · simp
  · simp only [List.length_take, List.length_drop]; omega
theorem frst_le (b : List UInt8) : (frst b).2.2 ≤ b.length ∧ ((frst b).2.2 = 0 ∨ 2 ≤ (frst b).2.2) ∧ (frst b).2.1.length ≤ b.length := by
  unfold frst
  split
  · simp
  · split
    · exact frs2_le _ _ _ (by omega) (by omega)
    · split
      · simp
      · exact frs2_le _ _ _ (by omega) (by omega)
/-- The elements, as far as they are complete. -/
def els (b : List UInt8) : List (List UInt8) :=
  if h : 0 < (frst b).2.2 ∧ (frst b).2.2 ≤ b.length then b.take (frst b).2.2 :: els (b.drop (frst b).2.2) else []
termination_by b.length
decreasing_by simp; omega
theorem els_stop {b : List UInt8} (h : (frst b).2.2 = 0) : els b = [] := by rw [els, dif_neg (by omega)]
theorem els_go {b : List UInt8} (h : (frst b).2.2 ≠ 0) : els b = b.take (frst b).2.2 :: els (b.drop (frst b).2.2) := by rw [els, dif_pos ⟨by omega, (frst_le b).1⟩]
theorem els_all (b : List UInt8) : ∀ x ∈ els b, x.length ≤ b.length ∧ 2 ≤ x.length := by
  induction hn : b.length using Nat.strongRecOn generalizing b with
  | _ n ih =>
    intro x hx
    by_cases h : (frst b).2.2 = 0
    · rw [els_stop h] at hx; cases hx
    · rw [els_go h] at hx
      have h1 := frst_le b
      rcases List.mem_cons.1 hx with rfl | hx
      · rw [List.length_take]; omega
      · have := ih (b.drop (frst b).2.2).length (by rw [List.length_drop]; omega) _ rfl x hx
        rw [List.length_drop] at this
        omega
theorem els_len (b : List UInt8) : 2 * (els b).length ≤ b.length := by
  induction hn : b.length using Nat.strongRecOn generalizing b with
  | _ n ih =>
    by_cases h : (frst b).2.2 = 0
    · rw [els_stop h]; simp
    · rw [els_go h]
      have h1 := frst_le b
      have := ih (b.drop (frst b).2.2).length (by rw [List.length_drop]; omega) _ rfl
      rw [List.length_drop] at this
      simp only [List.length_cons]
      omega
theorem els_prefix {b x : List UInt8} {r : List (List UInt8)} (h : els b = x :: r) : ∃ rest, b = x ++ rest := by
  by_cases h0 : (frst b).2.2 = 0
  · rw [els_stop h0] at h; cases h
  · rw [els_go h0] at h
    injection h with h _
    exact ⟨b.drop (frst b).2.2, by rw [← h, List.take_append_drop]⟩
/-- An element that has been written is read again. -/
theorem frst_elem (t : UInt8) (c rest : List UInt8) (h : c.length < 65536) : frst (elem t c ++ rest) = (t.toNat, c, (elem t c).length) := by
  have hs := elem_shape t c (by omega)
  rw [hs]
  unfold encLen
  by_cases h1 : c.length < 128
  · rw [if_pos h1]
    have e1 : (UInt8.ofNat c.length).toNat = c.length := by rw [UInt8.toNat_ofNat']; omega
    unfold frst
    rw [if_neg (by simp)]
    simp only [List.cons_append, List.nil_append, List.getElem?_cons_succ, List.getElem?_cons_zero, Option.getD_some, e1]
    rw [if_pos h1]
    unfold frs2
    rw [if_neg (by simp)]
    simp
    omega
  · rw [if_neg h1]
    by_cases h2 : c.length < 256
    · rw [if_pos h2]
      have e1 : (UInt8.ofNat c.length).toNat = c.length := by rw [UInt8.toNat_ofNat']; omega
      unfold frst
      rw [if_neg (by simp)]
      simp only [List.cons_append, List.nil_append, List.getElem?_cons_succ, List.getElem?_cons_zero, Option.getD_some]
      rw [if_neg (by decide), if_neg (by simp)]
      have e2 : ((129 : UInt8).toNat - 128) = 1 := by decide
      simp only [e2, List.drop_succ_cons, List.drop_zero, List.take_succ_cons, List.take_zero, nbe, e1]
      unfold frs2
      rw [if_neg (by simp)]
      simp
      omega
    · rw [if_neg h2, if_pos h]
      have e1 : (UInt8.ofNat (c.length / 256)).toNat = c.length / 256 := by rw [UInt8.toNat_ofNat']; omega
      have e3 : (UInt8.ofNat c.length).toNat = c.length % 256 := by rw [UInt8.toNat_ofNat']
      unfold frst
      rw [if_neg (by simp)]
      simp only [List.cons_append, List.nil_append, List.getElem?_cons_succ, List.getElem?_cons_zero, Option.getD_some]
      rw [if_neg (by decide), if_neg (by simp)]
      have e2 : ((130 : UInt8).toNat - 128) = 2 := by decide
      simp only [e2, List.drop_succ_cons, List.drop_zero, List.take_succ_cons, List.take_zero, nbe, e1, e3]
      have e4 : 256 * (256 * 0 + c.length / 256) + c.length % 256 = c.length := by omega
      rw [e4]
      unfold frs2
      rw [if_neg (by simp)]
      simp
      omega
def contF (b : List UInt8) : List UInt8 := (frst b).2.1
theorem contF_elem (t : UInt8) (c : List UInt8) (h : c.length < 65536) : contF (elem t c) = c := by
  have := frst_elem t c [] h
  rw [List.append_nil] at this
  unfold contF
  rw [this]
theorem contF_le (b : List UInt8) : (contF b).length ≤ b.length := (frst_le b).2.2
theorem els_elem (t : UInt8) (c rest : List UInt8) (h : c.length < 65536) : els (elem t c ++ rest) = elem t c :: els rest := by
  have h1 := frst_elem t c rest h
  have h2 : 0 < (elem t c).length := by rw [elem_shape t c (by omega)]; simp
  rw [els_go (by rw [h1]; dsimp only; omega), h1]
  dsimp only
  rw [List.take_left, List.drop_left]
theorem els_nil : els [] = [] := els_stop rfl
/-- What is inside of the tagged element with a number. -/
def itemF (b : List UInt8) (n : Nat) : List UInt8 := match (els (contF b)).find? (fun x => (x[0]?.getD 0).toNat == 160 + n) with | none => [] | some x => contF x
def gint (b : List UInt8) : Nat := nbe ((contF b).take 7) 0
def getF (b : List UInt8) : List (Int × List UInt8) := (els (contF b)).map fun e => ((gint (itemF e 0) : Int), contF (itemF e 1))
theorem getF_pair {k : Int} {b : List UInt8} (h : okA k b = true) : (gint (itemF (pairF k b) 0) : Int) = k ∧ contF (itemF (pairF k b) 1) = b := by
  obtain ⟨hb, hr⟩ := okA_len h
  have li := intSize_enc k
  have hk : encInt k ≠ [] := by
    unfold encInt
    rw [if_pos hr]
    exact elem_ne _ _ (by rw [beBytes_length]; have := intSize_le k; omega)
  have lo : (encOctets b).length ≤ b.length + 5 := elem_le 4 b
  have no : encOctets b ≠ [] := elem_ne 4 b (by omega)
  have e := pairF_eq k b (by omega) (by omega)
  rw [if_neg hk] at e
  have t0 := encTag_le 0 (encInt k); have t1 := encTag_le 1 (encOctets b)
  have e2 : pairF k b = elem 48 (encTag 0 (encInt k) ++ encTag 1 (encOctets b)) := by rw [e]; unfold twoF encSeq; simp
  have s0 := encTag_shape 0 (encInt k) (by omega) hk
  have s1 := encTag_shape 1 (encOctets b) (by omega) no
  have hel : els (contF (pairF k b)) = [encTag 0 (encInt k), encTag 1 (encOctets b)] := by
    rw [e2, contF_elem _ _ (by rw [List.length_append]; omega), s0, els_elem _ _ _ (by omega)]
    rw [s1]
    have := els_elem (tagB 1) (encOctets b) [] (by omega)
    rw [List.append_nil, els_nil] at this
    rw [this]
  have h0 : ((encTag 0 (encInt k))[0]?.getD 0).toNat = 160 := by
    rw [s0, elem_shape _ _ (by omega)]; rfl
  have h1 : ((encTag 1 (encOctets b))[0]?.getD 0).toNat = 161 := by
    rw [s1, elem_shape _ _ (by omega)]; rfl
  have i0 : itemF (pairF k b) 0 = encInt k := by
    unfold itemF
    rw [hel, List.find?_cons_of_pos (by rw [h0]; rfl)]
    dsimp only
    rw [s0, contF_elem _ _ (by omega)]
  have i1 : itemF (pairF k b) 1 = encOctets b := by
    unfold itemF
    rw [hel, List.find?_cons_of_neg (by rw [h0]; decide), List.find?_cons_of_pos (by rw [h1]; rfl)]
    dsimp only
    rw [s1, contF_elem _ _ (by omega)]
  refine ⟨?_, by rw [i1]; exact contF_elem _ _ (by omega)⟩
  rw [i0]
  rcases okA_kinds h with ⟨rfl, _⟩ | ⟨rfl, _⟩ | ⟨rfl, _⟩ <;> decide
theorem els_flat {xs : List (Int × List UInt8)} (h : ∀ q ∈ xs, okA q.1 q.2 = true) : els (flatP xs) = xs.map fun q => pairF q.1 q.2 := by
  induction xs with
  | nil => exact els_nil
  | cons q t ih =>
    have hq := h q (by simp)
    obtain ⟨hne, hle⟩ := pair_ok hq
    obtain ⟨y, u0, u1, hy, hyl, hyl2, _⟩ := pair_enc q.1 q.2 hne (by omega)
    rw [flatP_cons, hy, els_elem _ _ _ (by omega), ih (fun x hx => h x (List.mem_cons_of_mem _ hx)), List.map_cons, hy]
/-- What has been written of a valid list is found again. -/
theorem getF_data {xs : List (Int × List UInt8)} (h : vlA xs = true) : getF (dataF xs) = xs := by
  obtain ⟨h1, h2⟩ := vlA_iff.1 h
  have h3 := flat_len h1
  obtain ⟨e, _⟩ := dataF_ne h2 (fun q hq => (pair_ok (h1 q hq)).1) (by omega)
  unfold getF
  rw [e, contF_elem _ _ (by omega), els_flat h1, List.map_map]
  conv => rhs; rw [← List.map_id xs]
  refine List.map_congr_left fun q hq => ?_
  obtain ⟨g1, g2⟩ := getF_pair (h1 q hq)
  exact Prod.ext g1 g2
theorem getF_le (b : List UInt8) : 2 * (getF b).length ≤ b.length ∧ ∀ q ∈ getF b, q.2.length ≤ b.length := by
  have hc := contF_le b
  refine ⟨by unfold getF; rw [List.length_map]; have := els_len (contF b); omega, fun q hq => ?_⟩
  unfold getF at hq
  obtain ⟨e, he, rfl⟩ := List.mem_map.1 hq
  have h1 := (els_all (contF b) e he).1
  dsimp only
  have h2 := contF_le (itemF e 1)
  have h3 : (itemF e 1).length ≤ e.length := by
    unfold itemF
    cases hf : (els (contF e)).find? (fun x => (x[0]?.getD 0).toNat == 160 + 1) with
    | none => simp
    | some x =>
      dsimp only
      have h4 := (els_all (contF e) x (List.mem_of_find?_eq_some hf)).1
      have h5 := contF_le x
      have h6 := contF_le e
      omega
  omega
end Go.Proofs.YthpfomjibfbiiaaGreatDoor
