/- Policy: the reference's Parse. (wip/tools/genpor10.py printed this.) -/
import Derived.Test.YtgfjmmdkdhodiaaGreatDoorMg30
import Derived.Test.YtgfjmmdkdhodiaaGreatDoorPoR8
import Derived.Test.YtgfjmmdkdhodiaaGreatDoorMg25
import Derived.Test.YtgfjmmdkdhodiaaGreatDoorPo15
import Derived.Deep.DeepCutAuto
import Derived.Deep.CutBlock
import Derived.Outline
import Derived.Laws.Strings3
namespace Go.Proofs.YtgfjmmdkdhodiaaGreatDoor
open Go Go.RowKit
set_option linter.unusedVariables false

/-- The parts between the numbers. -/
def PT : List (List UInt8) := [[32, 108, 101, 110, 103, 116, 104, 61], [32, 99, 108, 97, 115, 115, 101, 115, 61], [32, 100, 105, 115, 116, 105, 110, 99, 116, 61], [32, 104, 105, 115, 116, 111, 114, 121, 61], [32, 97, 103, 101, 61], [46, 46], [32, 102, 97, 105, 108, 115, 61], [32, 108, 111, 99, 107, 61], [47]]
/-- A part and a number behind it. -/
def stepR (part l : List UInt8) : Option (Int × List UInt8) := if part.isPrefixOf l then (if (numL 0 (l.drop part.length)).2.length = (l.drop part.length).length then none else some (numL 0 (l.drop part.length))) else none
def goR : List (List UInt8) → List UInt8 → List Int → Option (List Int)
  | [], _, vs => some vs
  | p :: ps, l, vs => match stepR p l with | some (v, r) => goR ps r (vs ++ [v]) | none => none
def polR (nm : ByteArray) : List Int → Option Pol
  | [v0, v1, v2, v3, v4, v5, v6, v7, v8] => some ⟨nm, v0, v1, v2, v3, v4, v5, v6, v7, v8⟩
  | _ => none
def parseR (s : ByteArray) (a : Nat) : Option Pol := match goR PT (s.data.toList.drop a) [] with | some vs => polR (s.extract 0 a) vs | none => none
theorem goR_step {p : List UInt8} {ps : List (List UInt8)} {l r : List UInt8} {vs : List Int} {v : Int} (h : stepR p l = some (v, r)) : goR (p :: ps) l vs = goR ps r (vs ++ [v]) := by simp only [goR, h]
theorem goR_none {p : List UInt8} {ps : List (List UInt8)} {l : List UInt8} {vs : List Int} (h : stepR p l = none) : goR (p :: ps) l vs = none := by simp only [goR, h]
theorem itoa_ne {x : Int} (h : 0 ≤ x) : 1 ≤ (Lib.itoa x).length := by
  rw [itoaP h]
  cases hd : Lib.decDigits x.toNat with
  | nil => exact absurd hd (dec_ne _)
  | cons c r => simp
theorem stepR_ok (part : List UInt8) {x : Int} (h0 : 0 ≤ x) (h1 : x ≤ 1099511627776) (c : UInt8) (r : List UInt8) (hc : c.toNat < 48 ∨ 57 < c.toNat) : stepR part (part ++ (Lib.itoa x ++ c :: r)) = some (x, c :: r) := by
  unfold stepR
  rw [if_pos (isPref _ _), List.drop_left, numL_itoa h0 h1 c r hc, if_neg]
  have := itoa_ne h0
  simp only [List.length_append, List.length_cons]
  omega
theorem stepR_end (part : List UInt8) {x : Int} (h0 : 0 ≤ x) (h1 : x ≤ 1099511627776) : stepR part (part ++ Lib.itoa x) = some (x, []) := by
  unfold stepR
  rw [if_pos (isPref _ _), List.drop_left, numL_end h0 h1, if_neg]
  have := itoa_ne h0
  simp only [List.length_nil]
  omega
/-- The text, cut at the parts. -/
theorem text_parts (p : Pol) : p.text = p.nm.data.toList ++ ([32, 108, 101, 110, 103, 116, 104, 61] ++ (Lib.itoa p.len ++ 32 :: ([99, 108, 97, 115, 115, 101, 115, 61] ++ (Lib.itoa p.cla ++ 32 :: ([100, 105, 115, 116, 105, 110, 99, 116, 61] ++ (Lib.itoa p.dis ++ 32 :: ([104, 105, 115, 116, 111, 114, 121, 61] ++ (Lib.itoa p.his ++ 32 :: ([97, 103, 101, 61] ++ (Lib.itoa p.mina ++ 46 :: ([46] ++ (Lib.itoa p.maxa ++ 32 :: ([102, 97, 105, 108, 115, 61] ++ (Lib.itoa p.fai ++ 32 :: ([108, 111, 99, 107, 61] ++ (Lib.itoa p.win ++ 47 :: Lib.itoa p.loc)))))))))))))))) := by
  rw [Pol.text_eq]
  simp [hLen, hCla, hDis, hHis, hAge, hFai, hLoc]
theorem name_end {l nm r : List UInt8} {a : Nat} (h : l = nm ++ 32 :: r) (hn : ∀ c ∈ nm, c.toNat ≠ 32) (ha : a ≤ l.length) (h1 : ∀ j (hj : j < l.length), j < a → l[j].toNat ≠ 32) (h2 : ∀ h : a < l.length, l[a].toNat = 32) : a = nm.length := by
  subst h
  rcases Nat.lt_trichotomy a nm.length with hl | hl | hl
  · have hlt : a < (nm ++ 32 :: r).length := by rw [List.length_append]; omega
    have := h2 hlt
    rw [List.getElem_append_left hl] at this
    exact absurd this (hn _ (List.getElem_mem hl))
  · exact hl
  · have hlt : nm.length < (nm ++ 32 :: r).length := by rw [List.length_append, List.length_cons]; omega
    have := h1 nm.length hlt hl
    rw [List.getElem_append_right (Nat.le_refl _)] at this
    simp at this
theorem parseR_text {p : Pol} (hp : p.ok = true) (s : ByteArray) (hs : p.text = s.data.toList) (a : Nat) (ha : a ≤ s.size) (h1 : ∀ j (hj : j < s.size), j < a → s[j].toNat ≠ 32) (h2 : ∀ h : a < s.size, s[a].toNat = 32) : parseR s a = some p := by
  have hb := (Pol.ok_iff p).1 hp
  have ht := text_parts p
  rw [hs] at ht
  have hsz := size_list s
  have h1' : ∀ j (hj : j < s.data.toList.length), j < a → s.data.toList[j].toNat ≠ 32 := fun j hj hja => by have := h1 j (by omega) hja; simpa [ByteArray.getElem_eq_getElem_data] using this
  have h2' : ∀ h : a < s.data.toList.length, s.data.toList[a].toNat = 32 := fun h => by have := h2 (by omega); simpa [ByteArray.getElem_eq_getElem_data] using this
  have hae : a = p.nm.data.toList.length := name_end (l := s.data.toList) (nm := p.nm.data.toList) ht (fun c hc => nmc_not32 (nmB_all hb.nm c hc)) (by omega) h1' h2'
  have hnm : s.extract 0 a = p.nm := by
    have h3 : (s.extract 0 a).data.toList = p.nm.data.toList := by
      rw [extr_list s 0 a ha, List.drop_zero, Nat.sub_zero, ht, hae, List.take_left]
    apply ByteArray.ext
    exact Array.toList_inj.1 h3
  have b : ∀ x : Int, 0 ≤ x → x ≤ 1099511627776 → 0 ≤ x ∧ x ≤ 1099511627776 := fun _ h k => ⟨h, k⟩
  unfold parseR
  rw [hnm]
  have hg : goR PT (s.data.toList.drop a) [] = some [p.len, p.cla, p.dis, p.his, p.mina, p.maxa, p.fai, p.win, p.loc] := by
    rw [hae, ht, List.drop_left]
    have k1 := hb.len; have k2 := hb.cla; have k3 := hb.dis; have k4 := hb.his; have k5 := hb.mina; have k6 := hb.maxa; have k7 := hb.fai; have k8 := hb.win; have k9 := hb.loc
    unfold PT
    refine (goR_step (stepR_ok [32, 108, 101, 110, 103, 116, 104, 61] (x := p.len) (by omega) (by omega) 32 _ (by decide))).trans ?_
    refine (goR_step (stepR_ok [32, 99, 108, 97, 115, 115, 101, 115, 61] (x := p.cla) (by omega) (by omega) 32 _ (by decide))).trans ?_
    refine (goR_step (stepR_ok [32, 100, 105, 115, 116, 105, 110, 99, 116, 61] (x := p.dis) (by omega) (by omega) 32 _ (by decide))).trans ?_
    refine (goR_step (stepR_ok [32, 104, 105, 115, 116, 111, 114, 121, 61] (x := p.his) (by omega) (by omega) 32 _ (by decide))).trans ?_
    refine (goR_step (stepR_ok [32, 97, 103, 101, 61] (x := p.mina) (by omega) (by omega) 46 _ (by decide))).trans ?_
    refine (goR_step (stepR_ok [46, 46] (x := p.maxa) (by omega) (by omega) 32 _ (by decide))).trans ?_
    refine (goR_step (stepR_ok [32, 102, 97, 105, 108, 115, 61] (x := p.fai) (by omega) (by omega) 32 _ (by decide))).trans ?_
    refine (goR_step (stepR_ok [32, 108, 111, 99, 107, 61] (x := p.win) (by omega) (by omega) 47 _ (by decide))).trans ?_
    exact goR_step (stepR_end [47] (x := p.loc) (by omega) (by omega))
  rw [hg]
  rfl
/-- The row of the numbers. -/
def rowV (vs : List Int) : Array Value := (Array.range 9).map fun j => Value.int .i64 (vs.getD j 0)
theorem rowV_step (vs : List Int) (v : Int) (h : vs.length < 9) : (rowV vs).setIfInBounds vs.length (.int .i64 v) = rowV (vs ++ [v]) := by
  apply Array.ext (by simp [rowV])
  intro j h1 h2
  have hj : j < 9 := by simpa [rowV] using h2
  rw [Array.getElem_setIfInBounds (by simpa [rowV] using hj)]
  by_cases he : vs.length = j
  · subst he; simp [rowV]
  · rw [if_neg he]
    simp only [rowV, Array.getElem_map, Array.getElem_range]
    congr 1
    rcases Nat.lt_or_ge j vs.length with hl | hl
    · simp [List.getD_eq_getElem?_getD, List.getElem?_append_left hl]
    · simp only [List.getD_eq_getElem?_getD]
      rw [List.getElem?_eq_none hl, List.getElem?_eq_none (by rw [List.length_append, List.length_singleton]; omega)]
theorem rowV_get (vs : List Int) (j : Nat) (h : j < 9) : (rowV vs)[j]? = some (.int .i64 (vs.getD j 0)) := by simp [rowV, h]
theorem rowV_nil : rowV [] = #[.int .i64 0, .int .i64 0, .int .i64 0, .int .i64 0, .int .i64 0, .int .i64 0, .int .i64 0, .int .i64 0, .int .i64 0] := by kernel_rfl
theorem no_ofR {s : ByteArray} {a : Nat} (hc : ∀ p : Pol, p.ok = true → p.text = s.data.toList → parseR s a = some p) (h : ∀ q, parseR s a = some q → ¬ (q.ok = true ∧ q.text = s.data.toList)) : ∀ p : Pol, p.ok = true → p.text ≠ s.data.toList := fun p hp ht => h p (hc p hp ht) ⟨hp, ht⟩
theorem list_nine {l : List Int} (h : l.length = 9) : ∃ a b c d e f g i j, l = [a, b, c, d, e, f, g, i, j] := by
  match l, h with
  | [a, b, c, d, e, f, g, i, j], _ => exact ⟨a, b, c, d, e, f, g, i, j, rfl⟩
/-- What lies there while the numbers are read. -/
structure RPI (w : World) (nm : ByteArray) (vs : List Int) (W : World) : Prop where
  res : PL W w.heap.size Pol.zero
  pol : PL W (w.heap.size + 1) { Pol.zero with nm := nm }
  row : W.heap[w.heap.size + 1 + 1]? = some (.cells (PT.map fun l => Value.string ⟨l.toArray⟩).toArray 9 (0, 0))
  num : W.heap[w.heap.size + 1 + 1 + 1]? = some (.cells (rowV vs) 90 (0, 0))
  ext : Ext w W
theorem RPI.set {w W : World} {nm : ByteArray} {vs : List Int} (h : RPI w nm vs W) (hl : vs.length < 9) (v : Int) : RPI w nm (vs ++ [v]) (W.setCell ⟨w.heap.size + 1 + 1 + 1, vs.length, none⟩ (.int .i64 v)) :=
  ⟨(heap_setCell_other W _ _ _ (by show w.heap.size ≠ w.heap.size + 1 + 1 + 1; omega)).trans h.res, (heap_setCell_other W _ _ _ (by show w.heap.size + 1 ≠ w.heap.size + 1 + 1 + 1; omega)).trans h.pol, (heap_setCell_other W _ _ _ (by show w.heap.size + 1 + 1 ≠ w.heap.size + 1 + 1 + 1; omega)).trans h.row,
    by rw [heap_setCell_same W _ _ _ _ _ h.num, rowV_step vs v hl], h.ext.setCell (show w.heap.size ≤ w.heap.size + 1 + 1 + 1 by omega) _⟩
theorem RPI.word {w W : World} {nm : ByteArray} {vs : List Int} (h : RPI w nm vs W) (k : Nat) (hk : k < 9) : W.cell? ⟨w.heap.size + 1 + 1, k, none⟩ = some (.string ⟨(PT[k]'(by simpa [PT] using hk)).toArray⟩) := by
  rw [cell_of_row _ _ k _ _ (0, 0) h.row]
  rw [List.getElem?_toArray, List.getElem?_map, List.getElem?_eq_getElem (by simpa [PT] using hk)]
  rfl
theorem RPI.at_ {w W : World} {nm : ByteArray} {vs : List Int} (h : RPI w nm vs W) (k : Nat) (hk : k < 9) : W.cell? ⟨w.heap.size + 1 + 1 + 1, k, none⟩ = some (.int .i64 (vs.getD k 0)) := by
  rw [cell_of_row _ _ k _ _ (0, 0) h.num]
  exact rowV_get vs k hk
theorem RPI.soft {w W : World} {nm : ByteArray} {vs : List Int} (h : RPI w nm vs W) (k : Nat) : W.frozen? ⟨w.heap.size + 1 + 1 + 1, k, none⟩ = false := by simp [World.frozen?, h.num]
/-- The policy, as far as its numbers have been stored. -/
def polL (nm : ByteArray) (v0 v1 v2 v3 v4 v5 v6 v7 v8 : Int) (L : Array Bool) : Pol := ⟨nm, if L.getD 19 false then v0 else 0, if L.getD 21 false then v1 else 0, if L.getD 23 false then v2 else 0, if L.getD 25 false then v3 else 0, if L.getD 27 false then v4 else 0, if L.getD 29 false then v5 else 0, if L.getD 31 false then v6 else 0, if L.getD 33 false then v7 else 0, if L.getD 35 false then v8 else 0⟩
theorem polL_other {nm : ByteArray} {v0 v1 v2 v3 v4 v5 v6 v7 v8 : Int} (L : Array Bool) (i : Nat) (hi : i < L.size) (h : i ≠ 19 ∧ i ≠ 21 ∧ i ≠ 23 ∧ i ≠ 25 ∧ i ≠ 27 ∧ i ≠ 29 ∧ i ≠ 31 ∧ i ≠ 33 ∧ i ≠ 35) : polL nm v0 v1 v2 v3 v4 v5 v6 v7 v8 (L.setIfInBounds i true) = polL nm v0 v1 v2 v3 v4 v5 v6 v7 v8 L := by
  obtain ⟨h0, h1, h2, h3, h4, h5, h6, h7, h8⟩ := h
  unfold polL
  simp only [getD_set L i _ hi, h0, h1, h2, h3, h4, h5, h6, h7, h8, decide_false, Bool.false_or]
theorem polL_store1 {nm : ByteArray} {v0 v1 v2 v3 v4 v5 v6 v7 v8 : Int} (L : Array Bool) (hs : 19 < L.size) : polL nm v0 v1 v2 v3 v4 v5 v6 v7 v8 (L.setIfInBounds 19 true) = (polL nm v0 v1 v2 v3 v4 v5 v6 v7 v8 L).set 1 v0 := by
  unfold polL
  simp [getD_set L 19 _ hs, Pol.set]
theorem polL_store2 {nm : ByteArray} {v0 v1 v2 v3 v4 v5 v6 v7 v8 : Int} (L : Array Bool) (hs : 21 < L.size) : polL nm v0 v1 v2 v3 v4 v5 v6 v7 v8 (L.setIfInBounds 21 true) = (polL nm v0 v1 v2 v3 v4 v5 v6 v7 v8 L).set 2 v1 := by
  unfold polL
  simp [getD_set L 21 _ hs, Pol.set]
theorem polL_store3 {nm : ByteArray} {v0 v1 v2 v3 v4 v5 v6 v7 v8 : Int} (L : Array Bool) (hs : 23 < L.size) : polL nm v0 v1 v2 v3 v4 v5 v6 v7 v8 (L.setIfInBounds 23 true) = (polL nm v0 v1 v2 v3 v4 v5 v6 v7 v8 L).set 3 v2 := by
  unfold polL
  simp [getD_set L 23 _ hs, Pol.set]
theorem polL_store4 {nm : ByteArray} {v0 v1 v2 v3 v4 v5 v6 v7 v8 : Int} (L : Array Bool) (hs : 25 < L.size) : polL nm v0 v1 v2 v3 v4 v5 v6 v7 v8 (L.setIfInBounds 25 true) = (polL nm v0 v1 v2 v3 v4 v5 v6 v7 v8 L).set 4 v3 := by
  unfold polL
  simp [getD_set L 25 _ hs, Pol.set]
theorem polL_store5 {nm : ByteArray} {v0 v1 v2 v3 v4 v5 v6 v7 v8 : Int} (L : Array Bool) (hs : 27 < L.size) : polL nm v0 v1 v2 v3 v4 v5 v6 v7 v8 (L.setIfInBounds 27 true) = (polL nm v0 v1 v2 v3 v4 v5 v6 v7 v8 L).set 5 v4 := by
  unfold polL
  simp [getD_set L 27 _ hs, Pol.set]
theorem polL_store6 {nm : ByteArray} {v0 v1 v2 v3 v4 v5 v6 v7 v8 : Int} (L : Array Bool) (hs : 29 < L.size) : polL nm v0 v1 v2 v3 v4 v5 v6 v7 v8 (L.setIfInBounds 29 true) = (polL nm v0 v1 v2 v3 v4 v5 v6 v7 v8 L).set 6 v5 := by
  unfold polL
  simp [getD_set L 29 _ hs, Pol.set]
theorem polL_store7 {nm : ByteArray} {v0 v1 v2 v3 v4 v5 v6 v7 v8 : Int} (L : Array Bool) (hs : 31 < L.size) : polL nm v0 v1 v2 v3 v4 v5 v6 v7 v8 (L.setIfInBounds 31 true) = (polL nm v0 v1 v2 v3 v4 v5 v6 v7 v8 L).set 7 v6 := by
  unfold polL
  simp [getD_set L 31 _ hs, Pol.set]
theorem polL_store8 {nm : ByteArray} {v0 v1 v2 v3 v4 v5 v6 v7 v8 : Int} (L : Array Bool) (hs : 33 < L.size) : polL nm v0 v1 v2 v3 v4 v5 v6 v7 v8 (L.setIfInBounds 33 true) = (polL nm v0 v1 v2 v3 v4 v5 v6 v7 v8 L).set 8 v7 := by
  unfold polL
  simp [getD_set L 33 _ hs, Pol.set]
theorem polL_store9 {nm : ByteArray} {v0 v1 v2 v3 v4 v5 v6 v7 v8 : Int} (L : Array Bool) (hs : 35 < L.size) : polL nm v0 v1 v2 v3 v4 v5 v6 v7 v8 (L.setIfInBounds 35 true) = (polL nm v0 v1 v2 v3 v4 v5 v6 v7 v8 L).set 9 v8 := by
  unfold polL
  simp [getD_set L 35 _ hs, Pol.set]
def WI16 (w : World) (nm : ByteArray) (v0 v1 v2 v3 v4 v5 v6 v7 v8 : Int) (wr : World) (L : Array Bool) (W : World) : Prop := W.heap[w.heap.size + 1 + 1 + 1]? = some (.cells (rowV [v0, v1, v2, v3, v4, v5, v6, v7, v8]) 90 (0, 0)) ∧ PL W (w.heap.size + 1) (polL nm v0 v1 v2 v3 v4 v5 v6 v7 v8 L) ∧ wr.grownBy W (some (w.heap.size + 1))
theorem PT_len (k : Nat) (h : k < PT.length) : (PT[k]).length ≤ 20 := by
  have : ∀ l ∈ PT, l.length ≤ 20 := by decide
  exact this _ (List.getElem_mem h)
set_option maxRecDepth 100000 in
set_option maxHeartbeats 16000000 in
theorem RPoParse_at (s : ByteArray) (hs : s.size ≤ 1000) (w : World) :
    Calls Tryz.prog 24 #[.string s] w fun en w' => PRes' s.data.toList en ∧ Ext w w' := by
  have h0 : (w.alloc (.cells #[.string ⟨#[]⟩, .int .i64 0, .int .i64 0, .int .i64 0, .int .i64 0, .int .i64 0, .int .i64 0, .int .i64 0, .int .i64 0, .int .i64 0] 23)).heap[w.heap.size]? = some (.cells Pol.zero.cs 23 (0, 0)) := heap_alloc_new w _
  obtain ⟨W1, e1⟩ : ∃ W, w.alloc (.cells #[.string ⟨#[]⟩, .int .i64 0, .int .i64 0, .int .i64 0, .int .i64 0, .int .i64 0, .int .i64 0, .int .i64 0, .int .i64 0, .int .i64 0] 23) = W := ⟨_, rfl⟩
  have x1 : Ext w W1 := e1 ▸ (Ext.refl w).alloc _
  have z1 : W1.heap.size = w.heap.size + 1 := by rw [← e1]; simp
  rw [e1] at h0
  have HR1 := Lib.hid h0; have HX1 := Lib.hid x1; have HZ1 := Lib.hid z1
  clear h0 x1 z1
  go_enter Tryz.func24, Tryz.ntmps24
  go_upto_block 0 with (fail)
  go_cut [4] (fun v wc => ∃ k : Nat, v = .int .i64 k ∧ k ≤ s.size ∧ Hid (∀ j (hj : j < s.size), j < k → s[j].toNat ≠ 32) ∧ Hid (∀ h : k < s.size, s[k].toNat = 32) ∧ wc = W1)
  case first =>
    go_wp2_with fail
    go_loop [4] (fun i => ∃ k : Nat, k ≤ s.size ∧ i = .int .i64 k ∧ Hid (∀ j (hj : j < s.size), j < k → s[j].toNat ≠ 32)) (fun i => s.size - (intOf i).toNat)
    case atStart => exact ⟨0, Nat.zero_le _, rfl, Lib.hid (fun j _ hj => by omega)⟩
    case round =>
      obtain ⟨k, hk, rfl, HNS⟩ := hrel
      by_cases hgo : ∃ h : k < s.size, s[k].toNat ≠ 32
      · obtain ⟨hlt, hne⟩ := hgo
        have q1 : ((s[k].toNat : Int) != 32) = true := by rw [bne_iff_ne]; omega
        have HNE := Lib.hid hne
        clear hne
        go_wp2_with fail
        go_round
        case rel => exact ⟨k + 1, by omega, by go_num, Lib.hid (fun j hj hjk => by
          by_cases h : j < k
          · exact HNS.out j hj h
          · obtain rfl : j = k := by omega
            exact HNE.out)⟩
        case measure => simp [intOf]; omega
      · have HEND := Lib.hid (show ∀ h : k < s.size, s[k].toNat = 32 from fun h => by
          by_cases hh : s[k].toNat = 32
          · exact hh
          · exact absurd ⟨h, hh⟩ hgo)
        clear hgo
        by_cases hlt : k < s.size
        · have q1 : ((s[k].toNat : Int) != 32) = false := by rw [bne_eq_false_iff_eq]; have := HEND.out hlt; omega
          go_wp2_with fail
          go_meet
          case rel => exact ⟨k, rfl, hk, HNS, HEND, rfl⟩
        · have hnx : ¬ (k : Int) < (s.size : Int) := by omega
          go_wp2_with fail
          go_meet
          case rel => exact ⟨k, rfl, hk, HNS, HEND, rfl⟩
  case rest =>
    have hcut := hcut
    obtain ⟨a, rfl, ha, HNS, HEND, rfl⟩ := hcut
    have HCO := Lib.hid (fun (p : Pol) (hp : p.ok = true) (ht : p.text = s.data.toList) => parseR_text hp s ht a ha HNS.out HEND.out)
    clear HNS HEND
    have hsl : ∀ W', (Instr.slice 9 (.string s) none (some (.int .i64 (a : Int))) none).run Tryz.prog W' = .ok (.string (s.extract 0 a)) W' := fun W' => by
      rw [run_slice_string_to_if W' _ _ _ _ Tryz.underlying9, if_pos (by omega), show ((a : Int)).toNat = a by omega]
    obtain ⟨nm, hnm⟩ : ∃ nm, s.extract 0 a = nm := ⟨_, rfl⟩
    rw [hnm] at hsl
    have HNM := Lib.hid hnm
    clear hnm
    have p0 : (wc.alloc (.cells #[.string nm, .int .i64 0, .int .i64 0, .int .i64 0, .int .i64 0, .int .i64 0, .int .i64 0, .int .i64 0, .int .i64 0, .int .i64 0] 23)).heap[wc.heap.size]? = some (.cells ({ Pol.zero with nm := nm } : Pol).cs 23 (0, 0)) := heap_alloc_new wc _
    obtain ⟨W2, e2⟩ : ∃ W, wc.alloc (.cells #[.string nm, .int .i64 0, .int .i64 0, .int .i64 0, .int .i64 0, .int .i64 0, .int .i64 0, .int .i64 0, .int .i64 0, .int .i64 0] 23) = W := ⟨_, rfl⟩
    have x2 : Ext wc W2 := e2 ▸ (Ext.refl wc).alloc _
    have z2 : W2.heap.size = w.heap.size + 1 + 1 := by rw [← e2]; simp [HZ1.out]
    rw [e2, HZ1.out] at p0
    have p1 : (W2.alloc (.cells #[.string ⟨#[32, 108, 101, 110, 103, 116, 104, 61]⟩, .string ⟨#[32, 99, 108, 97, 115, 115, 101, 115, 61]⟩, .string ⟨#[32, 100, 105, 115, 116, 105, 110, 99, 116, 61]⟩, .string ⟨#[32, 104, 105, 115, 116, 111, 114, 121, 61]⟩, .string ⟨#[32, 97, 103, 101, 61]⟩, .string ⟨#[46, 46]⟩, .string ⟨#[32, 102, 97, 105, 108, 115, 61]⟩, .string ⟨#[32, 108, 111, 99, 107, 61]⟩, .string ⟨#[47]⟩] 9)).heap[W2.heap.size]? = some (.cells (PT.map fun l => Value.string ⟨l.toArray⟩).toArray 9 (0, 0)) := heap_alloc_new W2 _
    obtain ⟨W3, e3⟩ : ∃ W, W2.alloc (.cells #[.string ⟨#[32, 108, 101, 110, 103, 116, 104, 61]⟩, .string ⟨#[32, 99, 108, 97, 115, 115, 101, 115, 61]⟩, .string ⟨#[32, 100, 105, 115, 116, 105, 110, 99, 116, 61]⟩, .string ⟨#[32, 104, 105, 115, 116, 111, 114, 121, 61]⟩, .string ⟨#[32, 97, 103, 101, 61]⟩, .string ⟨#[46, 46]⟩, .string ⟨#[32, 102, 97, 105, 108, 115, 61]⟩, .string ⟨#[32, 108, 111, 99, 107, 61]⟩, .string ⟨#[47]⟩] 9) = W := ⟨_, rfl⟩
    have x3 : Ext W2 W3 := e3 ▸ (Ext.refl W2).alloc _
    have z3 : W3.heap.size = w.heap.size + 1 + 1 + 1 := by rw [← e3]; simp [z2]
    rw [e3, z2] at p1
    have p2 := heap_alloc_new W3 (.cells (rowV []) 90)
    rw [rowV_nil] at p2
    obtain ⟨W4, e4⟩ : ∃ W, W3.alloc (.cells #[.int .i64 0, .int .i64 0, .int .i64 0, .int .i64 0, .int .i64 0, .int .i64 0, .int .i64 0, .int .i64 0, .int .i64 0] 90) = W := ⟨_, rfl⟩
    have x4 : Ext W3 W4 := e4 ▸ (Ext.refl W3).alloc _
    rw [e4, z3, ← rowV_nil] at p2
    have HRP := Lib.hid (show RPI w nm [] W4 from ⟨((x2.trans x3).trans x4).heap HR1.out, (x3.trans x4).heap p0, x4.heap p1, p2, HX1.out.trans ((x2.trans x3).trans x4)⟩)
    have HE2 := Lib.hid e2; have HE3 := Lib.hid e3; have HE4 := Lib.hid e4
    clear p0 p1 p2 x2 x3 x4 z2 z3 e2 e3 e4
    go_wp2_with fail
    rw [HE2.out, HE3.out, HE4.out, HZ1.out]
    go_loopw [4, 8] (fun av i wr => ∃ (k b : Nat) (vs : List Int), k ≤ 9 ∧ i = .int .i64 k ∧ av = .int .i64 b ∧ b ≤ s.size ∧ Hid (vs.length = k) ∧ Hid (goR PT (s.data.toList.drop a) [] = goR (PT.drop k) (s.data.toList.drop b) vs) ∧ Hid (RPI w nm vs wr)) (fun _ i _ => 9 - (intOf i).toNat)
    case atStart => exact ⟨0, a, [], by omega, rfl, rfl, ha, Lib.hid rfl, Lib.hid rfl, HRP⟩
    case round =>
      obtain ⟨k, b, vs, hk, rfl, rfl, hb, HVL, HGO, HRP⟩ := hrel
      by_cases hlt : k < 9
      · have hkl : k < PT.length := by simpa [PT] using hlt
        obtain ⟨part, hpart⟩ : ∃ part, PT[k] = part := ⟨_, rfl⟩
        have hw := HRP.out.word k hlt
        have hdr : PT.drop k = part :: PT.drop (k + 1) := by rw [List.drop_eq_getElem_cons hkl, hpart]
        rw [hpart] at hw
        have hpl := PT_len k hkl
        rw [hpart] at hpl
        have hps : (⟨part.toArray⟩ : ByteArray).size = part.length := by show part.toArray.size = _; simp
        have HPS := Lib.hid hps; have HPL := Lib.hid hpl; have HDR := Lib.hid hdr
        have k9 : (k : Int) < 9 := by omega
        clear hpart hdr hpl hps hkl
        go_wp2_with fail
        refine (after_at s ⟨part.toArray⟩ hs (by rw [HPS.out]; have := HPL.out; omega) b hb _).mono ?_
        rintro e w2 ⟨hA, rfl⟩
        rcases hA with ⟨hpre, hle, he⟩ | ⟨hpre, rfl⟩
        · rw [HPS.out] at he hle
          obtain ⟨b2, hb2⟩ : ∃ b2 : Nat, b2 = b + part.length := ⟨_, rfl⟩
          rw [show (b : Int) + (part.length : Int) = (b2 : Int) by omega] at he
          subst he
          have HB2 := Lib.hid hb2
          have hle2 : b2 ≤ s.size := by omega
          have HPRE := Lib.hid (show part.isPrefixOf (s.data.toList.drop b) = true from by simpa using hpre)
          clear hpre hle hb2
          go_wp2_with fail
          refine (number_at' s hs b2 hle2 _).mono ?_
          rintro e w3 ⟨⟨n, kk, hk1, hk2, hn0, hn1, hnum, hres⟩, rfl⟩
          have hst : stepR part (s.data.toList.drop b) = if kk = b2 then none else some (n, s.data.toList.drop kk) := by
            unfold stepR
            rw [if_pos HPRE.out, List.drop_drop, ← HB2.out, hnum]
            have hsz := size_list s
            by_cases hkk : kk = b2
            · rw [if_pos hkk, if_pos (by rw [hkk])]
            · rw [if_neg hkk, if_neg (by simp only [List.length_drop]; omega)]
          have HST := Lib.hid hst; have HVL' := Lib.hid HVL.out
          have c0 := HRP.out.at_ k hlt
          have g0 := HRP.out.soft k
          clear hst hnum
          rcases hres with ⟨hkk, rfl⟩ | ⟨hkk, rfl⟩
          · have HNO := Lib.hid (show ∀ p : Pol, p.ok = true → p.text ≠ s.data.toList from no_ofR HCO.out (fun q hq => by
              unfold parseR at hq
              rw [HGO.out, HDR.out, goR_none (by rw [HST.out, if_pos hkk])] at hq
              cases hq))
            have hset := HRP.out.set (by rw [HVL.out]; exact hlt) 0
            rw [HVL.out] at hset
            obtain ⟨WS, hWS⟩ : ∃ WS, wr.setCell ⟨w.heap.size + 1 + 1 + 1, k, none⟩ (.int .i64 0) = WS := ⟨_, rfl⟩
            rw [hWS] at hset
            have HRPS := Lib.hid hset
            clear hset hkk
            have hres := HRPS.out.res
            have f0 := hres.soft 0; have f1 := hres.soft 1; have f2 := hres.soft 2; have f3 := hres.soft 3; have f4 := hres.soft 4; have f5 := hres.soft 5; have f6 := hres.soft 6; have f7 := hres.soft 7; have f8 := hres.soft 8; have f9 := hres.soft 9
            obtain ⟨k0, k1, k2, k3, k4, k5, k6, k7, k8, k9⟩ := hres.cells
            obtain ⟨WF, hWF, hxF, hpF⟩ := putPL (q := Pol.zero) HRPS.out.ext (Nat.le_refl _) hres
            simp only [Pol.zero] at hWF
            have HXF := Lib.hid hxF; have HPF := Lib.hid hpF
            clear hres hxF hpF
            go_wp2_with fail
            obtain ⟨d0, d1, d2, d3, d4, d5, d6, d7, d8, d9⟩ := HPF.out.cells
            refine bodyPost_ret (v := .tuple #[Pol.zero.v, .int .i64 6]) (by simp [results, Tryz.results24, go_sem, d0, d1, d2, d3, d4, d5, d6, d7, d8, d9, Pol.v]; try rfl) rfl ?_
            exact ⟨.inr ⟨HNO.out, rfl⟩, HXF.out⟩
          · have hset := HRP.out.set (by rw [HVL.out]; exact hlt) n
            rw [HVL.out] at hset
            have HRP2 := Lib.hid hset
            have HGO2 := Lib.hid (show goR PT (s.data.toList.drop a) [] = goR (PT.drop (k + 1)) (s.data.toList.drop kk) (vs ++ [n]) by
              rw [HGO.out, HDR.out]; exact goR_step (by rw [HST.out, if_neg (by omega)]))
            have hkk0 : ¬ (kk : Int) < 0 := by omega
            clear hset hkk
            go_wp2_with fail
            go_roundw
            case rel => exact ⟨k + 1, kk, vs ++ [n], by omega, by go_num, rfl, hk2, Lib.hid (by rw [List.length_append, HVL.out]; rfl), HGO2, HRP2⟩
            case measure => simp [intOf]; omega
        · have HNO := Lib.hid (show ∀ p : Pol, p.ok = true → p.text ≠ s.data.toList from no_ofR HCO.out (fun q hq => by
            unfold parseR at hq
            rw [HGO.out, HDR.out, goR_none (by unfold stepR; rw [if_neg (by rw [show part.isPrefixOf (s.data.toList.drop b) = false from by simpa using hpre]; simp)])] at hq
            cases hq))
          clear hpre
          have hres := HRP.out.res
          have f0 := hres.soft 0; have f1 := hres.soft 1; have f2 := hres.soft 2; have f3 := hres.soft 3; have f4 := hres.soft 4; have f5 := hres.soft 5; have f6 := hres.soft 6; have f7 := hres.soft 7; have f8 := hres.soft 8; have f9 := hres.soft 9
          obtain ⟨k0, k1, k2, k3, k4, k5, k6, k7, k8, k9⟩ := hres.cells
          obtain ⟨WF, hWF, hxF, hpF⟩ := putPL (q := Pol.zero) HRP.out.ext (Nat.le_refl _) hres
          simp only [Pol.zero] at hWF
          have HXF := Lib.hid hxF; have HPF := Lib.hid hpF
          clear hres hxF hpF
          go_wp2_with fail
          obtain ⟨d0, d1, d2, d3, d4, d5, d6, d7, d8, d9⟩ := HPF.out.cells
          refine bodyPost_ret (v := .tuple #[Pol.zero.v, .int .i64 6]) (by simp [results, Tryz.results24, go_sem, d0, d1, d2, d3, d4, d5, d6, d7, d8, d9, Pol.v]; try rfl) rfl ?_
          exact ⟨.inr ⟨HNO.out, rfl⟩, HXF.out⟩
      · obtain rfl : k = 9 := by omega
        obtain ⟨v0, v1, v2, v3, v4, v5, v6, v7, v8, rfl⟩ := list_nine HVL.out
        have HQ := Lib.hid (show parseR s a = some ⟨nm, v0, v1, v2, v3, v4, v5, v6, v7, v8⟩ by
          unfold parseR
          rw [HGO.out, HNM.out]
          rfl)
        have n0 := HRP.out.at_ 0 (by omega); have n1 := HRP.out.at_ 1 (by omega); have n2 := HRP.out.at_ 2 (by omega); have n3 := HRP.out.at_ 3 (by omega); have n4 := HRP.out.at_ 4 (by omega); have n5 := HRP.out.at_ 5 (by omega); have n6 := HRP.out.at_ 6 (by omega); have n7 := HRP.out.at_ 7 (by omega); have n8 := HRP.out.at_ 8 (by omega)
        simp only [List.getD_cons_zero, List.getD_cons_succ] at n0 n1 n2 n3 n4 n5 n6 n7 n8
        have hpol := HRP.out.pol
        have f0 := hpol.soft 0; have f1 := hpol.soft 1; have f2 := hpol.soft 2; have f3 := hpol.soft 3; have f4 := hpol.soft 4; have f5 := hpol.soft 5; have f6 := hpol.soft 6; have f7 := hpol.soft 7; have f8 := hpol.soft 8; have f9 := hpol.soft 9
        obtain ⟨k0, k1, k2, k3, k4, k5, k6, k7, k8, k9⟩ := hpol.cells
        have HPOL := Lib.hid hpol
        clear hpol hlt
        go_wp2_with fail
        refine wp_region_det (fun t => match t with | 5 => .pointer (some ⟨w.heap.size + 1, 0, none⟩) | 7 => .pointer (some ⟨w.heap.size + 1 + 1 + 1, 0, none⟩) | 51 => .pointer (some ⟨w.heap.size + 1 + 1 + 1, 0, none⟩) | 52 => .int .i64 v0 | 53 => .pointer (some ⟨w.heap.size + 1 + 1 + 1, 1, none⟩) | 54 => .int .i64 v1 | 55 => .pointer (some ⟨w.heap.size + 1 + 1 + 1, 2, none⟩) | 56 => .int .i64 v2 | 57 => .pointer (some ⟨w.heap.size + 1 + 1 + 1, 3, none⟩) | 58 => .int .i64 v3 | 59 => .pointer (some ⟨w.heap.size + 1 + 1 + 1, 4, none⟩) | 60 => .int .i64 v4 | 61 => .pointer (some ⟨w.heap.size + 1 + 1 + 1, 5, none⟩) | 62 => .int .i64 v5 | 63 => .pointer (some ⟨w.heap.size + 1 + 1 + 1, 6, none⟩) | 64 => .int .i64 v6 | 65 => .pointer (some ⟨w.heap.size + 1 + 1 + 1, 7, none⟩) | 66 => .int .i64 v7 | 67 => .pointer (some ⟨w.heap.size + 1 + 1 + 1, 8, none⟩) | 68 => .int .i64 v8 | 69 => .pointer (some ⟨w.heap.size + 1, 1, none⟩) | 70 => .pointer (some ⟨w.heap.size + 1, 2, none⟩) | 71 => .pointer (some ⟨w.heap.size + 1, 3, none⟩) | 72 => .pointer (some ⟨w.heap.size + 1, 4, none⟩) | 73 => .pointer (some ⟨w.heap.size + 1, 5, none⟩) | 74 => .pointer (some ⟨w.heap.size + 1, 6, none⟩) | 75 => .pointer (some ⟨w.heap.size + 1, 7, none⟩) | 76 => .pointer (some ⟨w.heap.size + 1, 8, none⟩) | 77 => .pointer (some ⟨w.heap.size + 1, 9, none⟩) | _ => undef) (WI16 w nm v0 v1 v2 v3 v4 v5 v6 v7 v8 wr) [5, 7] (by kernel_rfl) (by kernel_rfl) (fun t ht => by simp only [List.mem_cons, List.not_mem_nil, or_false] at ht; rcases ht with rfl | rfl <;> rfl) (fun o ho d hd => by have := List.all_eq_true.1 (show (List.all _ fun o : Oper => match o.dst with | some d => decide (d < 89) | none => true) = true from by kernel_rfl) o ho; rw [hd] at this; simpa using this) ⟨HRP.out.num, HPOL.out, (Ext.drew wr).but _⟩ ?_ ?_
        · intro i o L a' W hi hLs hLi hW hev
          have hi36 : i < 36 := by have := (List.getElem?_eq_some_iff.1 hi).1; simpa using this
          have hLs : L.size = 36 := hLs
          obtain ⟨hWn, hWp, hWg⟩ := hW
          rcases (show i = 0 ∨ i = 1 ∨ i = 2 ∨ i = 3 ∨ i = 4 ∨ i = 5 ∨ i = 6 ∨ i = 7 ∨ i = 8 ∨ i = 9 ∨ i = 10 ∨ i = 11 ∨ i = 12 ∨ i = 13 ∨ i = 14 ∨ i = 15 ∨ i = 16 ∨ i = 17 ∨ i = 18 ∨ i = 19 ∨ i = 20 ∨ i = 21 ∨ i = 22 ∨ i = 23 ∨ i = 24 ∨ i = 25 ∨ i = 26 ∨ i = 27 ∨ i = 28 ∨ i = 29 ∨ i = 30 ∨ i = 31 ∨ i = 32 ∨ i = 33 ∨ i = 34 ∨ i = 35 by omega) with rfl | rfl | rfl | rfl | rfl | rfl | rfl | rfl | rfl | rfl | rfl | rfl | rfl | rfl | rfl | rfl | rfl | rfl | rfl | rfl | rfl | rfl | rfl | rfl | rfl | rfl | rfl | rfl | rfl | rfl | rfl | rfl | rfl | rfl | rfl | rfl
          · injection hi with hi
            subst hi
            have e7 : a'.tmps[7]?.getD undef = .pointer (some ⟨w.heap.size + 1 + 1 + 1, 0, none⟩) := Array.getD_eq_getD_getElem?.symm.trans (hev 7 (by decide))
            exact ⟨_, W, by simp [execOp, go_sem, e7]; try rfl, .inl ⟨51, rfl, rfl⟩, hWn, by rw [polL_other L 0 (by omega) (by decide)]; exact hWp, hWg⟩
          · injection hi with hi
            subst hi
            have e7 : a'.tmps[51]?.getD undef = .pointer (some ⟨w.heap.size + 1 + 1 + 1, 0, none⟩) := Array.getD_eq_getD_getElem?.symm.trans (hev 51 (by decide))
            have hc : W.cell? ⟨w.heap.size + 1 + 1 + 1, 0, none⟩ = some (.int .i64 v0) := by rw [cell_of_row _ _ 0 _ _ (0, 0) hWn]; simp [rowV, Array.range]; try rfl
            exact ⟨_, W, by simp [execOp, go_sem, e7, hc]; try rfl, .inl ⟨52, rfl, rfl⟩, hWn, by rw [polL_other L 1 (by omega) (by decide)]; exact hWp, hWg⟩
          · injection hi with hi
            subst hi
            have e7 : a'.tmps[7]?.getD undef = .pointer (some ⟨w.heap.size + 1 + 1 + 1, 0, none⟩) := Array.getD_eq_getD_getElem?.symm.trans (hev 7 (by decide))
            exact ⟨_, W, by simp [execOp, go_sem, e7]; try rfl, .inl ⟨53, rfl, rfl⟩, hWn, by rw [polL_other L 2 (by omega) (by decide)]; exact hWp, hWg⟩
          · injection hi with hi
            subst hi
            have e7 : a'.tmps[53]?.getD undef = .pointer (some ⟨w.heap.size + 1 + 1 + 1, 1, none⟩) := Array.getD_eq_getD_getElem?.symm.trans (hev 53 (by decide))
            have hc : W.cell? ⟨w.heap.size + 1 + 1 + 1, 1, none⟩ = some (.int .i64 v1) := by rw [cell_of_row _ _ 1 _ _ (0, 0) hWn]; simp [rowV, Array.range]; try rfl
            exact ⟨_, W, by simp [execOp, go_sem, e7, hc]; try rfl, .inl ⟨54, rfl, rfl⟩, hWn, by rw [polL_other L 3 (by omega) (by decide)]; exact hWp, hWg⟩
          · injection hi with hi
            subst hi
            have e7 : a'.tmps[7]?.getD undef = .pointer (some ⟨w.heap.size + 1 + 1 + 1, 0, none⟩) := Array.getD_eq_getD_getElem?.symm.trans (hev 7 (by decide))
            exact ⟨_, W, by simp [execOp, go_sem, e7]; try rfl, .inl ⟨55, rfl, rfl⟩, hWn, by rw [polL_other L 4 (by omega) (by decide)]; exact hWp, hWg⟩
          · injection hi with hi
            subst hi
            have e7 : a'.tmps[55]?.getD undef = .pointer (some ⟨w.heap.size + 1 + 1 + 1, 2, none⟩) := Array.getD_eq_getD_getElem?.symm.trans (hev 55 (by decide))
            have hc : W.cell? ⟨w.heap.size + 1 + 1 + 1, 2, none⟩ = some (.int .i64 v2) := by rw [cell_of_row _ _ 2 _ _ (0, 0) hWn]; simp [rowV, Array.range]; try rfl
            exact ⟨_, W, by simp [execOp, go_sem, e7, hc]; try rfl, .inl ⟨56, rfl, rfl⟩, hWn, by rw [polL_other L 5 (by omega) (by decide)]; exact hWp, hWg⟩
          · injection hi with hi
            subst hi
            have e7 : a'.tmps[7]?.getD undef = .pointer (some ⟨w.heap.size + 1 + 1 + 1, 0, none⟩) := Array.getD_eq_getD_getElem?.symm.trans (hev 7 (by decide))
            exact ⟨_, W, by simp [execOp, go_sem, e7]; try rfl, .inl ⟨57, rfl, rfl⟩, hWn, by rw [polL_other L 6 (by omega) (by decide)]; exact hWp, hWg⟩
          · injection hi with hi
            subst hi
            have e7 : a'.tmps[57]?.getD undef = .pointer (some ⟨w.heap.size + 1 + 1 + 1, 3, none⟩) := Array.getD_eq_getD_getElem?.symm.trans (hev 57 (by decide))
            have hc : W.cell? ⟨w.heap.size + 1 + 1 + 1, 3, none⟩ = some (.int .i64 v3) := by rw [cell_of_row _ _ 3 _ _ (0, 0) hWn]; simp [rowV, Array.range]; try rfl
            exact ⟨_, W, by simp [execOp, go_sem, e7, hc]; try rfl, .inl ⟨58, rfl, rfl⟩, hWn, by rw [polL_other L 7 (by omega) (by decide)]; exact hWp, hWg⟩
          · injection hi with hi
            subst hi
            have e7 : a'.tmps[7]?.getD undef = .pointer (some ⟨w.heap.size + 1 + 1 + 1, 0, none⟩) := Array.getD_eq_getD_getElem?.symm.trans (hev 7 (by decide))
            exact ⟨_, W, by simp [execOp, go_sem, e7]; try rfl, .inl ⟨59, rfl, rfl⟩, hWn, by rw [polL_other L 8 (by omega) (by decide)]; exact hWp, hWg⟩
          · injection hi with hi
            subst hi
            have e7 : a'.tmps[59]?.getD undef = .pointer (some ⟨w.heap.size + 1 + 1 + 1, 4, none⟩) := Array.getD_eq_getD_getElem?.symm.trans (hev 59 (by decide))
            have hc : W.cell? ⟨w.heap.size + 1 + 1 + 1, 4, none⟩ = some (.int .i64 v4) := by rw [cell_of_row _ _ 4 _ _ (0, 0) hWn]; simp [rowV, Array.range]; try rfl
            exact ⟨_, W, by simp [execOp, go_sem, e7, hc]; try rfl, .inl ⟨60, rfl, rfl⟩, hWn, by rw [polL_other L 9 (by omega) (by decide)]; exact hWp, hWg⟩
          · injection hi with hi
            subst hi
            have e7 : a'.tmps[7]?.getD undef = .pointer (some ⟨w.heap.size + 1 + 1 + 1, 0, none⟩) := Array.getD_eq_getD_getElem?.symm.trans (hev 7 (by decide))
            exact ⟨_, W, by simp [execOp, go_sem, e7]; try rfl, .inl ⟨61, rfl, rfl⟩, hWn, by rw [polL_other L 10 (by omega) (by decide)]; exact hWp, hWg⟩
          · injection hi with hi
            subst hi
            have e7 : a'.tmps[61]?.getD undef = .pointer (some ⟨w.heap.size + 1 + 1 + 1, 5, none⟩) := Array.getD_eq_getD_getElem?.symm.trans (hev 61 (by decide))
            have hc : W.cell? ⟨w.heap.size + 1 + 1 + 1, 5, none⟩ = some (.int .i64 v5) := by rw [cell_of_row _ _ 5 _ _ (0, 0) hWn]; simp [rowV, Array.range]; try rfl
            exact ⟨_, W, by simp [execOp, go_sem, e7, hc]; try rfl, .inl ⟨62, rfl, rfl⟩, hWn, by rw [polL_other L 11 (by omega) (by decide)]; exact hWp, hWg⟩
          · injection hi with hi
            subst hi
            have e7 : a'.tmps[7]?.getD undef = .pointer (some ⟨w.heap.size + 1 + 1 + 1, 0, none⟩) := Array.getD_eq_getD_getElem?.symm.trans (hev 7 (by decide))
            exact ⟨_, W, by simp [execOp, go_sem, e7]; try rfl, .inl ⟨63, rfl, rfl⟩, hWn, by rw [polL_other L 12 (by omega) (by decide)]; exact hWp, hWg⟩
          · injection hi with hi
            subst hi
            have e7 : a'.tmps[63]?.getD undef = .pointer (some ⟨w.heap.size + 1 + 1 + 1, 6, none⟩) := Array.getD_eq_getD_getElem?.symm.trans (hev 63 (by decide))
            have hc : W.cell? ⟨w.heap.size + 1 + 1 + 1, 6, none⟩ = some (.int .i64 v6) := by rw [cell_of_row _ _ 6 _ _ (0, 0) hWn]; simp [rowV, Array.range]; try rfl
            exact ⟨_, W, by simp [execOp, go_sem, e7, hc]; try rfl, .inl ⟨64, rfl, rfl⟩, hWn, by rw [polL_other L 13 (by omega) (by decide)]; exact hWp, hWg⟩
          · injection hi with hi
            subst hi
            have e7 : a'.tmps[7]?.getD undef = .pointer (some ⟨w.heap.size + 1 + 1 + 1, 0, none⟩) := Array.getD_eq_getD_getElem?.symm.trans (hev 7 (by decide))
            exact ⟨_, W, by simp [execOp, go_sem, e7]; try rfl, .inl ⟨65, rfl, rfl⟩, hWn, by rw [polL_other L 14 (by omega) (by decide)]; exact hWp, hWg⟩
          · injection hi with hi
            subst hi
            have e7 : a'.tmps[65]?.getD undef = .pointer (some ⟨w.heap.size + 1 + 1 + 1, 7, none⟩) := Array.getD_eq_getD_getElem?.symm.trans (hev 65 (by decide))
            have hc : W.cell? ⟨w.heap.size + 1 + 1 + 1, 7, none⟩ = some (.int .i64 v7) := by rw [cell_of_row _ _ 7 _ _ (0, 0) hWn]; simp [rowV, Array.range]; try rfl
            exact ⟨_, W, by simp [execOp, go_sem, e7, hc]; try rfl, .inl ⟨66, rfl, rfl⟩, hWn, by rw [polL_other L 15 (by omega) (by decide)]; exact hWp, hWg⟩
          · injection hi with hi
            subst hi
            have e7 : a'.tmps[7]?.getD undef = .pointer (some ⟨w.heap.size + 1 + 1 + 1, 0, none⟩) := Array.getD_eq_getD_getElem?.symm.trans (hev 7 (by decide))
            exact ⟨_, W, by simp [execOp, go_sem, e7]; try rfl, .inl ⟨67, rfl, rfl⟩, hWn, by rw [polL_other L 16 (by omega) (by decide)]; exact hWp, hWg⟩
          · injection hi with hi
            subst hi
            have e7 : a'.tmps[67]?.getD undef = .pointer (some ⟨w.heap.size + 1 + 1 + 1, 8, none⟩) := Array.getD_eq_getD_getElem?.symm.trans (hev 67 (by decide))
            have hc : W.cell? ⟨w.heap.size + 1 + 1 + 1, 8, none⟩ = some (.int .i64 v8) := by rw [cell_of_row _ _ 8 _ _ (0, 0) hWn]; simp [rowV, Array.range]; try rfl
            exact ⟨_, W, by simp [execOp, go_sem, e7, hc]; try rfl, .inl ⟨68, rfl, rfl⟩, hWn, by rw [polL_other L 17 (by omega) (by decide)]; exact hWp, hWg⟩
          · injection hi with hi
            subst hi
            have e7 : a'.tmps[5]?.getD undef = .pointer (some ⟨w.heap.size + 1, 0, none⟩) := Array.getD_eq_getD_getElem?.symm.trans (hev 5 (by decide))
            exact ⟨_, W, by simp [execOp, go_sem, e7]; try rfl, .inl ⟨69, rfl, rfl⟩, hWn, by rw [polL_other L 18 (by omega) (by decide)]; exact hWp, hWg⟩
          · injection hi with hi
            subst hi
            have e7 : a'.tmps[69]?.getD undef = .pointer (some ⟨w.heap.size + 1, 1, none⟩) := Array.getD_eq_getD_getElem?.symm.trans (hev 69 (by decide))
            have e8 : a'.tmps[52]?.getD undef = .int .i64 v0 := Array.getD_eq_getD_getElem?.symm.trans (hev 52 (by decide))
            obtain ⟨u, hc⟩ := PL.at_ hWp 1 (by omega)
            have hf := PL.soft hWp 1
            exact ⟨_, W.setCell ⟨w.heap.size + 1, 1, none⟩ (.int .i64 v0), by simp [execOp, go_sem, e7, e8, hc, hf]; try rfl, .inr ⟨rfl, rfl⟩, (heap_setCell_other W _ _ _ (by show w.heap.size + 1 + 1 + 1 ≠ w.heap.size + 1; omega)).trans hWn, by rw [polL_store1 L (by omega)]; exact PL.set hWp 1 (by omega) (by omega) v0, grown_set hWg 1 _⟩
          · injection hi with hi
            subst hi
            have e7 : a'.tmps[5]?.getD undef = .pointer (some ⟨w.heap.size + 1, 0, none⟩) := Array.getD_eq_getD_getElem?.symm.trans (hev 5 (by decide))
            exact ⟨_, W, by simp [execOp, go_sem, e7]; try rfl, .inl ⟨70, rfl, rfl⟩, hWn, by rw [polL_other L 20 (by omega) (by decide)]; exact hWp, hWg⟩
          · injection hi with hi
            subst hi
            have e7 : a'.tmps[70]?.getD undef = .pointer (some ⟨w.heap.size + 1, 2, none⟩) := Array.getD_eq_getD_getElem?.symm.trans (hev 70 (by decide))
            have e8 : a'.tmps[54]?.getD undef = .int .i64 v1 := Array.getD_eq_getD_getElem?.symm.trans (hev 54 (by decide))
            obtain ⟨u, hc⟩ := PL.at_ hWp 2 (by omega)
            have hf := PL.soft hWp 2
            exact ⟨_, W.setCell ⟨w.heap.size + 1, 2, none⟩ (.int .i64 v1), by simp [execOp, go_sem, e7, e8, hc, hf]; try rfl, .inr ⟨rfl, rfl⟩, (heap_setCell_other W _ _ _ (by show w.heap.size + 1 + 1 + 1 ≠ w.heap.size + 1; omega)).trans hWn, by rw [polL_store2 L (by omega)]; exact PL.set hWp 2 (by omega) (by omega) v1, grown_set hWg 2 _⟩
          · injection hi with hi
            subst hi
            have e7 : a'.tmps[5]?.getD undef = .pointer (some ⟨w.heap.size + 1, 0, none⟩) := Array.getD_eq_getD_getElem?.symm.trans (hev 5 (by decide))
            exact ⟨_, W, by simp [execOp, go_sem, e7]; try rfl, .inl ⟨71, rfl, rfl⟩, hWn, by rw [polL_other L 22 (by omega) (by decide)]; exact hWp, hWg⟩
          · injection hi with hi
            subst hi
            have e7 : a'.tmps[71]?.getD undef = .pointer (some ⟨w.heap.size + 1, 3, none⟩) := Array.getD_eq_getD_getElem?.symm.trans (hev 71 (by decide))
            have e8 : a'.tmps[56]?.getD undef = .int .i64 v2 := Array.getD_eq_getD_getElem?.symm.trans (hev 56 (by decide))
            obtain ⟨u, hc⟩ := PL.at_ hWp 3 (by omega)
            have hf := PL.soft hWp 3
            exact ⟨_, W.setCell ⟨w.heap.size + 1, 3, none⟩ (.int .i64 v2), by simp [execOp, go_sem, e7, e8, hc, hf]; try rfl, .inr ⟨rfl, rfl⟩, (heap_setCell_other W _ _ _ (by show w.heap.size + 1 + 1 + 1 ≠ w.heap.size + 1; omega)).trans hWn, by rw [polL_store3 L (by omega)]; exact PL.set hWp 3 (by omega) (by omega) v2, grown_set hWg 3 _⟩
          · injection hi with hi
            subst hi
            have e7 : a'.tmps[5]?.getD undef = .pointer (some ⟨w.heap.size + 1, 0, none⟩) := Array.getD_eq_getD_getElem?.symm.trans (hev 5 (by decide))
            exact ⟨_, W, by simp [execOp, go_sem, e7]; try rfl, .inl ⟨72, rfl, rfl⟩, hWn, by rw [polL_other L 24 (by omega) (by decide)]; exact hWp, hWg⟩
          · injection hi with hi
            subst hi
            have e7 : a'.tmps[72]?.getD undef = .pointer (some ⟨w.heap.size + 1, 4, none⟩) := Array.getD_eq_getD_getElem?.symm.trans (hev 72 (by decide))
            have e8 : a'.tmps[58]?.getD undef = .int .i64 v3 := Array.getD_eq_getD_getElem?.symm.trans (hev 58 (by decide))
            obtain ⟨u, hc⟩ := PL.at_ hWp 4 (by omega)
            have hf := PL.soft hWp 4
            exact ⟨_, W.setCell ⟨w.heap.size + 1, 4, none⟩ (.int .i64 v3), by simp [execOp, go_sem, e7, e8, hc, hf]; try rfl, .inr ⟨rfl, rfl⟩, (heap_setCell_other W _ _ _ (by show w.heap.size + 1 + 1 + 1 ≠ w.heap.size + 1; omega)).trans hWn, by rw [polL_store4 L (by omega)]; exact PL.set hWp 4 (by omega) (by omega) v3, grown_set hWg 4 _⟩
          · injection hi with hi
            subst hi
            have e7 : a'.tmps[5]?.getD undef = .pointer (some ⟨w.heap.size + 1, 0, none⟩) := Array.getD_eq_getD_getElem?.symm.trans (hev 5 (by decide))
            exact ⟨_, W, by simp [execOp, go_sem, e7]; try rfl, .inl ⟨73, rfl, rfl⟩, hWn, by rw [polL_other L 26 (by omega) (by decide)]; exact hWp, hWg⟩
          · injection hi with hi
            subst hi
            have e7 : a'.tmps[73]?.getD undef = .pointer (some ⟨w.heap.size + 1, 5, none⟩) := Array.getD_eq_getD_getElem?.symm.trans (hev 73 (by decide))
            have e8 : a'.tmps[60]?.getD undef = .int .i64 v4 := Array.getD_eq_getD_getElem?.symm.trans (hev 60 (by decide))
            obtain ⟨u, hc⟩ := PL.at_ hWp 5 (by omega)
            have hf := PL.soft hWp 5
            exact ⟨_, W.setCell ⟨w.heap.size + 1, 5, none⟩ (.int .i64 v4), by simp [execOp, go_sem, e7, e8, hc, hf]; try rfl, .inr ⟨rfl, rfl⟩, (heap_setCell_other W _ _ _ (by show w.heap.size + 1 + 1 + 1 ≠ w.heap.size + 1; omega)).trans hWn, by rw [polL_store5 L (by omega)]; exact PL.set hWp 5 (by omega) (by omega) v4, grown_set hWg 5 _⟩
          · injection hi with hi
            subst hi
            have e7 : a'.tmps[5]?.getD undef = .pointer (some ⟨w.heap.size + 1, 0, none⟩) := Array.getD_eq_getD_getElem?.symm.trans (hev 5 (by decide))
            exact ⟨_, W, by simp [execOp, go_sem, e7]; try rfl, .inl ⟨74, rfl, rfl⟩, hWn, by rw [polL_other L 28 (by omega) (by decide)]; exact hWp, hWg⟩
          · injection hi with hi
            subst hi
            have e7 : a'.tmps[74]?.getD undef = .pointer (some ⟨w.heap.size + 1, 6, none⟩) := Array.getD_eq_getD_getElem?.symm.trans (hev 74 (by decide))
            have e8 : a'.tmps[62]?.getD undef = .int .i64 v5 := Array.getD_eq_getD_getElem?.symm.trans (hev 62 (by decide))
            obtain ⟨u, hc⟩ := PL.at_ hWp 6 (by omega)
            have hf := PL.soft hWp 6
            exact ⟨_, W.setCell ⟨w.heap.size + 1, 6, none⟩ (.int .i64 v5), by simp [execOp, go_sem, e7, e8, hc, hf]; try rfl, .inr ⟨rfl, rfl⟩, (heap_setCell_other W _ _ _ (by show w.heap.size + 1 + 1 + 1 ≠ w.heap.size + 1; omega)).trans hWn, by rw [polL_store6 L (by omega)]; exact PL.set hWp 6 (by omega) (by omega) v5, grown_set hWg 6 _⟩
          · injection hi with hi
            subst hi
            have e7 : a'.tmps[5]?.getD undef = .pointer (some ⟨w.heap.size + 1, 0, none⟩) := Array.getD_eq_getD_getElem?.symm.trans (hev 5 (by decide))
            exact ⟨_, W, by simp [execOp, go_sem, e7]; try rfl, .inl ⟨75, rfl, rfl⟩, hWn, by rw [polL_other L 30 (by omega) (by decide)]; exact hWp, hWg⟩
          · injection hi with hi
            subst hi
            have e7 : a'.tmps[75]?.getD undef = .pointer (some ⟨w.heap.size + 1, 7, none⟩) := Array.getD_eq_getD_getElem?.symm.trans (hev 75 (by decide))
            have e8 : a'.tmps[64]?.getD undef = .int .i64 v6 := Array.getD_eq_getD_getElem?.symm.trans (hev 64 (by decide))
            obtain ⟨u, hc⟩ := PL.at_ hWp 7 (by omega)
            have hf := PL.soft hWp 7
            exact ⟨_, W.setCell ⟨w.heap.size + 1, 7, none⟩ (.int .i64 v6), by simp [execOp, go_sem, e7, e8, hc, hf]; try rfl, .inr ⟨rfl, rfl⟩, (heap_setCell_other W _ _ _ (by show w.heap.size + 1 + 1 + 1 ≠ w.heap.size + 1; omega)).trans hWn, by rw [polL_store7 L (by omega)]; exact PL.set hWp 7 (by omega) (by omega) v6, grown_set hWg 7 _⟩
          · injection hi with hi
            subst hi
            have e7 : a'.tmps[5]?.getD undef = .pointer (some ⟨w.heap.size + 1, 0, none⟩) := Array.getD_eq_getD_getElem?.symm.trans (hev 5 (by decide))
            exact ⟨_, W, by simp [execOp, go_sem, e7]; try rfl, .inl ⟨76, rfl, rfl⟩, hWn, by rw [polL_other L 32 (by omega) (by decide)]; exact hWp, hWg⟩
          · injection hi with hi
            subst hi
            have e7 : a'.tmps[76]?.getD undef = .pointer (some ⟨w.heap.size + 1, 8, none⟩) := Array.getD_eq_getD_getElem?.symm.trans (hev 76 (by decide))
            have e8 : a'.tmps[66]?.getD undef = .int .i64 v7 := Array.getD_eq_getD_getElem?.symm.trans (hev 66 (by decide))
            obtain ⟨u, hc⟩ := PL.at_ hWp 8 (by omega)
            have hf := PL.soft hWp 8
            exact ⟨_, W.setCell ⟨w.heap.size + 1, 8, none⟩ (.int .i64 v7), by simp [execOp, go_sem, e7, e8, hc, hf]; try rfl, .inr ⟨rfl, rfl⟩, (heap_setCell_other W _ _ _ (by show w.heap.size + 1 + 1 + 1 ≠ w.heap.size + 1; omega)).trans hWn, by rw [polL_store8 L (by omega)]; exact PL.set hWp 8 (by omega) (by omega) v7, grown_set hWg 8 _⟩
          · injection hi with hi
            subst hi
            have e7 : a'.tmps[5]?.getD undef = .pointer (some ⟨w.heap.size + 1, 0, none⟩) := Array.getD_eq_getD_getElem?.symm.trans (hev 5 (by decide))
            exact ⟨_, W, by simp [execOp, go_sem, e7]; try rfl, .inl ⟨77, rfl, rfl⟩, hWn, by rw [polL_other L 34 (by omega) (by decide)]; exact hWp, hWg⟩
          · injection hi with hi
            subst hi
            have e7 : a'.tmps[77]?.getD undef = .pointer (some ⟨w.heap.size + 1, 9, none⟩) := Array.getD_eq_getD_getElem?.symm.trans (hev 77 (by decide))
            have e8 : a'.tmps[68]?.getD undef = .int .i64 v8 := Array.getD_eq_getD_getElem?.symm.trans (hev 68 (by decide))
            obtain ⟨u, hc⟩ := PL.at_ hWp 9 (by omega)
            have hf := PL.soft hWp 9
            exact ⟨_, W.setCell ⟨w.heap.size + 1, 9, none⟩ (.int .i64 v8), by simp [execOp, go_sem, e7, e8, hc, hf]; try rfl, .inr ⟨rfl, rfl⟩, (heap_setCell_other W _ _ _ (by show w.heap.size + 1 + 1 + 1 ≠ w.heap.size + 1; omega)).trans hWn, by rw [polL_store9 L (by omega)]; exact PL.set hWp 9 (by omega) (by omega) v8, grown_set hWg 9 _⟩
        · rintro W ⟨hWn, hWp, hWg⟩
          simp only [endAct, List.foldl_cons, List.foldl_nil, Act.put, List.setIfInBounds_toArray, List.set_cons_succ, List.set_cons_zero]
          obtain ⟨q, hq⟩ : ∃ q : Pol, q = ⟨nm, v0, v1, v2, v3, v4, v5, v6, v7, v8⟩ := ⟨_, rfl⟩
          have hpq : PL W (w.heap.size + 1) q := by rw [hq]; exact hWp
          have HRZ := Lib.hid (show PL W w.heap.size Pol.zero from heap_no hWg HRP.out.res (by omega))
          have HXR := Lib.hid (HRP.out.ext.grown hWg (fun j hj => by injection hj with hj; omega))
          have HPQ := Lib.hid hpq
          have HQ' := Lib.hid (show parseR s a = some q by rw [hq]; exact HQ.out)
          have hqn : q.nm.size ≤ 1000 := by rw [hq]; show nm.size ≤ 1000; rw [← HNM.out, ByteArray.size_extract]; omega
          clear hWn hWp hWg hpq hq HQ
          obtain ⟨c0, c1, c2, c3, c4, c5, c6, c7, c8, c9⟩ := HPQ.out.cells
          cases hok : q.ok with
          | false =>
            have HNO := Lib.hid (show ∀ p : Pol, p.ok = true → p.text ≠ s.data.toList from no_ofR HCO.out (fun p hp hh => by
              rw [HQ'.out] at hp; injection hp with hp; subst hp; rw [hok] at hh; cases hh.1))
            have HV := Lib.hid (hok ▸ RPoValid_at q (by omega))
            clear hok
            unfold Pol.v at HV
            go_wp2_with fail
            refine (HV.out W).mono ?_
            rintro _ w6 ⟨rfl, hx6⟩
            have HRPE := Lib.hid (show Ext w w6 ∧ PL w6 w.heap.size Pol.zero from ⟨HXR.out.trans hx6, HRZ.out.ext hx6⟩)
            clear hx6
            have hres := HRPE.out.2
            have f0 := hres.soft 0; have f1 := hres.soft 1; have f2 := hres.soft 2; have f3 := hres.soft 3; have f4 := hres.soft 4; have f5 := hres.soft 5; have f6 := hres.soft 6; have f7 := hres.soft 7; have f8 := hres.soft 8; have f9 := hres.soft 9
            obtain ⟨k0, k1, k2, k3, k4, k5, k6, k7, k8, k9⟩ := hres.cells
            obtain ⟨WF, hWF, hxF, hpF⟩ := putPL (q := Pol.zero) HRPE.out.1 (Nat.le_refl _) hres
            simp only [Pol.zero] at hWF
            have HXF := Lib.hid hxF; have HPF := Lib.hid hpF
            clear hres hxF hpF
            go_wp2_with fail
            obtain ⟨d0, d1, d2, d3, d4, d5, d6, d7, d8, d9⟩ := HPF.out.cells
            refine bodyPost_ret (v := .tuple #[Pol.zero.v, .int .i64 6]) (by simp [results, Tryz.results24, go_sem, d0, d1, d2, d3, d4, d5, d6, d7, d8, d9, Pol.v]; try rfl) rfl ?_
            exact ⟨.inr ⟨HNO.out, rfl⟩, HXF.out⟩
          | true =>
            have HV := Lib.hid (hok ▸ RPoValid_at q (by omega))
            have HTX := Lib.hid (RPoText_at q hok)
            have HOK := Lib.hid hok
            clear hok
            unfold Pol.v at HV HTX
            by_cases ht : q.text = s.data.toList
            · have htb : (q.text == s.toList) = true := by rw [ByteArray.toList_eq, ht]; exact beq_self_eq_true _
              have htc : (q.text != s.toList) = false := by rw [bne, htb]; rfl
              have HT := Lib.hid ht
              clear ht
              go_wp2_with fail
              refine (HV.out W).mono ?_
              rintro _ w6 ⟨rfl, hx6⟩
              obtain ⟨c0, c1, c2, c3, c4, c5, c6, c7, c8, c9⟩ := (HPQ.out.ext hx6).cells
              have HX6 := Lib.hid (HXR.out.trans hx6); have HR6 := Lib.hid (HRZ.out.ext hx6); have HP6 := Lib.hid (HPQ.out.ext hx6)
              clear hx6
              go_wp2_with fail
              refine (HTX.out w6).mono ?_
              rintro _ w7 ⟨rfl, hx7⟩
              obtain ⟨c0, c1, c2, c3, c4, c5, c6, c7, c8, c9⟩ := (HP6.out.ext hx7).cells
              have hr7 := HR6.out.ext hx7
              have f0 := hr7.soft 0; have f1 := hr7.soft 1; have f2 := hr7.soft 2; have f3 := hr7.soft 3; have f4 := hr7.soft 4; have f5 := hr7.soft 5; have f6 := hr7.soft 6; have f7 := hr7.soft 7; have f8 := hr7.soft 8; have f9 := hr7.soft 9
              obtain ⟨k0, k1, k2, k3, k4, k5, k6, k7, k8, k9⟩ := hr7.cells
              obtain ⟨WF, hWF, hxF, hpF⟩ := putPL (q := q) (HX6.out.trans hx7) (Nat.le_refl _) hr7
              have HXF := Lib.hid hxF; have HPF := Lib.hid hpF
              clear hx7 hxF hpF hr7
              go_wp2_with fail
              obtain ⟨d0, d1, d2, d3, d4, d5, d6, d7, d8, d9⟩ := HPF.out.cells
              refine bodyPost_ret (v := .tuple #[q.v, .int .i64 0]) (by simp [results, Tryz.results24, go_sem, d0, d1, d2, d3, d4, d5, d6, d7, d8, d9, Pol.v]; try rfl) rfl ?_
              exact ⟨.inl ⟨q, HOK.out, HT.out, rfl⟩, HXF.out⟩
            · have htb : (q.text == s.toList) = false := by rw [ByteArray.toList_eq, beq_eq_false_iff_ne]; exact ht
              have htc : (q.text != s.toList) = true := by rw [bne, htb]; rfl
              have HNO := Lib.hid (show ∀ p : Pol, p.ok = true → p.text ≠ s.data.toList from no_ofR HCO.out (fun p hp hh => by
                rw [HQ'.out] at hp; injection hp with hp; subst hp; exact ht hh.2))
              clear ht
              go_wp2_with fail
              refine (HV.out W).mono ?_
              rintro _ w6 ⟨rfl, hx6⟩
              obtain ⟨c0, c1, c2, c3, c4, c5, c6, c7, c8, c9⟩ := (HPQ.out.ext hx6).cells
              have HX6 := Lib.hid (HXR.out.trans hx6); have HR6 := Lib.hid (HRZ.out.ext hx6)
              clear hx6
              go_wp2_with fail
              refine (HTX.out w6).mono ?_
              rintro _ w7 ⟨rfl, hx7⟩
              have HRPE := Lib.hid (show Ext w w7 ∧ PL w7 w.heap.size Pol.zero from ⟨HX6.out.trans hx7, HR6.out.ext hx7⟩)
              clear hx7
              have hres := HRPE.out.2
              have f0 := hres.soft 0; have f1 := hres.soft 1; have f2 := hres.soft 2; have f3 := hres.soft 3; have f4 := hres.soft 4; have f5 := hres.soft 5; have f6 := hres.soft 6; have f7 := hres.soft 7; have f8 := hres.soft 8; have f9 := hres.soft 9
              obtain ⟨k0, k1, k2, k3, k4, k5, k6, k7, k8, k9⟩ := hres.cells
              obtain ⟨WF, hWF, hxF, hpF⟩ := putPL (q := Pol.zero) HRPE.out.1 (Nat.le_refl _) hres
              simp only [Pol.zero] at hWF
              have HXF := Lib.hid hxF; have HPF := Lib.hid hpF
              clear hres hxF hpF
              go_wp2_with fail
              obtain ⟨d0, d1, d2, d3, d4, d5, d6, d7, d8, d9⟩ := HPF.out.cells
              refine bodyPost_ret (v := .tuple #[Pol.zero.v, .int .i64 6]) (by simp [results, Tryz.results24, go_sem, d0, d1, d2, d3, d4, d5, d6, d7, d8, d9, Pol.v]; try rfl) rfl ?_
              exact ⟨.inr ⟨HNO.out, rfl⟩, HXF.out⟩
end Go.Proofs.YtgfjmmdkdhodiaaGreatDoor
