/- Texts laid together (wip/tools/automerge.py): Nm7, Nm8. -/
import Derived.Test.YtnjmndofcpnmeaaGreatDoorTx11
import Derived.Test.YtnjmndofcpnmeaaGreatDoorTx2
namespace Go.Proofs.YtnjmndofcpnmeaaGreatDoor
open Go Go.RowKit
set_option linter.unusedVariables false

end Go.Proofs.YtnjmndofcpnmeaaGreatDoor
namespace Go.Proofs.YtnjmndofcpnmeaaGreatDoor
open Go Go.RowKit
set_option linter.unusedVariables false

theorem sinfo' : (Tryz.prog.info? 9).map (fun i => (i.zero, i.size, i.bytes)) = some (some (.string ⟨#[]⟩), 1, 16) := by kernel_rfl
/-- The result, the principal, the bytes under way; the two rows that the call makes. -/
structure NPS (w0 W : World) (pv qv : Value) (parts : List ByteArray) (part : List UInt8) : Prop where
  r0 : W.heap[w0.heap.size]? = some (.cells #[.slice none 0 0, .string ⟨#[]⟩] 37 (0, 0))
  r1 : W.heap[w0.heap.size + 1]? = some (.cells #[pv, .string ⟨#[]⟩] 37 (0, 0))
  r2 : W.heap[w0.heap.size + 1 + 1]? = some (.cells #[qv] 32 (0, 0))
  ow : W.ownsRow (w0.heap.size + 3) 9 1 pv (sv parts).length (sv parts)
  ob : OB 5 W (w0.heap.size + 3) qv part
  ex : Ext w0 W
theorem ownsRow_ext8 {w w' : World} {B : Nat} {e : TypeId} {v : Value} {n : Nat} {xs : List Value} (h : w.ownsRow B e 1 v n xs) (he : Ext w w') : w'.ownsRow B e 1 v n xs :=
  h.kept (he.but none) (by cases hv : v.ownBlock <;> simp)
theorem NPS.ext {w0 W W' : World} {pv qv : Value} {parts : List ByteArray} {part : List UInt8} (h : NPS w0 W pv qv parts part) (hx : Ext W W') : NPS w0 W' pv qv parts part :=
  ⟨hx.heap h.r0, hx.heap h.r1, hx.heap h.r2, ownsRow_ext8 h.ow hx, h.ob.ext hx, h.ex.trans hx⟩
theorem NPS.lt {w0 W : World} {pv qv : Value} {parts : List ByteArray} {part : List UInt8} (h : NPS w0 W pv qv parts part) : w0.heap.size + 3 ≤ W.heap.size := (Array.getElem?_eq_some_iff.1 h.r2).1
/-- The two rows lie apart: their elements are of two types. -/
theorem row_type {W : World} {B : Nat} {e : TypeId} {v : Value} {n : Nat} {xs : List Value} (h : W.ownsRow B e 1 v n xs) {k : Nat} (hk : v.ownBlock = some k) : ∃ cur, W.heap[k]? = some (.cells cur e (0, 0)) := by
  rcases h.2 with ⟨rfl, _⟩ | ⟨g, cap, cur, rfl, hb, hg, _⟩
  · simp [Value.ownBlock] at hk
  · have : g = k := Option.some.inj hk
    subst this
    exact ⟨cur, hg⟩
theorem NPS.apart {w0 W : World} {pv qv : Value} {parts : List ByteArray} {part : List UInt8} (h : NPS w0 W pv qv parts part) : ∀ k, pv.ownBlock = some k → qv.ownBlock ≠ some k := fun k hp hq => by
  obtain ⟨c1, e1⟩ := row_type h.ow hp
  have hob : W.ownsRow (w0.heap.size + 3) 5 1 qv part.length (bv part) := h.ob
  obtain ⟨c2, e2⟩ := row_type hob hq
  rw [e1] at e2
  injection e2 with e3
  injection e3 with _ e4 _
  exact absurd e4 (by decide)
theorem keep_far {W W' : World} {row : Option Nat} {k B : Nat} {o : Obj} (hg : W.grownBy W' row) (hrow : ∀ j, row = some j → B ≤ j) (hk : k < B) (h : W.heap[k]? = some o) : W'.heap[k]? = some o :=
  (hg.block k (Array.getElem?_eq_some_iff.1 h).1 (fun e => by have := hrow k e.symm; omega)).trans h
theorem ob_kept {w w' : World} {B : Nat} {v : Value} {l : List UInt8} {row : Option Nat} (h : OB 5 w B v l) (hg : w.grownBy w' row) (hne : v.ownBlock = none ∨ v.ownBlock ≠ row) : OB 5 w' B v l := World.ownsRow.kept h hg hne
theorem ne_of_apart {a b : Option Nat} (h : ∀ k, a = some k → b ≠ some k) : a = none ∨ a ≠ b := by
  cases a with
  | none => exact .inl rfl
  | some k => exact .inr (fun e => h k rfl e.symm)
theorem ne_far {a : Option Nat} {B k : Nat} (h : ∀ j, a = some j → B ≤ j) (hk : k < B) : a = none ∨ a ≠ some k := by
  cases a with
  | none => exact .inl rfl
  | some j => exact .inr (fun e => by have := h j rfl; injection e with e; omega)
/-- A byte has been put to the component under way. -/
theorem NPS.byte {w0 W W1 W2 : World} {pv qv qv' : Value} {parts : List ByteArray} {part part' : List UInt8} (h : NPS w0 W pv qv parts part) (hx : Ext W W1) (hg : W1.grownBy W2 qv.ownBlock) (ho : OB 5 W2 (w0.heap.size + 3) qv' part') :
    NPS w0 (W2.setCell ⟨w0.heap.size + 1 + 1, 0, none⟩ qv') pv qv' parts part' := by
  have h1 := h.ext hx
  have hq : ∀ j, qv.ownBlock = some j → w0.heap.size + 3 ≤ j := fun j hj => OB.lt h1.ob j hj
  have hp : ∀ j, pv.ownBlock = some j → w0.heap.size + 3 ≤ j := fun j hj => (World.ownsRow.lt h1.ow j hj).1
  have hq' : ∀ j, qv'.ownBlock = some j → w0.heap.size + 3 ≤ j := fun j hj => OB.lt ho j hj
  have g0 := keep_far hg hq (by omega) h1.r0
  have g1 := keep_far hg hq (by omega) h1.r1
  have g2 := keep_far hg hq (by omega) h1.r2
  have gs := grown_set1 W2 (w0.heap.size + 1 + 1) qv'
  exact ⟨heap_far gs g0 (by omega), heap_far gs g1 (by omega), row1_set _ g2, (h1.ow.kept hg (ne_of_apart h1.apart)).kept gs (ne_far hp (by omega)), ob_kept ho gs (ne_far hq' (by omega)), (h1.ex.grown hg (fun k hk => by have := hq k hk; omega)).setCell (p := ⟨w0.heap.size + 1 + 1, 0, none⟩) (show w0.heap.size ≤ w0.heap.size + 1 + 1 by omega) _⟩
/-- A component has been put to the principal. -/
theorem NPS.comp {w0 W W1 W2 : World} {pv qv pv' : Value} {parts parts' : List ByteArray} {part : List UInt8} (h : NPS w0 W pv qv parts part) (hx : Ext W W1) (hg : W1.grownBy W2 pv.ownBlock) (ho : W2.ownsRow (w0.heap.size + 3) 9 1 pv' (sv parts').length (sv parts')) :
    NPS w0 ((W2.setCell ⟨w0.heap.size + 1, 0, none⟩ pv').setCell ⟨w0.heap.size + 1 + 1, 0, none⟩ (.slice none 0 0)) pv' (.slice none 0 0) parts' [] := by
  have h1 := h.ext hx
  have hp : ∀ j, pv.ownBlock = some j → w0.heap.size + 3 ≤ j := fun j hj => (World.ownsRow.lt h1.ow j hj).1
  have hp' : ∀ j, pv'.ownBlock = some j → w0.heap.size + 3 ≤ j := fun j hj => (World.ownsRow.lt ho j hj).1
  have g0 := keep_far hg hp (by omega) h1.r0
  have g1 := keep_far hg hp (by omega) h1.r1
  have g2 := keep_far hg hp (by omega) h1.r2
  have gs := grown_set1 W2 (w0.heap.size + 1) pv'
  have gt := grown_set1 (W2.setCell ⟨w0.heap.size + 1, 0, none⟩ pv') (w0.heap.size + 1 + 1) (.slice none 0 0)
  have k1 : (W2.setCell ⟨w0.heap.size + 1, 0, none⟩ pv').heap[w0.heap.size + 1]? = some (.cells #[pv', .string ⟨#[]⟩] 37 (0, 0)) := by rw [heap_setCell_same W2 _ 0 _ _ _ g1]; rfl
  exact ⟨heap_far gt (heap_far gs g0 (by omega)) (by omega), heap_far gt k1 (by omega), row1_set _ (heap_far gs g2 (by omega)), (ho.kept gs (ne_far hp' (by omega))).kept gt (ne_far hp' (by omega)), OB.nil _ _ _, ((h1.ex.grown hg (fun k hk => by have := hp k hk; omega)).setCell (p := ⟨w0.heap.size + 1, 0, none⟩) (show w0.heap.size ≤ w0.heap.size + 1 by omega) _).setCell (p := ⟨w0.heap.size + 1 + 1, 0, none⟩) (show w0.heap.size ≤ w0.heap.size + 1 + 1 by omega) _⟩

theorem shape_app {W : World} {B : Nat} {e : TypeId} {v : Value} {xs : List Value} {x : Value} (h : W.ownsRow B e 1 v (xs ++ [x]).length (xs ++ [x])) : ∃ g cap, v = .slice (some ⟨g, 0, none⟩) (xs.length + 1) cap := by
  rcases h.2 with ⟨_, h0⟩ | ⟨g, cap, cur, rfl, _⟩
  · simp at h0
  · exact ⟨g, cap, by rw [List.length_append]; rfl⟩
theorem end_cells {w0 W W1 W2 : World} {pv qv : Value} {parts : List ByteArray} {part : List UInt8} (h : NPS w0 W pv qv parts part) (hx : Ext W W1) (hg : W1.grownBy W2 pv.ownBlock) :
    W2.cell? ⟨w0.heap.size + 1, 0, none⟩ = some pv ∧ W2.frozen? ⟨w0.heap.size + 1, 0, none⟩ = false ∧ W2.cell? ⟨w0.heap.size + 1 + 1, 0, none⟩ = some qv ∧ W2.frozen? ⟨w0.heap.size + 1 + 1, 0, none⟩ = false := by
  have h1 := h.ext hx
  have hp : ∀ j, pv.ownBlock = some j → w0.heap.size + 3 ≤ j := fun j hj => (World.ownsRow.lt h1.ow j hj).1
  have g1 := keep_far hg hp (by omega) h1.r1
  have g2 := keep_far hg hp (by omega) h1.r2
  exact ⟨by rw [cell_of_row _ _ 0 _ _ (0, 0) g1]; rfl, frozen_of_row W2 _ 0 _ _ g1, (row1 g2).1, (row1 g2).2⟩
theorem byte_cells {w0 W W1 W2 : World} {pv qv : Value} {parts : List ByteArray} {part : List UInt8} (h : NPS w0 W pv qv parts part) (hx : Ext W W1) (hg : W1.grownBy W2 qv.ownBlock) :
    W2.cell? ⟨w0.heap.size + 1 + 1, 0, none⟩ = some qv ∧ W2.frozen? ⟨w0.heap.size + 1 + 1, 0, none⟩ = false := by
  have h1 := h.ext hx
  have hq : ∀ j, qv.ownBlock = some j → w0.heap.size + 3 ≤ j := fun j hj => OB.lt h1.ob j hj
  exact row1 (keep_far hg hq (by omega) h1.r2)
set_option maxRecDepth 100000 in
set_option maxHeartbeats 1000000 in
theorem NEnd_at (w0 : World) (pv qv : Value) (parts : List ByteArray) (part : List UInt8) (hn : parts.length ≤ 3000) (hm : part.length ≤ 3000) (W : World) (h : NPS w0 W pv qv parts part) :
    Calls Tryz.prog 148 #[.pointer (some ⟨w0.heap.size + 1, 0, none⟩), .pointer (some ⟨w0.heap.size + 1 + 1, 0, none⟩)] W fun e W' => e = .returned (.tuple #[]) ∧ ∃ pv', NPS w0 W' pv' (.slice none 0 0) (parts ++ [⟨part.toArray⟩]) [] := by
  obtain ⟨i0, hi, hz0, hz1, hz2⟩ := info_parts sinfo'
  have H := Lib.hid h
  have k1 : W.cell? ⟨w0.heap.size + 1, 0, none⟩ = some pv := by rw [cell_of_row _ _ 0 _ _ (0, 0) h.r1]; rfl
  have k2 : W.cell? ⟨w0.heap.size + 1 + 1, 0, none⟩ = some qv := by rw [cell_of_row _ _ 0 _ _ (0, 0) h.r2]; rfl
  have hcv : (convert 32 9 qv).run Tryz.prog W = .ok (.string ⟨part.toArray⟩) W := run_str _ _ _ 5 _ _ Tryz.underlying32 Tryz.underlying5 Tryz.underlying9 h.ob.bs
  clear h
  go_enter Tryz.func148, Tryz.ntmps148
  go_wp2_with (at_builtin; refine wpList_append_rs _ rfl (.tmp 3) (.tmp 6) 35 rfl (w0.heap.size + 3) 9 i0 (.string ⟨#[]⟩) 16 Tryz.underlying35 hi hz0 hz1 hz2 rfl _ (sv parts) rfl (ownsRow_ext8 H.out.ow ((Ext.refl W).alloc _)) _ [.string ⟨part.toArray⟩] rfl (RS.one _ _ _) (by simp [Value.oneCell']) ?hb (by omega) ?hm ?_; rotate_right; intro v4 w4 hown4 hg4 _; obtain ⟨g4, cap4, rfl⟩ := shape_app hown4; obtain ⟨c1, f1, c2, f2⟩ := end_cells H.out ((Ext.refl W).alloc (.cells #[.string ⟨part.toArray⟩] 9)) hg4)
  case hb => rw [sv_length]; simp; omega
  case hm => exact Nat.le_trans H.out.lt (by simp)
  have e : sv parts ++ [Value.string ⟨part.toArray⟩] = sv (parts ++ [⟨part.toArray⟩]) := by simp [sv]
  rw [e] at hown4
  have hp : ∀ j, pv.ownBlock = some j → w0.heap.size + 3 ≤ j := fun j hj => (World.ownsRow.lt H.out.ow j hj).1
  have hx := (Ext.refl W).alloc (.cells #[.string ⟨part.toArray⟩] 9)
  have HF := Lib.hid (H.out.comp hx hg4 hown4)
  clear hown4 hg4 e hp hx hcv k1 k2
  go_end0
  exact ⟨rfl, _, HF.out⟩
end Go.Proofs.YtnjmndofcpnmeaaGreatDoor
