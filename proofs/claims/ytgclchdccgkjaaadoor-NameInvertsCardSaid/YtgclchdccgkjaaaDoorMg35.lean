/- Texts laid together (wip/tools/automerge.py): B3, Nm28, NmRd. -/
import Derived.Test.YtgclchdccgkjaaaDoorMg4
import Derived.Test.YtgclchdccgkjaaaDoorNm27
import Derived.Defers
import Derived.Recover
import Derived.Test.YtgclchdccgkjaaaDoorMg5
import Derived.Test.YtgclchdccgkjaaaDoorMg22
import Derived.Test.YtgclchdccgkjaaaDoorPure7
namespace Go.Proofs.YtgclchdccgkjaaaDoor
open Go Go.RowKit

def B3 (T : TypeId) (w : World) (b : Nat) (x y z : Value) : Prop := w.heap[b]? = some (.cells #[x, y, z] T (0, 0))
def B1 (T : TypeId) (w : World) (b : Nat) (x : Value) : Prop := w.heap[b]? = some (.cells #[x] T (0, 0))
section
variable {T : TypeId} {w w' : World} {b : Nat} {x y z : Value}
theorem B3.cells (h : B3 T w b x y z) : w.cell? ⟨b, 0, none⟩ = some x ∧ w.cell? ⟨b, 1, none⟩ = some y ∧ w.cell? ⟨b, 2, none⟩ = some z :=
  ⟨by rw [cell_of_row w b 0 _ _ (0, 0) h]; rfl, by rw [cell_of_row w b 1 _ _ (0, 0) h]; rfl, by rw [cell_of_row w b 2 _ _ (0, 0) h]; rfl⟩
theorem B3.soft (h : B3 T w b x y z) (k : Nat) : w.frozen? ⟨b, k, none⟩ = false := frozen_of_row w b k _ _ h
theorem B3.lt (h : B3 T w b x y z) : b < w.heap.size := (Array.getElem?_eq_some_iff.1 h).1
theorem B3.ext (h : B3 T w b x y z) (hx : Ext w w') : B3 T w' b x y z := hx.heap h
theorem B3.far {g : Nat} (h : B3 T w b x y z) (hb : w.grownBy w' (some g)) (hne : b ≠ g) : B3 T w' b x y z := (hb.block b h.lt (by intro e; cases e; exact hne rfl)).trans h
theorem B3.set0 (h : B3 T w b x y z) (v : Value) : B3 T (w.setCell ⟨b, 0, none⟩ v) b v y z := by unfold B3; rw [heap_setCell_same w b 0 _ _ _ h]; rfl
theorem B3.set1 (h : B3 T w b x y z) (v : Value) : B3 T (w.setCell ⟨b, 1, none⟩ v) b x v z := by unfold B3; rw [heap_setCell_same w b 1 _ _ _ h]; rfl
theorem B3.set2 (h : B3 T w b x y z) (v : Value) : B3 T (w.setCell ⟨b, 2, none⟩ v) b x y v := by unfold B3; rw [heap_setCell_same w b 2 _ _ _ h]; rfl
theorem B3.new (T : TypeId) (w : World) (x y z : Value) : B3 T (w.alloc (.cells #[x, y, z] T)) w.heap.size x y z := heap_alloc_new w _
/-- What three stores leave, and the facts that the walk asks. -/
theorem B3.end_ (h : B3 T w b x y z) (u v t : Value) :
    (w.setCell ⟨b, 0, none⟩ u).cell? ⟨b, 0, none⟩ = some u ∧ ((w.setCell ⟨b, 0, none⟩ u).setCell ⟨b, 1, none⟩ v).cell? ⟨b, 1, none⟩ = some v ∧
    (((w.setCell ⟨b, 0, none⟩ u).setCell ⟨b, 1, none⟩ v).setCell ⟨b, 2, none⟩ t).cell? ⟨b, 2, none⟩ = some t :=
  ⟨(h.set0 u).cells.1, ((h.set0 u).set1 v).cells.2.1, (((h.set0 u).set1 v).set2 t).cells.2.2⟩
theorem B1.cell (h : B1 T w b x) : w.cell? ⟨b, 0, none⟩ = some x := by rw [cell_of_row w b 0 _ _ (0, 0) h]; rfl
theorem B1.soft (h : B1 T w b x) : w.frozen? ⟨b, 0, none⟩ = false := frozen_of_row w b 0 _ _ h
theorem B1.lt (h : B1 T w b x) : b < w.heap.size := (Array.getElem?_eq_some_iff.1 h).1
theorem B1.ext (h : B1 T w b x) (hx : Ext w w') : B1 T w' b x := hx.heap h
theorem B1.far {g : Nat} (h : B1 T w b x) (hb : w.grownBy w' (some g)) (hne : b ≠ g) : B1 T w' b x := (hb.block b h.lt (by intro e; cases e; exact hne rfl)).trans h
theorem B1.set (h : B1 T w b x) (v : Value) : B1 T (w.setCell ⟨b, 0, none⟩ v) b v := by unfold B1; rw [heap_setCell_same w b 0 _ _ _ h]; rfl
theorem B1.new (T : TypeId) (w : World) (x : Value) : B1 T (w.alloc (.cells #[x] T)) w.heap.size x := heap_alloc_new w _
theorem grown_set3 {w w1 : World} {g b : Nat} (h : w.grownBy w1 (some g)) (hb : w.heap.size ≤ b) (u v t : Value) : w.grownBy (((w1.setCell ⟨b, 0, none⟩ u).setCell ⟨b, 1, none⟩ v).setCell ⟨b, 2, none⟩ t) (some g) := by
  have h3 : w1.grownBy (((w1.setCell ⟨b, 0, none⟩ u).setCell ⟨b, 1, none⟩ v).setCell ⟨b, 2, none⟩ t) (some b) := grown_set (grown_set (grown_set (grown_refl w1 _) 0 u) 1 v) 2 t
  exact ⟨h3.os.trans h.os, h3.tape.trans h.tape, h3.output.trans h.output, Nat.le_trans h.size h3.size, fun j hj hne => (h3.block j (Nat.lt_of_lt_of_le hj h.size) (by intro e; cases e; omega)).trans (h.block j hj hne)⟩
theorem ext_set3 {w1 : World} {b : Nat} (w : World) (h : Ext w w1) (hb : w.heap.size ≤ b) (u v t : Value) : Ext w (((w1.setCell ⟨b, 0, none⟩ u).setCell ⟨b, 1, none⟩ v).setCell ⟨b, 2, none⟩ t) :=
  ((h.setCell hb _).setCell hb _).setCell hb _
end
theorem OB.off {e : TypeId} {w w' : World} {B : Nat} {v : Value} {b : List UInt8} {g : Nat} (h : OB e w B v b) (hg : w.grownBy w' (some g)) (hlt : g < B) : OB e w' B v b := by
  refine ⟨h.1, ?_⟩
  rcases h.2 with hh | ⟨g', cap, cur, hv, hb, hh, r⟩
  · exact .inl hh
  · exact .inr ⟨g', cap, cur, hv, hb, (hg.block g' (Array.getElem?_eq_some_iff.1 hh).1 (by intro e; cases e; omega)).trans hh, r⟩
end Go.Proofs.YtgclchdccgkjaaaDoor
namespace Go.Proofs.YtgclchdccgkjaaaDoor
open Go Go.RowKit
set_option linter.unusedVariables false

theorem PB.soft {w : World} {g : Nat} {v : Value} {r : ByteArray} (h : PB w g v r) (k : Nat) : w.frozen? ⟨g, k, none⟩ = false := frozen_of_row w g k _ _ h
theorem PB.but {w w' : World} {g b : Nat} {v : Value} {r : ByteArray} (h : PB w g v r) (hne : g ≠ b) (hg : w.grownBy w' (some b)) : PB w' g v r := heap_far hg h hne
theorem PB.set0 {w : World} {g : Nat} {v : Value} {r : ByteArray} (h : PB w g v r) (u : Value) : PB (w.setCell ⟨g, 0, none⟩ u) g u r := by
  unfold PB at h ⊢
  rw [heap_setCell_same w g 0 _ _ _ h]; rfl
theorem PB.set1 {w : World} {g : Nat} {v : Value} {r : ByteArray} (h : PB w g v r) (t : ByteArray) : PB (w.setCell ⟨g, 1, none⟩ (.string t)) g v t := by
  unfold PB at h ⊢
  rw [heap_setCell_same w g 1 _ _ _ h]; rfl
theorem PB.noU8 {w : World} {b : Nat} {p : Option Addr} {n c : Nat} {r : ByteArray} (hb : PB w b (.slice p n c) r) : NoU8 w b := by
  intro q hq v hv
  unfold PB at hb
  unfold World.cell? at hv
  rw [hq, hb] at hv
  simp only at hv
  split at hv
  · cases hv
  · obtain ⟨hlt, he⟩ := Array.getElem?_eq_some_iff.1 hv
    have h3 : q.off = 0 ∨ q.off = 1 := by simp at hlt; omega
    rcases h3 with h | h <;> simp [h] at he
theorem B1.noU8i {T : TypeId} {w : World} {b : Nat} {x : Int} (hb : B1 T w b (.int .i64 x)) : NoU8 w b := by
  intro q hq v hv
  unfold World.cell? at hv
  rw [hq, hb] at hv
  simp only at hv
  split at hv
  · cases hv
  · obtain ⟨hlt, he⟩ := Array.getElem?_eq_some_iff.1 hv
    have h3 : q.off = 0 := by simp at hlt; omega
    simp [h3] at he
theorem RD.away {T : TypeId} {w w' : World} {g b : Nat} {l : List UInt8} {k : Nat} (h : RD T w g l k) (hn : NoU8 w b) (hg : w.grownBy w' (some b)) (hne : g ≠ b) : RD T w' g l k := by
  obtain ⟨h1, A, c, hh, hbs⟩ := h
  exact ⟨h1, A, c, (hg.block g (Array.getElem?_eq_some_iff.1 hh).1 (by intro e; exact hne (by injection e))).trans hh, hbs.but hn hg⟩
/-- What the deferred closure leaves: the reader as it was, no principal, the error. -/
def FixedN (w w' : World) (g : Nat) (l : List UInt8) (k bt be : Nat) (er : Int) : Prop := k ≤ l.length ∧ ∃ A c, BS w (.slice A l.length c) l ∧
  w' = ((((((w.setCell ⟨g, 0, none⟩ (.slice A l.length c)).setCell ⟨g, 1, none⟩ (.int .i64 (k : Int))).setCell ⟨g, 2, none⟩ (.bool true)).setCell ⟨bt, 0, none⟩ (.slice none 0 0)).setCell ⟨bt, 1, none⟩ (.string ⟨#[]⟩)).setCell ⟨be, 0, none⟩ (.int .i64 er)).drew
theorem FixedN.gives {T3 : TypeId} {w w' : World} {g k bt be : Nat} {er : Int} {p : Option Addr} {n c : Nat} {r : ByteArray} {l : List UInt8} (hf : FixedN w w' g l k bt be er) {k' : Nat} (h : RD 86 w g l k')
    (h2 : PB w bt (.slice p n c) r) (h3 : B1 T3 w be (.int .i64 0)) (n1 : g ≠ bt) (n2 : g ≠ be) (n3 : bt ≠ be) :
    RD 86 w' g l k ∧ PB w' bt (.slice none 0 0) ⟨#[]⟩ ∧ B1 T3 w' be (.int .i64 er) ∧ (∀ B, B ≤ bt → B ≤ be → ∀ w0 : World, w0.heap.size = B → w0.grownBy w (some g) → w0.grownBy w' (some g)) := by
  obtain ⟨hk, A, c, hb, rfl⟩ := hf
  have hn := h.noU8
  obtain ⟨_, Ax, cx, hg0, _⟩ := h
  have hB3 : B3 86 w g (.slice Ax l.length cx) (.int .i64 (k' : Int)) (.bool true) := hg0
  have g1 : w.grownBy (((w.setCell ⟨g, 0, none⟩ (.slice A l.length c)).setCell ⟨g, 1, none⟩ (.int .i64 (k : Int))).setCell ⟨g, 2, none⟩ (.bool true)) (some g) := grown_set (grown_set (grown_set (grown_refl _ _) 0 _) 1 _) 2 _
  have r2 : RD 86 (((w.setCell ⟨g, 0, none⟩ (.slice A l.length c)).setCell ⟨g, 1, none⟩ (.int .i64 (k : Int))).setCell ⟨g, 2, none⟩ (.bool true)) g l k := ⟨hk, A, c, ((hB3.set0 _).set1 _).set2 _, hb.but hn g1⟩
  have t2 := h2.but n1.symm g1; have e2 := h3.far g1 n2.symm
  generalize ((w.setCell ⟨g, 0, none⟩ (.slice A l.length c)).setCell ⟨g, 1, none⟩ (.int .i64 (k : Int))).setCell ⟨g, 2, none⟩ (.bool true) = W2 at *
  have g2 : W2.grownBy ((W2.setCell ⟨bt, 0, none⟩ (.slice none 0 0)).setCell ⟨bt, 1, none⟩ (.string ⟨#[]⟩)) (some bt) := grown_set (grown_set (grown_refl _ _) 0 _) 1 _
  have r3 := r2.away t2.noU8 g2 n1; have t3 := (t2.set0 (.slice none 0 0)).set1 ⟨#[]⟩; have e3 := e2.far g2 n3.symm
  generalize (W2.setCell ⟨bt, 0, none⟩ (.slice none 0 0)).setCell ⟨bt, 1, none⟩ (.string ⟨#[]⟩) = W3 at *
  have g3 : W3.grownBy (W3.setCell ⟨be, 0, none⟩ (.int .i64 er)) (some be) := grown_set (grown_refl _ _) 0 _
  have r4 := r3.away e3.noU8i g3 n2; have t4 := t3.but n3 g3; have e4 := e3.set (.int .i64 er)
  have hd := Ext.drew (W3.setCell ⟨be, 0, none⟩ (.int .i64 er))
  refine ⟨r4.ext hd, t4.ext hd, e4.ext hd, fun B h1 h2 w0 hB hg => ?_⟩
  exact grown_ext (grown_new (grown_new (grown_trans hg g1) g2 (by omega)) g3 (by omega)) hd

set_option maxRecDepth 100000 in
theorem Copy_at (g : Nat) (l : List UInt8) (k : Nat) (w : World) (h : RD 86 w g l k) :
    Calls Tryd.prog 67 #[.pointer (some ⟨g, 0, none⟩)] w fun e w' => ∃ g', e = .returned (.pointer (some ⟨g', 0, none⟩)) ∧ w.heap.size ≤ g' ∧ RD 86 w' g' l k ∧ Ext w w' := by
  obtain ⟨hk, A, c, hg, hb⟩ := h
  have c0 : w.cell? ⟨g, 0, none⟩ = some (.slice A l.length c) := by rw [cell_of_row w g 0 _ _ (0, 0) hg]; rfl
  have c1 : w.cell? ⟨g, 1, none⟩ = some (.int .i64 (k : Int)) := by rw [cell_of_row w g 1 _ _ (0, 0) hg]; rfl
  have c2 : w.cell? ⟨g, 2, none⟩ = some (.bool true) := by rw [cell_of_row w g 2 _ _ (0, 0) hg]; rfl
  have HG := Lib.hid hg; clear hg
  go_enter Tryd.func67, Tryd.ntmps67
  go_wp2
  go_ret
  exact ⟨w.heap.size, rfl, Nat.le_refl _, ⟨hk, A, c, heap_alloc_new w _, hb.ext ((Ext.refl w).alloc _)⟩, (Ext.refl w).alloc _⟩

set_option maxRecDepth 100000 in
theorem nmread_idle (p0 p1 p2 p3 : Addr) (w : World) :
    CallsD Tryd.prog 68 #[.pointer (some p0), .pointer (some p1), .pointer (some p2), .pointer (some p3)] .returning w fun e u' w' => e = .returned (.tuple #[]) ∧ u' = .returning ∧ w' = w := by
  have ta : ∀ w : World, (Instr.typeAssert .nilIface 20 28 true).run Tryd.prog w = .ok (.tuple #[.int .i64 0, .bool false]) w := fun _ => by kernel_rfl
  refine callsD_of_wpS Tryd.func68 rfl fun c₀ cs hu => ?_
  simp only [Tryd.ntmps68, List.size_toArray, List.length_cons, List.length_nil, Nat.reduceAdd, Nat.reduceSub, Array.replicate_succ, Array.replicate_zero, List.push_toArray, List.append_toArray, List.nil_append, List.cons_append]
  apply wpS_seq
  apply wpS_region
  simp [wpOpsS, go_sem, recoverD, hu, ta, Exit.thenS]
  refine wpS_of_wp ?_
  go_wp2
  cases c₀
  simp_all [bodyPostS, results, Tryd.results68]
set_option maxRecDepth 100000 in
theorem nmread_panic (bf br bt be g gb : Nat) (er : Int) (older : List PanicEntry) (l : List UInt8) (k k' : Nat) (v : Value) (r : ByteArray) (w : World) (n1 : g ≠ bt) (n2 : g ≠ be) (n3 : bt ≠ be) (n4 : g ≠ gb)
    (h0 : B1 70 w bf (.pointer (some ⟨gb, 0, none⟩))) (h1 : B1 70 w br (.pointer (some ⟨g, 0, none⟩))) (h2 : PB w bt v r) (h3 : B1 28 w be (.int .i64 0)) (h : RD 86 w g l k') (hb : RD 86 w gb l k) :
    CallsD Tryd.prog 68 #[.pointer (some ⟨bf, 0, none⟩), .pointer (some ⟨br, 0, none⟩), .pointer (some ⟨bt, 0, none⟩), .pointer (some ⟨be, 0, none⟩)] (.panicking ({ v := .iface 28 (.int .i64 er), recovered := false } :: older)) w fun en u' w' =>
      en = .returned (.tuple #[]) ∧ u' = .panicking ({ v := .iface 28 (.int .i64 er), recovered := true } :: older) ∧ FixedN w w' g l k bt be er := by
  have ta : ∀ w : World, (Instr.typeAssert (.iface 28 (.int .i64 er)) 20 28 true).run Tryd.prog w = .ok (.tuple #[.int .i64 er, .bool true]) w := fun _ => by kernel_rfl
  refine callsD_of_wpS Tryd.func68 rfl fun c₀ cs hu => ?_
  simp only [Tryd.ntmps68, List.size_toArray, List.length_cons, List.length_nil, Nat.reduceAdd, Nat.reduceSub, Array.replicate_succ, Array.replicate_zero, List.push_toArray, List.append_toArray, List.nil_append, List.cons_append]
  apply wpS_seq
  apply wpS_region
  simp [wpOpsS, go_sem, recoverD, hu, ta, Exit.thenS]
  have c0 := h0.cell; have c1 := h1.cell; have c3 := h3.cell; obtain ⟨t0, t1⟩ := h2.cells
  have f0 := h2.soft 0; have f1 := h2.soft 1; have f3 := h3.soft
  obtain ⟨_, Ax, cx, hgx, hbx⟩ := h
  have k0 : w.cell? ⟨g, 0, none⟩ = some (.slice Ax l.length cx) := by rw [cell_of_row w g 0 _ _ (0, 0) hgx]; rfl
  have k1 : w.cell? ⟨g, 1, none⟩ = some (.int .i64 (k' : Int)) := by rw [cell_of_row w g 1 _ _ (0, 0) hgx]; rfl
  have k2 : w.cell? ⟨g, 2, none⟩ = some (.bool true) := by rw [cell_of_row w g 2 _ _ (0, 0) hgx]; rfl
  have kf0 : w.frozen? ⟨g, 0, none⟩ = false := frozen_of_row w g 0 _ _ hgx
  have kf1 : w.frozen? ⟨g, 1, none⟩ = false := frozen_of_row w g 1 _ _ hgx
  have kf2 : w.frozen? ⟨g, 2, none⟩ = false := frozen_of_row w g 2 _ _ hgx
  obtain ⟨hkl, Ay, cy, hgy, hby⟩ := hb
  have y0 : w.cell? ⟨gb, 0, none⟩ = some (.slice Ay l.length cy) := by rw [cell_of_row w gb 0 _ _ (0, 0) hgy]; rfl
  have y1 : w.cell? ⟨gb, 1, none⟩ = some (.int .i64 (k : Int)) := by rw [cell_of_row w gb 1 _ _ (0, 0) hgy]; rfl
  have y2 : w.cell? ⟨gb, 2, none⟩ = some (.bool true) := by rw [cell_of_row w gb 2 _ _ (0, 0) hgy]; rfl
  have m1 : ¬ bt = g := fun e => n1 e.symm
  have m2 : ¬ be = g := fun e => n2 e.symm
  have m3 : ¬ be = bt := fun e => n3 e.symm
  have HGX := Lib.hid hgx; have HGY := Lib.hid hgy; clear hgx hgy
  refine wpS_of_wp ?_
  go_wp2
  go_region
  go_wp2
  cases c₀
  exact ⟨rfl, _, rfl, .tuple #[], results_none rfl _ _ _, rfl, rfl, hkl, Ay, cy, hby, rfl⟩
end Go.Proofs.YtgclchdccgkjaaaDoor
namespace Go.Proofs.YtgclchdccgkjaaaDoor
set_option linter.unusedVariables false

/-- Strings, one after the other. -/
def strs (ls : List (List UInt8)) : List UInt8 := (ls.map encString).flatten
theorem strs_cons (l : List UInt8) (ls : List (List UInt8)) : strs (l :: ls) = encString l ++ strs ls := rfl
theorem strs_snoc (ls : List (List UInt8)) (l : List UInt8) : strs (ls ++ [l]) = strs ls ++ encString l := by simp [strs]
/-- What a name's sequence contains. -/
def nameX (ls : List (List UInt8)) (r : List UInt8) : List UInt8 := encTag 0 (elem 48 (strs ls)) ++ encTag 1 (encString r)
def nameE (ls : List (List UInt8)) (r : List UInt8) : List UInt8 := elem 48 (nameX ls r)
theorem name_parts {ls : List (List UInt8)} {r : List UInt8} (h : nameB ls r = true) : ls.length ≤ 4 ∧ (∀ l ∈ ls, l.length ≤ 32) ∧ r.length ≤ 32 := by
  unfold nameB realmB sizedB at h
  simp only [Bool.and_eq_true, decide_eq_true_eq, List.all_eq_true] at h
  refine ⟨h.1.1.2, fun l hl => ?_, h.1.2.1.2⟩
  have := h.2 l hl
  unfold partB sizedB at this
  simp only [Bool.and_eq_true, decide_eq_true_eq] at this
  exact this.1.2
theorem strs_len : ∀ (ls : List (List UInt8)), (∀ l ∈ ls, l.length ≤ 32) → (strs ls).length ≤ 37 * ls.length
  | [], _ => by simp [strs]
  | l :: ls, h => by
    have h1 := strs_len ls (fun x hx => h x (by simp [hx]))
    have h2 := elem_le 27 l
    have h3 := h l (by simp)
    rw [strs_cons, List.length_append, List.length_cons]
    unfold encString
    omega
theorem encS_ne (l : List UInt8) (h : l.length < 16777216) : encString l ≠ [] := elem_ne 27 l h
theorem strs_pre : ∀ (front ls : List (List UInt8)) (z : List UInt8), (∀ l ∈ front, l.length < 16777216) → (∀ l ∈ ls, l.length < 16777216) → strs front ++ z = strs ls → ∃ t, ls = front ++ t ∧ z = strs t
  | [], ls, z, _, _, h => ⟨ls, rfl, h⟩
  | f :: ft, [], z, hf, _, h => by
    have := congrArg List.length h
    rw [strs_cons, List.length_append, List.length_append] at this
    have hn := List.length_pos_iff.2 (encS_ne f (hf f (by simp)))
    simp [strs] at this
    rw [this.1.1] at hn
    simp at hn
  | f :: ft, l :: lt, z, hf, hl, h => by
    rw [strs_cons, strs_cons, List.append_assoc] at h
    have a := readString_enc f (strs ft ++ z) (hf f (by simp))
    have b := readString_enc l (strs lt) (hl l (by simp))
    rw [h, b] at a
    simp only [Prod.mk.injEq] at a
    obtain ⟨rfl, _, _⟩ := a
    have h2 := List.append_cancel_left h
    obtain ⟨t, rfl, rfl⟩ := strs_pre ft lt z (fun x hx => hf x (by simp [hx])) (fun x hx => hl x (by simp [hx])) h2
    exact ⟨t, rfl, rfl⟩

/-- No name's encoding stands at the beginning. -/
def NotName (m : List UInt8) : Prop := ∀ (ls : List (List UInt8)) (r rest : List UInt8), nameB ls r = true → nameE ls r ++ rest ≠ m
section
variable {ls : List (List UInt8)} {r : List UInt8}
theorem name_sizes (h : nameB ls r = true) : (strs ls).length < 1000 ∧ (encString r).length < 1000 ∧ (elem 48 (strs ls)).length < 2000 ∧ (nameX ls r).length < 10000 ∧ elem 48 (strs ls) ≠ [] ∧ encString r ≠ [] := by
  obtain ⟨h1, h2, h3⟩ := name_parts h
  have a := strs_len ls h2
  have b := elem_le 27 r
  have c := elem_le 48 (strs ls)
  have d := encTag_shape 0 (elem 48 (strs ls)) (by omega) (elem_ne _ _ (by omega))
  have e := encTag_shape 1 (encString r) (by omega) (encS_ne r (by omega))
  have f := elem_le (tagB 0) (elem 48 (strs ls))
  have g := elem_le (tagB 1) (encString r)
  have i : encString r = elem 27 r := rfl
  rw [← i] at b
  refine ⟨by omega, by omega, by omega, ?_, elem_ne _ _ (by omega), encS_ne r (by omega)⟩
  unfold nameX
  rw [List.length_append, d, e]
  omega
theorem name_seq (h : nameB ls r = true) (rest : List UInt8) : readInF 48 (nameE ls r ++ rest) = (some (nameX ls r), 0, (nameE ls r).length) := readIn_enc 48 _ _ (by have := name_sizes h; omega)
theorem name_f0 (h : nameB ls r = true) : fieldF none (readInF 48) 0 (nameX ls r) = (some (strs ls), 0, (encTag 0 (elem 48 (strs ls))).length) := by
  obtain ⟨a, b, c, d, e, f⟩ := name_sizes h
  refine field_enc none (readInF 48) 0 _ _ _ (by omega) e (by omega) ?_
  have := readIn_enc 48 (strs ls) [] (by omega)
  rwa [List.append_nil] at this
theorem name_f1 (h : nameB ls r = true) : fieldF [] readStringF 1 ((nameX ls r).drop (encTag 0 (elem 48 (strs ls))).length) = (r, 0, (encTag 1 (encString r)).length) := by
  obtain ⟨a, b, c, d, e, f⟩ := name_sizes h
  obtain ⟨_, _, h3⟩ := name_parts h
  unfold nameX
  rw [List.drop_left]
  have := field_enc [] readStringF 1 (encString r) [] r (by omega) f (by omega) (by
    have := readString_enc r [] (by omega)
    rwa [List.append_nil] at this)
  rwa [List.append_nil] at this
end
theorem not_seq {m : List UInt8} {er : Nat} (h : readInF 48 m = (none, er, 0)) : NotName m := fun ls r rest hv e => by
  have := name_seq hv rest
  rw [e, h] at this
  cases this
theorem not_f0 {m x : List UInt8} {us : Nat} (h : readInF 48 m = (some x, 0, us)) {v : Option (List UInt8)} {er u : Nat} (h0 : fieldF none (readInF 48) 0 x = (v, er, u)) (he : er ≠ 0) : NotName m := fun ls r rest hv e => by
  have a := name_seq hv rest
  rw [e, h] at a
  simp only [Prod.mk.injEq, Option.some.injEq] at a
  have b := name_f0 hv
  rw [← a.1, h0] at b
  simp only [Prod.mk.injEq] at b
  exact he b.2.1
/-- Up to the first field, all is as it must be. -/
theorem is_f0 {m x : List UInt8} {us : Nat} (h : readInF 48 m = (some x, 0, us)) {y : List UInt8} {u0 : Nat} (h0 : fieldF none (readInF 48) 0 x = (some y, 0, u0)) {ls : List (List UInt8)} {r rest : List UInt8} (hv : nameB ls r = true) (e : nameE ls r ++ rest = m) :
    x = nameX ls r ∧ y = strs ls ∧ u0 = (encTag 0 (elem 48 (strs ls))).length := by
  have a := name_seq hv rest
  rw [e, h] at a
  simp only [Prod.mk.injEq, Option.some.injEq] at a
  have b := name_f0 hv
  rw [← a.1, h0] at b
  simp only [Prod.mk.injEq, Option.some.injEq] at b
  exact ⟨a.1, b.1, b.2.2⟩
theorem not_str {m x : List UInt8} {us : Nat} (h : readInF 48 m = (some x, 0, us)) {y : List UInt8} {u0 : Nat} (h0 : fieldF none (readInF 48) 0 x = (some y, 0, u0)) {front : List (List UInt8)} {j : Nat} (hf : ∀ l ∈ front, l.length < 16777216) (hj : y.take j = strs front) (hlt : j < y.length)
    {v : List UInt8} {er u : Nat} (hs : readStringF (y.drop j) = (v, er, u)) (he : er ≠ 0) : NotName m := fun ls r rest hv e => by
  obtain ⟨hx, hy, _⟩ := is_f0 h h0 hv e
  obtain ⟨_, h2, _⟩ := name_parts hv
  have hpre : strs front ++ y.drop j = strs ls := by rw [← hj, List.take_append_drop, hy]
  obtain ⟨t, rfl, ht⟩ := strs_pre front ls _ hf (fun l hl => by have := h2 l hl; omega) hpre
  cases t with
  | nil =>
    have := congrArg List.length ht
    rw [List.length_drop] at this
    simp [strs] at this
    omega
  | cons t0 tr =>
    have := readString_enc t0 (strs tr) (by have := h2 t0 (by simp); omega)
    rw [← strs_cons, ← ht, hs] at this
    simp only [Prod.mk.injEq] at this
    exact he this.2.1
theorem is_front {m x : List UInt8} {us : Nat} (h : readInF 48 m = (some x, 0, us)) {y : List UInt8} {u0 : Nat} (h0 : fieldF none (readInF 48) 0 x = (some y, 0, u0)) {front : List (List UInt8)} (hf : ∀ l ∈ front, l.length < 16777216) (hj : y = strs front) {ls : List (List UInt8)} {r rest : List UInt8} (hv : nameB ls r = true) (e : nameE ls r ++ rest = m) : ls = front := by
  obtain ⟨hx, hy, _⟩ := is_f0 h h0 hv e
  obtain ⟨_, h2, _⟩ := name_parts hv
  have hpre : strs front ++ [] = strs ls := by rw [List.append_nil, ← hj, hy]
  obtain ⟨t, rfl, ht⟩ := strs_pre front ls _ hf (fun l hl => by have := h2 l hl; omega) hpre
  cases t with
  | nil => simp
  | cons t0 tr =>
    have hn := encS_ne t0 (by have := h2 t0 (by simp); omega)
    rw [strs_cons] at ht
    have := List.append_eq_nil_iff.1 ht.symm
    exact absurd this.1 hn
theorem not_f1 {m x : List UInt8} {us : Nat} (h : readInF 48 m = (some x, 0, us)) {y : List UInt8} {u0 : Nat} (h0 : fieldF none (readInF 48) 0 x = (some y, 0, u0)) {v : List UInt8} {er u1 : Nat} (h1 : fieldF [] readStringF 1 (x.drop u0) = (v, er, u1)) (he : er ≠ 0) : NotName m := fun ls r rest hv e => by
  obtain ⟨hx, hy, hu⟩ := is_f0 h h0 hv e
  have b := name_f1 hv
  rw [← hx, ← hu, h1] at b
  simp only [Prod.mk.injEq] at b
  exact he b.2.1
theorem not_end {m x : List UInt8} {us : Nat} (h : readInF 48 m = (some x, 0, us)) {y : List UInt8} {u0 : Nat} (h0 : fieldF none (readInF 48) 0 x = (some y, 0, u0)) {front : List (List UInt8)} (hf : ∀ l ∈ front, l.length < 16777216) (hj : y = strs front) {v : List UInt8} {u1 : Nat} (h1 : fieldF [] readStringF 1 (x.drop u0) = (v, 0, u1)) (hbad : u0 + u1 < x.length ∨ nameB front v = false) : NotName m := fun ls r rest hv e => by
  have hls := is_front h h0 hf hj hv e
  obtain ⟨hx, hy, hu⟩ := is_f0 h h0 hv e
  have b := name_f1 hv
  rw [← hx, ← hu, h1] at b
  simp only [Prod.mk.injEq] at b
  obtain ⟨rfl, _, rfl⟩ := b
  rcases hbad with hb | hb
  · rw [hx, hu] at hb
    unfold nameX at hb
    rw [List.length_append] at hb
    omega
  · rw [← hls, hv] at hb
    cases hb
theorem name_ok {m x : List UInt8} {us : Nat} (h : readInF 48 m = (some x, 0, us)) {y : List UInt8} {u0 : Nat} (h0 : fieldF none (readInF 48) 0 x = (some y, 0, u0)) {front : List (List UInt8)} (hj : y = strs front) {v : List UInt8} {u1 : Nat} (h1 : fieldF [] readStringF 1 (x.drop u0) = (v, 0, u1)) (hend : ¬ u0 + u1 < x.length) :
    us ≤ m.length ∧ m.take us = nameE front v := by
  obtain ⟨j1, j2, j3⟩ := readIn_inv _ _ _ _ h
  have hnil : ∀ tag : UInt8, (readInF tag []).2.1 ≠ 0 := fun tag => by
    unfold readInF
    rw [readF_nil]
    decide
  obtain ⟨a1, a2, _, _⟩ := field_inv none (readInF 48) (fun o => match o with | some z => elem 48 z | none => []) (fun m v u hm => by
    rcases readIn_cases 48 m with ⟨z, hz, _⟩ | ⟨er, he, hz⟩
    · rw [hz] at hm
      simp only [Prod.mk.injEq] at hm
      obtain ⟨rfl, _, rfl⟩ := hm
      obtain ⟨k1, k2, k3⟩ := readIn_inv _ _ _ _ hz
      exact ⟨k1, k3⟩
    · rw [hz] at hm
      simp only [Prod.mk.injEq] at hm
      exact absurd hm.2.1 he) (hnil 48) 0 (by omega) x _ _ h0
  obtain ⟨b1, b2, _, _⟩ := field_inv [] readStringF encString readString_inv (by unfold readStringF; rw [readF_nil]; decide) 1 (by omega) (x.drop u0) _ _ h1
  refine ⟨j1, ?_⟩
  rw [j3]
  unfold nameE nameX
  congr 1
  rw [List.length_drop] at b1
  have hx : x = x.take (u0 + u1) := (List.take_of_length_le (by omega)).symm
  rw [hx, take_add, a2, b2, hj]
end Go.Proofs.YtgclchdccgkjaaaDoor
