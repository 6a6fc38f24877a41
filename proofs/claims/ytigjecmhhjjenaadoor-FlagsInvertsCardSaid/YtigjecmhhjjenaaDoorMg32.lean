/- Texts laid together (wip/tools/automerge.py): Der12, B3. -/
import Derived.Test.YtigjecmhhjjenaaDoorMg31
import Derived.Test.YtigjecmhhjjenaaDoorMg6
namespace Go.Proofs.YtigjecmhhjjenaaDoor
open Go Go.RowKit

set_option maxRecDepth 100000 in
theorem RdBits_at (g : Nat) (l : List UInt8) (k : Nat) (m : List UInt8) (hm : l.drop k = m) (v : Int) (er used : Nat) (hr : readBitsF m = (v, er, used)) (w : World) (h : RD 65 w g l k) :
    Calls Tryd.prog 63 #[.pointer (some ⟨g, 0, none⟩)] w fun e w' => e = .returned (.tuple #[.int .u32 v, .int .i64 (er : Int)]) ∧ RD 65 w' g l (k + used) ∧ w.grownBy w' (some g) := by
  have hrd := read_u32_at g l k 3 3 rfl m hm (takeF 3 m).1 (takeF 3 m).2.1 (takeF 3 m).2.2 rfl _ _ w (bitsClo_says _ _) h
  have HRD := Lib.hid hrd; have HR := Lib.hid hr
  clear hrd hr hm
  go_enter Tryd.func63, Tryd.ntmps63
  go_wp2_with fail
  refine HRD.out.mono ?_
  have hr := HR.out
  unfold readBitsF readF at hr
  rintro e w1 ⟨hg, ⟨her, rfl, hr1⟩ | ⟨her, hok, rfl, hr1⟩ | ⟨her, hok, v', rfl, hv, hr1⟩⟩
  · rw [if_pos her] at hr
    simp only [Prod.mk.injEq] at hr
    obtain ⟨rfl, rfl, rfl⟩ := hr
    go_wp2_with fail
    go_ret2
    exact ⟨rfl, hr1, hg⟩
  · rw [if_neg (by omega), if_neg (by rw [hok]; simp)] at hr
    simp only [Prod.mk.injEq] at hr
    obtain ⟨rfl, rfl, rfl⟩ := hr
    go_wp2_with fail
    go_ret2
    exact ⟨rfl, hr1, hg⟩
  · rw [if_neg (by omega), if_pos hok] at hr
    simp only [Prod.mk.injEq] at hr
    obtain ⟨rfl, rfl, rfl⟩ := hr
    subst hv
    go_wp2_with fail
    go_ret2
    exact ⟨rfl, hr1, hg⟩

/-- What a method that hands back a reader of contents leaves. -/
def InPost (w : World) (g : Nat) (l : List UInt8) (k : Nat) (v : Option (List UInt8)) (er used : Nat) (p : Value) (w' : World) : Prop :=
  w.grownBy w' (some g) ∧ RD 65 w' g l (k + used) ∧ ((v = none ∧ er ≠ 0 ∧ p = .pointer none) ∨ ∃ x g', v = some x ∧ er = 0 ∧ p = .pointer (some ⟨g', 0, none⟩) ∧ w.heap.size ≤ g' ∧ RD 65 w' g' x 0)

set_option maxRecDepth 100000 in
theorem Left_at (g : Nat) (l : List UInt8) (k : Nat) (w : World) (h : RD 65 w g l k) :
    Calls Tryd.prog 35 #[.pointer (some ⟨g, 0, none⟩)] w fun e w' => e = .returned (.int .i64 ((l.length - k : Nat) : Int)) ∧ Ext w w' := by
  obtain ⟨Ax, cx, hbx, k0, k1, k2, kf⟩ := h.cells
  have hk := h.le
  obtain ⟨m, hm⟩ : ∃ m, m = l.drop k := ⟨_, rfl⟩
  have hml : l.length - k = m.length := by rw [hm]; simp
  rw [hml]
  have HM := Lib.hid hm; clear hm hml
  go_enter Tryd.func35, Tryd.ntmps35
  go_wp2_with (go_at_call 65; refine (rest_at g l k m HM.out.symm _ h).mono ?_; rintro e w1 ⟨A1, c1, rfl, hb1, hx1⟩)
  go_ret
  exact ⟨rfl, hx1⟩

set_option maxRecDepth 100000 in
theorem End_at (g : Nat) (l : List UInt8) (k : Nat) (w : World) (h : RD 65 w g l k) :
    Calls Tryd.prog 59 #[.pointer (some ⟨g, 0, none⟩)] w fun e w' => e = .returned (.int .i64 (if k < l.length then 5 else 0)) ∧ Ext w w' := by
  obtain ⟨Ax, cx, hbx, k0, k1, k2, kf⟩ := h.cells
  have hk := h.le
  obtain ⟨n, hn⟩ : ∃ n, n = l.length - k := ⟨_, rfl⟩
  have HL := Lib.hid (Left_at g l k)
  by_cases hlt : k < l.length
  · have h0 : (0 : Int) < n := by omega
    rw [if_pos hlt]
    have HN := Lib.hid hn; clear hn hlt
    go_enter Tryd.func59, Tryd.ntmps59
    go_wp2_with (go_at_call 35; refine (HL.out _ h).mono ?_; rintro e w1 ⟨rfl, hx1⟩; rw [← HN.out])
    go_ret
    exact ⟨rfl, hx1⟩
  · have h0 : ¬ (0 : Int) < n := by omega
    rw [if_neg hlt]
    have HN := Lib.hid hn; clear hn hlt
    go_enter Tryd.func59, Tryd.ntmps59
    go_wp2_with (go_at_call 35; refine (HL.out _ h).mono ?_; rintro e w1 ⟨rfl, hx1⟩; rw [← HN.out])
    go_ret
    exact ⟨rfl, hx1⟩
end Go.Proofs.YtigjecmhhjjenaaDoor
namespace Go.Proofs.YtigjecmhhjjenaaDoor
open Go Go.RowKit

def B3 (T : TypeId) (w : World) (b : Nat) (x y z : Value) : Prop := w.heap[b]? = some (.cells #[x, y, z] T (0, 0))
def B1 (T : TypeId) (w : World) (b : Nat) (x : Value) : Prop := w.heap[b]? = some (.cells #[x] T (0, 0))
section
variable {T : TypeId} {w w' : World} {b : Nat} {x y z : Value}
theorem B3.cells (h : B3 T w b x y z) : w.cell? ⟨b, 0, none⟩ = some x ∧ w.cell? ⟨b, 1, none⟩ = some y ∧ w.cell? ⟨b, 2, none⟩ = some z :=
  ⟨by rw [cell_of_row w b 0 _ _ (0, 0) h]; rfl, by rw [cell_of_row w b 1 _ _ (0, 0) h]; rfl, by rw [cell_of_row w b 2 _ _ (0, 0) h]; rfl⟩
theorem B3.soft (h : B3 T w b x y z) (k : Nat) : w.frozen? ⟨b, k, none⟩ = false := frozen_of_row w b k _ _ h
theorem B3.lt (h : B3 T w b x y z) : b < w.heap.size := (Array.getElem?_eq_some_iff.1 h).1
theorem B3.ext (h : B3 T w b x y z) (hx : Ext w w') : B3 T w' b x y z := hx.heap h
theorem B3.far {g : Nat} (h : B3 T w b x y z) (hb : w.grownBy w' (some g)) (hne : b ≠ g) : B3 T w' b x y z := (hb.block b h.lt (by intro e; cases e; exact hne rfl)).trans h
theorem B3.set0 (h : B3 T w b x y z) (v : Value) : B3 T (w.setCell ⟨b, 0, none⟩ v) b v y z := by unfold B3; rw [heap_setCell_same w b 0 _ _ _ h]; rfl
theorem B3.set1 (h : B3 T w b x y z) (v : Value) : B3 T (w.setCell ⟨b, 1, none⟩ v) b x v z := by unfold B3; rw [heap_setCell_same w b 1 _ _ _ h]; rfl
theorem B3.set2 (h : B3 T w b x y z) (v : Value) : B3 T (w.setCell ⟨b, 2, none⟩ v) b x y v := by unfold B3; rw [heap_setCell_same w b 2 _ _ _ h]; rfl
theorem B3.new (T : TypeId) (w : World) (x y z : Value) : B3 T (w.alloc (.cells #[x, y, z] T)) w.heap.size x y z := heap_alloc_new w _
/-- What three stores leave, and the facts that the walk asks. -/
theorem B3.end_ (h : B3 T w b x y z) (u v t : Value) :
    (w.setCell ⟨b, 0, none⟩ u).cell? ⟨b, 0, none⟩ = some u ∧ ((w.setCell ⟨b, 0, none⟩ u).setCell ⟨b, 1, none⟩ v).cell? ⟨b, 1, none⟩ = some v ∧
    (((w.setCell ⟨b, 0, none⟩ u).setCell ⟨b, 1, none⟩ v).setCell ⟨b, 2, none⟩ t).cell? ⟨b, 2, none⟩ = some t :=
  ⟨(h.set0 u).cells.1, ((h.set0 u).set1 v).cells.2.1, (((h.set0 u).set1 v).set2 t).cells.2.2⟩
theorem B1.cell (h : B1 T w b x) : w.cell? ⟨b, 0, none⟩ = some x := by rw [cell_of_row w b 0 _ _ (0, 0) h]; rfl
theorem B1.soft (h : B1 T w b x) : w.frozen? ⟨b, 0, none⟩ = false := frozen_of_row w b 0 _ _ h
theorem B1.lt (h : B1 T w b x) : b < w.heap.size := (Array.getElem?_eq_some_iff.1 h).1
theorem B1.ext (h : B1 T w b x) (hx : Ext w w') : B1 T w' b x := hx.heap h
theorem B1.far {g : Nat} (h : B1 T w b x) (hb : w.grownBy w' (some g)) (hne : b ≠ g) : B1 T w' b x := (hb.block b h.lt (by intro e; cases e; exact hne rfl)).trans h
theorem B1.set (h : B1 T w b x) (v : Value) : B1 T (w.setCell ⟨b, 0, none⟩ v) b v := by unfold B1; rw [heap_setCell_same w b 0 _ _ _ h]; rfl
theorem B1.new (T : TypeId) (w : World) (x : Value) : B1 T (w.alloc (.cells #[x] T)) w.heap.size x := heap_alloc_new w _
theorem grown_set3 {w w1 : World} {g b : Nat} (h : w.grownBy w1 (some g)) (hb : w.heap.size ≤ b) (u v t : Value) : w.grownBy (((w1.setCell ⟨b, 0, none⟩ u).setCell ⟨b, 1, none⟩ v).setCell ⟨b, 2, none⟩ t) (some g) := by
  have h3 : w1.grownBy (((w1.setCell ⟨b, 0, none⟩ u).setCell ⟨b, 1, none⟩ v).setCell ⟨b, 2, none⟩ t) (some b) := grown_set (grown_set (grown_set (grown_refl w1 _) 0 u) 1 v) 2 t
  exact ⟨h3.os.trans h.os, h3.tape.trans h.tape, h3.output.trans h.output, Nat.le_trans h.size h3.size, fun j hj hne => (h3.block j (Nat.lt_of_lt_of_le hj h.size) (by intro e; cases e; omega)).trans (h.block j hj hne)⟩
theorem ext_set3 {w1 : World} {b : Nat} (w : World) (h : Ext w w1) (hb : w.heap.size ≤ b) (u v t : Value) : Ext w (((w1.setCell ⟨b, 0, none⟩ u).setCell ⟨b, 1, none⟩ v).setCell ⟨b, 2, none⟩ t) :=
  ((h.setCell hb _).setCell hb _).setCell hb _
end
theorem OB.off {e : TypeId} {w w' : World} {B : Nat} {v : Value} {b : List UInt8} {g : Nat} (h : OB e w B v b) (hg : w.grownBy w' (some g)) (hlt : g < B) : OB e w' B v b := by
  refine ⟨h.1, ?_⟩
  rcases h.2 with hh | ⟨g', cap, cur, hv, hb, hh, r⟩
  · exact .inl hh
  · exact .inr ⟨g', cap, cur, hv, hb, (hg.block g' (Array.getElem?_eq_some_iff.1 hh).1 (by intro e; cases e; omega)).trans hh, r⟩
end Go.Proofs.YtigjecmhhjjenaaDoor
