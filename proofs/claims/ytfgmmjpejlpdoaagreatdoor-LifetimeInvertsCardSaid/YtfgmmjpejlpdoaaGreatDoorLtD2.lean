/- Lifetimes: Copy, the deferred closure of Read. -/
import Derived.Test.YtfgmmjpejlpdoaaGreatDoorLtD1
import Derived.Test.YtfgmmjpejlpdoaaGreatDoorB3
import Derived.Test.YtfgmmjpejlpdoaaGreatDoorLt3
import Derived.Defers
import Derived.Recover
namespace Go.Proofs.YtfgmmjpejlpdoaaGreatDoor
open Go Go.RowKit
set_option linter.unusedVariables false

/-- What the deferred closure leaves: the reader as it was, no times, the error. -/
def FixedT (w w' : World) (g : Nat) (l : List UInt8) (k bt be : Nat) (er : Int) : Prop := k ≤ l.length ∧ ∃ A c, BS w (.slice A l.length c) l ∧
  w' = ((((((((w.setCell ⟨g, 0, none⟩ (.slice A l.length c)).setCell ⟨g, 1, none⟩ (.int .i64 (k : Int))).setCell ⟨g, 2, none⟩ (.bool true)).setCell ⟨bt, 0, none⟩ (.int .i64 0)).setCell ⟨bt, 1, none⟩ (.int .i64 0)).setCell ⟨bt, 2, none⟩ (.int .i64 0)).setCell ⟨bt, 3, none⟩ (.int .i64 0)).setCell ⟨be, 0, none⟩ (.int .i64 er)).drew
theorem TB.noU8 {w : World} {b : Nat} {x y z u : Int} (hb : TB w b x y z u) : NoU8 w b := by
  intro q hq v hv
  unfold World.cell? at hv
  rw [hq, hb] at hv
  simp only at hv
  split at hv
  · cases hv
  · obtain ⟨hlt, he⟩ := Array.getElem?_eq_some_iff.1 hv
    have h3 : q.off = 0 ∨ q.off = 1 ∨ q.off = 2 ∨ q.off = 3 := by simp at hlt; omega
    rcases h3 with h | h | h | h <;> simp [h] at he
theorem B1.noU8i {T : TypeId} {w : World} {b : Nat} {x : Int} (hb : B1 T w b (.int .i64 x)) : NoU8 w b := by
  intro q hq v hv
  unfold World.cell? at hv
  rw [hq, hb] at hv
  simp only at hv
  split at hv
  · cases hv
  · obtain ⟨hlt, he⟩ := Array.getElem?_eq_some_iff.1 hv
    have h3 : q.off = 0 := by simp at hlt; omega
    simp [h3] at he
theorem RD.away {T : TypeId} {w w' : World} {g b : Nat} {l : List UInt8} {k : Nat} (h : RD T w g l k) (hn : NoU8 w b) (hg : w.grownBy w' (some b)) (hne : g ≠ b) : RD T w' g l k := by
  obtain ⟨h1, A, c, hh, hbs⟩ := h
  exact ⟨h1, A, c, (hg.block g (Array.getElem?_eq_some_iff.1 hh).1 (by intro e; exact hne (by injection e))).trans hh, hbs.but hn hg⟩
theorem FixedT.gives {T3 : TypeId} {w w' : World} {g k bt be : Nat} {er a s e r : Int} {l : List UInt8} (hf : FixedT w w' g l k bt be er) {k' : Nat} (h : RD 94 w g l k')
    (h2 : TB w bt a s e r) (h3 : B1 T3 w be (.int .i64 0)) (n1 : g ≠ bt) (n2 : g ≠ be) (n3 : bt ≠ be) :
    RD 94 w' g l k ∧ TB w' bt 0 0 0 0 ∧ B1 T3 w' be (.int .i64 er) ∧ (∀ B, B ≤ bt → B ≤ be → ∀ w0 : World, w0.heap.size = B → w0.grownBy w (some g) → w0.grownBy w' (some g)) := by
  obtain ⟨hk, A, c, hb, rfl⟩ := hf
  have hn := h.noU8
  obtain ⟨_, Ax, cx, hg0, _⟩ := h
  have hB3 : B3 94 w g (.slice Ax l.length cx) (.int .i64 (k' : Int)) (.bool true) := hg0
  have g1 : w.grownBy (((w.setCell ⟨g, 0, none⟩ (.slice A l.length c)).setCell ⟨g, 1, none⟩ (.int .i64 (k : Int))).setCell ⟨g, 2, none⟩ (.bool true)) (some g) := grown_set (grown_set (grown_set (grown_refl _ _) 0 _) 1 _) 2 _
  have r2 : RD 94 (((w.setCell ⟨g, 0, none⟩ (.slice A l.length c)).setCell ⟨g, 1, none⟩ (.int .i64 (k : Int))).setCell ⟨g, 2, none⟩ (.bool true)) g l k := ⟨hk, A, c, ((hB3.set0 _).set1 _).set2 _, hb.but hn g1⟩
  have t2 := h2.but n1.symm g1; have e2 := h3.far g1 n2.symm
  generalize ((w.setCell ⟨g, 0, none⟩ (.slice A l.length c)).setCell ⟨g, 1, none⟩ (.int .i64 (k : Int))).setCell ⟨g, 2, none⟩ (.bool true) = W2 at *
  have g2 : W2.grownBy ((((W2.setCell ⟨bt, 0, none⟩ (.int .i64 0)).setCell ⟨bt, 1, none⟩ (.int .i64 0)).setCell ⟨bt, 2, none⟩ (.int .i64 0)).setCell ⟨bt, 3, none⟩ (.int .i64 0)) (some bt) := grown_set (grown_set (grown_set (grown_set (grown_refl _ _) 0 _) 1 _) 2 _) 3 _
  have r3 := r2.away t2.noU8 g2 n1; have t3 := (((t2.set0 0).set1 0).set2 0).set3 0; have e3 := e2.far g2 n3.symm
  generalize (((W2.setCell ⟨bt, 0, none⟩ (.int .i64 0)).setCell ⟨bt, 1, none⟩ (.int .i64 0)).setCell ⟨bt, 2, none⟩ (.int .i64 0)).setCell ⟨bt, 3, none⟩ (.int .i64 0) = W3 at *
  have g3 : W3.grownBy (W3.setCell ⟨be, 0, none⟩ (.int .i64 er)) (some be) := grown_set (grown_refl _ _) 0 _
  have r4 := r3.away e3.noU8i g3 n2; have t4 := t3.but n3 g3; have e4 := e3.set (.int .i64 er)
  have hd := Ext.drew (W3.setCell ⟨be, 0, none⟩ (.int .i64 er))
  refine ⟨r4.ext hd, t4.ext hd, e4.ext hd, fun B h1 h2 w0 hB hg => ?_⟩
  exact grown_ext (grown_new (grown_new (grown_trans hg g1) g2 (by omega)) g3 (by omega)) hd

set_option maxRecDepth 100000 in
theorem Copy_at (g : Nat) (l : List UInt8) (k : Nat) (w : World) (h : RD 94 w g l k) :
    Calls Tryz.prog 47 #[.pointer (some ⟨g, 0, none⟩)] w fun e w' => ∃ g', e = .returned (.pointer (some ⟨g', 0, none⟩)) ∧ w.heap.size ≤ g' ∧ RD 94 w' g' l k ∧ Ext w w' := by
  obtain ⟨hk, A, c, hg, hb⟩ := h
  have c0 : w.cell? ⟨g, 0, none⟩ = some (.slice A l.length c) := by rw [cell_of_row w g 0 _ _ (0, 0) hg]; rfl
  have c1 : w.cell? ⟨g, 1, none⟩ = some (.int .i64 (k : Int)) := by rw [cell_of_row w g 1 _ _ (0, 0) hg]; rfl
  have c2 : w.cell? ⟨g, 2, none⟩ = some (.bool true) := by rw [cell_of_row w g 2 _ _ (0, 0) hg]; rfl
  have HG := Lib.hid hg; clear hg
  go_enter Tryz.func47, Tryz.ntmps47
  go_wp2
  go_ret
  exact ⟨w.heap.size, rfl, Nat.le_refl _, ⟨hk, A, c, heap_alloc_new w _, hb.ext ((Ext.refl w).alloc _)⟩, (Ext.refl w).alloc _⟩

set_option maxRecDepth 100000 in
theorem ltread_idle (p0 p1 p2 p3 : Addr) (w : World) :
    CallsD Tryz.prog 48 #[.pointer (some p0), .pointer (some p1), .pointer (some p2), .pointer (some p3)] .returning w fun e u' w' => e = .returned (.tuple #[]) ∧ u' = .returning ∧ w' = w := by
  have ta : ∀ w : World, (Instr.typeAssert .nilIface 20 27 true).run Tryz.prog w = .ok (.tuple #[.int .i64 0, .bool false]) w := fun _ => by kernel_rfl
  refine callsD_of_wpS Tryz.func48 rfl fun c₀ cs hu => ?_
  simp only [Tryz.ntmps48, List.size_toArray, List.length_cons, List.length_nil, Nat.reduceAdd, Nat.reduceSub, Array.replicate_succ, Array.replicate_zero, List.push_toArray, List.append_toArray, List.nil_append, List.cons_append]
  apply wpS_seq
  apply wpS_region
  simp [wpOpsS, go_sem, recoverD, hu, ta, Exit.thenS]
  refine wpS_of_wp ?_
  go_wp2
  cases c₀
  simp_all [bodyPostS, results, Tryz.results48]
set_option maxRecDepth 100000 in
theorem ltread_panic (bf br bt be g gb : Nat) (er : Int) (older : List PanicEntry) (l : List UInt8) (k k' : Nat) (a s e r : Int) (w : World) (n1 : g ≠ bt) (n2 : g ≠ be) (n3 : bt ≠ be) (n4 : g ≠ gb)
    (h0 : B1 66 w bf (.pointer (some ⟨gb, 0, none⟩))) (h1 : B1 66 w br (.pointer (some ⟨g, 0, none⟩))) (h2 : TB w bt a s e r) (h3 : B1 27 w be (.int .i64 0)) (h : RD 94 w g l k') (hb : RD 94 w gb l k) :
    CallsD Tryz.prog 48 #[.pointer (some ⟨bf, 0, none⟩), .pointer (some ⟨br, 0, none⟩), .pointer (some ⟨bt, 0, none⟩), .pointer (some ⟨be, 0, none⟩)] (.panicking ({ v := .iface 27 (.int .i64 er), recovered := false } :: older)) w fun en u' w' =>
      en = .returned (.tuple #[]) ∧ u' = .panicking ({ v := .iface 27 (.int .i64 er), recovered := true } :: older) ∧ FixedT w w' g l k bt be er := by
  have ta : ∀ w : World, (Instr.typeAssert (.iface 27 (.int .i64 er)) 20 27 true).run Tryz.prog w = .ok (.tuple #[.int .i64 er, .bool true]) w := fun _ => by kernel_rfl
  refine callsD_of_wpS Tryz.func48 rfl fun c₀ cs hu => ?_
  simp only [Tryz.ntmps48, List.size_toArray, List.length_cons, List.length_nil, Nat.reduceAdd, Nat.reduceSub, Array.replicate_succ, Array.replicate_zero, List.push_toArray, List.append_toArray, List.nil_append, List.cons_append]
  apply wpS_seq
  apply wpS_region
  simp [wpOpsS, go_sem, recoverD, hu, ta, Exit.thenS]
  have c0 := h0.cell; have c1 := h1.cell; have c3 := h3.cell; obtain ⟨t0, t1, t2, t3⟩ := h2.cells
  have f0 := h2.soft 0; have f1 := h2.soft 1; have f2 := h2.soft 2; have f4 := h2.soft 3; have f3 := h3.soft
  obtain ⟨_, Ax, cx, hgx, hbx⟩ := h
  have k0 : w.cell? ⟨g, 0, none⟩ = some (.slice Ax l.length cx) := by rw [cell_of_row w g 0 _ _ (0, 0) hgx]; rfl
  have k1 : w.cell? ⟨g, 1, none⟩ = some (.int .i64 (k' : Int)) := by rw [cell_of_row w g 1 _ _ (0, 0) hgx]; rfl
  have k2 : w.cell? ⟨g, 2, none⟩ = some (.bool true) := by rw [cell_of_row w g 2 _ _ (0, 0) hgx]; rfl
  have kf0 : w.frozen? ⟨g, 0, none⟩ = false := frozen_of_row w g 0 _ _ hgx
  have kf1 : w.frozen? ⟨g, 1, none⟩ = false := frozen_of_row w g 1 _ _ hgx
  have kf2 : w.frozen? ⟨g, 2, none⟩ = false := frozen_of_row w g 2 _ _ hgx
  obtain ⟨hkl, Ay, cy, hgy, hby⟩ := hb
  have y0 : w.cell? ⟨gb, 0, none⟩ = some (.slice Ay l.length cy) := by rw [cell_of_row w gb 0 _ _ (0, 0) hgy]; rfl
  have y1 : w.cell? ⟨gb, 1, none⟩ = some (.int .i64 (k : Int)) := by rw [cell_of_row w gb 1 _ _ (0, 0) hgy]; rfl
  have y2 : w.cell? ⟨gb, 2, none⟩ = some (.bool true) := by rw [cell_of_row w gb 2 _ _ (0, 0) hgy]; rfl
  have m1 : ¬ bt = g := fun e => n1 e.symm
  have m2 : ¬ be = g := fun e => n2 e.symm
  have m3 : ¬ be = bt := fun e => n3 e.symm
  have HGX := Lib.hid hgx; have HGY := Lib.hid hgy; clear hgx hgy
  refine wpS_of_wp ?_
  go_wp2
  go_region
  go_wp2
  cases c₀
  exact ⟨rfl, _, rfl, .tuple #[], results_none rfl _ _ _, rfl, rfl, hkl, Ay, cy, hby, rfl⟩
end Go.Proofs.YtfgmmjpejlpdoaaGreatDoor
