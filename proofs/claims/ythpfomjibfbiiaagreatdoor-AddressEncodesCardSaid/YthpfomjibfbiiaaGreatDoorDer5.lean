/- bytes.Clone, bytes.Equal; New; measure. -/
import Derived.Test.YthpfomjibfbiiaaGreatDoorMg13
import Derived.Test.YthpfomjibfbiiaaGreatDoorMg1
import Derived.Test.YthpfomjibfbiiaaGreatDoorMg10
import Derived.Lib.SliceRun
import Derived.Deep.QuietTactic
import Derived.BigQuiet
namespace Go.Proofs.YthpfomjibfbiiaaGreatDoor
open Go Go.RowKit

set_option maxRecDepth 100000 in
theorem Clone_at (A : Option Addr) (c : Nat) (l : List UInt8) (w : World) (h : BS w (.slice A l.length c) l) (hl : l.length ≤ 140737488355328) :
    Calls Tryz.prog 41 #[.slice A l.length c] w fun e w' => ∃ A c, e = .returned (.slice A l.length c) ∧ OB 5 w' w.heap.size (.slice A l.length c) l ∧ Ext w w' := by
  obtain ⟨i0, hi, hz0, hz1, hz2⟩ := info_parts u8info
  rcases A with _ | ad
  · have h0 : l = [] := by
      obtain ⟨A', c', he, _, _, hc⟩ := h.open_
      injection he with e1 _ _
      subst e1
      rcases Nat.eq_zero_or_pos l.length with h0 | h0
      · exact List.eq_nil_of_length_eq_zero h0
      · obtain ⟨ad, ha, _⟩ := hc h0; cases ha
    subst h0
    have qT : ∀ (w : World), (binOp .eql 23 (.slice none 0 c) (.slice none 0 0)).run Tryz.prog w = .ok (.bool true) w := fun w => Lib.run_eql_slice_nil w _ _ none 0 c 0 0 Tryz.underlying23
    go_enter Tryz.func41, Tryz.ntmps41
    go_wp2
    go_ret
    exact ⟨none, 0, rfl, OB.nil _ _ _, Ext.refl _⟩
  · have qT : ∀ (w : World), (binOp .eql 23 (.slice (some ad) l.length c) (.slice none 0 0)).run Tryz.prog w = .ok (.bool false) w := fun w => Lib.run_eql_slice_nil w _ _ (some ad) l.length c 0 0 Tryz.underlying23
    have HO := Lib.hid (OB.lit w 5 w.heap.size [] [] rfl 0 rfl (by simp [maxLen]) (Nat.le_refl _) (z := w.heap.size) rfl)
    have HL := Lib.hid hl; clear hl
    go_enter Tryz.func41, Tryz.ntmps41
    go_wp2_with (at_builtin; refine wpList_append_bs _ rfl (.tmp 5) (.tmp 6) 23 rfl w.heap.size 5 i0 (.int .u8 0) Tryz.underlying23 hi hz0 hz1 hz2 rfl _ [] rfl HO.out _ l rfl (h.ext ((Ext.refl w).alloc _)) ?hd ?he ?_; rotate_right; intro v3 w3 hown3 hg3 hat3)
    case hd => have := HL.out; simp; omega
    case he => simp
    go_ret
    have hb : OB 5 w3 w.heap.size v3 l := by simpa using hown3
    obtain ⟨A3, c3, rfl⟩ := hb.shape
    exact ⟨_, _, rfl, hb, ((Ext.refl w).alloc _).grown hg3 (fun j hj => OB.lt HO.out j hj)⟩

set_option maxRecDepth 100000 in
theorem Equal_at (A B : Option Addr) (c d : Nat) (l m : List UInt8) (w : World) (h : BS w (.slice A l.length c) l) (k : BS w (.slice B m.length d) m) :
    Calls Tryz.prog 51 #[.slice A l.length c, .slice B m.length d] w fun e w' => e = .returned (.bool (l == m)) ∧ w = w' := by
  have h1 := run_str (P := Tryz.prog) w 23 9 5 _ l Tryz.underlying23 Tryz.underlying5 Tryz.underlying9 h
  have h2 := run_str (P := Tryz.prog) w 23 9 5 _ m Tryz.underlying23 Tryz.underlying5 Tryz.underlying9 k
  go_enter Tryz.func51, Tryz.ntmps51
  go_wp2
  go_ret
  refine ⟨?_, rfl⟩
  simp

set_option maxRecDepth 100000 in
theorem inner_at (A : Option Addr) (c : Nat) (l : List UInt8) (w : World) (h : BS w (.slice A l.length c) l) :
    Calls Tryz.prog 40 #[.slice A l.length c] w fun e w' => e = .returned (.pointer (some ⟨w.heap.size, 0, none⟩)) ∧ RD 72 w' w.heap.size l 0 ∧ Ext w w' := by
  have HR := Lib.hid (RD.new 72 w A c l h)
  go_enter Tryz.func40, Tryz.ntmps40
  go_wp2
  go_ret
  exact ⟨rfl, HR.out, (Ext.refl w).alloc _⟩

set_option maxRecDepth 100000 in
theorem New_at (A : Option Addr) (c : Nat) (l : List UInt8) (w : World) (h : BS w (.slice A l.length c) l) (hl : l.length ≤ 140737488355328) :
    Calls Tryz.prog 20 #[.slice A l.length c] w fun e w' => ∃ g, e = .returned (.pointer (some ⟨g, 0, none⟩)) ∧ w.heap.size ≤ g ∧ RD 72 w' g l 0 ∧ Ext w w' := by
  go_enter Tryz.func20, Tryz.ntmps20
  go_wp2_with (first
    | (go_at_call 41; refine (Clone_at A c l _ h hl).mono ?_; rintro e w1 ⟨A1, c1, rfl, hb1, hx1⟩)
    | (go_at_call 40; refine (inner_at A1 c1 l _ hb1.bs).mono ?_; rintro e w2 ⟨rfl, hr2, hx2⟩))
  go_ret
  exact ⟨_, rfl, hx1.size, hr2, hx1.trans hx2⟩
end Go.Proofs.YthpfomjibfbiiaaGreatDoor
