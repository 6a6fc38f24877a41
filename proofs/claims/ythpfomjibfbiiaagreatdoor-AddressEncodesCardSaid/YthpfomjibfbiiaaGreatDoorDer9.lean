/- read: its instances. -/
import Derived.Test.YthpfomjibfbiiaaGreatDoorMg36
namespace Go.Proofs.YthpfomjibfbiiaaGreatDoor
open Go Go.RowKit

/-- What 'read' leaves. -/
def ReadPost (T : TypeId) (Z : Value) (g : Nat) (l : List UInt8) (k er used : Nat) (ok : Bool) (V : Value → World → Prop) (w : World) (e : Ending) (w' : World) : Prop :=
  w.grownBy w' (some g) ∧
    ((er ≠ 0 ∧ e = .returned (.tuple #[Z, .int .i64 (er : Int)]) ∧ RD T w' g l k) ∨ (er = 0 ∧ ok = false ∧ e = .returned (.tuple #[Z, .int .i64 6]) ∧ RD T w' g l k) ∨
      (er = 0 ∧ ok = true ∧ ∃ v, e = .returned (.tuple #[v, .int .i64 0]) ∧ V v w' ∧ RD T w' g l (k + used)))
/-- What is asked of the function that 'read' is handed. -/
def CloSays (P : Program) (F : FuncId) (cont : List UInt8) (ok : Bool) (V : Value → World → Prop) (B : Nat) : Prop :=
  ∀ A c w1, B ≤ w1.heap.size → BS w1 (.slice A cont.length c) cont → Calls P F #[.slice A cont.length c] w1 fun e w' => (∃ v, e = .returned (.tuple #[v, .bool ok]) ∧ (ok = true → V v w')) ∧ Ext w1 w'

set_option maxRecDepth 100000 in
set_option maxHeartbeats 1000000 in
theorem read_int_at (g : Nat) (l : List UInt8) (k : Nat) (ti : Int) (tag : UInt8) (ht : ti = (tag.toNat : Int)) (m : List UInt8) (hm : l.drop k = m) (cont : List UInt8) (er used : Nat) (hr : takeF tag m = (cont, er, used))
    (ok : Bool) (V : Value → World → Prop) (w : World) (hclo : CloSays Tryz.prog 94 cont ok V w.heap.size) (h : RD 72 w g l k) :
    Calls Tryz.prog 93 #[.pointer (some ⟨g, 0, none⟩), .int .u8 ti, .func (.func 94) #[] #[]] w (ReadPost 72 (.int .i64 0) g l k er used ok V w) := by
  have htk := inTake_at g l k ti tag ht m hm cont er used hr
  have HTK := Lib.hid htk; have HE := Lib.hid (takeF_err tag m cont er used hr)
  clear htk hm hr ht
  have HCL := Lib.hid hclo; clear hclo
  obtain ⟨Ax, cx, hbx, k0, k1, k2, kf⟩ := h.cells
  by_cases her : er = 0
  · subst her
    cases ok
    · go_enter Tryz.func93, Tryz.ntmps93
      go_wp2_with (first
        | (go_at_call 107; refine (HTK.out _ h).mono ?_; rintro e w1 ⟨A1, c1, rfl, hb1, hr1, hg1⟩)
        | (go_at_call 94; refine (HCL.out A1 c1 _ hg1.size hb1).mono ?_; rintro e w2 ⟨⟨v, rfl, _⟩, hx2⟩; obtain ⟨Ay, cy, hby, j0, j1, j2, jf⟩ := (hr1.ext hx2).cells))
      go_ret2
      have hr2 := hr1.ext hx2
      exact ⟨grown_set (grown_ext hg1 hx2) 1 _, .inr (.inl ⟨rfl, rfl, rfl, hr2.moved k (h.le) _ rfl⟩)⟩
    · go_enter Tryz.func93, Tryz.ntmps93
      go_wp2_with (first
        | (go_at_call 107; refine (HTK.out _ h).mono ?_; rintro e w1 ⟨A1, c1, rfl, hb1, hr1, hg1⟩)
        | (go_at_call 94; refine (HCL.out A1 c1 _ hg1.size hb1).mono ?_; rintro e w2 ⟨⟨v, rfl, hv⟩, hx2⟩))
      go_ret2
      exact ⟨grown_ext hg1 hx2, .inr (.inr ⟨rfl, rfl, v, rfl, hv (by simp), hr1.ext hx2⟩)⟩
  · have hne : ((er : Int) != 0) = true := by rw [bne_iff_ne]; omega
    go_enter Tryz.func93, Tryz.ntmps93
    go_wp2_with (go_at_call 107; refine (HTK.out _ h).mono ?_; rintro e w1 ⟨A1, c1, rfl, hb1, hr1, hg1⟩)
    go_ret2
    have hu := HE.out her
    rw [hu] at hr1
    exact ⟨hg1, .inl ⟨her, rfl, hr1⟩⟩

set_option maxRecDepth 100000 in
set_option maxHeartbeats 1000000 in
theorem read_bytes_at (g : Nat) (l : List UInt8) (k : Nat) (ti : Int) (tag : UInt8) (ht : ti = (tag.toNat : Int)) (m : List UInt8) (hm : l.drop k = m) (cont : List UInt8) (er used : Nat) (hr : takeF tag m = (cont, er, used))
    (ok : Bool) (V : Value → World → Prop) (w : World) (hclo : CloSays Tryz.prog 97 cont ok V w.heap.size) (h : RD 72 w g l k) :
    Calls Tryz.prog 96 #[.pointer (some ⟨g, 0, none⟩), .int .u8 ti, .func (.func 97) #[] #[]] w (ReadPost 72 (.slice none 0 0) g l k er used ok V w) := by
  have htk := inTake_at g l k ti tag ht m hm cont er used hr
  have HTK := Lib.hid htk; have HE := Lib.hid (takeF_err tag m cont er used hr)
  clear htk hm hr ht
  have HCL := Lib.hid hclo; clear hclo
  obtain ⟨Ax, cx, hbx, k0, k1, k2, kf⟩ := h.cells
  by_cases her : er = 0
  · subst her
    cases ok
    · go_enter Tryz.func96, Tryz.ntmps96
      go_wp2_with (first
        | (go_at_call 107; refine (HTK.out _ h).mono ?_; rintro e w1 ⟨A1, c1, rfl, hb1, hr1, hg1⟩)
        | (go_at_call 97; refine (HCL.out A1 c1 _ hg1.size hb1).mono ?_; rintro e w2 ⟨⟨v, rfl, _⟩, hx2⟩; obtain ⟨Ay, cy, hby, j0, j1, j2, jf⟩ := (hr1.ext hx2).cells))
      go_ret2
      have hr2 := hr1.ext hx2
      exact ⟨grown_set (grown_ext hg1 hx2) 1 _, .inr (.inl ⟨rfl, rfl, rfl, hr2.moved k (h.le) _ rfl⟩)⟩
    · go_enter Tryz.func96, Tryz.ntmps96
      go_wp2_with (first
        | (go_at_call 107; refine (HTK.out _ h).mono ?_; rintro e w1 ⟨A1, c1, rfl, hb1, hr1, hg1⟩)
        | (go_at_call 97; refine (HCL.out A1 c1 _ hg1.size hb1).mono ?_; rintro e w2 ⟨⟨v, rfl, hv⟩, hx2⟩))
      go_ret2
      exact ⟨grown_ext hg1 hx2, .inr (.inr ⟨rfl, rfl, v, rfl, hv (by simp), hr1.ext hx2⟩)⟩
  · have hne : ((er : Int) != 0) = true := by rw [bne_iff_ne]; omega
    go_enter Tryz.func96, Tryz.ntmps96
    go_wp2_with (go_at_call 107; refine (HTK.out _ h).mono ?_; rintro e w1 ⟨A1, c1, rfl, hb1, hr1, hg1⟩)
    go_ret2
    have hu := HE.out her
    rw [hu] at hr1
    exact ⟨hg1, .inl ⟨her, rfl, hr1⟩⟩

set_option maxRecDepth 100000 in
set_option maxHeartbeats 1000000 in
theorem read_reader_at (g : Nat) (l : List UInt8) (k : Nat) (ti : Int) (tag : UInt8) (ht : ti = (tag.toNat : Int)) (m : List UInt8) (hm : l.drop k = m) (cont : List UInt8) (er used : Nat) (hr : takeF tag m = (cont, er, used))
    (ok : Bool) (V : Value → World → Prop) (w : World) (hclo : CloSays Tryz.prog 90 cont ok V w.heap.size) (h : RD 72 w g l k) :
    Calls Tryz.prog 89 #[.pointer (some ⟨g, 0, none⟩), .int .u8 ti, .func (.func 90) #[] #[]] w (ReadPost 72 (.pointer none) g l k er used ok V w) := by
  have htk := inTake_at g l k ti tag ht m hm cont er used hr
  have HTK := Lib.hid htk; have HE := Lib.hid (takeF_err tag m cont er used hr)
  clear htk hm hr ht
  have HCL := Lib.hid hclo; clear hclo
  obtain ⟨Ax, cx, hbx, k0, k1, k2, kf⟩ := h.cells
  by_cases her : er = 0
  · subst her
    cases ok
    · go_enter Tryz.func89, Tryz.ntmps89
      go_wp2_with (first
        | (go_at_call 107; refine (HTK.out _ h).mono ?_; rintro e w1 ⟨A1, c1, rfl, hb1, hr1, hg1⟩)
        | (go_at_call 90; refine (HCL.out A1 c1 _ hg1.size hb1).mono ?_; rintro e w2 ⟨⟨v, rfl, _⟩, hx2⟩; obtain ⟨Ay, cy, hby, j0, j1, j2, jf⟩ := (hr1.ext hx2).cells))
      go_ret2
      have hr2 := hr1.ext hx2
      exact ⟨grown_set (grown_ext hg1 hx2) 1 _, .inr (.inl ⟨rfl, rfl, rfl, hr2.moved k (h.le) _ rfl⟩)⟩
    · go_enter Tryz.func89, Tryz.ntmps89
      go_wp2_with (first
        | (go_at_call 107; refine (HTK.out _ h).mono ?_; rintro e w1 ⟨A1, c1, rfl, hb1, hr1, hg1⟩)
        | (go_at_call 90; refine (HCL.out A1 c1 _ hg1.size hb1).mono ?_; rintro e w2 ⟨⟨v, rfl, hv⟩, hx2⟩))
      go_ret2
      exact ⟨grown_ext hg1 hx2, .inr (.inr ⟨rfl, rfl, v, rfl, hv (by simp), hr1.ext hx2⟩)⟩
  · have hne : ((er : Int) != 0) = true := by rw [bne_iff_ne]; omega
    go_enter Tryz.func89, Tryz.ntmps89
    go_wp2_with (go_at_call 107; refine (HTK.out _ h).mono ?_; rintro e w1 ⟨A1, c1, rfl, hb1, hr1, hg1⟩)
    go_ret2
    have hu := HE.out her
    rw [hu] at hr1
    exact ⟨hg1, .inl ⟨her, rfl, hr1⟩⟩

end Go.Proofs.YthpfomjibfbiiaaGreatDoor
