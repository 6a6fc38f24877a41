/- Texts laid together (wip/tools/automerge.py): Der24, Da23. -/
import Derived.Test.YthpfomjibfbiiaaGreatDoorDer23
import Derived.Test.YthpfomjibfbiiaaGreatDoorMg42
namespace Go.Proofs.YthpfomjibfbiiaaGreatDoor
open Go Go.RowKit

theorem ends3 {T : TypeId} {w w1 : World} {g bv : Nat} {l : List UInt8} {k' B : Nat} {A : Option Addr} {c : Nat} {b : List UInt8} {x y : Int} {p0 : Option Addr} {n0 c0 : Nat} (hg1 : w.grownBy w1 (some g)) (hr1 : RD 72 w1 g l k') (hob : OB 5 w1 B (.slice A b.length c) b)
    (hb : B3 T w1 bv (.int .i64 x) (.int .i64 y) (.slice p0 n0 c0)) (n1 : g ≠ bv) (s1 : w.heap.size ≤ bv) (s3 : bv < B) (s4 : w.heap.size ≤ B) (P V : Int) :
    ∃ W4, ((w1.setCell ⟨bv, 0, none⟩ (.int .i64 P)).setCell ⟨bv, 1, none⟩ (.int .i64 V)).setCell ⟨bv, 2, none⟩ (.slice A b.length c) = W4 ∧
      w.grownBy W4 (some g) ∧ RD 72 W4 g l k' ∧ OB 5 W4 w.heap.size (.slice A b.length c) b ∧
      W4.cell? ⟨bv, 0, none⟩ = some (.int .i64 P) ∧ W4.cell? ⟨bv, 1, none⟩ = some (.int .i64 V) ∧ W4.cell? ⟨bv, 2, none⟩ = some (.slice A b.length c) := by
  refine ⟨_, rfl, ?_⟩
  have g2 : w1.grownBy (((w1.setCell ⟨bv, 0, none⟩ (.int .i64 P)).setCell ⟨bv, 1, none⟩ (.int .i64 V)).setCell ⟨bv, 2, none⟩ (.slice A b.length c)) (some bv) := grown_set (grown_set (grown_set (grown_refl _ _) 0 _) 1 _) 2 _
  have b3 := ((hb.set0 (.int .i64 P)).set1 (.int .i64 V)).set2 (.slice A b.length c)
  exact ⟨grown_new hg1 g2 s1, hr1.off hb.noU8 g2 n1, (OB.off hob g2 s3).mono s4, b3.cells.1, b3.cells.2.1, b3.cells.2.2⟩

set_option maxRecDepth 100000 in
theorem RdData_at (g : Nat) (l : List UInt8) (k : Nat) (m : List UInt8) (hm : l.drop k = m) (hl0 : m.length ≤ 900) (w : World) (h : RD 72 w g l k) :
    Calls Tryz.prog 43 #[.pointer (some ⟨g, 0, none⟩)] w (DatOut w g l k m) := by
  have HS := Lib.hid (structured_data_at g l k m hm hl0 w h)
  clear hm
  go_enter Tryz.func43, Tryz.ntmps43
  go_wp2_with fail
  refine HS.out.mono ?_
  rintro e w1 ⟨hg1, ⟨L, used, A, c, rfl, h1, h2, h3, h4, h5⟩ | ⟨er, her, rfl, h5⟩⟩
  · have HU := Lib.hid (And.intro h1 (And.intro h2 h3)); clear h1 h2 h3
    go_wp2_with fail
    go_ret2
    exact ⟨hg1, .inl ⟨L, used, A, c, rfl, HU.out.1, HU.out.2.1, HU.out.2.2, h4, h5⟩⟩
  · have HU := Lib.hid her; clear her
    go_wp2_with fail
    go_ret2
    exact ⟨hg1, .inr ⟨er, HU.out, rfl, h5⟩⟩
end Go.Proofs.YthpfomjibfbiiaaGreatDoor
namespace Go.Proofs.YthpfomjibfbiiaaGreatDoor
open Go Go.RowKit
set_option linter.unusedVariables false

def DaOut (w : World) (g : Nat) (l : List UInt8) (kk : Nat) (L0 : List (Int × List UInt8)) (e : Ending) (w' : World) : Prop := w.grownBy w' (some g) ∧ ∃ (A : Option Addr) (c : Nat), e = .returned (.tuple #[.slice A L0.length c, .int .i64 0]) ∧ DOV 62 w' w.heap.size (.slice A L0.length c) L0 ∧ RD 72 w' g l kk
set_option maxRecDepth 100000 in
set_option maxHeartbeats 1000000 in
theorem structured_ok (g : Nat) (l : List UInt8) (k : Nat) (m : List UInt8) (hm : l.drop k = m) (hl0 : m.length ≤ 900) (L0 : List (Int × List UInt8)) (rest : List UInt8) (hL : dataF L0 ≠ []) (hmm : m = dataF L0 ++ rest) (w : World) (h : RD 72 w g l k) :
    Calls Tryz.prog 63 #[.pointer (some ⟨g, 0, none⟩), .func (.func 64) #[] #[]] w (DaOut w g l (k + (dataF L0).length) L0) := by
  have hgl := h.lt
  have hkl := h.le
  have HK := Lib.hid (fun W hW => Data1_ok g l k m hm hl0 L0 rest hL hmm W hW)
  clear hm hmm hL
  generalize k + (dataF L0).length = kk at *
  have hmf : ∀ (fn : Fn) (first cap : Array Value) (w : World), (Instr.makeFunc fn first cap).run Tryz.prog w = .ok (.func fn first cap) w := fun _ _ _ _ => rfl
  obtain ⟨W3, hw3, hx3, hp3, hb3, he3, hi3, hs3⟩ := boxesD w (.pointer (some ⟨g, 0, none⟩)) k
  have HX3 := Lib.hid hx3; have HP3 := Lib.hid hp3; have HB3 := Lib.hid hb3; have HE3 := Lib.hid he3; have HI3 := Lib.hid hi3; have HS3 := Lib.hid hs3
  have cp := hp3.cell
  clear hp3 hb3 he3 hi3 hs3
  obtain ⟨Ax, cx, hbx, k0, k1, k2, kf⟩ := (h.ext ((((Ext.refl w).alloc (.cells #[.pointer (some ⟨g, 0, none⟩)] 40)).alloc (.cells #[.slice none 0 0] 61)).alloc (.cells #[.int .i64 0] 31))).cells
  go_enter_defers Tryz.func63, Tryz.ntmps63
  go_wp2_with fail
  refine (HK.out W3 (h.ext hx3)).mono ?_
  rintro e w1 ⟨hg1, V, rfl, hdv, hr1⟩
  · obtain ⟨A1, c1, rfl⟩ := hdv.shape
    have hb1 := HB3.out.far hg1 (by omega)
    have q0 := hb1.cell
    have f0 := hb1.soft
    have he1 := HE3.out.far hg1 (by omega)
    have q3 := he1.cell
    have f3 := he1.soft
    obtain ⟨W4, hW4, hg4, hr4, hob4, d0, d3⟩ := endsD hx3 hg1 hr1 hdv hb1 he1 (by omega) (by omega) (by omega) (by omega) (by omega) (by have := HS3.out; omega) (by have := HS3.out; omega) 0
    clear hb1 he1
    clear hw3
    go_wp2_with fail
    refine leaves_cons (f := 88) (args := #[.pointer (some ⟨w.heap.size + 1 + 1 + 1, 0, none⟩), .pointer (some ⟨w.heap.size, 0, none⟩), .pointer (some ⟨w.heap.size + 1, 0, none⟩), .pointer (some ⟨w.heap.size + 1 + 1, 0, none⟩)]) (by simp) (by simp [go_sem]) ?_
    refine (data_idle _ _ _ _ _).mono ?_
    rintro e u' w'' ⟨rfl, rfl, rfl⟩
    exact ⟨.tuple #[.slice A1 L0.length c1, .int .i64 0], by simp [results, Tryz.results63, go_sem, d0, d3], hg4, A1, c1, rfl, hob4, hr4⟩
set_option maxRecDepth 100000 in
theorem RdData_ok (g : Nat) (l : List UInt8) (k : Nat) (m : List UInt8) (hm : l.drop k = m) (hl0 : m.length ≤ 900) (L0 : List (Int × List UInt8)) (rest : List UInt8) (hL : dataF L0 ≠ []) (hmm : m = dataF L0 ++ rest) (w : World) (h : RD 72 w g l k) :
    Calls Tryz.prog 43 #[.pointer (some ⟨g, 0, none⟩)] w (DaOut w g l (k + (dataF L0).length) L0) := by
  have HS := Lib.hid (structured_ok g l k m hm hl0 L0 rest hL hmm w h)
  clear hm hmm hL
  generalize k + (dataF L0).length = kk at *
  go_enter Tryz.func43, Tryz.ntmps43
  go_wp2_with fail
  refine HS.out.mono ?_
  rintro e w1 ⟨hg1, A, c, rfl, h4, h5⟩
  go_wp2_with fail
  go_ret2
  exact ⟨hg1, A, c, rfl, h4, h5⟩
end Go.Proofs.YthpfomjibfbiiaaGreatDoor
