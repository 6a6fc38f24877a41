/- LifetimeInitial: the law. -/
import Derived.Test.YtfgmmjpejlpdoaaDoorLtK2
import Derived.Test.YtfgmmjpejlpdoaaDoorLtR4
namespace Go.Proofs.YtfgmmjpejlpdoaaDoor.lifetimeInitial
open Go Go.RowKit

set_option maxRecDepth 100000 in
theorem law_walk (f t n l m now skew : Int) (w : World) (hp : Pow w) :
    Calls Tryd.prog 3 #[.agg #[.int .i64 f, .int .i64 t, .int .i64 n], .agg #[.int .i64 l, .int .i64 m], .int .i64 now, .int .i64 skew] w fun en w' => en = .returned (.bool true) ∧ Ext w w' := by
  obtain ⟨A, S, E, Q, er, hres⟩ : ∃ A S E Q er, initF f t n l m now skew = (A, S, E, Q, er) := ⟨_, _, _, _, _, rfl⟩
  have H1 := Lib.hid (Initial_is f t n l m now skew A S E Q er hres)
  have H2 := Lib.hid (LInitial_is f t n l m now skew A S E Q er hres)
  clear hres
  have HP := Lib.hid hp; clear hp
  obtain ⟨we, hwe⟩ : ∃ we, we = (w.alloc (.cells #[.int .i64 f, .int .i64 t, .int .i64 n] 23)).alloc (.cells #[.int .i64 l, .int .i64 m] 25) := ⟨_, rfl⟩
  have hxe : Ext w we := by rw [hwe]; exact ((Ext.refl w).alloc _).alloc _
  have hWB : WB we w.heap.size f t n := by rw [hwe]; exact WB.ext (heap_alloc_new w _) ((Ext.refl _).alloc _)
  have hLB : LB we (w.heap.size + 1) l m := by
    rw [hwe]
    have := heap_alloc_new (w.alloc (.cells #[.int .i64 f, .int .i64 t, .int .i64 n] 23)) (.cells #[.int .i64 l, .int .i64 m] 25)
    simpa [LB] using this
  have HXE := Lib.hid hxe; have HWB := Lib.hid hWB; have HLB := Lib.hid hLB
  clear hxe hWB hLB
  go_enter Tryd.func3, Tryd.ntmps3
  go_wp2_with fail
  refine (H1.out _).mono ?_
  rintro _ w1 ⟨rfl, hx1⟩
  rw [← hwe] at hx1
  clear hwe
  obtain ⟨q0, q1, q2⟩ := (HWB.out.ext (hx1.alloc (.cells #[.int .i64 A, .int .i64 S, .int .i64 E, .int .i64 Q] 27))).cells
  obtain ⟨p0, p1⟩ := (HLB.out.ext (hx1.alloc (.cells #[.int .i64 A, .int .i64 S, .int .i64 E, .int .i64 Q] 27))).cells
  have HX1 := Lib.hid hx1; clear hx1
  go_wp2_with fail
  refine (H2.out _).mono ?_
  rintro _ w2 ⟨rfl, hx2⟩
  have hT1 : TB (w1.alloc (.cells #[.int .i64 A, .int .i64 S, .int .i64 E, .int .i64 Q] 27)) w1.heap.size A S E Q := heap_alloc_new w1 _
  obtain ⟨c0, c1, c2, c3⟩ := (hT1.ext (hx2.alloc (.cells #[.int .i64 A, .int .i64 S, .int .i64 E, .int .i64 Q] 27))).cells
  have HX2 := Lib.hid (((HXE.out.trans HX1.out).alloc _).trans hx2)
  clear hx2 hT1
  go_wp2_with fail
  refine (known_at _ (HP.out.ext (HX2.out.alloc _))).mono ?_
  rintro _ w3 ⟨rfl, hx3⟩
  have HX3 := Lib.hid ((HX2.out.alloc (.cells #[.int .i64 A, .int .i64 S, .int .i64 E, .int .i64 Q] 27)).trans hx3)
  clear hx3
  go_wp2
  go_ret
  exact ⟨rfl, HX3.out⟩
end Go.Proofs.YtfgmmjpejlpdoaaDoor.lifetimeInitial
