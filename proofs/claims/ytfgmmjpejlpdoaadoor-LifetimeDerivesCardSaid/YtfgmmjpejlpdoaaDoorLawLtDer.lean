/- LifetimeDerives: the law. -/
import Derived.Test.YtfgmmjpejlpdoaaDoorLtK2
import Derived.Test.YtfgmmjpejlpdoaaDoorLtR4
namespace Go.Proofs.YtfgmmjpejlpdoaaDoor.lifetimeDerives
open Go Go.RowKit

theorem boxesD (w : World) (a s e r f t n l m : Int) : ∃ we, ((w.alloc (.cells #[.int .i64 a, .int .i64 s, .int .i64 e, .int .i64 r] 27)).alloc (.cells #[.int .i64 f, .int .i64 t, .int .i64 n] 23)).alloc (.cells #[.int .i64 l, .int .i64 m] 25) = we ∧ Ext w we ∧ TB we w.heap.size a s e r ∧ WB we (w.heap.size + 1) f t n ∧ LB we (w.heap.size + 1 + 1) l m := by
  refine ⟨_, rfl, (((Ext.refl w).alloc _).alloc _).alloc _, TB.ext (heap_alloc_new w _) (((Ext.refl _).alloc _).alloc _), ?_, ?_⟩
  · have := heap_alloc_new (w.alloc (.cells #[.int .i64 a, .int .i64 s, .int .i64 e, .int .i64 r] 27)) (.cells #[.int .i64 f, .int .i64 t, .int .i64 n] 23)
    exact WB.ext (by simpa [WB] using this) ((Ext.refl _).alloc _)
  · have := heap_alloc_new ((w.alloc (.cells #[.int .i64 a, .int .i64 s, .int .i64 e, .int .i64 r] 27)).alloc (.cells #[.int .i64 f, .int .i64 t, .int .i64 n] 23)) (.cells #[.int .i64 l, .int .i64 m] 25)
    simpa [LB] using this

set_option maxRecDepth 100000 in
theorem law_walk (a s e r f t n l m now skew : Int) (w : World) (hp : Pow w) :
    Calls Tryd.prog 4 #[.agg #[.int .i64 a, .int .i64 s, .int .i64 e, .int .i64 r], .agg #[.int .i64 f, .int .i64 t, .int .i64 n], .agg #[.int .i64 l, .int .i64 m], .int .i64 now, .int .i64 skew] w fun en w' => en = .returned (.bool true) ∧ Ext w w' := by
  obtain ⟨A, S, E, Q, er, hres⟩ : ∃ A S E Q er, deriveF a s e r f t n l m now skew = (A, S, E, Q, er) := ⟨_, _, _, _, _, rfl⟩
  have H1 := Lib.hid (Derive_is a s e r f t n l m now skew A S E Q er hres)
  have H2 := Lib.hid (LDerive_is a s e r f t n l m now skew A S E Q er hres)
  clear hres
  have HP := Lib.hid hp; clear hp
  obtain ⟨we, hwe, hxe, hTB, hWB, hLB⟩ := boxesD w a s e r f t n l m
  have HWE := Lib.hid hwe; have HXE := Lib.hid hxe; have HTB := Lib.hid hTB; have HWB := Lib.hid hWB; have HLB := Lib.hid hLB
  clear hwe hxe hTB hWB hLB
  go_enter Tryd.func4, Tryd.ntmps4
  go_wp2_with fail
  refine (H1.out _).mono ?_
  rintro _ w1 ⟨rfl, hx1⟩
  rw [HWE.out] at hx1
  obtain ⟨g0, g1, g2, g3⟩ := (HTB.out.ext (hx1.alloc (.cells #[.int .i64 A, .int .i64 S, .int .i64 E, .int .i64 Q] 27))).cells
  obtain ⟨q0, q1, q2⟩ := (HWB.out.ext (hx1.alloc (.cells #[.int .i64 A, .int .i64 S, .int .i64 E, .int .i64 Q] 27))).cells
  obtain ⟨p0, p1⟩ := (HLB.out.ext (hx1.alloc (.cells #[.int .i64 A, .int .i64 S, .int .i64 E, .int .i64 Q] 27))).cells
  have HX1 := Lib.hid hx1; clear hx1
  go_wp2_with fail
  refine (H2.out _).mono ?_
  rintro _ w2 ⟨rfl, hx2⟩
  have hT1 : TB (w1.alloc (.cells #[.int .i64 A, .int .i64 S, .int .i64 E, .int .i64 Q] 27)) w1.heap.size A S E Q := heap_alloc_new w1 _
  obtain ⟨c0, c1, c2, c3⟩ := (hT1.ext (hx2.alloc (.cells #[.int .i64 A, .int .i64 S, .int .i64 E, .int .i64 Q] 27))).cells
  have HX2 := Lib.hid (((HXE.out.trans HX1.out).alloc _).trans hx2)
  clear hx2 hT1
  go_wp2_with fail
  refine (known_at _ (HP.out.ext (HX2.out.alloc _))).mono ?_
  rintro _ w3 ⟨rfl, hx3⟩
  have HX3 := Lib.hid ((HX2.out.alloc (.cells #[.int .i64 A, .int .i64 S, .int .i64 E, .int .i64 Q] 27)).trans hx3)
  clear hx3
  go_wp2
  go_ret
  exact ⟨rfl, HX3.out⟩
end Go.Proofs.YtfgmmjpejlpdoaaDoor.lifetimeDerives
