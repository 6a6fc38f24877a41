/- LifetimeRenews, LifetimeDerives: the laws. -/
import Derived.Test.YtfgmmjpejlpdoaaDoorLtK2
import Derived.Test.YtfgmmjpejlpdoaaDoorLtR5
namespace Go.Proofs.YtfgmmjpejlpdoaaDoor.lifetimeRenews
open Go Go.RowKit

set_option maxRecDepth 100000 in
theorem law_walk (a s e r now skew : Int) (w : World) (hp : Pow w) :
    Calls Tryd.prog 5 #[.agg #[.int .i64 a, .int .i64 s, .int .i64 e, .int .i64 r], .int .i64 now, .int .i64 skew] w fun en w' => en = .returned (.bool true) ∧ Ext w w' := by
  obtain ⟨A, S, E, Q, er, hres⟩ : ∃ A S E Q er, renewF a s e r now skew = (A, S, E, Q, er) := ⟨_, _, _, _, _, rfl⟩
  have H1 := Lib.hid (Renew_is a s e r now skew A S E Q er hres)
  have H2 := Lib.hid (LRenew_is a s e r now skew A S E Q er hres)
  clear hres
  have HP := Lib.hid hp; clear hp
  go_enter Tryd.func5, Tryd.ntmps5
  go_wp2_with fail
  refine (H1.out _).mono ?_
  rintro _ w1 ⟨rfl, hx1⟩
  obtain ⟨q0, q1, q2, q3⟩ := times_new w a s e r (hx1.alloc (.cells #[.int .i64 A, .int .i64 S, .int .i64 E, .int .i64 Q] 27))
  have HX1 := Lib.hid (((Ext.refl w).alloc _).trans hx1); clear hx1
  go_wp2_with fail
  refine (H2.out _).mono ?_
  rintro _ w2 ⟨rfl, hx2⟩
  have hT1 : TB (w1.alloc (.cells #[.int .i64 A, .int .i64 S, .int .i64 E, .int .i64 Q] 27)) w1.heap.size A S E Q := heap_alloc_new w1 _
  obtain ⟨c0, c1, c2, c3⟩ := (hT1.ext (hx2.alloc (.cells #[.int .i64 A, .int .i64 S, .int .i64 E, .int .i64 Q] 27))).cells
  have HX2 := Lib.hid ((HX1.out.alloc _).trans hx2)
  clear hx2 hT1
  go_wp2_with fail
  refine (known_at _ (HP.out.ext (HX2.out.alloc _))).mono ?_
  rintro _ w3 ⟨rfl, hx3⟩
  have HX3 := Lib.hid ((HX2.out.alloc (.cells #[.int .i64 A, .int .i64 S, .int .i64 E, .int .i64 Q] 27)).trans hx3)
  clear hx3
  go_wp2
  go_ret
  exact ⟨rfl, HX3.out⟩
end Go.Proofs.YtfgmmjpejlpdoaaDoor.lifetimeRenews
