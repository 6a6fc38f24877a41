/- FlagsGrants: the law. (wip/tools/genlawfl.py printed this.) -/
import Derived.Test.YtigjecmhhjjenaaDoorFlK
import Derived.Test.YtigjecmhhjjenaaDoorFlR5
import Derived.Test.YtigjecmhhjjenaaDoorRowF
namespace Go.Proofs.YtigjecmhhjjenaaDoor.flagsGrants
open Go Go.RowKit
set_option linter.unusedVariables false

set_option maxRecDepth 100000 in
set_option maxHeartbeats 1000000 in
theorem law_walk (io : Int) (it : Int) (ia : Int) (w : World) (o0 : 0 ≤ io) (o1 : io ≤ 4294967295) (t0 : 0 ≤ it) (t1 : it ≤ 4294967295) (a0 : 0 ≤ ia) (a1 : ia ≤ 4294967295) (hp : NoEnv w) :
    Calls Tryd.prog 7 #[.int .u32 io, .int .u32 it, .int .u32 ia] w fun e w' => e = .returned (.bool true) ∧ Ext w w' := by
  obtain ⟨o, rfl⟩ := u32_of io o0 o1
  obtain ⟨t, rfl⟩ := u32_of it t0 t1
  obtain ⟨a, rfl⟩ := u32_of ia a0 a1
  clear o0 o1 t0 t1 a0 a1 hp
  have hK := fun W => Grant_at o t a W
  have hR := fun W => RGrant_at o t a W
  obtain ⟨E, hE⟩ : ∃ E, grantE o t a = E := ⟨_, rfl⟩
  simp only [hE] at hK hR
  obtain ⟨V, hV⟩ : ∃ V : W32, (if E = 0 then grantW o t a else 0#32) = V := ⟨_, rfl⟩
  simp only [hV] at hK hR
  have HK := Lib.hid hK; have HR := Lib.hid hR
  clear hK hR hE hV
  have q1 : ((V.toNat : Int) == (V.toNat : Int)) = true := beq_self_eq_true _
  have q2 : (E == E) = true := beq_self_eq_true _
  go_enter Tryd.func7, Tryd.ntmps7
  go_wp2_with fail
  refine (HK.out _).mono ?_
  rintro _ w1 ⟨rfl, hx1⟩
  have HX1 := Lib.hid hx1
  clear hx1
  go_wp2_with fail
  refine (HR.out _).mono ?_
  rintro _ w2 ⟨rfl, hx2⟩
  have HX2 := Lib.hid (HX1.out.trans hx2)
  clear hx2
  go_wp2_with fail
  refine (FKnown_at _).mono ?_
  rintro _ wk ⟨rfl, hxk⟩
  have HXk := Lib.hid (HX2.out.trans hxk)
  clear hxk
  go_wp2_with fail
  go_ret
  exact ⟨rfl, HXk.out⟩
end Go.Proofs.YtigjecmhhjjenaaDoor.flagsGrants
