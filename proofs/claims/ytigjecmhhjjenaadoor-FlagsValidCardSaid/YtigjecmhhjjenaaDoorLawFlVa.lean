/- FlagsValid: the law. (wip/tools/genlawfl.py printed this.) -/
import Derived.Test.YtigjecmhhjjenaaDoorFlK
import Derived.Test.YtigjecmhhjjenaaDoorFlR2
import Derived.Test.YtigjecmhhjjenaaDoorRowF
namespace Go.Proofs.YtigjecmhhjjenaaDoor.flagsValid
open Go Go.RowKit
set_option linter.unusedVariables false

set_option maxRecDepth 100000 in
set_option maxHeartbeats 1000000 in
theorem law_walk (f g : Int) (w : World) (f0 : 0 ≤ f) (f1 : f ≤ 4294967295) (g0 : 0 ≤ g) (g1 : g ≤ 4294967295) (hp : NoEnv w) :
    Calls Tryd.prog 3 #[.int .u32 f, .int .u32 g] w fun e w' => e = .returned (.bool true) ∧ Ext w w' := by
  obtain ⟨x, rfl⟩ := u32_of f f0 f1
  obtain ⟨y, rfl⟩ := u32_of g g0 g1
  clear f0 f1 g0 g1 hp
  have h1 := u32_and x y
  have h2 := u32_beq (andW x y) y
  obtain ⟨t, ht⟩ : ∃ t, tkB x = t := ⟨_, rfl⟩
  obtain ⟨o, ho⟩ : ∃ t, optB x = t := ⟨_, rfl⟩
  obtain ⟨b, hb⟩ : ∃ t, hasB x y = t := ⟨_, rfl⟩
  have HT := Lib.hid (fun W => ht ▸ Ticket_at x W); have HRT := Lib.hid (fun W => ht ▸ RTicket_at x W)
  have HO := Lib.hid (fun W => ho ▸ Options_at x W); have HRO := Lib.hid (fun W => ho ▸ ROptions_at x W)
  have HB := Lib.hid (fun W => hb ▸ Has_at x y W)
  rw [show (andW x y == y) = b from hb] at h2
  clear ht ho hb
  have q1 : (t == t) = true := beq_self_eq_true _
  have q2 : (o == o) = true := beq_self_eq_true _
  have q3 : (b == b) = true := beq_self_eq_true _
  have HX0 := Lib.hid (Ext.refl w)
  go_enter Tryd.func3, Tryd.ntmps3
  go_wp2_with fail
  refine (HT.out _).mono ?_
  rintro _ wz ⟨rfl, rfl⟩
  go_wp2_with fail
  refine (HRT.out _).mono ?_
  rintro _ wz ⟨rfl, rfl⟩
  go_wp2_with fail
  refine (HO.out _).mono ?_
  rintro _ wz ⟨rfl, rfl⟩
  go_wp2_with fail
  refine (HRO.out _).mono ?_
  rintro _ wz ⟨rfl, rfl⟩
  go_wp2_with fail
  refine (HB.out _).mono ?_
  rintro _ wz ⟨rfl, rfl⟩
  go_wp2_with fail
  refine (FKnown_at _).mono ?_
  rintro _ wk ⟨rfl, hxk⟩
  have HXk := Lib.hid (HX0.out.trans hxk)
  clear hxk
  go_wp2_with fail
  go_ret
  exact ⟨rfl, HXk.out⟩
end Go.Proofs.YtigjecmhhjjenaaDoor.flagsValid
