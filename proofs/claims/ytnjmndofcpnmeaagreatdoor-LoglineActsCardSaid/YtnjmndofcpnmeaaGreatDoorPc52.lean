/-
  LoglineActs: for all facts and every integer the law returns true; its arguments read as before.
-/
import Derived.Test.YtnjmndofcpnmeaaGreatDoorCards
import Derived.Test.YtnjmndofcpnmeaaGreatDoorTie
import Derived.Test.YtnjmndofcpnmeaaGreatDoorPc19
import Derived.Test.YtnjmndofcpnmeaaGreatDoorPc51
import Derived.LaidMore
import Derived.Stop.Joined
import Derived.SevenTiedAt
import Derived.Lib.LaidTab
import Derived.Stop.LaidErr
import Derived.OpenShut
import Derived.Lay
import Derived.ChangeMaps5
namespace Go.Proofs.YtnjmndofcpnmeaaGreatDoor.loglineActs
open Go Go.RowKit Go.WideShapes Go.ChangeShapes Go.ChangeAt Go.ChangeMaps
set_option linter.unusedVariables false

theorem own : ownKnob Tryz.prog.godebug = none := by kernel_rfl
theorem laidOut : laidOutB Tryz.prog = true := by kernel_rfl
theorem env_of {W : World} (hL : laidMetH Tryz.prog Rows.loglineActsRow.laid W) (hS : W.ShapedOpen Tryz.prog) : EnvA W := by
  rw [MakeChecks.laidMetH_plain _ _ _ (by kernel_rfl)] at hL
  exact ⟨⟨pow_at (laidMet.tail (laidMet.tail (hL))), maxl_of hS, ifvar_of (g := 1) (text := [105, 110, 118, 97, 108, 105, 100, 32, 115, 121, 110, 116, 97, 120]) (laidMet.tail (laidMet.tail (laidMet.tail (laidMet.tail (laidMet.tail (hL)))))) (by kernel_rfl) (by kernel_rfl), ifvar_of (g := 2) (text := [118, 97, 108, 117, 101, 32, 111, 117, 116, 32, 111, 102, 32, 114, 97, 110, 103, 101]) (laidMet.tail (laidMet.tail (laidMet.tail (laidMet.tail (hL))))) (by kernel_rfl) (by kernel_rfl)⟩, deb_at (laidMet.tail (hL))⟩
theorem law_walk (A : Option Addr) (c : Nat) (xs : List FV) (many : Int) (w : World) (hF : FS w (.slice A xs.length c) xs) (hwf : ∀ f ∈ xs, f.Wf) (hm : i64B many) (hE : EnvA w) :
    Calls Tryz.prog 4 #[.slice A xs.length c, .int .i64 many] w fun e w' => e = .returned (.bool true) ∧ Ext w w' := lawLgAc A c xs many w hF hwf hm hE

set_option maxRecDepth 100000 in
theorem contract (H : Type) (enc : TypeId × Value → H) (W : World) (base : Nat) (args : Array Value) (ds gs : List (DataW H)) (before : List MemPlace)
    (hval : ∀ (j : Nat) t v, Tryz.f4.params[j]? = some t → args[j]? = some v → Value.okWide Tryz.prog W .any base t v)
    (hW : DataW.Whole enc Tryz.prog Tryz.f4.params.toList Rows.loglineActsSpec.vars false W args.toList ds gs before) (hp : EnvA W) :
    Calls Tryz.prog 4 args W fun e W' => ∃ v, e = .returned v ∧ Rows.loglineActsSpec.post enc Tryz.prog Tryz.f4 false true false false W args v W' := by
  have hW' := hW
  obtain ⟨p, q, hA0, hV, rfl, hfz, hnd⟩ := hW
  have hA : DataW.TrodAll enc Tryz.prog W 0 (fun _ => true) true Tryz.f4.params.toList args.toList ds p := hA0
  rw [Tryz.params4] at hA hval
  obtain ⟨v0, vs0, d0, ds0, p0, q0, hargs, rfl, rfl, h0, r0⟩ := trodAll_cons hA
  obtain ⟨v1, vs1, d1, ds1, p1, q1, rfl, rfl, rfl, h1, r1⟩ := trodAll_cons r0
  obtain ⟨rfl, rfl, rfl⟩ := trodAll_nil r1
  obtain rfl : args = #[v0, v1] := by cases args; simp_all
  obtain ⟨rfl, rfl⟩ := trodVars_none hV
  clear hA0
  simp only [List.append_nil] at hW'
  have k0 := h0
  have b0 : ∀ x ∈ p0, x.block < W.heap.size := fun x hm => hW'.lt x (by simp [hm])
  have k1 := h1
  have b1 : ∀ x ∈ p1, x.block < W.heap.size := fun x hm => hW'.lt x (by simp [hm])
  obtain ⟨A0, c0, l0, rfl, hl0, hwf0⟩ := facts_of_trod (hval 0 22 v0 rfl rfl) h0
  obtain ⟨a1, rfl, rfl, rfl, w1⟩ := open_int Tryz.underlying3 (hval 1 3 v1 rfl rfl) h1
  refine (law_walk A0 c0 l0 a1 W hl0 hwf0 (i64_of_wf w1) hp).mono fun e W' ⟨he, hx⟩ => ?_
  subst he
  exact ⟨_, rfl, post_of_below (pv := []) hW' (fun _ _ _ => trodAll_cons_mk (shut_bool Tryz.underlying4 _) trodAll_mk0)
    (fun sp hsp => trodAll_cons_mk (trod_stays laidOut (by kernel_rfl) (of_decide_eq_true (by kernel_rfl)) k0 hx b0 sp (fun x hm => hsp x (by first | (simp at hm; done) | (simp [hm]; done)))) (trodAll_cons_mk (trod_stays laidOut (by kernel_rfl) (of_decide_eq_true (by kernel_rfl)) k1 hx b1 sp (fun x hm => hsp x (by first | (simp at hm; done) | (simp [hm]; done)))) (trodAll_mk0)))
    (fun _ _ => rfl) (by simp) hx (ok_one (by kernel_rfl) rfl (okWide_bool_mk Tryz.underlying4 _))⟩

set_option maxRecDepth 100000 in
theorem lifted (os : Os) (started : os.Started) (H : Type) (enc : TypeId × Value → H) :
    ReturnsInHanded {} Tryz.checked os 4 .any (fun w args => (Rows.loglineActsSpec.pre enc Tryz.prog Tryz.f4 [] false w args ∧ laidMetH Tryz.prog Rows.loglineActsRow.laid w) ∧ sizedMet enc Tryz.prog Tryz.f4 (OpenSpec.ofChange Rows.loglineActsSpec) false w args)
      (Rows.loglineActsSpec.post enc Tryz.prog Tryz.f4 false true false false) := by
  refine returnsInHanded_and_shaped (C := Tryz.checked) (X := fun w _ => laidMetH Tryz.prog Rows.loglineActsRow.laid w) (fun _ _ _ hh h => h.of_heap hh) own started (by kernel_rfl) Tryz.func4
    (ChangeSpec.witness_shaped (enc := enc) (C := Tryz.checked) (os := os) (X := fun w _ => laidMetH Tryz.prog Rows.loglineActsRow.laid w) false (World.laidAll Tryz.prog os Rows.loglineActsRow.laid) #[.slice none 0 0, .int .i64 0] 8 (World.laidAll_os _ _ _) (World.shaped_of_ZipB (by kernel_rfl) (by kernel_rfl)) (by kernel_rfl) (by kernel_rfl) (by kernel_rfl) (by rw [MakeChecks.laidMetH_plain _ _ _ (by kernel_rfl)]; exact laidMet_laidAll _ (by kernel_rfl) (by kernel_rfl))) ?_
  intro W base args ds gs before hval hW hL hS
  exact contract H enc W base args ds gs before hval hW (env_of hL hS)

theorem row_proved : Rows.LoglineActsSaid :=
  OpenClaim.holds_of_wide 4 Tryz.f4 rfl rfl rfl rfl rfl rfl rfl ⟨rfl, rfl, rfl, rfl, rfl⟩ rfl rfl rfl rfl rfl (by kernel_rfl) Tryz.func4 (by kernel_rfl)
    (of_decide_eq_true (by kernel_rfl)) (by unfold Func.isWrapper; first | (rw [if_pos (by decide +kernel)]; kernel_rfl) | (rw [if_neg (by decide +kernel)]; exact ⟨rfl, rfl⟩))
    (fun os started H enc _ => lifted os started H enc)

theorem proved : Rows.LoglineActsCardSaid :=
  Claim7.holds_tied_plain_at .later [] [.data, .data, .data, .data, .sentinel, .sentinel, .pinned] true Rows.loglineActsCard.stood.harness true
    row_proved (fun _ h => by cases h) (by kernel_rfl) (fun _ h => by cases h) loglineActs_row_tie rfl ⟨rfl, rfl⟩ (by kernel_rfl) rfl
    (fun f fn hf hfn => by
      obtain rfl : f = 4 := Option.some.inj ((show Tryz.prog.funcNamed Rows.loglineActsRow.func = some 4 by kernel_rfl).symm.trans hf) |>.symm
      obtain rfl : fn = Tryz.f4 := (Option.some.inj (Tryz.func4.symm.trans hfn)).symm
      exact ⟨by kernel_rfl, fun j t ht => by
        rw [Tryz.params4] at ht
        have hm : t ∈ [22, 3] := by simpa using Array.mem_of_getElem? ht
        have hall : ([22, 3].all fun u => !Tryz.prog.wantsStandIn u) = true := by kernel_rfl
        exact (show Tryz.prog.wantsStandIn t = false by simpa using List.all_eq_true.1 hall t hm)⟩)
    (by kernel_rfl)
#print axioms proved
end Go.Proofs.YtnjmndofcpnmeaaGreatDoor.loglineActs
