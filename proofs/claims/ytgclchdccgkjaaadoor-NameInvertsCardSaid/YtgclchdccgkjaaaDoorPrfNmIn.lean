/-
  NameInverts: for any three principals, every string and every slice of bytes the law returns true; its arguments read as before.
-/
import Derived.Test.YtgclchdccgkjaaaDoorCards
import Derived.Test.YtgclchdccgkjaaaDoorTie
import Derived.Test.YtgclchdccgkjaaaDoorMg8
import Derived.Test.YtgclchdccgkjaaaDoorLawNmIn
import Derived.LaidMore
import Derived.Stop.Joined
import Derived.SevenTiedAt
import Derived.Lib.LaidTab
import Derived.Stop.LaidErr
import Derived.OpenShut
import Derived.Lay
import Derived.ChangeMaps5
namespace Go.Proofs.YtgclchdccgkjaaaDoor.nameInverts
open Go Go.RowKit Go.WideShapes Go.ChangeShapes Go.ChangeAt Go.ChangeMaps
set_option linter.unusedVariables false

theorem own : ownKnob Tryd.prog.godebug = none := by kernel_rfl
theorem laidOut : laidOutB Tryd.prog = true := by kernel_rfl
theorem env_of {W : World} (hL : laidMetH Tryd.prog Rows.nameInvertsRow.laid W) (hS : W.ShapedOpen Tryd.prog) : MaxN W := by
  rw [MakeChecks.laidMetH_plain _ _ _ (by kernel_rfl)] at hL
  exact maxn_of hS

set_option maxRecDepth 100000 in
theorem contract (H : Type) (enc : TypeId × Value → H) (W : World) (base : Nat) (args : Array Value) (ds gs : List (DataW H)) (before : List MemPlace)
    (hval : ∀ (j : Nat) t v, Tryd.f9.params[j]? = some t → args[j]? = some v → Value.okWide Tryd.prog W .any base t v)
    (hW : DataW.Whole enc Tryd.prog Tryd.f9.params.toList Rows.nameInvertsSpec.vars false W args.toList ds gs before) (hp : MaxN W) :
    Calls Tryd.prog 9 args W fun e W' => ∃ v, e = .returned v ∧ Rows.nameInvertsSpec.post enc Tryd.prog Tryd.f9 false true false false W args v W' := by
  have hW' := hW
  obtain ⟨p, q, hA0, hV, rfl, hfz, hnd⟩ := hW
  have hA : DataW.TrodAll enc Tryd.prog W 0 (fun _ => true) true Tryd.f9.params.toList args.toList ds p := hA0
  rw [Tryd.params9] at hA hval
  obtain ⟨v0, vs0, d0, ds0, p0, q0, hargs, rfl, rfl, h0, r0⟩ := trodAll_cons hA
  obtain ⟨v1, vs1, d1, ds1, p1, q1, rfl, rfl, rfl, h1, r1⟩ := trodAll_cons r0
  obtain ⟨v2, vs2, d2, ds2, p2, q2, rfl, rfl, rfl, h2, r2⟩ := trodAll_cons r1
  obtain ⟨v3, vs3, d3, ds3, p3, q3, rfl, rfl, rfl, h3, r3⟩ := trodAll_cons r2
  obtain ⟨v4, vs4, d4, ds4, p4, q4, rfl, rfl, rfl, h4, r4⟩ := trodAll_cons r3
  obtain ⟨rfl, rfl, rfl⟩ := trodAll_nil r4
  obtain rfl : args = #[v0, v1, v2, v3, v4] := by cases args; simp_all
  obtain ⟨rfl, rfl⟩ := trodVars_none hV
  clear hA0
  simp only [List.append_nil] at hW'
  have k0 := h0
  have b0 : ∀ x ∈ p0, x.block < W.heap.size := fun x hm => hW'.lt x (by simp [hm])
  have k1 := h1
  have b1 : ∀ x ∈ p1, x.block < W.heap.size := fun x hm => hW'.lt x (by simp [hm])
  have k2 := h2
  have b2 : ∀ x ∈ p2, x.block < W.heap.size := fun x hm => hW'.lt x (by simp [hm])
  have k3 := h3
  have b3 : ∀ x ∈ p3, x.block < W.heap.size := fun x hm => hW'.lt x (by simp [hm])
  have k4 := h4
  have b4 : ∀ x ∈ p4, x.block < W.heap.size := fun x hm => hW'.lt x (by simp [hm])
  obtain ⟨A0, c0, l0, s0, rfl, hl0⟩ := prin_of_trod Tryd.underlying24 (by kernel_rfl) (by kernel_rfl) rfl rfl Tryd.underlying22 Tryd.underlying9 (by kernel_rfl) Tryd.underlying9 (hval 0 24 v0 rfl rfl) h0
  obtain ⟨A1, c1, l1, s1, rfl, hl1⟩ := prin_of_trod Tryd.underlying24 (by kernel_rfl) (by kernel_rfl) rfl rfl Tryd.underlying22 Tryd.underlying9 (by kernel_rfl) Tryd.underlying9 (hval 1 24 v1 rfl rfl) h1
  obtain ⟨A2, c2, l2, s2, rfl, hl2⟩ := prin_of_trod Tryd.underlying24 (by kernel_rfl) (by kernel_rfl) rfl rfl Tryd.underlying22 Tryd.underlying9 (by kernel_rfl) Tryd.underlying9 (hval 2 24 v2 rfl rfl) h2
  obtain ⟨a3, rfl, rfl, rfl, w3⟩ := open_string Tryd.underlying9 (hval 3 9 v3 rfl rfl) h3
  obtain ⟨A4, c4, l4, rfl, hl4⟩ := bs_of_trod Tryd.underlying38 Tryd.underlying5 (by kernel_rfl) (hval 4 38 v4 rfl rfl) h4
  refine (law_walk A0 c0 l0 s0 A1 c1 l1 s1 A2 c2 l2 s2 a3 A4 c4 l4 W hl0 hl1 hl2 hl4 hp).mono fun e W' ⟨he, hx⟩ => ?_
  subst he
  exact ⟨_, rfl, post_of_below (pv := []) hW' (fun _ _ _ => trodAll_cons_mk (shut_bool Tryd.underlying4 _) trodAll_mk0)
    (fun sp hsp => trodAll_cons_mk (trod_stays laidOut (by kernel_rfl) (of_decide_eq_true (by kernel_rfl)) k0 hx b0 sp (fun x hm => hsp x (by first | (simp at hm; done) | (simp [hm]; done)))) (trodAll_cons_mk (trod_stays laidOut (by kernel_rfl) (of_decide_eq_true (by kernel_rfl)) k1 hx b1 sp (fun x hm => hsp x (by first | (simp at hm; done) | (simp [hm]; done)))) (trodAll_cons_mk (trod_stays laidOut (by kernel_rfl) (of_decide_eq_true (by kernel_rfl)) k2 hx b2 sp (fun x hm => hsp x (by first | (simp at hm; done) | (simp [hm]; done)))) (trodAll_cons_mk (trod_stays laidOut (by kernel_rfl) (of_decide_eq_true (by kernel_rfl)) k3 hx b3 sp (fun x hm => hsp x (by first | (simp at hm; done) | (simp [hm]; done)))) (trodAll_cons_mk (trod_stays laidOut (by kernel_rfl) (of_decide_eq_true (by kernel_rfl)) k4 hx b4 sp (fun x hm => hsp x (by first | (simp at hm; done) | (simp [hm]; done)))) (trodAll_mk0))))))
    (fun _ _ => rfl) (by simp) hx (ok_one (by kernel_rfl) rfl (okWide_bool_mk Tryd.underlying4 _))⟩

set_option maxRecDepth 100000 in
theorem lifted (os : Os) (started : os.Started) (H : Type) (enc : TypeId × Value → H) :
    ReturnsInHanded {} Tryd.checked os 9 .any (fun w args => (Rows.nameInvertsSpec.pre enc Tryd.prog Tryd.f9 [] false w args ∧ laidMetH Tryd.prog Rows.nameInvertsRow.laid w) ∧ sizedMet enc Tryd.prog Tryd.f9 (OpenSpec.ofChange Rows.nameInvertsSpec) false w args)
      (Rows.nameInvertsSpec.post enc Tryd.prog Tryd.f9 false true false false) := by
  refine returnsInHanded_and_shaped (C := Tryd.checked) (X := fun w _ => laidMetH Tryd.prog Rows.nameInvertsRow.laid w) (fun _ _ _ hh h => h.of_heap hh) own started (by kernel_rfl) Tryd.func9
    (ChangeSpec.witness_shaped (enc := enc) (C := Tryd.checked) (os := os) (X := fun w _ => laidMetH Tryd.prog Rows.nameInvertsRow.laid w) false (World.laidAll Tryd.prog os Rows.nameInvertsRow.laid) #[.agg #[.slice none 0 0, .string ⟨#[]⟩], .agg #[.slice none 0 0, .string ⟨#[]⟩], .agg #[.slice none 0 0, .string ⟨#[]⟩], .string ⟨#[]⟩, .slice none 0 0] 8 (World.laidAll_os _ _ _) (World.shaped_of_ZipB (by kernel_rfl) (by kernel_rfl)) (by kernel_rfl) (by kernel_rfl) (by kernel_rfl) (by rw [MakeChecks.laidMetH_plain _ _ _ (by kernel_rfl)]; exact laidMet_laidAll _ (by kernel_rfl) (by kernel_rfl))) ?_
  intro W base args ds gs before hval hW hL hS
  exact contract H enc W base args ds gs before hval hW (env_of hL hS)

theorem row_proved : Rows.NameInvertsSaid :=
  OpenClaim.holds_of_wide 9 Tryd.f9 rfl rfl rfl rfl rfl rfl rfl ⟨rfl, rfl, rfl, rfl, rfl⟩ rfl rfl rfl rfl rfl (by kernel_rfl) Tryd.func9 (by kernel_rfl)
    (of_decide_eq_true (by kernel_rfl)) (by unfold Func.isWrapper; first | (rw [if_pos (by decide +kernel)]; kernel_rfl) | (rw [if_neg (by decide +kernel)]; exact ⟨rfl, rfl⟩))
    (fun os started H enc _ => lifted os started H enc)

theorem proved : Rows.NameInvertsCardSaid :=
  Claim7.holds_tied_plain_at .later [] [.data, .pinned] true Rows.nameInvertsCard.stood.harness true
    row_proved (fun _ h => by cases h) (by kernel_rfl) (fun _ h => by cases h) nameInverts_row_tie rfl ⟨rfl, rfl⟩ (by kernel_rfl) rfl
    (fun f fn hf hfn => by
      obtain rfl : f = 9 := Option.some.inj ((show Tryd.prog.funcNamed Rows.nameInvertsRow.func = some 9 by kernel_rfl).symm.trans hf) |>.symm
      obtain rfl : fn = Tryd.f9 := (Option.some.inj (Tryd.func9.symm.trans hfn)).symm
      exact ⟨by kernel_rfl, fun j t ht => by
        rw [Tryd.params9] at ht
        have hm : t ∈ [24, 24, 24, 9, 38] := by simpa using Array.mem_of_getElem? ht
        have hall : ([24, 24, 24, 9, 38].all fun u => !Tryd.prog.wantsStandIn u) = true := by kernel_rfl
        exact (show Tryd.prog.wantsStandIn t = false by simpa using List.all_eq_true.1 hall t hm)⟩)
    (by kernel_rfl)
#print axioms proved
end Go.Proofs.YtgclchdccgkjaaaDoor.nameInverts
