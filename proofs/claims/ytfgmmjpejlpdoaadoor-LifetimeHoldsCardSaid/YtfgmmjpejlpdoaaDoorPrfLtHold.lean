/-
  LifetimeHolds: for all times, every wish, limits, time and skew the law returns true; its arguments read as before.
-/
import Derived.Test.YtfgmmjpejlpdoaaDoorCards
import Derived.Test.YtfgmmjpejlpdoaaDoorTie
import Derived.Test.YtfgmmjpejlpdoaaDoorRow3
import Derived.Test.YtfgmmjpejlpdoaaDoorRowT
import Derived.Test.YtfgmmjpejlpdoaaDoorLawLtHold
import Derived.LaidMore
import Derived.Stop.Joined
import Derived.SevenTiedAt
import Derived.Lib.LaidTab
import Derived.Stop.LaidErr
namespace Go.Proofs.YtfgmmjpejlpdoaaDoor.lifetimeHolds
open Go Go.RowKit Go.WideShapes Go.ChangeShapes Go.ChangeAt
set_option linter.unusedVariables false

theorem own : ownKnob Tryd.prog.godebug = none := by kernel_rfl
theorem laidOut : laidOutB Tryd.prog = true := by kernel_rfl
set_option maxRecDepth 100000 in
theorem contract (H : Type) (enc : TypeId × Value → H) (W : World) (base : Nat) (args : Array Value) (ds gs : List (DataW H)) (before : List MemPlace)
    (hval : ∀ (j : Nat) t v, Tryd.f6.params[j]? = some t → args[j]? = some v → Value.okWide Tryd.prog W .any base t v)
    (hW : DataW.Whole enc Tryd.prog Tryd.f6.params.toList Rows.lifetimeHoldsSpec.vars false W args.toList ds gs before) (hp : Pow W) :
    Calls Tryd.prog 6 args W fun e W' => ∃ v, e = .returned v ∧ Rows.lifetimeHoldsSpec.post enc Tryd.prog Tryd.f6 false true false false W args v W' := by
  have hW' := hW
  obtain ⟨p, q, hA0, hV, rfl, hfz, hnd⟩ := hW
  have hA : DataW.TrodAll enc Tryd.prog W 0 (fun _ => true) true Tryd.f6.params.toList args.toList ds p := hA0
  rw [Tryd.params6] at hA hval
  obtain ⟨v0, vs0, d0, ds0, p0, q0, hargs, rfl, rfl, h0, r0⟩ := trodAll_cons hA
  obtain ⟨v1, vs1, d1, ds1, p1, q1, rfl, rfl, rfl, h1, r1⟩ := trodAll_cons r0
  obtain ⟨v2, vs2, d2, ds2, p2, q2, rfl, rfl, rfl, h2, r2⟩ := trodAll_cons r1
  obtain ⟨v3, vs3, d3, ds3, p3, q3, rfl, rfl, rfl, h3, r3⟩ := trodAll_cons r2
  obtain ⟨v4, vs4, d4, ds4, p4, q4, rfl, rfl, rfl, h4, r4⟩ := trodAll_cons r3
  obtain ⟨rfl, rfl, rfl⟩ := trodAll_nil r4
  obtain rfl : args = #[v0, v1, v2, v3, v4] := by cases args; simp_all
  obtain ⟨rfl, rfl⟩ := trodVars_none hV
  clear hA0
  simp only [List.append_nil] at hW'
  have k0 := h0
  have b0 : ∀ x ∈ p0, x.block < W.heap.size := fun x hm => hW'.lt x (by simp [hm])
  have k1 := h1
  have b1 : ∀ x ∈ p1, x.block < W.heap.size := fun x hm => hW'.lt x (by simp [hm])
  have k2 := h2
  have b2 : ∀ x ∈ p2, x.block < W.heap.size := fun x hm => hW'.lt x (by simp [hm])
  have k3 := h3
  have b3 : ∀ x ∈ p3, x.block < W.heap.size := fun x hm => hW'.lt x (by simp [hm])
  have k4 := h4
  have b4 : ∀ x ∈ p4, x.block < W.heap.size := fun x hm => hW'.lt x (by simp [hm])
  obtain ⟨x0, y0, z0, u0, rfl⟩ := ints4_of_trod Tryd.underlying27 (by kernel_rfl) (by kernel_rfl) rfl rfl rfl rfl Tryd.underlying3 (hval 0 27 v0 rfl rfl) h0
  obtain ⟨x1, y1, z1, rfl⟩ := ints3_of_trod Tryd.underlying23 (by kernel_rfl) (by kernel_rfl) rfl rfl rfl Tryd.underlying3 (hval 1 23 v1 rfl rfl) h1
  obtain ⟨x2, y2, rfl⟩ := ints2_of_trod Tryd.underlying25 (by kernel_rfl) (by kernel_rfl) rfl rfl Tryd.underlying3 (hval 2 25 v2 rfl rfl) h2
  obtain ⟨a3, rfl, rfl, rfl, w3⟩ := open_int Tryd.underlying3 (hval 3 3 v3 rfl rfl) h3
  obtain ⟨a4, rfl, rfl, rfl, w4⟩ := open_int Tryd.underlying3 (hval 4 3 v4 rfl rfl) h4
  refine (law_walk x0 y0 z0 u0 x1 y1 z1 x2 y2 a3 a4 W hp).mono fun e W' ⟨he, hx⟩ => ?_
  subst he
  exact ⟨_, rfl, post_of_below (pv := []) hW' (fun _ _ _ => trodAll_cons_mk (shut_bool Tryd.underlying4 _) trodAll_mk0)
    (fun sp hsp => trodAll_cons_mk (trod_stays laidOut (by kernel_rfl) (of_decide_eq_true (by kernel_rfl)) k0 hx b0 sp (fun x hm => hsp x (by first | (simp [hm]; done) | (simp at hm)))) (trodAll_cons_mk (trod_stays laidOut (by kernel_rfl) (of_decide_eq_true (by kernel_rfl)) k1 hx b1 sp (fun x hm => hsp x (by first | (simp [hm]; done) | (simp at hm)))) (trodAll_cons_mk (trod_stays laidOut (by kernel_rfl) (of_decide_eq_true (by kernel_rfl)) k2 hx b2 sp (fun x hm => hsp x (by first | (simp [hm]; done) | (simp at hm)))) (trodAll_cons_mk (trod_stays laidOut (by kernel_rfl) (of_decide_eq_true (by kernel_rfl)) k3 hx b3 sp (fun x hm => hsp x (by first | (simp [hm]; done) | (simp at hm)))) (trodAll_cons_mk (trod_stays laidOut (by kernel_rfl) (of_decide_eq_true (by kernel_rfl)) k4 hx b4 sp (fun x hm => hsp x (by first | (simp [hm]; done) | (simp at hm)))) (trodAll_mk0))))))
    (fun _ _ => rfl) (by simp) hx (ok_one (by kernel_rfl) rfl (okWide_bool_mk Tryd.underlying4 _))⟩

set_option maxRecDepth 100000 in
theorem lifted (os : Os) (started : os.Started) (H : Type) (enc : TypeId × Value → H) :
    ReturnsInHanded {} Tryd.checked os 6 .any (fun w args => (Rows.lifetimeHoldsSpec.pre enc Tryd.prog Tryd.f6 [] false w args ∧ laidMetH Tryd.prog Rows.lifetimeHoldsRow.laid w) ∧ sizedMet enc Tryd.prog Tryd.f6 (OpenSpec.ofChange Rows.lifetimeHoldsSpec) false w args)
      (Rows.lifetimeHoldsSpec.post enc Tryd.prog Tryd.f6 false true false false) := by
  refine returnsInHanded_of_change_and (C := Tryd.checked) (X := fun w _ => laidMetH Tryd.prog Rows.lifetimeHoldsRow.laid w) (fun _ _ _ hh h => h.of_heap hh) own started (by kernel_rfl) Tryd.func6
    (ChangeSpec.witness_shaped (enc := enc) (C := Tryd.checked) (os := os) (X := fun w _ => laidMetH Tryd.prog Rows.lifetimeHoldsRow.laid w) false (World.doorLaid Tryd.prog 400 os) #[.agg #[.int .i64 0, .int .i64 0, .int .i64 0, .int .i64 0], .agg #[.int .i64 0, .int .i64 0, .int .i64 0], .agg #[.int .i64 0, .int .i64 0], .int .i64 0, .int .i64 0] 8 rfl (World.shaped_of_RefB (by kernel_rfl) (by kernel_rfl)) (by kernel_rfl) (by kernel_rfl) (by kernel_rfl) (door_met os _)) ?_
  intro W base args ds gs before hval hW _ _ hL _
  exact contract H enc W base args ds gs before hval hW (pow_of hL)

theorem row_proved : Rows.LifetimeHoldsSaid :=
  OpenClaim.holds_of_wide 6 Tryd.f6 rfl rfl rfl rfl rfl rfl rfl ⟨rfl, rfl, rfl, rfl, rfl⟩ rfl rfl rfl rfl rfl (by kernel_rfl) Tryd.func6 (by kernel_rfl)
    (of_decide_eq_true (by kernel_rfl)) (by unfold Func.isWrapper; first | (rw [if_pos (by decide +kernel)]; kernel_rfl) | (rw [if_neg (by decide +kernel)]; exact ⟨rfl, rfl⟩))
    (fun os started H enc _ => lifted os started H enc)

theorem proved : Rows.LifetimeHoldsCardSaid :=
  Claim7.holds_tied_plain_at .later [] [.data, .data, .data] true Rows.lifetimeHoldsCard.stood.harness true
    row_proved (fun _ h => by cases h) (by kernel_rfl) (fun _ h => by cases h) lifetimeHolds_row_tie rfl ⟨rfl, rfl⟩ (by kernel_rfl) rfl
    (fun f fn hf hfn => by
      obtain rfl : f = 6 := Option.some.inj ((show Tryd.prog.funcNamed Rows.lifetimeHoldsRow.func = some 6 by kernel_rfl).symm.trans hf) |>.symm
      obtain rfl : fn = Tryd.f6 := (Option.some.inj (Tryd.func6.symm.trans hfn)).symm
      exact ⟨by kernel_rfl, fun j t ht => by
        rw [Tryd.params6] at ht
        have hm : t ∈ [27, 23, 25, 3, 3] := by simpa using Array.mem_of_getElem? ht
        have hall : ([27, 23, 25, 3, 3].all fun u => !Tryd.prog.wantsStandIn u) = true := by kernel_rfl
        exact (show Tryd.prog.wantsStandIn t = false by simpa using List.all_eq_true.1 hall t hm)⟩)
    (by kernel_rfl)
#print axioms proved
end Go.Proofs.YtfgmmjpejlpdoaaDoor.lifetimeHolds
