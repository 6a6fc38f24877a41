/-
  The world's shape (internal/bytealg.MaxLen holds some int), for rows; principals that came in.
-/
import Derived.Test.YtgclchdccgkjaaaDoorRows
import Derived.Test.YtgclchdccgkjaaaDoorRow
import Derived.Test.YtgclchdccgkjaaaDoorWm
import Derived.Test.YtgclchdccgkjaaaDoorNm4
import Derived.Deep.Strs
import Derived.Deep.Fields
import Derived.Lib.SmallJoins
import Derived.ProofKit
import Derived.LaidMore
import Derived.OpenShut
import Derived.Stop.Joined
import Derived.Stop.LaidErr
import Derived.Lib.LaidTab
import Derived.Shelf.Vars
import Derived.HandedShaped
namespace Go.Proofs.YtgclchdccgkjaaaDoor
open Go Go.RowKit Go.WideShapes Go.ChangeShapes Go.ChangeAt Go.Deep
set_option linter.unusedVariables false

section
variable {H : Type} {enc : TypeId × Value → H}
theorem returnsInHanded_and_shaped {a : Assume} {C : Checked} {os : Os} {f : FuncId} {fn : Func} {s : ChangeSpec} {conds : List PathCond} {apart fresh handsOn again : Bool} {X : World → Array Value → Prop}
    (hX : ∀ (w w' : World) (args : Array Value), w.heap = w'.heap → X w args → X w' args)
    (own : ownKnob C.prog.godebug = none) (started : os.Started) (noInit : C.prog.inits.idxOf? f = none) (hfn : C.prog.funcs[f]? = some fn)
    (witness : ∃ (w : World) (tape : Tape) (i : Input), w.os = os ∧ (w.forCall tape i).Shaped C.prog ∧ i.vars = [] ∧ Input.okWide C.prog (w.forCall tape i) .any w.heap.size f i ∧
      ((s.pre enc C.prog fn conds apart (w.forCall tape i).memory i.args ∧ X (w.forCall tape i).memory i.args) ∧ sizedMet enc C.prog fn (OpenSpec.ofChange s) apart (w.forCall tape i).memory i.args) ∧ a.holds C.prog (lone (Frame.enter C.prog f i.args .normal) [] (w.forCall tape i)))
    (contract : ∀ (W : World) (base : Nat) (args : Array Value) (ds gs : List (DataW H)) (before : List MemPlace),
      (∀ (j : Nat) t v, fn.params[j]? = some t → args[j]? = some v → Value.okWide C.prog W .any base t v) →
      DataW.Whole enc C.prog fn.params.toList s.vars apart W args.toList ds gs before → X W args → W.ShapedOpen C.prog →
      Calls C.prog f args W fun e W' => ∃ v, e = .returned v ∧ s.post enc C.prog fn apart fresh handsOn again W args v W') :
    ReturnsInHanded a C os f .any (fun w args => (s.pre enc C.prog fn conds apart w args ∧ X w args) ∧ sizedMet enc C.prog fn (OpenSpec.ofChange s) apart w args) (s.post enc C.prog fn apart fresh handsOn again) := by
  refine returnsInHanded_of_calls own started noInit witness ?_
  intro w tape i _ hsh _ hok hpre _
  obtain ⟨_, _, _, fn', hfn', _, _, _, _, hval⟩ := hok
  have e : fn' = fn := Option.some.inj (hfn'.symm.trans hfn)
  subst e
  obtain ⟨⟨⟨ds, gs, before, hw, hc⟩, hx⟩, _⟩ := hpre
  have hw' := DataW.Whole.of_heap (w' := w.forCall tape i) (by rfl) hw
  refine (contract (w.forCall tape i) w.heap.size i.args ds gs before hval hw' (hX _ _ _ (by rfl) hx) hsh).mono fun e W' ⟨v, he, hp⟩ => ?_
  subst he
  exact ChangeSpec.post_blind hp
end

theorem maxn_of {W : World} (h : W.ShapedOpen Tryd.prog) : MaxN W :=
  cell_of_shapedOpen_int (zero := #[.int .i64 0]) (t := 3) h (by decide +kernel) (by kernel_rfl) rfl (by kernel_rfl) (by kernel_rfl) Tryd.underlying3

/-- A struct of strings and a string. -/
theorem prin_of_trod {H : Type} {enc : TypeId × Value → H} {P : Program} {r : Reach} {base : Nat} {t ts te tt : TypeId} {f0 f1 : Field} (hs : P.underlying t = some (.struct #[f0, f1])) (hone : oneCellFields P #[f0, f1] = true) (hC : P.cellsOf t = 2)
    (h0 : f0.type = ts) (h1 : f1.type = tt) (hts : P.underlying ts = some (.slice te)) (hte : P.underlying te = some .string) (hce : P.cellsOf te = 1) (htt : P.underlying tt = some .string) {W : World} {v : Value} {d : DataW H} {qs : List MemPlace}
    (hv : Value.okWide P W r base t v) (h : DataW.Trod enc P W 0 (fun _ => true) true t v d qs) : ∃ (A : Option Addr) (c : Nat) (ps : List ByteArray) (s : ByteArray), v = .agg #[.slice A ps.length c, .string s] ∧ RS W (.slice A ps.length c) (sv ps) := by
  subst h0; subst h1
  obtain ⟨v0, v1, y0, y1, n, rfl, _, _, g0, g1⟩ := Go.Joins.open_agg2 hs hone hC hv h
  obtain ⟨s, hs1, _, _⟩ := DataW.trod_string htt g1
  simp only [List.cons.injEq, and_true] at hs1
  subst hs1
  rcases Go.Deep.open_strs hts hte hce g0 with ⟨hcs, _⟩ | ⟨a, len, cap, m, Sx, hcs, _, hl, hm, hmm, _, hcell⟩
  · simp only [List.cons.injEq, and_true] at hcs
    subst hcs
    exact ⟨none, 0, [], s, rfl, RS.nil W⟩
  · simp only [List.cons.injEq, and_true] at hcs
    subst hcs
    simp only [if_true] at hmm
    have hlen : ((List.range len).map Sx).length = len := by simp
    refine ⟨some a, cap, (List.range len).map Sx, s, by rw [hlen], ?_⟩
    rw [hlen]
    refine ⟨some a, cap, by rw [sv_length, hlen], by rw [sv_length, hlen]; exact hl, hm, fun hp => ⟨a, rfl, ?_, fun j u hu => ?_⟩⟩
    · rw [sv_length, hlen] at hp
      have := World.block_lt_of_cell? W (a.add 0) (hcell 0 (by omega)).1
      rwa [block_of_add] at this
    · have hj : j < len := by
        have := (List.getElem?_eq_some_iff.1 hu).1
        rwa [sv_length, hlen] at this
      rw [(hcell j (by omega)).1]
      rw [sv_get _ j (by rw [hlen]; exact hj)] at hu
      rw [← hu]
      simp
end Go.Proofs.YtgclchdccgkjaaaDoor
