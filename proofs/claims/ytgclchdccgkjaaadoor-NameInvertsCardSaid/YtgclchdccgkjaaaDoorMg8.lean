/- Texts laid together (wip/tools/automerge.py): Nm4, RowN. -/
import Derived.Test.YtgclchdccgkjaaaDoorMg7
import Derived.Test.YtgclchdccgkjaaaDoorRows
import Derived.Test.YtgclchdccgkjaaaDoorRow
import Derived.Test.YtgclchdccgkjaaaDoorMg6
import Derived.Deep.Strs
import Derived.Deep.Fields
import Derived.Lib.SmallJoins
import Derived.ProofKit
import Derived.LaidMore
import Derived.OpenShut
import Derived.Stop.Joined
import Derived.Stop.LaidErr
import Derived.Lib.LaidTab
import Derived.Shelf.Vars
import Derived.HandedShaped
namespace Go.Proofs.YtgclchdccgkjaaaDoor
open Go Go.RowKit
set_option linter.unusedVariables false

/-- Strings as values. -/
def sv (ps : List ByteArray) : List Value := ps.map Value.string
theorem sv_length (ps : List ByteArray) : (sv ps).length = ps.length := by simp [sv]
theorem sv_get (ps : List ByteArray) (k : Nat) (h : k < ps.length) : (sv ps)[k]? = some (.string ps[k]) := by simp [sv, h]
theorem dat_length (ps : List ByteArray) : (dat ps).length = ps.length := by simp [dat]
/-- A principal in memory. -/
def PB (w : World) (g : Nat) (v : Value) (r : ByteArray) : Prop := w.heap[g]? = some (.cells #[v, .string r] 24 (0, 0))
theorem PB.cells {w : World} {g : Nat} {v : Value} {r : ByteArray} (h : PB w g v r) : w.cell? ⟨g, 0, none⟩ = some v ∧ w.cell? ⟨g, 1, none⟩ = some (.string r) :=
  ⟨by rw [cell_of_row _ _ 0 _ _ (0, 0) h]; rfl, by rw [cell_of_row _ _ 1 _ _ (0, 0) h]; rfl⟩
theorem PB.ext {w w' : World} {g : Nat} {v : Value} {r : ByteArray} (h : PB w g v r) (hx : Ext w w') : PB w' g v r := hx.heap h
theorem nameB_all {ps : List ByteArray} {r : ByteArray} : nameB (dat ps) r.data.toList = ((decide (1 ≤ (ps.length : Int)) && decide ((ps.length : Int) ≤ 4) && realmB r.data.toList) && (dat ps).all partB) := by
  unfold nameB
  rw [dat_length]
  have e : decide (1 ≤ ps.length ∧ ps.length ≤ 4) = (decide (1 ≤ (ps.length : Int)) && decide ((ps.length : Int) ≤ 4)) := by
    rw [← Bool.decide_and]
    exact decide_eq_decide.2 (by omega)
  rw [e]
theorem parts_no {ps : List ByteArray} {k : Nat} (h : k < ps.length) (hp : partB ps[k].data.toList = false) : (dat ps).all partB = false := by
  rw [List.all_eq_false]
  exact ⟨ps[k].data.toList, List.mem_map.2 ⟨ps[k], List.getElem_mem h, rfl⟩, by rw [hp]; simp⟩
theorem parts_yes {ps : List ByteArray} {k : Nat} (h : k < ps.length) (ha : (dat (ps.take k)).all partB = true) (hp : partB ps[k].data.toList = true) : (dat (ps.take (k + 1))).all partB = true := by
  rw [List.take_succ_eq_append_getElem h]
  unfold dat at *
  rw [List.map_append, List.all_append, ha]
  simp [hp]

set_option maxRecDepth 100000 in
set_option maxHeartbeats 2000000 in
theorem NValid_at (A : Option Addr) (c : Nat) (ps : List ByteArray) (r : ByteArray) (hps : ∀ p ∈ ps, p.size ≤ 4294967280) (hr : r.size ≤ 4294967280) (w : World) (hR : RS w (.slice A ps.length c) (sv ps)) :
    Calls Tryd.prog 12 #[.agg #[.slice A ps.length c, .string r]] w fun e w' => e = .returned (.bool (nameB (dat ps) r.data.toList)) ∧ Ext w w' := by
  have HN := Lib.hid (nameB_all (ps := ps) (r := r))
  obtain ⟨b, hb⟩ : ∃ b, nameB (dat ps) r.data.toList = b := ⟨_, rfl⟩
  rw [hb] at HN ⊢
  clear hb
  obtain ⟨b1, h1⟩ : ∃ b1, decide (1 ≤ (ps.length : Int)) = b1 := ⟨_, rfl⟩
  obtain ⟨b2, h2⟩ : ∃ b2, decide ((ps.length : Int) ≤ 4) = b2 := ⟨_, rfl⟩
  rw [h1, h2] at HN
  have HPS := Lib.hid hps; have HR := Lib.hid hr; have HRS := Lib.hid hR
  clear hps hr hR
  have hT := heap_alloc_new w (.cells #[.slice A ps.length c, .string r] 24)
  have hX := (Ext.refl w).alloc (.cells #[.slice A ps.length c, .string r] 24)
  obtain ⟨wr, hwr⟩ : ∃ wr, wr = w.alloc (.cells #[.slice A ps.length c, .string r] 24) := ⟨_, rfl⟩
  rw [← hwr] at hT hX
  have HT : Hid (PB wr w.heap.size (.slice A ps.length c) r) := Lib.hid hT
  have HX := Lib.hid hX
  clear hT hX
  go_enter Tryd.func12, Tryd.ntmps12
  go_wp2_with fail
  rw [← hwr]
  clear hwr
  refine wp_region_ext_tail 11 (fun i v' w' => match i with | 10 => v' = .bool (realmB r.data.toList) | _ => False) (by kernel_rfl) (by kernel_rfl) ?_
  refine wpE_op rfl rfl (fun w' hw' K' hK' => ?_)
  have hE := hw'.1
  go_step
  refine hK' _ ⟨_, rfl⟩ ?_
  clear hK' K'  hE hw' w'
  refine wpE_op rfl rfl (fun w' hw' K' hK' => ?_)
  have hE := hw'.1
  obtain ⟨u0, u1⟩ := (HT.out.ext ((Ext.drew wr).trans hE)).cells
  go_step
  refine hK' _ ⟨_, rfl⟩ ?_
  clear hK' K' u0 u1 hE hw' w'
  refine wpE_op rfl rfl (fun w' hw' K' hK' => ?_)
  have hE := hw'.1
  go_step
  refine hK' _ ⟨_, rfl⟩ ?_
  clear hK' K'  hE hw' w'
  refine wpE_op rfl rfl (fun w' hw' K' hK' => ?_)
  have hE := hw'.1
  go_step
  refine hK' _ ⟨_, rfl⟩ ?_
  clear hK' K'  hE hw' w'
  refine wpE_op rfl rfl (fun w' hw' K' hK' => ?_)
  have hE := hw'.1
  go_step
  refine hK' _ ⟨_, rfl⟩ ?_
  clear hK' K'  hE hw' w'
  refine wpE_op rfl rfl (fun w' hw' K' hK' => ?_)
  have hE := hw'.1
  obtain ⟨u0, u1⟩ := (HT.out.ext ((Ext.drew wr).trans hE)).cells
  go_step
  refine hK' _ ⟨_, rfl⟩ ?_
  clear hK' K' u0 u1 hE hw' w'
  refine wpE_op rfl rfl (fun w' hw' K' hK' => ?_)
  have hE := hw'.1
  go_step
  refine hK' _ ⟨_, rfl⟩ ?_
  clear hK' K'  hE hw' w'
  refine wpE_op rfl rfl (fun w' hw' K' hK' => ?_)
  have hE := hw'.1
  go_step
  refine hK' _ ⟨_, rfl⟩ ?_
  clear hK' K'  hE hw' w'
  refine wpE_op rfl rfl (fun w' hw' K' hK' => ?_)
  have hE := hw'.1
  go_step
  refine hK' _ ⟨_, rfl⟩ ?_
  clear hK' K'  hE hw' w'
  refine wpE_op rfl rfl (fun w' hw' K' hK' => ?_)
  have hE := hw'.1
  obtain ⟨u0, u1⟩ := (HT.out.ext ((Ext.drew wr).trans hE)).cells
  go_step
  refine hK' _ ⟨_, rfl⟩ ?_
  clear hK' K' u0 u1 hE hw' w'
  refine wpE_call 15 rfl (by simp) rfl (fun w' hw' K' hK' => ?_) ?_
  · have hE := hw'.1
    go_step
    refine (Realm_at r HR.out _).mono ?_
    rintro _ w2 ⟨rfl, hx⟩
    exact hK' _ _ ⟨_, rfl, rfl⟩ hx
  rintro _ w6 hE6 rfl
  simp only [Act.put, List.setIfInBounds_toArray, List.set_cons_succ, List.set_cons_zero]
  refine wpE_nil (fun w7 hw7 => ?_)
  have hx7 := (Ext.drew wr).trans hw7.1
  have HX7 := Lib.hid (HX.out.trans hx7); have HT7 := Lib.hid (HT.out.ext hx7)
  have hall := all_at (some ⟨w7.heap.size, 0, none⟩) 3 [b1, b2, realmB r.data.toList] (w7.alloc (.cells #[.bool b1, .bool b2, .bool (realmB r.data.toList)] 4)) (RS.new w7 4 [.bool b1, .bool b2, .bool (realmB r.data.toList)] (by simp [maxLen]))
  rw [show ([b1, b2, realmB r.data.toList].all id) = (b1 && b2 && realmB r.data.toList) by simp [Bool.and_assoc]] at hall
  obtain ⟨b3, h3⟩ : ∃ b3, (b1 && b2 && realmB r.data.toList) = b3 := ⟨_, rfl⟩
  rw [h3] at hall HN
  have HB4 := Lib.hid (show b3 = true → ps.length ≤ 4 from fun e => by
    rw [← h3] at e
    cases b2 with
    | true => have := of_decide_eq_true h2; omega
    | false => simp at e)
  have HALL := Lib.hid hall
  have hT8 := HT7.out.ext ((Ext.refl w7).alloc (.cells #[.bool b1, .bool b2, .bool (realmB r.data.toList)] 4))
  have HX8 := Lib.hid (HX7.out.alloc (.cells #[.bool b1, .bool b2, .bool (realmB r.data.toList)] 4))
  have HRS8 := Lib.hid (HRS.out.ext HX8.out)
  obtain ⟨q0, q1⟩ := hT8.cells
  clear hw7 hall h1 h2 h3 hx7 hT8 HRS
  simp only [List.drop_succ_cons, List.drop_zero]
  go_wp2_with fail
  refine HALL.out.mono ?_
  rintro _ w8 ⟨rfl, rfl⟩
  cases b3 with
  | false =>
    go_wp2_with fail
    go_ret
    refine ⟨?_, HX8.out⟩
    rw [HN.out]; rfl
  | true =>
    have hn4 : ps.length ≤ 4 := HB4.out rfl
    obtain ⟨W, hW⟩ : ∃ W, w7.alloc (.cells #[.bool b1, .bool b2, .bool (realmB r.data.toList)] 4) = W := ⟨_, rfl⟩
    rw [hW] at HX8 HRS8 q0 q1 ⊢
    clear hW HALL
    go_wp2_with fail
    go_loopw [4, 22] (fun _ i W' => ∃ k : Nat, k ≤ ps.length ∧ i = .int .i64 k ∧ (dat (ps.take k)).all partB = true ∧ W' = W) (fun _ i _ => ps.length - (intOf i).toNat)
    case atStart => exact ⟨0, Nat.zero_le _, rfl, by simp [dat], rfl⟩
    case round =>
      obtain ⟨k, hk, rfl, hall, rfl⟩ := hrel
      have HA := Lib.hid hall; clear hall
      by_cases hlt : k < ps.length
      · obtain ⟨A', c', he, e1, e2, e3⟩ := HRS8.out
        rw [sv_length] at e1 e3 he
        injection he with z1 _ z3
        subst z1; subst z3
        obtain ⟨ad, rfl, hblt, hcell⟩ := e3 (by omega)
        have hck := hcell k _ (sv_get ps k hlt)
        have HPK := Lib.hid (Part_at ps[k] (HPS.out _ (List.getElem_mem hlt)) wr)
        clear hcell e3 e2 e1 hblt
        cases hp : partB ps[k].data.toList with
        | false =>
          have HP := Lib.hid hp
          rw [hp] at HPK
          clear hp
          go_wp2_with fail
          refine HPK.out.mono ?_
          rintro _ w9 ⟨rfl, rfl⟩
          go_wp2_with fail
          go_ret
          refine ⟨?_, HX8.out⟩
          rw [HN.out, parts_no hlt HP.out]; rfl
        | true =>
          have HP := Lib.hid hp
          rw [hp] at HPK
          clear hp
          go_wp2_with fail
          refine HPK.out.mono ?_
          rintro _ w9 ⟨rfl, rfl⟩
          go_wp2_with fail
          go_roundw
          case rel => exact ⟨k + 1, by omega, by go_num, parts_yes hlt HA.out HP.out, trivial⟩
          case measure => simp [intOf]; omega
      · have HF := Lib.hid (show (dat ps).all partB = true by
          have := HA.out
          rwa [List.take_of_length_le (by omega)] at this)
        go_wp2_with fail
        go_ret
        refine ⟨?_, HX8.out⟩
        rw [HN.out, HF.out]; rfl
end Go.Proofs.YtgclchdccgkjaaaDoor
namespace Go.Proofs.YtgclchdccgkjaaaDoor
open Go Go.RowKit Go.WideShapes Go.ChangeShapes Go.ChangeAt Go.Deep
set_option linter.unusedVariables false

section
variable {H : Type} {enc : TypeId × Value → H}
theorem returnsInHanded_and_shaped {a : Assume} {C : Checked} {os : Os} {f : FuncId} {fn : Func} {s : ChangeSpec} {conds : List PathCond} {apart fresh handsOn again : Bool} {X : World → Array Value → Prop}
    (hX : ∀ (w w' : World) (args : Array Value), w.heap = w'.heap → X w args → X w' args)
    (own : ownKnob C.prog.godebug = none) (started : os.Started) (noInit : C.prog.inits.idxOf? f = none) (hfn : C.prog.funcs[f]? = some fn)
    (witness : ∃ (w : World) (tape : Tape) (i : Input), w.os = os ∧ (w.forCall tape i).Shaped C.prog ∧ i.vars = [] ∧ Input.okWide C.prog (w.forCall tape i) .any w.heap.size f i ∧
      ((s.pre enc C.prog fn conds apart (w.forCall tape i).memory i.args ∧ X (w.forCall tape i).memory i.args) ∧ sizedMet enc C.prog fn (OpenSpec.ofChange s) apart (w.forCall tape i).memory i.args) ∧ a.holds C.prog (lone (Frame.enter C.prog f i.args .normal) [] (w.forCall tape i)))
    (contract : ∀ (W : World) (base : Nat) (args : Array Value) (ds gs : List (DataW H)) (before : List MemPlace),
      (∀ (j : Nat) t v, fn.params[j]? = some t → args[j]? = some v → Value.okWide C.prog W .any base t v) →
      DataW.Whole enc C.prog fn.params.toList s.vars apart W args.toList ds gs before → X W args → W.ShapedOpen C.prog →
      Calls C.prog f args W fun e W' => ∃ v, e = .returned v ∧ s.post enc C.prog fn apart fresh handsOn again W args v W') :
    ReturnsInHanded a C os f .any (fun w args => (s.pre enc C.prog fn conds apart w args ∧ X w args) ∧ sizedMet enc C.prog fn (OpenSpec.ofChange s) apart w args) (s.post enc C.prog fn apart fresh handsOn again) := by
  refine returnsInHanded_of_calls own started noInit witness ?_
  intro w tape i _ hsh _ hok hpre _
  obtain ⟨_, _, _, fn', hfn', _, _, _, _, hval⟩ := hok
  have e : fn' = fn := Option.some.inj (hfn'.symm.trans hfn)
  subst e
  obtain ⟨⟨⟨ds, gs, before, hw, hc⟩, hx⟩, _⟩ := hpre
  have hw' := DataW.Whole.of_heap (w' := w.forCall tape i) (by rfl) hw
  refine (contract (w.forCall tape i) w.heap.size i.args ds gs before hval hw' (hX _ _ _ (by rfl) hx) hsh).mono fun e W' ⟨v, he, hp⟩ => ?_
  subst he
  exact ChangeSpec.post_blind hp
end

theorem maxn_of {W : World} (h : W.ShapedOpen Tryd.prog) : MaxN W :=
  cell_of_shapedOpen_int (zero := #[.int .i64 0]) (t := 3) h (by decide +kernel) (by kernel_rfl) rfl (by kernel_rfl) (by kernel_rfl) Tryd.underlying3

/-- A struct of strings and a string. -/
theorem prin_of_trod {H : Type} {enc : TypeId × Value → H} {P : Program} {r : Reach} {base : Nat} {t ts te tt : TypeId} {f0 f1 : Field} (hs : P.underlying t = some (.struct #[f0, f1])) (hone : oneCellFields P #[f0, f1] = true) (hC : P.cellsOf t = 2)
    (h0 : f0.type = ts) (h1 : f1.type = tt) (hts : P.underlying ts = some (.slice te)) (hte : P.underlying te = some .string) (hce : P.cellsOf te = 1) (htt : P.underlying tt = some .string) {W : World} {v : Value} {d : DataW H} {qs : List MemPlace}
    (hv : Value.okWide P W r base t v) (h : DataW.Trod enc P W 0 (fun _ => true) true t v d qs) : ∃ (A : Option Addr) (c : Nat) (ps : List ByteArray) (s : ByteArray), v = .agg #[.slice A ps.length c, .string s] ∧ RS W (.slice A ps.length c) (sv ps) := by
  subst h0; subst h1
  obtain ⟨v0, v1, y0, y1, n, rfl, _, _, g0, g1⟩ := Go.Joins.open_agg2 hs hone hC hv h
  obtain ⟨s, hs1, _, _⟩ := DataW.trod_string htt g1
  simp only [List.cons.injEq, and_true] at hs1
  subst hs1
  rcases Go.Deep.open_strs hts hte hce g0 with ⟨hcs, _⟩ | ⟨a, len, cap, m, Sx, hcs, _, hl, hm, hmm, _, hcell⟩
  · simp only [List.cons.injEq, and_true] at hcs
    subst hcs
    exact ⟨none, 0, [], s, rfl, RS.nil W⟩
  · simp only [List.cons.injEq, and_true] at hcs
    subst hcs
    simp only [if_true] at hmm
    have hlen : ((List.range len).map Sx).length = len := by simp
    refine ⟨some a, cap, (List.range len).map Sx, s, by rw [hlen], ?_⟩
    rw [hlen]
    refine ⟨some a, cap, by rw [sv_length, hlen], by rw [sv_length, hlen]; exact hl, hm, fun hp => ⟨a, rfl, ?_, fun j u hu => ?_⟩⟩
    · rw [sv_length, hlen] at hp
      have := World.block_lt_of_cell? W (a.add 0) (hcell 0 (by omega)).1
      rwa [block_of_add] at this
    · have hj : j < len := by
        have := (List.getElem?_eq_some_iff.1 hu).1
        rwa [sv_length, hlen] at this
      rw [(hcell j (by omega)).1]
      rw [sv_get _ j (by rw [hlen]; exact hj)] at hu
      rw [← hu]
      simp
end Go.Proofs.YtgclchdccgkjaaaDoor
