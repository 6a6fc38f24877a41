/- Texts laid together (wip/tools/automerge.py): RowE, Row, PoPure, Ext2. -/
import Derived.Test.YtgfjmmdkdhodiaaGreatDoorRows
import Derived.Test.YtgfjmmdkdhodiaaGreatDoorMg1
import Derived.ProofKit
import Derived.LaidMore
import Derived.OpenShut
import Derived.Stop.Joined
import Derived.Stop.LaidErr
import Derived.Lib.LaidTab
import Derived.Shelf.Vars
import Derived.HandedShaped
import Derived.Test.YtgfjmmdkdhodiaaGreatDoorMg0
import Derived.ChangeSame
import Derived.Carry
import Derived.Deep.Matrix
import Derived.StillTail
namespace Go.Proofs.YtgfjmmdkdhodiaaGreatDoor
open Go Go.RowKit Go.WideShapes Go.ChangeShapes Go.ChangeAt
set_option linter.unusedVariables false

section
variable {H : Type} {enc : TypeId × Value → H}
theorem returnsInHanded_and_shaped {a : Assume} {C : Checked} {os : Os} {f : FuncId} {fn : Func} {s : ChangeSpec} {conds : List PathCond} {apart fresh handsOn again : Bool} {X : World → Array Value → Prop}
    (hX : ∀ (w w' : World) (args : Array Value), w.heap = w'.heap → X w args → X w' args)
    (own : ownKnob C.prog.godebug = none) (started : os.Started) (noInit : C.prog.inits.idxOf? f = none) (hfn : C.prog.funcs[f]? = some fn)
    (witness : ∃ (w : World) (tape : Tape) (i : Input), w.os = os ∧ (w.forCall tape i).Shaped C.prog ∧ i.vars = [] ∧ Input.okWide C.prog (w.forCall tape i) .any w.heap.size f i ∧
      ((s.pre enc C.prog fn conds apart (w.forCall tape i).memory i.args ∧ X (w.forCall tape i).memory i.args) ∧ sizedMet enc C.prog fn (OpenSpec.ofChange s) apart (w.forCall tape i).memory i.args) ∧ a.holds C.prog (lone (Frame.enter C.prog f i.args .normal) [] (w.forCall tape i)))
    (contract : ∀ (W : World) (base : Nat) (args : Array Value) (ds gs : List (DataW H)) (before : List MemPlace),
      (∀ (j : Nat) t v, fn.params[j]? = some t → args[j]? = some v → Value.okWide C.prog W .any base t v) →
      DataW.Whole enc C.prog fn.params.toList s.vars apart W args.toList ds gs before → X W args → W.ShapedOpen C.prog →
      Calls C.prog f args W fun e W' => ∃ v, e = .returned v ∧ s.post enc C.prog fn apart fresh handsOn again W args v W') :
    ReturnsInHanded a C os f .any (fun w args => (s.pre enc C.prog fn conds apart w args ∧ X w args) ∧ sizedMet enc C.prog fn (OpenSpec.ofChange s) apart w args) (s.post enc C.prog fn apart fresh handsOn again) := by
  refine returnsInHanded_of_calls own started noInit witness ?_
  intro w tape i _ hsh _ hok hpre _
  obtain ⟨_, _, _, fn', hfn', _, _, _, _, hval⟩ := hok
  have e : fn' = fn := Option.some.inj (hfn'.symm.trans hfn)
  subst e
  obtain ⟨⟨⟨ds, gs, before, hw, hc⟩, hx⟩, _⟩ := hpre
  have hw' := DataW.Whole.of_heap (w' := w.forCall tape i) (by rfl) hw
  refine (contract (w.forCall tape i) w.heap.size i.args ds gs before hval hw' (hX _ _ _ (by rfl) hx) hsh).mono fun e W' ⟨v, he, hp⟩ => ?_
  subst he
  exact ChangeSpec.post_blind hp
end

theorem maxl_of {W : World} (h : W.ShapedOpen Tryz.prog) : MaxL W := by
  intro g hg
  obtain rfl : 2 = g := Option.some.inj ((show Tryz.prog.globalNamed "internal/bytealg.MaxLen" = some 2 by kernel_rfl).symm.trans hg)
  exact cell_of_shapedOpen_int (zero := #[.int .i64 0]) (t := 3) h (by decide +kernel) (by kernel_rfl) rfl (by kernel_rfl) (by kernel_rfl) Tryz.underlying3
theorem star_es : "*" ++ "errors.errorString" = "*errors.errorString" := by decide
theorem row_es (u : TypeId) (h : Tryz.prog.typeName? 3 u = some "*errors.errorString") : u = 149 :=
  typeName_ptr_named (nm := "errors.errorString") (by rw [star_es]; kernel_rfl) (by kernel_rfl) (by decide) u (by rw [star_es]; exact h)
theorem ifvar_of {n : String} {text : List UInt8} {r : List (String × DataW Unit)} {W : World} {g : Nat} (h : laidMet Tryz.prog ((n, .iface "*errors.errorString" (.ptr (.agg [.lit (.string text)]))) :: r) W)
    (hg : Tryz.prog.globalNamed n = some g) (ht : (Tryz.prog.globals[g]?).map (·.type) = some 77) : IfVar n W := by
  obtain ⟨a, s, hv, _⟩ := laid_sentinel h hg ht Tryz.underlying77 row_es Tryz.underlying149 Tryz.underlying151 rfl rfl Tryz.underlying9 (by kernel_rfl) (by kernel_rfl)
  exact ⟨_, _, hv⟩
theorem pow_at {r : List (String × DataW Unit)} {W : World} (h : laidMet Tryz.prog (("internal/strconv.uint64pow10", (Rows.laid_internal_strconv_uint64pow10 : DataW Unit)) :: r) W) : Pow W := by
  have e : (Rows.laid_internal_strconv_uint64pow10 : DataW Unit) = Lib.tabData .u64 Lib.pow10Tab := by kernel_rfl
  rw [e] at h
  obtain ⟨g, hg⟩ := Option.isSome_iff_exists.1 gPow
  have hgt : ((Tryz.prog.globalNamed "internal/strconv.uint64pow10").bind fun g => (Tryz.prog.globals[g]?).map (·.type)) = some 145 := by kernel_rfl
  rw [hg] at hgt
  exact Lib.tabIs_of_head hg hgt Tryz.underlying145 Tryz.underlying124 (by kernel_rfl) (by kernel_rfl) h
end Go.Proofs.YtgfjmmdkdhodiaaGreatDoor
namespace Go.Proofs.YtgfjmmdkdhodiaaGreatDoor
open Go Go.RowKit Go.WideShapes Go.ChangeShapes

section
variable {H : Type} {enc : TypeId × Value → H} {P : Program}
theorem post_of_below {f : Func} {s : ChangeSpec} {apart fresh handsOn again : Bool} {W W' : World} {args : Array Value} {v : Value} {ds gs : List (DataW H)} {before pa pv : List MemPlace}
    (hW : DataW.Whole enc P f.params.toList s.vars apart W args.toList ds gs before)
    (hres : ∀ (b : Nat) (sp : Nat → Bool) (hd : Bool), DataW.TrodAll enc P W' b sp hd f.resultTypes.toList (v.resultList f.resultTypes.size) (s.fn H (ds ++ gs)).results [])
    (hargs : ∀ sp : Nat → Bool, (∀ p ∈ before, sp p.block = true) → DataW.TrodAll enc P W' 0 sp true f.params.toList args.toList (s.fn H (ds ++ gs)).args pa)
    (hvars : ∀ sp : Nat → Bool, (∀ p ∈ before, sp p.block = true) → DataW.TrodVars enc P W' sp s.vars (s.fn H (ds ++ gs)).vars pv)
    (hps : before = pa ++ pv) (hb : Below W.heap.size W W')
    (hok : ∀ (j : Nat) (t : TypeId) (r : Value), f.resultTypes[j]? = some t → (v.resultList f.resultTypes.size)[j]? = some r → Value.okWide P W' .any 0 t r) :
    s.post enc P f apart fresh handsOn again W args v W' := by
  have hlt : ∀ p ∈ before, p.block < W.heap.size := fun p hp => hW.lt p hp
  have hold : ∀ p ∈ before, (fun b => decide (b < W.heap.size)) p.block = true := fun p hp => by simpa using hlt p hp
  refine ⟨ds, gs, before, [], pa, pv, hW, hres _ _ _, hargs _ hold, hvars _ hold, World.keptBut_mono (fun p hp => ⟨hp, ?_⟩) (hb.frame (· ∈ before)), fun _ => ?_⟩
  · rw [hps, List.mem_append] at hp
    exact Or.inr hp
  · obtain ⟨_, _, _, _, _, hz, hn⟩ := hW
    refine ⟨hok, _, _, ([] ++ pa) ++ pv, ⟨[] ++ pa, pv, trodAll_append (hargs _ (fun _ _ => rfl)) (hres _ _ _), hvars _ (fun _ _ => rfl), rfl, ?_, ?_⟩, ?_⟩
    · intro b off hp
      have hin : MemPlace.cell b off ∈ before := by rw [hps]; simpa using hp
      rw [hb.frozen (hlt _ hin)]
      exact hz b off hin
    · intro ha
      have := hn ha
      rw [hps] at this
      simpa using this
    · intro p hp _
      rw [hps]
      simpa using hp

/-- An argument reads as it did. -/
theorem trod_stays {t : TypeId} (hl : laidOutB P = true) (hr : P.readableRec t = true) (hrow : t < P.types.size) {W W' : World} {v : Value} {d : DataW H} {ps : List MemPlace}
    (h : DataW.Trod enc P W 0 (fun _ => true) true t v d ps) (hb : Ext W W') (hlt : ∀ x ∈ ps, x.block < W.heap.size) (sp : Nat → Bool) (hsp : ∀ p ∈ ps, sp p.block = true) :
    DataW.Trod enc P W' 0 sp true t v d ps :=
  WideElems.Trod_stays hl hr hrow h (fun x hx => Below.same hb (hlt x hx)) hsp

/-- A []byte that came in. -/
theorem bs_of_trod {t e : TypeId} {r : Reach} {base : Nat} (ht : P.underlying t = some (.slice e)) (he : P.underlying e = some (.int .u8)) (hc : P.cellsOf e = 1) {W : World} {v : Value} {d : DataW H} {ps : List MemPlace}
    (hv : Value.okWide P W r base t v) (h : DataW.Trod enc P W 0 (fun _ => true) true t v d ps) : ∃ A c l, v = .slice A l.length c ∧ BS W (.slice A l.length c) l := by
  obtain ⟨a0, len, cap, rfl⟩ := okWide_slice ht hv
  obtain ⟨fuel, hf⟩ := h
  rcases open_ints ht he hc hf with ⟨hcs, _⟩ | ⟨a, len', cap', zs, hcs, _, hl, hm, hz, _, hcell, hwf⟩
  · simp only [Value.cells, List.cons.injEq, and_true, Value.slice.injEq] at hcs
    obtain ⟨rfl, rfl, rfl⟩ := hcs
    exact ⟨none, 0, [], rfl, BS.nil W⟩
  · simp only [Value.cells, List.cons.injEq, and_true, Value.slice.injEq] at hcs
    obtain ⟨rfl, rfl, rfl⟩ := hcs
    simp only [if_true] at hz
    have hlen : ((zs.take len).map fun z => UInt8.ofNat z.toNat).length = len := by simp; omega
    refine ⟨some a, cap, (zs.take len).map fun z => UInt8.ofNat z.toNat, by rw [hlen], ?_⟩
    rw [hlen]
    refine ⟨some a, cap, by rw [bv_length, hlen], by rw [bv_length, hlen]; exact hl, hm, fun hp => ⟨a, rfl, ?_, fun j u hu => ?_⟩⟩
    · simp only [bv_length, hlen] at hp
      have := World.block_lt_of_cell? W (a.add 0) (hcell 0 (by omega))
      rwa [block_of_add] at this
    · have hj : j < len := by
        have := (List.getElem?_eq_some_iff.1 hu).1
        rwa [bv_length, hlen] at this
      rw [hcell j (by omega)]
      rw [bv_get _ j (by rw [hlen]; exact hj)] at hu
      rw [← hu]
      have hmem : zs.getD j 0 ∈ zs := by
        rw [List.getD_eq_getElem?_getD, List.getElem?_eq_getElem (by omega)]
        exact List.getElem_mem _
      have hw := hwf _ hmem
      simp only [Lit.wf, IntKind.min, IntKind.max, IntKind.signed, IntKind.bits, Bool.and_eq_true] at hw
      simp only [List.getElem_map, List.getElem_take, UInt8.toNat_ofNat', Option.some.injEq, Value.int.injEq, true_and]
      rw [List.getD_eq_getElem?_getD, List.getElem?_eq_getElem (by omega)] at hw ⊢
      simp only [Option.getD_some] at hw ⊢
      simp at hw
      omega

/-- A [][]byte that came in. -/
theorem bss_of_trod {t e q : TypeId} {r : Reach} {base : Nat} (ht : P.underlying t = some (.slice e)) (he : P.underlying e = some (.slice q)) (hq : P.underlying q = some (.int .u8)) (ce : P.cellsOf e = 1) (cq : P.cellsOf q = 1) {W : World} {v : Value} {d : DataW H} {ps : List MemPlace}
    (hv : Value.okWide P W r base t v) (h : DataW.Trod enc P W 0 (fun _ => true) true t v d ps) : ∃ A c ls, v = .slice A (ls : List (List UInt8)).length c ∧ BSS W (.slice A ls.length c) ls := by
  obtain ⟨a0, len, cap, rfl⟩ := okWide_slice ht hv
  obtain ⟨fuel, hf⟩ := h
  rcases Go.Deep.open_int_rows ht he hq ce cq hf with ⟨hcs, _⟩ | ⟨a, len', cap', A, L, C, Z, hcs, _, hl, hm, _, hrow⟩
  · simp only [Value.cells, List.cons.injEq, and_true, Value.slice.injEq] at hcs
    obtain ⟨rfl, rfl, rfl⟩ := hcs
    exact ⟨none, 0, [], rfl, [], RS.nil W, rfl, fun i hi => absurd hi (by simp)⟩
  · simp only [Value.cells, List.cons.injEq, and_true, Value.slice.injEq] at hcs
    obtain ⟨rfl, rfl, rfl⟩ := hcs
    let row : Nat → List UInt8 := fun i => ((Z i).take (L i)).map fun z => UInt8.ofNat z.toNat
    have hrl : ∀ i, i < cap → (row i).length = L i := by
      intro i hi
      obtain ⟨_, h1, _, h2, _⟩ := hrow i hi
      simp [row]; omega
    refine ⟨some a, cap, (List.range len).map row, by simp, (List.range len).map fun i => .slice (A i) (L i) (C i), ?_, by simp, ?_⟩
    · refine ⟨some a, cap, by simp, by simpa using hl, hm, fun hp => ⟨a, rfl, ?_, fun j u hu => ?_⟩⟩
      · have h0 : 0 < len := by simpa using hp
        have := World.block_lt_of_cell? W (a.add 0) (hrow 0 (by omega)).1
        rwa [block_of_add] at this
      · have hj : j < len := by
          have := (List.getElem?_eq_some_iff.1 hu).1
          simpa using this
        rw [(hrow j (by omega)).1]
        simp [hj] at hu
        rw [← hu]
    · intro i hi hi'
      simp only [List.length_map, List.length_range] at hi
      simp only [List.getElem_map, List.getElem_range]
      obtain ⟨_, h1, h2, h3, h4, h5, h6⟩ := hrow i (by omega)
      have hr := hrl i (by omega)
      refine ⟨A i, C i, by rw [bv_length, hr], by rw [bv_length, hr]; exact h1, h2, fun hp => ?_⟩
      simp only [bv_length, hr] at hp
      cases hA : A i with
      | none => exact absurd (h5 hA) (by omega)
      | some a' =>
        obtain ⟨_, h7⟩ := h6 a' hA
        refine ⟨a', rfl, ?_, fun j u hu => ?_⟩
        · have := World.block_lt_of_cell? W (a'.add 0) (h7 0 (by omega))
          rwa [block_of_add] at this
        · have hj : j < L i := by
            have := (List.getElem?_eq_some_iff.1 hu).1
            rwa [bv_length, hr] at this
          rw [h7 j (by omega)]
          rw [bv_get _ j (by rw [hr]; exact hj)] at hu
          rw [← hu]
          have hmem : (Z i).getD j 0 ∈ Z i := by
            rw [List.getD_eq_getElem?_getD, List.getElem?_eq_getElem (by omega)]
            exact List.getElem_mem _
          have hw := h4 _ hmem
          simp only [Lit.wf, IntKind.min, IntKind.max, IntKind.signed, IntKind.bits, Bool.and_eq_true] at hw
          simp only [row, List.getElem_map, List.getElem_take, UInt8.toNat_ofNat', Option.some.injEq, Value.int.injEq, true_and]
          rw [List.getD_eq_getElem?_getD, List.getElem?_eq_getElem (by omega)] at hw ⊢
          simp only [Option.getD_some] at hw ⊢
          simp at hw
          omega
end
theorem u32_bd {f : Int} (h : (Lit.int .u32 f).wf = true) : 0 ≤ f ∧ f ≤ 4294967295 := by
  simp only [Lit.wf, IntKind.min, IntKind.max, IntKind.signed, IntKind.bits, Bool.and_eq_true] at h
  simp at h; omega
theorem u8_bd {f : Int} (h : (Lit.int .u8 f).wf = true) : 0 ≤ f ∧ f ≤ 255 := by
  simp only [Lit.wf, IntKind.min, IntKind.max, IntKind.signed, IntKind.bits, Bool.and_eq_true] at h
  simp at h; omega
theorem i64_bd {f : Int} (h : (Lit.int .i64 f).wf = true) : -9223372036854775808 ≤ f ∧ f ≤ 9223372036854775807 := by
  simp only [Lit.wf, IntKind.min, IntKind.max, IntKind.signed, IntKind.bits, Bool.and_eq_true, decide_eq_true_eq] at h
  simp at h; omega
end Go.Proofs.YtgfjmmdkdhodiaaGreatDoor
namespace Go.Proofs.YtgfjmmdkdhodiaaGreatDoor
/-- The class of a byte. -/
def cls (c : UInt8) : Nat := if 97 ≤ c.toNat ∧ c.toNat ≤ 122 then 1 else if 65 ≤ c.toNat ∧ c.toNat ≤ 90 then 2 else if 48 ≤ c.toNat ∧ c.toNat ≤ 57 then 3 else if 32 ≤ c.toNat ∧ c.toNat ≤ 126 then 4 else 5
/-- A byte, a capital letter as the small one. -/
def sml (c : UInt8) : UInt8 := if cls c = 2 then c + 32 else c
end Go.Proofs.YtgfjmmdkdhodiaaGreatDoor
namespace Go.Proofs.YtgfjmmdkdhodiaaGreatDoor
open Go Go.RowKit

section
variable {P : Program} {ops : Array Oper} {Vs : Nat → Value → World → Prop} {w0 : World} {md : Region.Mode}
def wpAnyEL (P : Program) (md : Region.Mode) (ops : Array Oper) (Vs : Nat → Value → World → Prop) (w0 : World) (n : Nat) (L : Array Bool → Act → World → Prop) : Nat → Array Bool → Act → Marks' → Prop
  | 0, listed, a, Ws => cons' w0 Ws → ∀ w, above w0 Ws w → L listed a w
  | fuel + 1, listed, a, Ws => cons' w0 Ws →
    Region.ready md ops listed ≠ [] ∧ ∀ i ∈ Region.ready md ops listed, i < n ∧ eOp P ops Vs w0 i (wpAnyEL P md ops Vs w0 n L fuel (listed.setIfInBounds i true)) a Ws

theorem wpAnyEL_mono {n : Nat} {L : Array Bool → Act → World → Prop} : ∀ (fuel : Nat) (listed : Array Bool) (a : Act) (Ws Ws' : Marks'), stronger Ws' Ws → wpAnyEL P md ops Vs w0 n L fuel listed a Ws → wpAnyEL P md ops Vs w0 n L fuel listed a Ws'
  | 0, _, _, _, _, hs, h => fun hc => fun w hw => h (hs.cons' hc) w (hs.above hw)
  | fuel + 1, _, _, _, _, hs, h => fun hc =>
    ⟨(h (hs.cons' hc)).1, fun i hi => ⟨((h (hs.cons' hc)).2 i hi).1, eOp_mono hs (fun a X X' hX hk => wpAnyEL_mono fuel _ a X X' hX hk) ((h (hs.cons' hc)).2 i hi).2⟩⟩

theorem wpAny_of_EL {n g : Nat} {L : Array Bool → Act → World → Prop} {Q' : Exit → Act → World → Prop} (hL : ∀ listed a w, L listed a w → wpAny P md ops Q' g listed a w) : ∀ (fuel : Nat) (listed : Array Bool) (a : Act) (Ws : Marks') (w : World), above w0 Ws w →
    wpAnyEL P md ops Vs w0 n L fuel listed a Ws → wpAny P md ops Q' (fuel + g) listed a w
  | 0, _, _, _, w, hw, h => by rw [Nat.zero_add]; exact hL _ _ _ (h ⟨w, hw⟩ w hw)
  | fuel + 1, listed, a, Ws, w, hw, h => by
    rw [show fuel + 1 + g = (fuel + g) + 1 by omega]
    obtain ⟨h1, h2⟩ := h ⟨w, hw⟩
    refine ⟨fun h0 => absurd h0 h1, fun i hi => ?_⟩
    have hh := (h2 i hi).2
    unfold eOp at hh
    unfold wpOp
    split
    · rename_i ho
      simp only [ho] at hh
      exact wpAny_of_EL hL fuel _ _ _ _ hw hh
    · rename_i o ho
      simp only [ho] at hh
      split
      · rename_i hwd
        simp only [hwd, if_true] at hh
        refine .inl ?_
        have h3 := hh w hw.okw
        unfold Oper.yieldsK at h3
        unfold Oper.wp
        generalize (execOp a.eval o).run P w = r at *
        cases r with
        | ok n w' =>
          cases n <;> simp only [yUpon] at h3 <;> simp only [Oper.upon]
          case value v => exact wpAny_of_EL hL fuel _ _ _ _ (hw.step h3.1) h3.2
          case skip => exact wpAny_of_EL hL fuel _ _ _ _ (hw.step h3.1) h3.2
          case enter f args =>
            refine h3.1.mono fun e w'' ⟨v, he, hx, hv⟩ => ?_
            subst he
            exact wpAny_of_EL hL fuel _ _ _ _ (hw.step hx) (h3.2 v w'' hx hv)
          case row row args => exact h3.1.mono fun v w'' ⟨hx, hv⟩ => wpAny_of_EL hL fuel _ _ _ _ (hw.step hx) (h3.2 v w'' hx hv)
        | halt x w' => simp only [yUpon] at h3
      · rename_i hwd
        simp only [hwd] at hh
        exact wpAny_of_EL hL fuel _ _ _ _ hw hh

theorem wpAnyEL_first {n : Nat} {L : Array Bool → Act → World → Prop} {i : Nat} {oi : Oper} (hi : ops[i]? = some oi) (hsel : ∀ (j : Nat) (o : Oper) cs b, ops[j]? = some o → o.op ≠ .select cs b)
    (hs : Region.sinkB md ops n = true) (hc0 : Region.chainB md ops n = true) (hn : n < ops.size) (hin : i < n) (hdone : ∀ listed a w, L listed a w → ∀ j ∈ Region.ready md ops listed, n ≤ j) :
    ∀ (fuel : Nat) (listed : Array Bool) (a : Act) (Ws : Marks'), HeadInv md ops n listed →
      (∀ j oj, ops[j]? = some oj → j ≠ i → listed.getD j true = false → (∀ e ∈ oj.after, Region.binds md e = true → e.on ≠ i) → oi.apart ops oj = true) →
      i ∈ Region.ready md ops listed → eOp P ops Vs w0 i (wpAnyEL P md ops Vs w0 n L fuel (listed.setIfInBounds i true)) a Ws →
      wpAnyEL P md ops Vs w0 n L (fuel + 1) listed a Ws := by
  intro fuel
  induction fuel with
  | zero =>
    intro listed a Ws inv _ hr H hc
    have hun := (mem_ready.1 hr).1
    refine ⟨fun h => (by rw [h] at hr; cases hr), fun j hj => ?_⟩
    have hjn : j < n := by
      rcases Nat.lt_or_ge j n with h | h
      · exact h
      · exact absurd hj (tail_waits hs hc0 hn inv _ i rfl hin hun j h)
    refine ⟨hjn, ?_⟩
    by_cases hji : j = i
    · subst hji; exact H
    · exfalso
      have hm := ready_mono hj hji
      obtain ⟨wc, hwc⟩ := hc
      rcases eOp_at hi H with ⟨_, h⟩ | ⟨_, h⟩
      · obtain ⟨v, w', he, hk⟩ := yUpon_some (h wc hwc.okw)
        have := hdone _ _ _ (hk ⟨w', hwc.step he⟩ w' (hwc.step he)) j hm
        omega
      · have := hdone _ _ _ (h ⟨wc, hwc⟩ wc hwc) j hm
        omega
  | succ fuel ih =>
    intro listed a Ws inv hfree hr H hc
    have hun := (mem_ready.1 hr).1
    refine ⟨fun h => (by rw [h] at hr; cases hr), fun j hj => ?_⟩
    have hjn : j < n := by
      rcases Nat.lt_or_ge j n with h | h
      · exact h
      · exact absurd hj (tail_waits hs hc0 hn inv _ i rfl hin hun j h)
    refine ⟨hjn, ?_⟩
    by_cases hji : j = i
    · subst hji; exact H
    · have hm := ready_mono hj hji
      obtain ⟨hjun, oj, hoj, hall⟩ := mem_ready.1 hj
      have hnot : ∀ e ∈ oj.after, Region.binds md e = true → e.on ≠ i := fun e he hb heq => by
        have h1 := hall e he hb
        have h0 := (mem_ready.1 hr).1
        rw [heq] at h1
        rcases Nat.lt_or_ge i listed.size with h' | h'
        · simp [h'] at h0 h1; rw [h0] at h1; cases h1
        · simp [Array.getElem?_eq_none h'] at h1
      have hap := hfree j oj hoj hji hjun hnot
      obtain ⟨a1, a2, a3⟩ := Oper.apart_spec hap
      have hsi := fun cs b => hsel i oi cs b hi
      have hsj := fun cs b => hsel j oj cs b hoj
      have hfree' : ∀ k ok, ops[k]? = some ok → k ≠ i → (listed.setIfInBounds j true).getD k true = false →
          (∀ e ∈ ok.after, Region.binds md e = true → e.on ≠ i) → oi.apart ops ok = true := fun k ok hk hki hun hno => by
        refine hfree k ok hk hki ?_ hno
        by_cases hjk : j = k
        · subst hjk; exact hjun
        · rw [getD_set_ne true hjk] at hun; exact hun
      have hr' := ready_mono hr (Ne.symm hji)
      have hset := Array.setIfInBounds_comm (xs := listed) true true hji
      obtain ⟨wc, hwc⟩ := hc
      -- operation j behind i, at whatever value of i
      have hj_w : ∀ v, Region.wanted oj (yielded ops (a.put oi.dst v).tmps) = Region.wanted oj (yielded ops a.tmps) := fun v => wanted_put oj a oi.dst v a1
      have hj_e : ∀ v, execOp (a.put oi.dst v).eval oj = execOp a.eval oj := fun v => execOp_put oj hsj a oi.dst v a1
      have hi_w : ∀ u, Region.wanted oi (yielded ops (a.put oj.dst u).tmps) = Region.wanted oi (yielded ops a.tmps) := fun u => wanted_put oi a oj.dst u a3
      have hi_e : ∀ u, execOp (a.put oj.dst u).eval oi = execOp a.eval oi := fun u => execOp_put oi hsi a oj.dst u a3
      refine eOp_mk hoj ?_
      rcases eOp_at hi H with ⟨hiw, hI⟩ | ⟨hiw, hI⟩
      · -- i is wanted
        -- an outcome of i at the world that is above all
        obtain ⟨vc, w1, he1, hk1⟩ := yUpon_some (hI wc hwc.okw)
        have hcomp := ((hk1 ⟨w1, hwc.step he1⟩).2 j hm).2
        rcases eOp_at hoj hcomp with ⟨hjw, hJ⟩ | ⟨hjw, hJ⟩
        · rw [hj_w] at hjw
          refine .inl ⟨hjw, fun w hw => ?_⟩
          -- all instances of what follows j in world w
          have key : yUpon P w (Vs j) (fun u w' => ∀ (x : { x : Value × World // ∃ w2, okw ops w0 Ws oi w2 ∧ Ext w2 x.2 ∧ wpAnyEL P md ops Vs w0 n L (fuel + 1) (listed.setIfInBounds i true) (a.put oi.dst x.1) (adds oi.dst x.2 Ws) ∧ cons' w0 (adds oi.dst x.2 Ws) }),
              wpAnyEL P md ops Vs w0 n L fuel ((listed.setIfInBounds i true).setIfInBounds j true) ((a.put oi.dst x.1.1).put oj.dst u) (adds oj.dst w' (adds oi.dst x.1.2 Ws))) ((execOp a.eval oj).run P w) := by
            refine yUpon_all ⟨(vc, w1), wc, hwc.okw, he1, hk1, ⟨w1, hwc.step he1⟩⟩ ?_
            rintro ⟨⟨v, wv⟩, w2, hk2, he2, hA, hcv⟩
            rcases eOp_at hoj ((hA hcv).2 j hm).2 with ⟨_, hJ2⟩ | ⟨hno, _⟩
            · have := hJ2 w (okw_adds a1 hw)
              unfold Oper.yieldsK at this
              rw [hj_e] at this
              exact this
            · rw [hj_w, hjw] at hno; cases hno
          refine yUpon_mono (fun u w' hew hall2 => ?_) key
          refine ih (listed.setIfInBounds j true) (a.put oj.dst u) (adds oj.dst w' Ws) (inv.set hj hjn) hfree' hr' ?_
          refine eOp_mk hi (.inl ⟨by rw [hi_w]; exact hiw, fun w2 hw2 => ?_⟩)
          have hw2' : okw ops w0 Ws oi w2 := okw_of_adds hw2
          have h4 := hI w2 hw2'
          unfold Oper.yieldsK at h4 ⊢
          rw [hi_e]
          refine yUpon_mono (fun v w3 he3 hA => ?_) h4
          rw [← Act.put_comm a v u a2, hset]
          -- either there is a world above all of it, or nothing is asked
          by_cases hcv : cons' w0 (adds oi.dst w3 (adds oj.dst w' Ws))
          · have hc2 : cons' w0 (adds oi.dst w3 Ws) := by
              have h5 : cons' w0 (adds oj.dst w' (adds oi.dst w3 Ws)) := (stronger.swap Ws oi.dst oj.dst w3 w').cons' hcv
              exact cons_of_adds h5
            exact wpAnyEL_mono fuel _ _ _ _ (stronger.swap Ws oi.dst oj.dst w3 w') (hall2 ⟨(v, w3), w2, hw2', he3, hA, hc2⟩)
          · cases fuel with
            | zero => exact fun hc => absurd hc hcv
            | succ n => exact fun hc => absurd hc hcv
        · rw [hj_w] at hjw
          refine .inr ⟨hjw, ?_⟩
          refine ih (listed.setIfInBounds j true) (a.put oj.dst undef) Ws (inv.set hj hjn) hfree' hr' ?_
          refine eOp_mk hi (.inl ⟨by rw [hi_w]; exact hiw, fun w2 hw2 => ?_⟩)
          have h4 := hI w2 hw2
          unfold Oper.yieldsK at h4 ⊢
          rw [hi_e]
          refine yUpon_mono (fun v w3 he3 hA => ?_) h4
          rw [← Act.put_comm a v undef a2, hset]
          by_cases hcv : cons' w0 (adds oi.dst w3 Ws)
          · rcases eOp_at hoj ((hA hcv).2 j hm).2 with ⟨hno, _⟩ | ⟨_, hJ2⟩
            · rw [hj_w, hjw] at hno; cases hno
            · exact hJ2
          · cases fuel with
            | zero => exact fun hc => absurd hc hcv
            | succ n => exact fun hc => absurd hc hcv
      · -- i is not wanted
        have hcomp := ((hI ⟨wc, hwc⟩).2 j hm).2
        rcases eOp_at hoj hcomp with ⟨hjw, hJ⟩ | ⟨hjw, hJ⟩
        · rw [hj_w] at hjw
          refine .inl ⟨hjw, fun w hw => ?_⟩
          have h4 := hJ w hw
          unfold Oper.yieldsK at h4 ⊢
          rw [hj_e] at h4
          refine yUpon_mono (fun u w' hew hA => ?_) h4
          refine ih (listed.setIfInBounds j true) (a.put oj.dst u) (adds oj.dst w' Ws) (inv.set hj hjn) hfree' hr' ?_
          refine eOp_mk hi (.inr ⟨by rw [hi_w]; exact hiw, ?_⟩)
          rw [← Act.put_comm a undef u a2, hset]
          exact hA
        · rw [hj_w] at hjw
          refine .inr ⟨hjw, ?_⟩
          refine ih (listed.setIfInBounds j true) (a.put oj.dst undef) Ws (inv.set hj hjn) hfree' hr' ?_
          refine eOp_mk hi (.inr ⟨by rw [hi_w]; exact hiw, ?_⟩)
          rw [← Act.put_comm a undef undef a2, hset]
          exact hJ

theorem wpAnyEL_lex {n g : Nat} {Lq : Act → World → Prop} (hsel : Region.noSelect ops = true) (hs : Region.sinkB md ops n = true) (hc : Region.chainB md ops n = true) (hn : n < ops.size) :
    ∀ (l : List Oper) (k : Nat) (listed : Array Bool) (a : Act) (Ws : Marks'), (∀ j, j < l.length → l[j]? = ops[k + j]?) → k + l.length = n → HeadInv md ops n listed →
    Region.lexHead md ops g l.length k listed = true → wpE P ops Vs w0 Lq k l a Ws →
    wpAnyEL P md ops Vs w0 n (fun listed' a' w' => Region.seqB md ops g n listed' = true ∧ Lq a' w') l.length listed a Ws
  | [], k, listed, a, Ws, _, hk, _, hB, h => by
    have : k = n := by simpa using hk
    subst this
    exact fun _ w hw => ⟨by simpa [Region.lexHead] using hB, h w hw⟩
  | o :: l, k, listed, a, Ws, hl, hk, inv, hB, h => by
    have h0 : ops[k]? = some o := by simpa using (hl 0 (by simp)).symm
    simp only [List.length_cons, Region.lexHead, Bool.and_eq_true] at hB
    obtain ⟨⟨hr, hf⟩, hB'⟩ := hB
    have hkn : k < n := by simp only [List.length_cons] at hk; omega
    have hr' : k ∈ Region.ready md ops listed := by simpa using hr
    have hst : eOp P ops Vs w0 k (wpE P ops Vs w0 Lq (k + 1) l) a Ws := by unfold eOp; simp only [h0]; exact h
    refine wpAnyEL_first h0 (Region.noSelect_spec hsel) hs hc hn hkn (fun listed' a' w' hL => seqB_ready hL.1) l.length listed a Ws inv (Region.free_spec h0 hf) hr' ?_
    unfold eOp at hst ⊢
    simp only [h0] at hst ⊢
    have hl' : ∀ j, j < l.length → l[j]? = ops[k + 1 + j]? := fun j hj => by have := hl (j + 1) (by simp; omega); simpa [Nat.add_assoc, Nat.add_comm 1 j] using this
    have hk' : k + 1 + l.length = n := by simp only [List.length_cons] at hk; omega
    split at hst
    · rename_i hw
      rw [if_pos hw]
      exact fun w hk => yUpon_mono (fun v w' _ hv => wpAnyEL_lex hsel hs hc hn l (k + 1) _ _ _ hl' hk' (inv.set hr' hkn) hB' hv) (hst w hk)
    · rename_i hw
      rw [if_neg hw]
      exact wpAnyEL_lex hsel hs hc hn l (k + 1) _ _ _ hl' hk' (inv.set hr' hkn) hB' hst

/-- **A region that draws its order, with a tail.** -/
theorem wp_region_ext_tail (n : Nat) (Vs : Nat → Value → World → Prop) {id : Nat} {Q : Exit → Act → World → Prop} {a : Act} {w : World} {l : List Oper} (hm : P.follows .mixedOrders = true) (hB : Region.lexTailB .any l.toArray n = true)
    (h : wpE P l.toArray Vs w.drew (fun a' w' => wpList P l.toArray Q (l.drop n) a' w') 0 (l.take n) a []) : (Code.region id l.toArray true).wp P Q a w := by
  simp only [Region.lexTailB, Bool.and_eq_true, decide_eq_true_eq] at hB
  obtain ⟨⟨⟨⟨hsel, hn⟩, hs⟩, hc⟩, hlex⟩ := hB
  have hn' : n < l.length := by simpa using hn
  have htl : (l.take n).length = n := by simp; omega
  have hdl : (l.drop n).length = l.toArray.size - n := by simp
  have inv0 : HeadInv .any l.toArray n (Array.replicate l.toArray.size false) :=
    ⟨by simp, fun j oj _ hl => (by rw [getD_replicate_false] at hl; cases hl), fun t _ ht => getD_in (by simpa using ht) (getD_replicate_false _ _)⟩
  have H := wpAnyEL_lex (md := .any) (g := l.toArray.size - n) hsel hs hc hn (l.take n) 0 _ a [] (fun j hj => by
    have hj' : j < n := by rw [htl] at hj; exact hj
    simp [hj']) (by simpa using htl) inv0 (by rw [htl]; exact hlex) h
  refine wp_region_any hm ?_
  have := wpAny_of_EL (w0 := w.drew) (Q' := Q) (g := l.toArray.size - n) (fun listed a' w' hL => by
    have := wpAny_of_seq (md := .any) (Q' := Q) (l.drop n) n listed a' w' (fun j => by simp [List.getElem?_drop]) (by rw [hdl]; exact hL.1) hL.2
    rwa [hdl] at this) _ _ _ [] w.drew ⟨Ext.refl _, fun _ _ h => by cases h⟩ H
  rw [htl, show n + (l.toArray.size - n) = l.toArray.size by omega] at this
  exact this
end
#print axioms wp_region_ext_tail
end Go.Proofs.YtgfjmmdkdhodiaaGreatDoor
