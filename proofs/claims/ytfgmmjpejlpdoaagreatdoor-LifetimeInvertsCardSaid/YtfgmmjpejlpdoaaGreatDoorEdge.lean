/- A drawn region: an edge from a later operation to a pure extraction may be added. No program. -/
import Derived.Test.YtfgmmjpejlpdoaaGreatDoorExt2
namespace Go.Proofs.YtfgmmjpejlpdoaaGreatDoor
open Go Go.RowKit

section
variable {P : Program} {ops : Array Oper} {md : Region.Mode}

/-- A post that speaks of the normal end alone. -/
def nml (N : Act → World → Prop) : Exit → Act → World → Prop := fun e a w => e = .normal ∧ N a w
theorem nml_lets {N : Act → World → Prop} (h : LetsOut (nml N)) : False := by
  obtain ⟨a, w, h, _⟩ := h
  cases h

theorem upon_monoQ {o : Oper} {a : Act} {K : Act → World → Prop} {Q Q2 : Exit → Act → World → Prop} (hQ : ∀ e a w, Q e a w → Q2 e a w) {r : Result Next} (h : o.upon P a K Q r) : o.upon P a K Q2 r := by
  cases r with
  | ok n w' =>
    cases n <;> simp only [Oper.upon] at h ⊢
    case value v => exact h
    case skip => exact h
    case defer d => exact h
    case enter f args =>
      refine Calls.mono h fun e w'' he => ?_
      cases e with
      | returned u => exact he
      | panicked c => exact hQ _ _ _ he
      | outgrown => obtain ⟨a, w, hl⟩ := he; exact ⟨a, w, hQ _ _ _ hl⟩
    case row row args => exact h
  | halt x w' =>
    cases x <;> simp only [Oper.upon] at h ⊢
    case panic u => exact hQ _ _ _ h
theorem wpOp_monoQ {i : Nat} {a : Act} {w : World} {K : Act → World → Prop} {Q Q2 : Exit → Act → World → Prop} (hQ : ∀ e a w, Q e a w → Q2 e a w) (h : wpOp P ops Q i K a w) : wpOp P ops Q2 i K a w := by
  unfold wpOp at h ⊢
  split
  · rename_i ho; simp only [ho] at h; exact h
  · rename_i o ho
    simp only [ho] at h
    split
    · rename_i hw
      simp only [hw, if_true] at h
      rcases h with h | ⟨h1, a2, w2, h2⟩
      · exact .inl (upon_monoQ hQ h)
      · exact .inr ⟨h1, a2, w2, hQ _ _ _ h2⟩
    · rename_i hw
      simp only [hw] at h
      exact h
theorem wpAny_monoQ {Q Q2 : Exit → Act → World → Prop} (hQ : ∀ e a w, Q e a w → Q2 e a w) : ∀ (fuel : Nat) (listed : Array Bool) (a : Act) (w : World), wpAny P md ops Q fuel listed a w → wpAny P md ops Q2 fuel listed a w
  | 0, _, _, _, h => ⟨h.1, hQ _ _ _ h.2⟩
  | fuel + 1, _, _, _, h => ⟨fun h0 => hQ _ _ _ (h.1 h0), fun i hi => wpOp_monoQ hQ (wpOp_mono (fun a w hk => wpAny_monoQ hQ fuel _ a w hk) (h.2 i hi))⟩

theorem run_stuck' {α : Type} (m : String) (w : World) : ∃ s w', (stuck m : Sem α).run P w = .halt (.stuck s) w' := by
  unfold stuck
  exact ⟨_, _, rfl⟩
theorem extract_run (ρ : Operand → Value) (o : Oper) (x : Operand) (i : Nat) (ho : o.op = .extract x i) : (∃ v, ∀ w, (execOp ρ o).run P w = .ok (.value v) w) ∨ ∀ w, ∃ s w', (execOp ρ o).run P w = .halt (.stuck s) w' := by
  have key : (∃ v, Instr.extract (ρ x) i = pure v) ∨ ∃ m, Instr.extract (ρ x) i = stuck m := by
    unfold Instr.extract
    split
    · split
      · exact .inl ⟨_, rfl⟩
      · exact .inr ⟨_, rfl⟩
    · exact .inr ⟨_, rfl⟩
  have he : execOp ρ o = (do pure (Next.value (← Instr.extract (ρ x) i)) : Sem Next) := by
    unfold execOp
    rw [ho]
  rcases key with ⟨v, hv⟩ | ⟨m, hm⟩
  · exact .inl ⟨v, fun w => by rw [he, hv]; simp [Sem.run_pure]⟩
  · refine .inr fun w => ?_
    obtain ⟨s, w', h⟩ := run_stuck' (P := P) (α := Value) m w
    exact ⟨s, w', by rw [he, hm, Sem.run_bind, h]; rfl⟩

/-- An extraction that goes through is pure. -/
theorem extract_pure {p : Nat} {op : Oper} {x : Operand} {i : Nat} (hp : ops[p]? = some op) (ho : op.op = .extract x i) (hg : op.guard = none) {N : Act → World → Prop} {K : Act → World → Prop} {a : Act} {w : World} (h : wpOp P ops (nml N) p K a w) :
    ∃ v, Yields P ops op v a ∧ K (a.put op.dst v) w := by
  unfold wpOp at h
  simp only [hp] at h
  have hw : Region.wanted op (yielded ops a.tmps) = true := by unfold Region.wanted; rw [hg]
  rw [if_pos hw] at h
  rcases h with h | ⟨_, h⟩
  · unfold Oper.wp at h
    rcases extract_run (P := P) a.eval op x i ho with ⟨v, hv⟩ | hs
    · rw [hv] at h
      exact ⟨v, .inl ⟨hw, hv⟩, h⟩
    · obtain ⟨s, w', h2⟩ := hs w
      rw [h2] at h
      exact absurd h (by simp [Oper.upon])
  · exact (nml_lets h).elim

/-- The region with an edge more. -/
def withEdge (ops : Array Oper) (t p : Nat) : Array Oper := match ops[t]? with
  | some ot => ops.setIfInBounds t { ot with after := ot.after.push ⟨p, .data⟩ }
  | none => ops
theorem withEdge_get {t p : Nat} {ot : Oper} (ht : ops[t]? = some ot) (j : Nat) : (withEdge ops t p)[j]? = if t = j then some { ot with after := ot.after.push ⟨p, .data⟩ } else ops[j]? := by
  unfold withEdge
  rw [ht]
  simp only [Array.getElem?_setIfInBounds]
  have hlt : t < ops.size := (Array.getElem?_eq_some_iff.1 ht).1
  by_cases h : t = j
  · subst h; simp [hlt]
  · simp [h]
theorem withEdge_size (t p : Nat) : (withEdge ops t p).size = ops.size := by
  unfold withEdge; split <;> simp
theorem withEdge_yielded {t p : Nat} {ot : Oper} (ht : ops[t]? = some ot) (tmps : Array Value) : yielded (withEdge ops t p) tmps = yielded ops tmps := by
  funext j
  unfold yielded
  rw [withEdge_get ht]
  by_cases h : t = j
  · subst h; rw [ht]; simp
  · simp [h]
theorem withEdge_wpOp {t p : Nat} {ot : Oper} (ht : ops[t]? = some ot) {Q : Exit → Act → World → Prop} {i : Nat} {K : Act → World → Prop} {a : Act} {w : World} (h : wpOp P (withEdge ops t p) Q i K a w) : wpOp P ops Q i K a w := by
  unfold wpOp at h ⊢
  rw [withEdge_get ht] at h
  by_cases hi : t = i
  · subst hi
    simp only [if_true, ht] at h ⊢
    rw [withEdge_yielded ht] at h
    exact h
  · simp only [hi, if_false] at h
    rw [withEdge_yielded ht] at h
    exact h

theorem withEdge_ready {t p : Nat} {ot : Oper} (ht : ops[t]? = some ot) {listed : Array Bool} {j : Nat} (h : j ∈ Region.ready md (withEdge ops t p) listed) : j ∈ Region.ready md ops listed := by
  obtain ⟨h0, o, ho, hall⟩ := mem_ready.1 h
  rw [withEdge_get ht] at ho
  by_cases hj : t = j
  · subst hj
    simp only [if_true, Option.some.injEq] at ho
    subst ho
    exact mem_ready.2 ⟨h0, ot, ht, fun e he hb => hall e (Array.mem_push.2 (.inl he)) hb⟩
  · simp only [hj, if_false] at ho
    exact mem_ready.2 ⟨h0, o, ho, hall⟩
theorem ready_withEdge {t p : Nat} {ot : Oper} (ht : ops[t]? = some ot) {listed : Array Bool} {j : Nat} (h : j ∈ Region.ready md ops listed) (hj : j = t → listed.getD p false = true) : j ∈ Region.ready md (withEdge ops t p) listed := by
  obtain ⟨h0, o, ho, hall⟩ := mem_ready.1 h
  by_cases hjt : t = j
  · subst hjt
    have : o = ot := Option.some.inj (ho.symm.trans ht)
    subst this
    refine mem_ready.2 ⟨h0, { o with after := o.after.push ⟨p, .data⟩ }, by rw [withEdge_get ht]; simp, fun e he hb => ?_⟩
    rcases Array.mem_push.1 he with he | rfl
    · exact hall e he hb
    · exact hj rfl
  · exact mem_ready.2 ⟨h0, o, by rw [withEdge_get ht]; simp [hjt, ho], hall⟩

theorem wpAny_edge {t p : Nat} {ot op : Oper} {x : Operand} {i : Nat} (ht : ops[t]? = some ot) (hp : ops[p]? = some op) (hpt : p ≠ t) (ho : op.op = .extract x i) (hg : op.guard = none)
    (hsel : Region.noSelect ops = true)
    (hdeps : ∀ e ∈ op.after, Region.binds md e = true → ∃ e' ∈ ot.after, Region.binds md e' = true ∧ e'.on = e.on)
    (hnot : ∀ e ∈ ot.after, Region.binds md e = true → e.on ≠ p)
    (hfree : ∀ j oj, ops[j]? = some oj → j ≠ p → (∀ e ∈ oj.after, Region.binds md e = true → e.on ≠ p) → (∀ e ∈ op.after, Region.binds md e = true → e.on ≠ j) → op.apart ops oj = true)
    {N : Act → World → Prop} : ∀ (fuel : Nat) (listed : Array Bool) (a : Act) (w : World), listed.size = ops.size → wpAny P md (withEdge ops t p) (nml N) fuel listed a w → wpAny P md ops (nml N) fuel listed a w := by
  have hplt : p < ops.size := (Array.getElem?_eq_some_iff.1 hp).1
  -- p is ready where t is
  have hpr : ∀ listed : Array Bool, listed.size = ops.size → t ∈ Region.ready md ops listed → listed.getD p false = false → p ∈ Region.ready md ops listed := by
    intro listed hz h hl
    obtain ⟨_, o, ho', hall⟩ := mem_ready.1 h
    have : o = ot := Option.some.inj (ho'.symm.trans ht)
    subst this
    refine mem_ready.2 ⟨getD_in (by omega) hl, op, hp, fun e he hb => ?_⟩
    obtain ⟨e', he', hb', hon⟩ := hdeps e he hb
    rw [← hon]
    exact hall e' he' hb'
  intro fuel
  induction fuel using Nat.strongRecOn with
  | _ fuel ih =>
    intro listed a w hz h
    have hempty : Region.ready md (withEdge ops t p) listed = [] → Region.ready md ops listed = [] := by
      intro h0
      rcases hr : Region.ready md ops listed with _ | ⟨j, l⟩
      · rfl
      · exfalso
        have hj : j ∈ Region.ready md ops listed := by rw [hr]; simp
        by_cases hc : j = t ∧ listed.getD p false = false
        · obtain ⟨rfl, hl⟩ := hc
          have := ready_withEdge (p := p) ht (hpr listed hz hj hl) (fun e => absurd e hpt)
          rw [h0] at this
          cases this
        · have := ready_withEdge (p := p) ht hj (fun e => by
            cases hl : listed.getD p false with
            | true => rfl
            | false => exact absurd ⟨e, hl⟩ hc)
          rw [h0] at this
          cases this
    cases fuel with
    | zero => exact ⟨hempty h.1, h.2⟩
    | succ f =>
      refine ⟨fun h0 => h.1 ?_, fun j hj => ?_⟩
      · rcases hr : Region.ready md (withEdge ops t p) listed with _ | ⟨j, l⟩
        · rfl
        · have := withEdge_ready ht (show j ∈ Region.ready md (withEdge ops t p) listed by rw [hr]; simp)
          rw [h0] at this
          cases this
      · by_cases hc : j = t ∧ listed.getD p false = false
        · obtain ⟨rfl, hl⟩ := hc
          have hprd := hpr listed hz hj hl
          obtain ⟨v, hy, hk⟩ := extract_pure hp ho hg (withEdge_wpOp ht (h.2 p (ready_withEdge ht hprd (fun e => absurd e hpt))))
          -- behind p, t is ready
          have hset : (listed.setIfInBounds p true).getD p false = true := by
            have : p < listed.size := by omega
            simp [this]
          have htr : j ∈ Region.ready md (withEdge ops j p) (listed.setIfInBounds p true) := ready_withEdge ht (ready_mono hj (Ne.symm hpt)) (fun _ => hset)
          cases f with
          | zero =>
            have h1 := hk.1
            rw [h1] at htr
            cases htr
          | succ f =>
            have h2 := withEdge_wpOp ht (hk.2 j htr)
            have hap : op.apart ops ot = true := by
              refine hfree j ot ht (Ne.symm hpt) hnot fun e he hb hon => ?_
              obtain ⟨_, o', ho', hall⟩ := mem_ready.1 hprd
              have : o' = op := Option.some.inj (ho'.symm.trans hp)
              subst this
              have h3 := hall e he hb
              rw [hon] at h3
              have h4 := (mem_ready.1 hj).1
              rw [getD_both h4] at h3
              cases h3
            have h3 := wpOp_put (P := P) (Q := nml N) (ops := ops) ht hap (fun cs b => Region.noSelect_spec hsel p op cs b hp) (fun cs b => Region.noSelect_spec hsel j ot cs b ht) (fun c a w hh => by cases hh.1) hy h2
            refine wpOp_mono (fun a' w' ⟨hy', hk'⟩ => ?_) h3
            rw [Array.setIfInBounds_comm _ _ hpt] at hk'
            have h4 := ih f (by omega) _ _ _ (by simp [hz]) hk'
            refine wpAny_first hp (Region.noSelect_spec hsel) (fun c a w hh => by cases hh.1) f _ a' w' (fun k ok hok hkp hun hno => ?_) (ready_mono hprd hpt) hy' h4
            refine hfree k ok hok hkp hno fun e he hb hon => ?_
            obtain ⟨_, o', ho', hall⟩ := mem_ready.1 hprd
            have : o' = op := Option.some.inj (ho'.symm.trans hp)
            subst this
            have h5 := hall e he hb
            rw [hon] at h5
            have h6 := getD_set_true (i := j) h5
            rw [getD_both hun] at h6
            cases h6
        · have hj' := ready_withEdge (p := p) ht hj (fun e => by
            cases hl : listed.getD p false with
            | true => rfl
            | false => exact absurd ⟨e, hl⟩ hc)
          exact wpOp_mono (fun a' w' hk => ih f (by omega) _ a' w' (by simp [hz]) hk) (withEdge_wpOp ht (h.2 j hj'))

/-- What wpAny_edge asks, to be reckoned. -/
def edgeB (ops : Array Oper) (t p : Nat) : Bool :=
  match ops[t]?, ops[p]? with
  | some ot, some op => decide (p ≠ t) && Region.noSelect ops && op.guard.isNone && (match op.op with | .extract .. => true | _ => false) &&
      (op.after.all fun e => !Region.binds .any e || ot.after.any fun e' => Region.binds .any e' && e'.on == e.on) &&
      (ot.after.all fun e => !Region.binds .any e || e.on != p) &&
      ((List.range ops.size).all fun j => match ops[j]? with
        | some oj => j == p || (oj.after.any fun e => Region.binds .any e && e.on == p) || (op.after.any fun e => Region.binds .any e && e.on == j) || op.apart ops oj
        | none => true)
  | _, _ => false

theorem wpAny_edgeB {t p : Nat} (h : edgeB ops t p = true) {N : Act → World → Prop} (fuel : Nat) (listed : Array Bool) (a : Act) (w : World) (hz : listed.size = ops.size) (hh : wpAny P .any (withEdge ops t p) (nml N) fuel listed a w) : wpAny P .any ops (nml N) fuel listed a w := by
  unfold edgeB at h
  split at h
  · rename_i ot op ht hp
    simp only [Bool.and_eq_true, decide_eq_true_eq] at h
    obtain ⟨⟨⟨⟨⟨⟨h1, h2⟩, h3⟩, h4⟩, h5⟩, h6⟩, h7⟩ := h
    split at h4
    · rename_i x i ho
      refine wpAny_edge ht hp h1 ho (by simpa using h3) h2 ?_ ?_ ?_ fuel listed a w hz hh
      · intro e he hb
        have := Array.all_eq_true_iff_forall_mem.1 h5 e he
        simp only [hb, Bool.not_true, Bool.false_or] at this
        obtain ⟨e', he', hb'⟩ := Array.any_eq_true'.1 this
        simp only [Bool.and_eq_true, beq_iff_eq] at hb'
        exact ⟨e', he', hb'.1, hb'.2⟩
      · intro e he hb
        have := Array.all_eq_true_iff_forall_mem.1 h6 e he
        simp only [hb, Bool.not_true, Bool.false_or] at this
        simpa using this
      · intro j oj hj hjp hn1 hn2
        have hlt : j < ops.size := (Array.getElem?_eq_some_iff.1 hj).1
        have := List.all_eq_true.1 h7 j (List.mem_range.2 hlt)
        simp only [hj, Bool.or_eq_true, beq_iff_eq] at this
        rcases this with ((this | this) | this) | this
        · exact absurd this hjp
        · obtain ⟨e, he, hb⟩ := Array.any_eq_true'.1 this
          simp only [Bool.and_eq_true, beq_iff_eq] at hb
          exact absurd hb.2 (hn1 e he hb.1)
        · obtain ⟨e, he, hb⟩ := Array.any_eq_true'.1 this
          simp only [Bool.and_eq_true, beq_iff_eq] at hb
          exact absurd hb.2 (hn2 e he hb.1)
        · exact this
    · cases h4
  · cases h

/-- **A drawn region with a tail, an edge more from the tail to an extraction.** -/
theorem wp_region_ext_edge (n t p : Nat) (Vs : Nat → Value → World → Prop) {id : Nat} {Q : Exit → Act → World → Prop} {a : Act} {w : World} {l : List Oper} (hm : P.follows .mixedOrders = true) (hE : edgeB l.toArray t p = true)
    (hB : Region.lexTailB .any (withEdge l.toArray t p) n = true)
    (h : wpE P (withEdge l.toArray t p) Vs w.drew (fun a' w' => wpList P (withEdge l.toArray t p) (nml fun a w => Q .normal a w) ((withEdge l.toArray t p).toList.drop n) a' w') 0 ((withEdge l.toArray t p).toList.take n) a []) : (Code.region id l.toArray true).wp P Q a w := by
  have hsz := withEdge_size (ops := l.toArray) t p
  generalize hl' : (withEdge l.toArray t p).toList = l' at h
  have hl : withEdge l.toArray t p = l'.toArray := by rw [← hl']
  have hB' := hB
  simp only [Region.lexTailB, Bool.and_eq_true, decide_eq_true_eq] at hB
  obtain ⟨⟨⟨⟨hsel, hn⟩, hs⟩, hc⟩, hlex⟩ := hB
  rw [hl] at h hsel hn hs hc hlex hsz
  have hn' : n < l'.length := by simpa using hn
  have htl : (l'.take n).length = n := by simp; omega
  have hdl : (l'.drop n).length = l'.toArray.size - n := by simp
  have inv0 : HeadInv .any l'.toArray n (Array.replicate l'.toArray.size false) :=
    ⟨by simp, fun j oj _ hl => (by rw [getD_replicate_false] at hl; cases hl), fun t _ ht => getD_in (by simpa using ht) (getD_replicate_false _ _)⟩
  have H := wpAnyEL_lex (md := .any) (g := l'.toArray.size - n) hsel hs hc hn (l'.take n) 0 _ a [] (fun j hj => by
    have hj' : j < n := by rw [htl] at hj; exact hj
    simp [hj']) (by simpa using htl) inv0 (by rw [htl]; exact hlex) h
  refine wp_region_any hm ?_
  have := wpAny_of_EL (w0 := w.drew) (Q' := nml fun a w => Q .normal a w) (g := l'.toArray.size - n) (fun listed a' w' hL => by
    have := wpAny_of_seq (md := .any) (Q' := nml fun a w => Q .normal a w) (l'.drop n) n listed a' w' (fun j => by simp [List.getElem?_drop]) (by rw [hdl]; exact hL.1) hL.2
    rwa [hdl] at this) _ _ _ [] w.drew ⟨Ext.refl _, fun _ _ h => by cases h⟩ H
  rw [htl, show n + (l'.toArray.size - n) = l'.toArray.size by omega, ← hl, withEdge_size] at this
  have h2 := wpAny_edgeB hE _ _ _ _ (by simp) this
  exact wpAny_monoQ (fun e a w ⟨he, hq⟩ => he ▸ hq) _ _ _ _ h2
end
#print axioms wp_region_ext_edge
end Go.Proofs.YtfgmmjpejlpdoaaGreatDoor
