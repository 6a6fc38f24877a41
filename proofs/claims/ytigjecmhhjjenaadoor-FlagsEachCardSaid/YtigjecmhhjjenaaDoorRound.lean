/- Regions that draw their order, in a round of a loop over an iterator: the quiet rule, and the rule of XExt. No program. -/
import Derived.Test.YtigjecmhhjjenaaDoorRange
import Derived.Deep.Quiet
import Derived.OrdersIn
namespace Go.Proofs.YtigjecmhhjjenaaDoor
open Go Go.RowKit
set_option linter.unusedVariables false

section
variable {P : Program} {ops : Array Oper} {md : Region.Mode} {lr : Nat}

theorem defer_not {ρ : Operand → Value} {o : Oper} {w : World} (h : ∃ c, o.op = .defer c) : (∃ d w', (execOp ρ o).run P w = .ok (.defer d) w') ∨ ∃ x w', (execOp ρ o).run P w = .halt x w' := by
  obtain ⟨c, ho⟩ := h
  unfold execOp
  rw [ho]
  simp only [Sem.run_bind]
  cases (resolve ρ c o.type).run P w with
  | ok d w' => exact .inl ⟨d, w', by simp [Result.andThen]⟩
  | halt x w' => exact .inr ⟨x, w', by simp [Result.andThen]⟩

theorem rows_round {row : String} {args : Array Value} {w : World} {R : Value → World → Prop} (h : Rows P row args w R) : RowsIn (Fence.wide.inRound lr) 0 P row args w R := by
  intro c cs _
  obtain ⟨v, w', r, s⟩ := h c cs
  exact ⟨v, w', r, stepsIn_wide.2 s⟩

theorem wpIn_of_y {w0 : World} {o : Oper} {a : Act} {w : World} {V K : Value → World → Prop} {K' : Act → World → Prop} {Q' : Exit → Act → World → Prop} (h : Oper.yieldsK P o a w V K) (hK : ∀ v w', Ext w w' → K v w' → K' (a.put o.dst v) w') :
    o.wpIn (Fence.wide.inRound lr) 0 P a w K' Q' := by
  refine ⟨fun _ _ => trivial, ?_⟩
  by_cases hd : ∃ c, o.op = .defer c
  · unfold Oper.yieldsK at h
    rcases defer_not (P := P) (ρ := a.eval) (w := w) hd with ⟨d, w', e⟩ | ⟨x, w', e⟩
    · rw [e] at h; exact h.elim
    · rw [e] at h; exact h.elim
  · rw [Oper.semAt_eq _ _ _ (fun c e => hd ⟨c, e⟩)]
    unfold Oper.yieldsK at h
    generalize (execOp a.eval o).run P w = r at *
    cases r with
    | ok n w' =>
      cases n <;> simp only [yUpon] at h <;> simp only [Oper.uponIn]
      case value v => exact hK _ _ h.1 h.2
      case skip => exact hK _ _ h.1 h.2
      case enter f args =>
        refine ⟨fun hh => by simp [Fence.inRound, Fence.wide] at hh, CallsIn.inRound lr (callsIn_wide.2 (h.1.mono fun e w'' ⟨v, he, hx, hv⟩ => ?_))⟩
        subst he
        exact hK _ _ hx (h.2 v w'' hx hv)
      case row row args =>
        obtain ⟨h1, h2⟩ := h
        refine ⟨fun hh => by simp [Fence.inRound, Fence.wide] at hh, rows_round (h1.mono fun v w'' ⟨hx, hv⟩ => hK _ _ hx (h2 v w'' hx hv))⟩
    | halt x w' => simp only [yUpon] at h

theorem wpAnyIn_of_E {w0 : World} {Vs : Nat → Value → World → Prop} {Q : Act → World → Prop} {Q' : Exit → Act → World → Prop} (hQ : ∀ a w, Q a w → Q' .normal a w) : ∀ (fuel : Nat) (listed : Array Bool) (a : Act) (Ws : Marks') (w : World), above w0 Ws w →
    wpAnyE P md ops Vs w0 Q fuel listed a Ws → wpAnyIn (Fence.wide.inRound lr) 0 P md ops Q' fuel listed a w
  | 0, _, _, _, w, hw, h => ⟨(h ⟨w, hw⟩).1, hQ _ _ ((h ⟨w, hw⟩).2 w hw)⟩
  | fuel + 1, listed, a, Ws, w, hw, h => by
    obtain ⟨h1, h2⟩ := h ⟨w, hw⟩
    refine ⟨fun h0 => hQ _ _ (h1 h0 w hw), fun i hi => ?_⟩
    have hh := h2 i hi
    unfold eOp at hh
    unfold wpOpIn
    split
    · rename_i ho
      simp only [ho] at hh
      exact wpAnyIn_of_E hQ fuel _ _ _ _ hw hh
    · rename_i o ho
      simp only [ho] at hh
      split
      · rename_i hwd
        simp only [hwd, if_true] at hh
        exact wpIn_of_y (w0 := w0) (hh w hw.okw) (fun v w' hx hk => wpAnyIn_of_E hQ fuel _ _ _ _ (hw.step hx) hk)
      · rename_i hwd
        simp only [hwd] at hh
        exact ⟨fun _ _ => trivial, wpAnyIn_of_E hQ fuel _ _ _ _ hw hh⟩

/-- A region that draws its order, in a round: walked once in the order of the text. -/
theorem wp_round_ext (Vs : Nat → Value → World → Prop) {id : Nat} {Q : Exit → Act → World → Prop} {a : Act} {w : World} {l : List Oper} (hm : P.follows .mixedOrders = true) (hB : Region.lexB .any l.toArray = true)
    (h : wpE P l.toArray Vs w.drew (fun a' w' => Q .normal a' w') 0 l a []) : (Code.region id l.toArray true).wpIn (Fence.wide.inRound lr) 0 P Q a w := by
  simp only [Region.lexB, Bool.and_eq_true] at hB
  refine wpIn_region_any hm (wpAnyIn_of_E (w0 := w.drew) (Ws := []) (Q := fun a' w' => Q .normal a' w') (Vs := Vs) (fun _ _ h => h) _ _ _ _ ⟨Ext.refl _, fun _ _ h => by cases h⟩ ?_)
  have := wpAnyE_lex (Vs := Vs) (md := .any) hB.1 l 0 (Array.replicate l.length false) a [] (by simp) (by simpa using hB.2) h
  simpa using this

theorem wpIn_of_quietR {C : World → Prop} {o : Oper} {a : Act} {K : Act → Prop} {K' : Act → World → Prop} {Q' : Exit → Act → World → Prop} {w : World} (hw : C w) (h : ∀ a w', C w' → K a → K' a w') (hh : o.quiet P a C K) :
    o.wpIn (Fence.wide.inRound lr) 0 P a w K' Q' := by
  obtain ⟨v, h1, h2⟩ := hh
  have h3 := h1 w hw
  unfold Oper.quietAt at h3
  refine ⟨fun _ _ => trivial, ?_⟩
  by_cases hd : ∃ c, o.op = .defer c
  · rcases defer_not (P := P) (ρ := a.eval) (w := w) hd with ⟨d, w', e⟩ | ⟨x, w', e⟩
    · rw [e] at h3; exact h3.elim
    · rw [e] at h3; exact h3.elim
  · rw [Oper.semAt_eq _ _ _ (fun c e => hd ⟨c, e⟩)]
    generalize (execOp a.eval o).run P w = r at *
    cases r with
    | ok n w' =>
      cases n <;> simp only [Oper.quietUpon] at h3 <;> simp only [Oper.uponIn]
      case value u => obtain ⟨rfl, rfl⟩ := h3; exact h _ _ hw h2
      case skip => obtain ⟨rfl, rfl⟩ := h3; exact h _ _ hw h2
      case enter f args =>
        obtain ⟨rfl, h4⟩ := h3
        refine ⟨fun hh => by simp [Fence.inRound, Fence.wide] at hh, CallsIn.inRound lr (callsIn_wide.2 (h4.mono fun e w'' ⟨he, hc⟩ => ?_))⟩
        subst he
        exact h _ _ hc h2
    | halt x w' => simp only [Oper.quietUpon] at h3
theorem wpAnyIn_of_quietR {C : World → Prop} {Q : Act → Prop} {Q' : Exit → Act → World → Prop} (hQ : ∀ a w, C w → Q a → Q' .normal a w) : ∀ (fuel : Nat) (listed : Array Bool) (a : Act) (w : World), C w →
    wpAnyQ P md ops C Q fuel listed a → wpAnyIn (Fence.wide.inRound lr) 0 P md ops Q' fuel listed a w
  | 0, _, _, _, hw, h => ⟨h.1, hQ _ _ hw h.2⟩
  | fuel + 1, listed, a, w, hw, h => by
    refine ⟨fun h0 => hQ _ _ hw (h.1 h0), fun i hi => ?_⟩
    have hh := h.2 i hi
    unfold qOp at hh
    unfold wpOpIn
    split
    · rename_i ho; simp only [ho] at hh; exact wpAnyIn_of_quietR hQ fuel _ _ _ hw hh
    · rename_i o ho
      simp only [ho] at hh
      split
      · rename_i hwd; simp only [hwd, if_true] at hh; exact wpIn_of_quietR hw (fun a' w' hw' hk => wpAnyIn_of_quietR hQ fuel _ a' w' hw' hk) hh
      · rename_i hwd; simp only [hwd] at hh; exact ⟨fun _ _ => trivial, wpAnyIn_of_quietR hQ fuel _ _ _ hw hh⟩
/-- A region that draws its order and only reads, in a round. -/
theorem wp_round_quiet {id : Nat} {Q : Exit → Act → World → Prop} {a : Act} {w : World} {l : List Oper} (hm : P.follows .mixedOrders = true) (hB : Region.lexB .any l.toArray = true)
    (h : wpQuiet P l.toArray (fun w' => ∃ n, w' = w.drewN n) (fun a' => ∀ w', (∃ n, w' = w.drewN n) → Q .normal a' w') l a) : (Code.region id l.toArray true).wpIn (Fence.wide.inRound lr) 0 P Q a w := by
  simp only [Region.lexB, Bool.and_eq_true] at hB
  refine wpIn_region_any hm (wpAnyIn_of_quietR (C := fun w' => ∃ n, w' = w.drewN n) (Q := fun a' => ∀ w', (∃ n, w' = w.drewN n) → Q .normal a' w') (fun _ w' hw' h => h w' hw') _ _ _ _ ⟨1, rfl⟩ ?_)
  have := wpAnyQ_lex (C := fun w' => ∃ n, w' = w.drewN n) (md := .any) hB.1 l 0 (Array.replicate l.length false) a (by simp) (by simpa using hB.2) h
  simpa using this
end
#print axioms wp_round_quiet
end Go.Proofs.YtigjecmhhjjenaaDoor
