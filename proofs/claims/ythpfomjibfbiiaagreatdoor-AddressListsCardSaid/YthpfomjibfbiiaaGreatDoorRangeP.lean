/- A loop over an iterator that keeps what it is at in a cell of its own: what it must find again speaks of what has come ('It pre'). No program. -/
import Derived.Test.YthpfomjibfbiiaaGreatDoorRange
namespace Go.Proofs.YthpfomjibfbiiaaGreatDoor
open Go Go.RowKit
section
variable {P : Program}
/-- An iterator's contract. It: what it must find; G: what holds of what it hands over (what has come before, what comes now, in which world); own: blocks of its own that it writes; S: all that comes; Sp: a part that may have come when a round has said no more. -/
def IterP {α : Type} (P : Program) (gf : Nat) (lb : Array Value) (encs : α → Array Value) (It : List α → World → Prop) (G : List α → α → World → Prop) (own : Nat → Prop) (S Sp : List α → Prop) : Prop :=
  ∀ (l : Nat) (J Jx : List α → World → Prop) (W : World),
    (∀ pre A B r, (∀ k, r = some k → own k) → A.grownBy B r → J pre A → J pre B) → (∀ pre A B r, (∀ k, r = some k → own k) → A.grownBy B r → Jx pre A → Jx pre B) →
    (∀ pre x W1, J pre W1 → It pre W1 → G pre x W1 → YieldAt Fence.wide 0 P l (encs x) W1 fun e W' =>
      (e = .returned (.bool true) ∧ J (pre ++ [x]) W' ∧ It pre W') ∨ (e = .returned (.bool false) ∧ Jx (pre ++ [x]) W')) →
    It [] W → J [] W →
    CallsIn Fence.wide 0 P gf (#[.func (.yield l) #[] #[]] ++ lb) W fun e W' => (∃ v, e = .returned v) ∧ ((∃ xs, S xs ∧ J xs W') ∨ (∃ pre, Sp pre ∧ Jx pre W'))

/-- How a round may end. -/
def bPostP {α : Type} (B : Nat) (It : World → Prop) (I : List α → World → Prop) (Ix : Code → List α → World → Prop) (xs : List α) (W : World) : Exit → Act → World → Prop
  | .normal, _, W' => KeepsFrom B W W' ∧ It W' ∧ I xs W'
  | .ret, _, W' => KeepsFrom B W W' ∧ Ix .ret xs W'
  | .exit id, _, W' => KeepsFrom B W W' ∧ Ix (.exit id) xs W'
  | .goto t, _, W' => KeepsFrom B W W' ∧ Ix (.goto t) xs W'
  | .panic _, _, _ => False
  | .outgrown, _, _ => False

/-- THE RULE. -/
theorem wp_rangeP {α : Type} {g : Operand} {ps : Array Tmp} {assign body : Code} {Q : Exit → Act → World → Prop} {a : Act} {w : World}
    {gf : Nat} {lb : Array Value} (hg : a.eval g = .func (.func gf) #[] lb) (eg : ∀ args w, (callFunc gf args).run P w = .ok (.enter gf args) w)
    {encs : α → Array Value} {It : List α → World → Prop} {G : List α → α → World → Prop} {own : Nat → Prop} {S Sp : List α → Prop} (hseq : IterP P gf lb encs It G own S Sp) (hps : ∀ x, (encs x).size = ps.size)
    (hown : ∀ k, own k → k < w.heap.size) (hIt0 : It [] w) (hIt : ∀ pre, Stab w.heap.size (It pre))
    (I : List α → World → Prop) (Ix : Code → List α → World → Prop) (hI : ∀ pre, Stab w.heap.size (I pre)) (hIx : ∀ c pre, Stab w.heap.size (Ix c pre))
    (hIo : ∀ pre A B r, (∀ k, r = some k → own k) → A.grownBy B r → I pre A → I pre B) (hIxo : ∀ c pre A B r, (∀ k, r = some k → own k) → A.grownBy B r → Ix c pre A → Ix c pre B)
    (h0 : I [] w)
    (hround : ∀ (l : Nat) (pre : List α) (x : α) (W : World), w.heap.size ≤ l → NC W l → w.heap.size ≤ W.heap.size → I pre W → It pre W → G pre x W →
      assign.wpIn (Fence.wide.inRound l) 0 P (Exit.then (fun a' W1 => KeepsFrom w.heap.size W W1 ∧ ∀ W2, W1.grownBy W2 (some l) → NC W1 l → W2.heap.size = W1.heap.size →
          body.wpIn (Fence.wide.inRound l) 0 P (bPostP w.heap.size (It pre) I Ix (pre ++ [x]) W2) a' W2) (fun _ _ _ => False))
        { tmps := (ps.zip (encs x)).foldl (fun t (p, v) => t.setIfInBounds p v) a.tmps, defers := [] } W)
    (hdone : ∀ (D : Nat) (xs : List α) (W : World), w.heap.size ≤ D → S xs → I xs W → W.heap[D]? = some (.deferred (some [])) → Q .normal { a with defers := { target := .collected D, args := #[] } :: a.defers } W)
    (hstop : ∀ (D : Nat) (c : Code) (pre : List α) (W : World), w.heap.size ≤ D → Sp pre → Ix c pre W → W.heap[D]? = some (.deferred (some [])) → c.wpIn Fence.wide 0 P Q { a with defers := { target := .collected D, args := #[] } :: a.defers } W) :
    (Code.rangeFunc g ps assign body).wpIn Fence.wide 0 P Q a w := by
  refine wpIn_rangeFunc ?_
  intro fn hfn
  obtain ⟨rc, hrc⟩ : ∃ rc : LoopState → Option Code → Loop, rc = fun st pe => { state := st, pending := pe, fn, tmps := a.tmps, params := ps, assign, body, defers := w.heap.size } := ⟨_, rfl⟩
  obtain ⟨V, hV⟩ : ∃ V, (w.alloc (.deferred (some []))).alloc (.loop (rc .ready none)) = V := ⟨_, rfl⟩
  have hxV : Ext w V := by rw [← hV]; exact ((Ext.refl w).alloc _).alloc _
  have hVL : V.heap[w.heap.size + 1]? = some (.loop (rc .ready none)) := by
    rw [← hV]
    have := heap_alloc_new (w.alloc (.deferred (some []))) (.loop (rc .ready none))
    rwa [World.size_alloc] at this
  have hVD : V.heap[w.heap.size]? = some (.deferred (some [])) := by rw [← hV]; exact ((Ext.refl _).alloc _).heap (heap_alloc_new w _)
  have ncL : ∀ {W : World} {r : Loop}, W.heap[w.heap.size + 1]? = some (.loop r) → NC W (w.heap.size + 1) := fun h => NC.of h rfl
  have toV : ∀ {K : World → Prop}, Stab w.heap.size K → K w → K V := by
    intro K hK hk
    have hn : NC w w.heap.size := fun cs t fr e => by simp at e
    exact hK w V w.heap.size (Nat.le_refl _) hn (hxV.but _) hk
  have keepsOwn : ∀ {A B : World} {r : Option Nat} {k : Nat} {o : Obj}, (∀ j, r = some j → own j) → A.grownBy B r → w.heap.size ≤ k → A.heap[k]? = some o → B.heap[k]? = some o := by
    intro A B r k o hr hgr hk ho
    exact (hgr.block k (Array.getElem?_eq_some_iff.1 ho).1 (fun e => by have := hown k (hr k e.symm); omega)).trans ho
  refine ⟨w.heap.size + 1, [{ target := .collected w.heap.size, args := #[] }], V, { target := .fn (.func gf) lb, args := #[.func (.yield (w.heap.size + 1)) #[] #[]] }, V, gf,
    #[.func (.yield (w.heap.size + 1)) #[] #[]] ++ lb, V, ?_, ?_, ?_, ?_, fun h => by simp [Fence.wide] at h, ?_⟩
  · rw [← hV, hrc]
    exact run_enterLoop_outer _ _ _ _ _
  · simp only [resolve, hg]
    simp [go_sem]
  · intro f' hf'
    trivial
  · simp [invoke, go_sem, eg]
  · refine (hseq (w.heap.size + 1)
      (fun pre W => w.heap.size + 2 ≤ W.heap.size ∧ I pre W ∧ W.heap[w.heap.size + 1]? = some (.loop (rc .ready none)) ∧ W.heap[w.heap.size]? = some (.deferred (some [])))
      (fun pre W => ∃ c, Ix c pre W ∧ W.heap[w.heap.size + 1]? = some (.loop (rc .done (some c))) ∧ W.heap[w.heap.size]? = some (.deferred (some [])))
      V (fun pre A B r hr hgr h => ⟨Nat.le_trans h.1 hgr.size, hIo pre A B r hr hgr h.2.1, keepsOwn hr hgr (by omega) h.2.2.1, keepsOwn hr hgr (Nat.le_refl _) h.2.2.2⟩)
      (fun pre A B r hr hgr ⟨c, h1, h2, h3⟩ => ⟨c, hIxo c pre A B r hr hgr h1, keepsOwn hr hgr (by omega) h2, keepsOwn hr hgr (Nat.le_refl _) h3⟩)
      ?_ (toV (hIt []) hIt0) ⟨by rw [← hV]; simp, toV (hI []) h0, hVL, hVD⟩).mono ?_
    · rintro pre x W ⟨hsz, hi, hl, hd⟩ hit hG
      have hy := run_yield (P := P) (args := encs x) hl (by rw [hrc]; exact hps x)
      rw [hrc] at hy
      refine ⟨fn, _, assign, body, hy, roundIn_of_wpIn hfn ?_⟩
      have hr := hround (w.heap.size + 1) pre x W (by omega) (ncL hl) (by omega) hi hit hG
      refine wpIn_mono hr ?_
      clear hr hy
      rintro e a1 W1 h
      cases e with
      | normal =>
        obtain ⟨hk1, h⟩ := h
        have hl1 := hk1.same _ _ (by omega) hl rfl
        have hd1 := hk1.same _ _ (Nat.le_refl _) hd rfl
        refine ⟨_, run_beginRound hl1 (by rw [hrc]), ?_⟩
        have hlt1 := (Array.getElem?_eq_some_iff.1 hl1).1
        have hl2 : (W1.putObj (w.heap.size + 1) (.loop { rc .ready none with state := .busy })).heap[w.heap.size + 1]? = some (.loop { rc .ready none with state := .busy }) := World.putObj_heap_same hlt1
        have hd2 : (W1.putObj (w.heap.size + 1) (.loop { rc .ready none with state := .busy })).heap[w.heap.size]? = some (.deferred (some [])) := (World.putObj_heap_other (by omega)).trans hd1
        refine wpIn_mono (h _ (grown_put hl1) (ncL hl1) (by simp [World.putObj])) ?_
        have fin : ∀ (jump : Option Code) (W3 : World), KeepsFrom w.heap.size (W1.putObj (w.heap.size + 1) (.loop { rc .ready none with state := .busy })) W3 →
            ∃ W4, (Instr.endRound (w.heap.size + 1) jump).run P W3 = .ok (.bool jump.isNone) W4 ∧ W3.grownBy W4 (some (w.heap.size + 1)) ∧ NC W3 (w.heap.size + 1) ∧ w.heap.size + 2 ≤ W4.heap.size ∧
              W4.heap[w.heap.size + 1]? = some (.loop (rc (if jump.isNone then .ready else .done) jump)) ∧ W4.heap[w.heap.size]? = some (.deferred (some [])) := by
          intro jump W3 hk3
          have hl3 := hk3.same _ _ (by omega) hl2 rfl
          have hd3 := hk3.same _ _ (Nat.le_refl _) hd2 rfl
          have hlt3 := (Array.getElem?_eq_some_iff.1 hl3).1
          have hrun := run_endRound (P := P) jump hl3
          refine ⟨W3.putObj (w.heap.size + 1) (.loop (rc (if jump.isNone then .ready else .done) jump)), ?_, grown_put hl3, ncL hl3, by simp [World.putObj]; omega, World.putObj_heap_same hlt3, (World.putObj_heap_other (by omega)).trans hd3⟩
          rw [hrc] at hrun ⊢
          exact hrun
        rintro e a3 W3 hp
        cases e with
        | normal =>
          obtain ⟨hk3, hit3, hi3⟩ := hp
          obtain ⟨W4, hrun, hg4, hn4, hz4, hl4, hd4⟩ := fin none W3 hk3
          exact ⟨_, _, hrun, .inl ⟨rfl, ⟨hz4, hI _ _ _ _ (by omega) hn4 hg4 hi3, hl4, hd4⟩, hIt pre _ _ _ (by omega) hn4 hg4 hit3⟩⟩
        | ret =>
          obtain ⟨hk3, hi3⟩ := hp
          obtain ⟨W4, hrun, hg4, hn4, hz4, hl4, hd4⟩ := fin (some .ret) W3 hk3
          exact ⟨_, _, hrun, .inr ⟨rfl, .ret, hIx _ _ _ _ _ (by omega) hn4 hg4 hi3, hl4, hd4⟩⟩
        | exit id =>
          obtain ⟨hk3, hi3⟩ := hp
          obtain ⟨W4, hrun, hg4, hn4, hz4, hl4, hd4⟩ := fin (some (.exit id)) W3 hk3
          exact ⟨_, _, hrun, .inr ⟨rfl, .exit id, hIx _ _ _ _ _ (by omega) hn4 hg4 hi3, hl4, hd4⟩⟩
        | goto t =>
          obtain ⟨hk3, hi3⟩ := hp
          obtain ⟨W4, hrun, hg4, hn4, hz4, hl4, hd4⟩ := fin (some (.goto t)) W3 hk3
          exact ⟨_, _, hrun, .inr ⟨rfl, .goto t, hIx _ _ _ _ _ (by omega) hn4 hg4 hi3, hl4, hd4⟩⟩
        | panic ch => exact hp.elim
        | outgrown => exact hp.elim
      | ret => exact h.elim
      | exit id => exact h.elim
      | goto t => exact h.elim
      | panic ch => exact h.elim
      | outgrown => exact h.elim
    · rintro e W2 ⟨⟨v, rfl⟩, (⟨xs, hS, ⟨hz, hi, hl, hd⟩⟩ | ⟨pre, hSp, c, hi, hl, hd⟩)⟩
      · have hrun := run_endLoop (P := P) hl (by rw [hrc]; simp)
        rw [hrc] at hrun
        refine ⟨none, _, hrun, ?_⟩
        exact hdone _ xs _ (Nat.le_refl _) hS (hI _ _ _ _ (by omega) (ncL hl) (grown_put hl) hi) ((World.putObj_heap_other (by omega)).trans hd)
      · have hrun := run_endLoop (P := P) hl (by rw [hrc]; simp)
        rw [hrc] at hrun
        refine ⟨some c, _, hrun, ?_⟩
        exact hstop _ c pre _ (Nat.le_refl _) hSp (hIx _ _ _ _ _ (by omega) (ncL hl) (grown_put hl) hi) ((World.putObj_heap_other (by omega)).trans hd)
end
#print axioms wp_rangeP
end Go.Proofs.YthpfomjibfbiiaaGreatDoor
