/- Texts laid together (wip/tools/automerge.py): RangeM, RangeC, Po10. -/
import Derived.Test.YtgfjmmdkdhodiaaGreatDoorMg5
import Derived.Test.YtgfjmmdkdhodiaaGreatDoorPo9
import Derived.RangeFuncBound
import Derived.RangeFuncCalls
import Derived.OwnWalkIn
import Derived.TacticsInMore
import Derived.LoopNIn
import Derived.LoopIn
import Derived.WalkMore
import Derived.Outline
namespace Go.Proofs.YtgfjmmdkdhodiaaGreatDoor
open Go Go.RowKit
set_option linter.unusedVariables false

/-- What is no cells, from block B on, lies as it lay. -/
def NCK (B : Nat) (W W' : World) : Prop := W.heap.size ≤ W'.heap.size ∧ ∀ k o, B ≤ k → W.heap[k]? = some o → o.isCells = false → W'.heap[k]? = some o
theorem NCK.trans {B : Nat} {X Y Z : World} (h : NCK B X Y) (k : NCK B Y Z) : NCK B X Z := ⟨Nat.le_trans h.1 k.1, fun i o hB hi ho => k.2 i o hB (h.2 i o hB hi ho) ho⟩
theorem NCK.of_keeps {B C : Nat} {X Y : World} (h : KeepsFrom B X Y) (hB : B ≤ C) : NCK C X Y := ⟨h.size, fun k o hk hi ho => h.same k o (by omega) hi ho⟩
theorem NCK.put {B l : Nat} {W : World} (o : Obj) (h : l < B) : NCK B W (W.putObj l o) := ⟨by simp [World.putObj], fun k o' hk hi _ => (World.putObj_heap_other (by omega)).trans hi⟩
section
variable {P : Program}
/-- An iterator's contract; it may keep memory of its own making that is no cells (a map): a round leaves what is no cells, from the call's beginning on, as it lay. It: what it must find; G: what holds of what it hands over (what has come before, what comes now, in which world); own: blocks of its own that it writes; S: all that comes; Sp: a part that may have come when a round has said no more. -/
def IterM {α : Type} (P : Program) (gf : Nat) (lb : Array Value) (encs : α → Array Value) (It : World → Prop) (G : List α → α → World → Prop) (own : Nat → Prop) (S Sp : List α → Prop) : Prop :=
  ∀ (l : Nat) (J Jx : List α → World → Prop) (W : World),
    (∀ pre A B r, (∀ k, r = some k → own k) → A.grownBy B r → J pre A → J pre B) → (∀ pre A B r, (∀ k, r = some k → own k) → A.grownBy B r → Jx pre A → Jx pre B) →
    (∀ pre x W1, J pre W1 → It W1 → G pre x W1 → YieldAt Fence.wide 0 P l (encs x) W1 fun e W' => NCK W.heap.size W1 W' ∧
      ((e = .returned (.bool true) ∧ J (pre ++ [x]) W' ∧ It W') ∨ (e = .returned (.bool false) ∧ Jx (pre ++ [x]) W'))) →
    It W → J [] W →
    CallsIn Fence.wide 0 P gf (#[.func (.yield l) #[] #[]] ++ lb) W fun e W' => (∃ v, e = .returned v) ∧ ((∃ xs, S xs ∧ J xs W' ∧ It W') ∨ (∃ pre, Sp pre ∧ Jx pre W'))

/-- THE RULE. -/
theorem wp_rangeM {α : Type} {g : Operand} {ps : Array Tmp} {assign body : Code} {Q : Exit → Act → World → Prop} {a : Act} {w : World}
    {gf : Nat} {lb : Array Value} (hg : a.eval g = .func (.func gf) #[] lb) (eg : ∀ args w, (callFunc gf args).run P w = .ok (.enter gf args) w)
    {encs : α → Array Value} {It : World → Prop} {G : List α → α → World → Prop} {own : Nat → Prop} {S Sp : List α → Prop} (hseq : IterM P gf lb encs It G own S Sp) (hps : ∀ x, (encs x).size = ps.size)
    (hown : ∀ k, own k → k < w.heap.size) (hIt0 : It w) (hIt : Stab w.heap.size It)
    (I : List α → World → Prop) (Ix : Code → List α → World → Prop) (hI : ∀ pre, Stab w.heap.size (I pre)) (hIx : ∀ c pre, Stab w.heap.size (Ix c pre))
    (hIo : ∀ pre A B r, (∀ k, r = some k → own k) → A.grownBy B r → I pre A → I pre B) (hIxo : ∀ c pre A B r, (∀ k, r = some k → own k) → A.grownBy B r → Ix c pre A → Ix c pre B)
    (h0 : I [] w)
    (hround : ∀ (l : Nat) (pre : List α) (x : α) (W : World), w.heap.size ≤ l → NC W l → w.heap.size ≤ W.heap.size → I pre W → It W → G pre x W →
      assign.wpIn (Fence.wide.inRound l) 0 P (Exit.then (fun a' W1 => KeepsFrom w.heap.size W W1 ∧ ∀ W2, W1.grownBy W2 (some l) → NC W1 l → W2.heap.size = W1.heap.size →
          body.wpIn (Fence.wide.inRound l) 0 P (bPost w.heap.size It I Ix (pre ++ [x]) W2) a' W2) (fun _ _ _ => False))
        { tmps := (ps.zip (encs x)).foldl (fun t (p, v) => t.setIfInBounds p v) a.tmps, defers := [] } W)
    (hdone : ∀ (D : Nat) (xs : List α) (W : World), w.heap.size ≤ D → S xs → I xs W → It W → W.heap[D]? = some (.deferred (some [])) → Q .normal { a with defers := { target := .collected D, args := #[] } :: a.defers } W)
    (hstop : ∀ (D : Nat) (c : Code) (pre : List α) (W : World), w.heap.size ≤ D → Sp pre → Ix c pre W → W.heap[D]? = some (.deferred (some [])) → c.wpIn Fence.wide 0 P Q { a with defers := { target := .collected D, args := #[] } :: a.defers } W) :
    (Code.rangeFunc g ps assign body).wpIn Fence.wide 0 P Q a w := by
  refine wpIn_rangeFunc ?_
  intro fn hfn
  obtain ⟨rc, hrc⟩ : ∃ rc : LoopState → Option Code → Loop, rc = fun st pe => { state := st, pending := pe, fn, tmps := a.tmps, params := ps, assign, body, defers := w.heap.size } := ⟨_, rfl⟩
  obtain ⟨V, hV⟩ : ∃ V, (w.alloc (.deferred (some []))).alloc (.loop (rc .ready none)) = V := ⟨_, rfl⟩
  have hxV : Ext w V := by rw [← hV]; exact ((Ext.refl w).alloc _).alloc _
  have hVz : V.heap.size = w.heap.size + 2 := by rw [← hV]; simp
  have hVL : V.heap[w.heap.size + 1]? = some (.loop (rc .ready none)) := by
    rw [← hV]
    have := heap_alloc_new (w.alloc (.deferred (some []))) (.loop (rc .ready none))
    rwa [World.size_alloc] at this
  have hVD : V.heap[w.heap.size]? = some (.deferred (some [])) := by rw [← hV]; exact ((Ext.refl _).alloc _).heap (heap_alloc_new w _)
  have ncL : ∀ {W : World} {r : Loop}, W.heap[w.heap.size + 1]? = some (.loop r) → NC W (w.heap.size + 1) := fun h => NC.of h rfl
  have toV : ∀ {K : World → Prop}, Stab w.heap.size K → K w → K V := by
    intro K hK hk
    have hn : NC w w.heap.size := fun cs t fr e => by simp at e
    exact hK w V w.heap.size (Nat.le_refl _) hn (hxV.but _) hk
  have keepsOwn : ∀ {A B : World} {r : Option Nat} {k : Nat} {o : Obj}, (∀ j, r = some j → own j) → A.grownBy B r → w.heap.size ≤ k → A.heap[k]? = some o → B.heap[k]? = some o := by
    intro A B r k o hr hgr hk ho
    exact (hgr.block k (Array.getElem?_eq_some_iff.1 ho).1 (fun e => by have := hown k (hr k e.symm); omega)).trans ho
  refine ⟨w.heap.size + 1, [{ target := .collected w.heap.size, args := #[] }], V, { target := .fn (.func gf) lb, args := #[.func (.yield (w.heap.size + 1)) #[] #[]] }, V, gf,
    #[.func (.yield (w.heap.size + 1)) #[] #[]] ++ lb, V, ?_, ?_, ?_, ?_, fun h => by simp [Fence.wide] at h, ?_⟩
  · rw [← hV, hrc]
    exact run_enterLoop_outer _ _ _ _ _
  · simp only [resolve, hg]
    simp [go_sem]
  · intro f' hf'
    trivial
  · simp [invoke, go_sem, eg]
  · refine (hseq (w.heap.size + 1)
      (fun pre W => w.heap.size + 2 ≤ W.heap.size ∧ I pre W ∧ W.heap[w.heap.size + 1]? = some (.loop (rc .ready none)) ∧ W.heap[w.heap.size]? = some (.deferred (some [])))
      (fun pre W => ∃ c, Ix c pre W ∧ W.heap[w.heap.size + 1]? = some (.loop (rc .done (some c))) ∧ W.heap[w.heap.size]? = some (.deferred (some [])))
      V (fun pre A B r hr hgr h => ⟨Nat.le_trans h.1 hgr.size, hIo pre A B r hr hgr h.2.1, keepsOwn hr hgr (by omega) h.2.2.1, keepsOwn hr hgr (Nat.le_refl _) h.2.2.2⟩)
      (fun pre A B r hr hgr ⟨c, h1, h2, h3⟩ => ⟨c, hIxo c pre A B r hr hgr h1, keepsOwn hr hgr (by omega) h2, keepsOwn hr hgr (Nat.le_refl _) h3⟩)
      ?_ (toV hIt hIt0) ⟨by rw [← hV]; simp, toV (hI []) h0, hVL, hVD⟩).mono ?_
    · rintro pre x W ⟨hsz, hi, hl, hd⟩ hit hG
      have hy := run_yield (P := P) (args := encs x) hl (by rw [hrc]; exact hps x)
      rw [hrc] at hy
      refine ⟨fn, _, assign, body, hy, roundIn_of_wpIn hfn ?_⟩
      have hr := hround (w.heap.size + 1) pre x W (by omega) (ncL hl) (by omega) hi hit hG
      refine wpIn_mono hr ?_
      clear hr hy
      rintro e a1 W1 h
      cases e with
      | normal =>
        obtain ⟨hk1, h⟩ := h
        have hl1 := hk1.same _ _ (by omega) hl rfl
        have hd1 := hk1.same _ _ (Nat.le_refl _) hd rfl
        refine ⟨_, run_beginRound hl1 (by rw [hrc]), ?_⟩
        have hlt1 := (Array.getElem?_eq_some_iff.1 hl1).1
        have hl2 : (W1.putObj (w.heap.size + 1) (.loop { rc .ready none with state := .busy })).heap[w.heap.size + 1]? = some (.loop { rc .ready none with state := .busy }) := World.putObj_heap_same hlt1
        have hd2 : (W1.putObj (w.heap.size + 1) (.loop { rc .ready none with state := .busy })).heap[w.heap.size]? = some (.deferred (some [])) := (World.putObj_heap_other (by omega)).trans hd1
        refine wpIn_mono (h _ (grown_put hl1) (ncL hl1) (by simp [World.putObj])) ?_
        have fin : ∀ (jump : Option Code) (W3 : World), KeepsFrom w.heap.size (W1.putObj (w.heap.size + 1) (.loop { rc .ready none with state := .busy })) W3 →
            ∃ W4, NCK (w.heap.size + 2) W3 W4 ∧ (Instr.endRound (w.heap.size + 1) jump).run P W3 = .ok (.bool jump.isNone) W4 ∧ W3.grownBy W4 (some (w.heap.size + 1)) ∧ NC W3 (w.heap.size + 1) ∧ w.heap.size + 2 ≤ W4.heap.size ∧
              W4.heap[w.heap.size + 1]? = some (.loop (rc (if jump.isNone then .ready else .done) jump)) ∧ W4.heap[w.heap.size]? = some (.deferred (some [])) := by
          intro jump W3 hk3
          have hl3 := hk3.same _ _ (by omega) hl2 rfl
          have hd3 := hk3.same _ _ (Nat.le_refl _) hd2 rfl
          have hlt3 := (Array.getElem?_eq_some_iff.1 hl3).1
          have hrun := run_endRound (P := P) jump hl3
          refine ⟨W3.putObj (w.heap.size + 1) (.loop (rc (if jump.isNone then .ready else .done) jump)), NCK.put _ (by omega), ?_, grown_put hl3, ncL hl3, by simp [World.putObj]; omega, World.putObj_heap_same hlt3, (World.putObj_heap_other (by omega)).trans hd3⟩
          rw [hrc] at hrun ⊢
          exact hrun
        rintro e a3 W3 hp
        cases e with
        | normal =>
          obtain ⟨hk3, hit3, hi3⟩ := hp
          obtain ⟨W4, hq4, hrun, hg4, hn4, hz4, hl4, hd4⟩ := fin none W3 hk3
          exact ⟨_, _, hrun, by rw [hVz]; exact (((NCK.of_keeps hk1 (by omega)).trans (NCK.put _ (by omega))).trans (NCK.of_keeps hk3 (by omega))).trans hq4, .inl ⟨rfl, ⟨hz4, hI _ _ _ _ (by omega) hn4 hg4 hi3, hl4, hd4⟩, hIt _ _ _ (by omega) hn4 hg4 hit3⟩⟩
        | ret =>
          obtain ⟨hk3, hi3⟩ := hp
          obtain ⟨W4, hq4, hrun, hg4, hn4, hz4, hl4, hd4⟩ := fin (some .ret) W3 hk3
          exact ⟨_, _, hrun, by rw [hVz]; exact (((NCK.of_keeps hk1 (by omega)).trans (NCK.put _ (by omega))).trans (NCK.of_keeps hk3 (by omega))).trans hq4, .inr ⟨rfl, .ret, hIx _ _ _ _ _ (by omega) hn4 hg4 hi3, hl4, hd4⟩⟩
        | exit id =>
          obtain ⟨hk3, hi3⟩ := hp
          obtain ⟨W4, hq4, hrun, hg4, hn4, hz4, hl4, hd4⟩ := fin (some (.exit id)) W3 hk3
          exact ⟨_, _, hrun, by rw [hVz]; exact (((NCK.of_keeps hk1 (by omega)).trans (NCK.put _ (by omega))).trans (NCK.of_keeps hk3 (by omega))).trans hq4, .inr ⟨rfl, .exit id, hIx _ _ _ _ _ (by omega) hn4 hg4 hi3, hl4, hd4⟩⟩
        | goto t =>
          obtain ⟨hk3, hi3⟩ := hp
          obtain ⟨W4, hq4, hrun, hg4, hn4, hz4, hl4, hd4⟩ := fin (some (.goto t)) W3 hk3
          exact ⟨_, _, hrun, by rw [hVz]; exact (((NCK.of_keeps hk1 (by omega)).trans (NCK.put _ (by omega))).trans (NCK.of_keeps hk3 (by omega))).trans hq4, .inr ⟨rfl, .goto t, hIx _ _ _ _ _ (by omega) hn4 hg4 hi3, hl4, hd4⟩⟩
        | panic ch => exact hp.elim
        | outgrown => exact hp.elim
      | ret => exact h.elim
      | exit id => exact h.elim
      | goto t => exact h.elim
      | panic ch => exact h.elim
      | outgrown => exact h.elim
    · rintro e W2 ⟨⟨v, rfl⟩, (⟨xs, hS, ⟨hz, hi, hl, hd⟩, hit⟩ | ⟨pre, hSp, c, hi, hl, hd⟩)⟩
      · have hrun := run_endLoop (P := P) hl (by rw [hrc]; simp)
        rw [hrc] at hrun
        refine ⟨none, _, hrun, ?_⟩
        exact hdone _ xs _ (Nat.le_refl _) hS (hI _ _ _ _ (by omega) (ncL hl) (grown_put hl) hi) (hIt _ _ _ (by omega) (ncL hl) (grown_put hl) hit) ((World.putObj_heap_other (by omega)).trans hd)
      · have hrun := run_endLoop (P := P) hl (by rw [hrc]; simp)
        rw [hrc] at hrun
        refine ⟨some c, _, hrun, ?_⟩
        exact hstop _ c pre _ (Nat.le_refl _) hSp (hIx _ _ _ _ _ (by omega) (ncL hl) (grown_put hl) hi) ((World.putObj_heap_other (by omega)).trans hd)
end
#print axioms wp_rangeM
end Go.Proofs.YtgfjmmdkdhodiaaGreatDoor
namespace Go.Proofs.YtgfjmmdkdhodiaaGreatDoor
open Go Go.RowKit
set_option linter.unusedVariables false
/-- What lies from block B on lies as it lay. -/
def KA (B : Nat) (W W' : World) : Prop := W.heap.size ≤ W'.heap.size ∧ ∀ k o, B ≤ k → W.heap[k]? = some o → W'.heap[k]? = some o
theorem KA.refl (B : Nat) (W : World) : KA B W W := ⟨Nat.le_refl _, fun _ _ _ h => h⟩
theorem KA.trans {B : Nat} {X Y Z : World} (h : KA B X Y) (k : KA B Y Z) : KA B X Z := ⟨Nat.le_trans h.1 k.1, fun i o hB hi => k.2 i o hB (h.2 i o hB hi)⟩
theorem KA.mono {B C : Nat} {X Y : World} (h : KA B X Y) (hB : B ≤ C) : KA C X Y := ⟨h.1, fun k o hk hi => h.2 k o (by omega) hi⟩
theorem KA.put {B l : Nat} {W : World} (o : Obj) (h : l < B) : KA B W (W.putObj l o) := ⟨by simp [World.putObj], fun k o' hk hi => (World.putObj_heap_other (by omega)).trans hi⟩
theorem KA.of_ext {B : Nat} {W W' : World} (h : Ext W W') : KA B W W' := ⟨h.size, fun k o _ hi => h.heap hi⟩
theorem KA.of_grown {B l : Nat} {W W' : World} (h : W.grownBy W' (some l)) (hl : l < B) : KA B W W' := ⟨h.size, fun k o hk hi => (h.block k (Array.getElem?_eq_some_iff.1 hi).1 (by intro e; cases e; omega)).trans hi⟩
theorem KA.nck {B : Nat} {W W' : World} (h : KA B W W') : NCK B W W' := ⟨h.1, fun k o hB hi _ => h.2 k o hB hi⟩
theorem KA.keeps {B : Nat} {W W' : World} (h : KA B W W') : KeepsFrom B W W' := ⟨h.1, fun k o hB hi _ => h.2 k o hB hi⟩
theorem Stab.rs {B : Nat} (v : Value) (xs : List Value) : Stab B (fun W => RS W v xs) := fun W W' l _ hn hg ⟨A, c, hv, h1, h2, h3⟩ => ⟨A, c, hv, h1, h2, fun hp => by
  obtain ⟨ad, ha, hb, hc⟩ := h3 hp
  refine ⟨ad, ha, Nat.lt_of_lt_of_le hb hg.size, fun j u hu => ?_⟩
  have hcu := hc j u hu
  refine hg.cell hcu ?_
  rw [block_of_add]
  intro e
  injection e with e
  subst e
  unfold World.cell? at hcu
  cases ho : W.heap[(ad.add j).block]? with
  | none => rw [ho] at hcu; simp at hcu
  | some o =>
    rw [block_of_add] at ho
    cases o with
    | cells cs t fr => exact hn cs t fr ho
    | _ => simp [ho, block_of_add] at hcu⟩
/-- How a round may end. -/
def bPostC {α : Type} (B : Nat) (It : World → Prop) (I : List α → World → Prop) (Ix : Code → List α → World → Prop) (xs : List α) (W : World) : Exit → Act → World → Prop
  | .normal, _, W' => KA B W W' ∧ It W' ∧ I xs W'
  | .ret, _, W' => KA B W W' ∧ Ix .ret xs W'
  | .exit id, _, W' => KA B W W' ∧ Ix (.exit id) xs W'
  | .goto t, _, W' => KA B W W' ∧ Ix (.goto t) xs W'
  | .panic _, _, _ => False
  | .outgrown, _, _ => False
section
variable {P : Program}
/-- An iterator's contract, of one that ranges over another iterator itself: what the caller keeps bears records of loops, and a round leaves all that lies from the call's beginning on; it may keep memory of its own making that is no cells (a map): a round leaves what is no cells, from the call's beginning on, as it lay. It: what it must find; G: what holds of what it hands over (what has come before, what comes now, in which world); own: blocks of its own that it writes; S: all that comes; Sp: a part that may have come when a round has said no more. -/
def IterC {α : Type} (P : Program) (gf : Nat) (lb : Array Value) (encs : α → Array Value) (It : World → Prop) (G : List α → α → World → Prop) (own : Nat → Prop) (S Sp : List α → Prop) : Prop :=
  ∀ (l : Nat) (J Jx : List α → World → Prop) (W : World),
    (∀ pre A B r, (∀ k, r = some k → own k) → A.grownBy B r → J pre A → J pre B) → (∀ pre A B r, (∀ k, r = some k → own k) → A.grownBy B r → Jx pre A → Jx pre B) →
    (∀ pre, Stab W.heap.size (J pre)) → (∀ pre, Stab W.heap.size (Jx pre)) →
    (∀ pre x W1, J pre W1 → It W1 → G pre x W1 → YieldAt Fence.wide 0 P l (encs x) W1 fun e W' => KA W.heap.size W1 W' ∧
      ((e = .returned (.bool true) ∧ J (pre ++ [x]) W' ∧ It W') ∨ (e = .returned (.bool false) ∧ Jx (pre ++ [x]) W'))) →
    It W → J [] W →
    CallsIn Fence.wide 0 P gf (#[.func (.yield l) #[] #[]] ++ lb) W fun e W' => (∃ v, e = .returned v) ∧ ((∃ xs, S xs ∧ J xs W' ∧ It W') ∨ (∃ pre, Sp pre ∧ Jx pre W'))

/-- THE RULE. -/
theorem wp_rangeC {α : Type} {g : Operand} {ps : Array Tmp} {assign body : Code} {Q : Exit → Act → World → Prop} {a : Act} {w : World}
    {gf : Nat} {lb : Array Value} (hg : a.eval g = .func (.func gf) #[] lb) (eg : ∀ args w, (callFunc gf args).run P w = .ok (.enter gf args) w)
    {encs : α → Array Value} {It : World → Prop} {G : List α → α → World → Prop} {own : Nat → Prop} {S Sp : List α → Prop} (hseq : IterC P gf lb encs It G own S Sp) (hps : ∀ x, (encs x).size = ps.size)
    (hown : ∀ k, own k → k < w.heap.size) (hIt0 : It w) (hIt : Stab w.heap.size It)
    (I : List α → World → Prop) (Ix : Code → List α → World → Prop) (hI : ∀ pre, Stab w.heap.size (I pre)) (hIx : ∀ c pre, Stab w.heap.size (Ix c pre))
    (hIo : ∀ pre A B r, (∀ k, r = some k → own k) → A.grownBy B r → I pre A → I pre B) (hIxo : ∀ c pre A B r, (∀ k, r = some k → own k) → A.grownBy B r → Ix c pre A → Ix c pre B)
    (h0 : I [] w)
    (hround : ∀ (l : Nat) (pre : List α) (x : α) (W : World), w.heap.size ≤ l → NC W l → w.heap.size ≤ W.heap.size → I pre W → It W → G pre x W →
      assign.wpIn (Fence.wide.inRound l) 0 P (Exit.then (fun a' W1 => KA w.heap.size W W1 ∧ ∀ W2, W1.grownBy W2 (some l) → NC W1 l → W2.heap.size = W1.heap.size →
          body.wpIn (Fence.wide.inRound l) 0 P (bPostC w.heap.size It I Ix (pre ++ [x]) W2) a' W2) (fun _ _ _ => False))
        { tmps := (ps.zip (encs x)).foldl (fun t (p, v) => t.setIfInBounds p v) a.tmps, defers := [] } W)
    (hdone : ∀ (D : Nat) (xs : List α) (W : World), w.heap.size ≤ D → S xs → I xs W → It W → W.heap[D]? = some (.deferred (some [])) → Q .normal { a with defers := { target := .collected D, args := #[] } :: a.defers } W)
    (hstop : ∀ (D : Nat) (c : Code) (pre : List α) (W : World), w.heap.size ≤ D → Sp pre → Ix c pre W → W.heap[D]? = some (.deferred (some [])) → c.wpIn Fence.wide 0 P Q { a with defers := { target := .collected D, args := #[] } :: a.defers } W) :
    (Code.rangeFunc g ps assign body).wpIn Fence.wide 0 P Q a w := by
  refine wpIn_rangeFunc ?_
  intro fn hfn
  obtain ⟨rc, hrc⟩ : ∃ rc : LoopState → Option Code → Loop, rc = fun st pe => { state := st, pending := pe, fn, tmps := a.tmps, params := ps, assign, body, defers := w.heap.size } := ⟨_, rfl⟩
  obtain ⟨V, hV⟩ : ∃ V, (w.alloc (.deferred (some []))).alloc (.loop (rc .ready none)) = V := ⟨_, rfl⟩
  have hxV : Ext w V := by rw [← hV]; exact ((Ext.refl w).alloc _).alloc _
  have hVz : V.heap.size = w.heap.size + 2 := by rw [← hV]; simp
  have hVL : V.heap[w.heap.size + 1]? = some (.loop (rc .ready none)) := by
    rw [← hV]
    have := heap_alloc_new (w.alloc (.deferred (some []))) (.loop (rc .ready none))
    rwa [World.size_alloc] at this
  have hVD : V.heap[w.heap.size]? = some (.deferred (some [])) := by rw [← hV]; exact ((Ext.refl _).alloc _).heap (heap_alloc_new w _)
  have ncL : ∀ {W : World} {r : Loop}, W.heap[w.heap.size + 1]? = some (.loop r) → NC W (w.heap.size + 1) := fun h => NC.of h rfl
  have toV : ∀ {K : World → Prop}, Stab w.heap.size K → K w → K V := by
    intro K hK hk
    have hn : NC w w.heap.size := fun cs t fr e => by simp at e
    exact hK w V w.heap.size (Nat.le_refl _) hn (hxV.but _) hk
  have keepsOwn : ∀ {A B : World} {r : Option Nat} {k : Nat} {o : Obj}, (∀ j, r = some j → own j) → A.grownBy B r → w.heap.size ≤ k → A.heap[k]? = some o → B.heap[k]? = some o := by
    intro A B r k o hr hgr hk ho
    exact (hgr.block k (Array.getElem?_eq_some_iff.1 ho).1 (fun e => by have := hown k (hr k e.symm); omega)).trans ho
  have upI : ∀ pre, Stab V.heap.size (I pre) := fun pre X Y l hl hn hg h => hI pre X Y l (by omega) hn hg h
  have upIx : ∀ c pre, Stab V.heap.size (Ix c pre) := fun c pre X Y l hl hn hg h => hIx c pre X Y l (by omega) hn hg h
  refine ⟨w.heap.size + 1, [{ target := .collected w.heap.size, args := #[] }], V, { target := .fn (.func gf) lb, args := #[.func (.yield (w.heap.size + 1)) #[] #[]] }, V, gf,
    #[.func (.yield (w.heap.size + 1)) #[] #[]] ++ lb, V, ?_, ?_, ?_, ?_, fun h => by simp [Fence.wide] at h, ?_⟩
  · rw [← hV, hrc]
    exact run_enterLoop_outer _ _ _ _ _
  · simp only [resolve, hg]
    simp [go_sem]
  · intro f' hf'
    trivial
  · simp [invoke, go_sem, eg]
  · refine (hseq (w.heap.size + 1)
      (fun pre W => w.heap.size + 2 ≤ W.heap.size ∧ I pre W ∧ W.heap[w.heap.size + 1]? = some (.loop (rc .ready none)) ∧ W.heap[w.heap.size]? = some (.deferred (some [])))
      (fun pre W => ∃ c, Ix c pre W ∧ W.heap[w.heap.size + 1]? = some (.loop (rc .done (some c))) ∧ W.heap[w.heap.size]? = some (.deferred (some [])))
      V (fun pre A B r hr hgr h => ⟨Nat.le_trans h.1 hgr.size, hIo pre A B r hr hgr h.2.1, keepsOwn hr hgr (by omega) h.2.2.1, keepsOwn hr hgr (Nat.le_refl _) h.2.2.2⟩)
      (fun pre A B r hr hgr ⟨c, h1, h2, h3⟩ => ⟨c, hIxo c pre A B r hr hgr h1, keepsOwn hr hgr (by omega) h2, keepsOwn hr hgr (Nat.le_refl _) h3⟩)
      (fun pre => ((Stab.size _).and ((upI pre).and ((Stab.obj _ _ (by omega)).and (Stab.obj _ _ (by omega))))))
      (fun pre => Stab.ex fun c => (upIx c pre).and ((Stab.obj _ _ (by omega)).and (Stab.obj _ _ (by omega))))
      ?_ (toV hIt hIt0) ⟨by rw [← hV]; simp, toV (hI []) h0, hVL, hVD⟩).mono ?_
    · rintro pre x W ⟨hsz, hi, hl, hd⟩ hit hG
      have hy := run_yield (P := P) (args := encs x) hl (by rw [hrc]; exact hps x)
      rw [hrc] at hy
      refine ⟨fn, _, assign, body, hy, roundIn_of_wpIn hfn ?_⟩
      have hr := hround (w.heap.size + 1) pre x W (by omega) (ncL hl) (by omega) hi hit hG
      refine wpIn_mono hr ?_
      clear hr hy
      rintro e a1 W1 h
      cases e with
      | normal =>
        obtain ⟨hk1, h⟩ := h
        have hl1 := hk1.2 _ _ (by omega) hl
        have hd1 := hk1.2 _ _ (Nat.le_refl _) hd
        refine ⟨_, run_beginRound hl1 (by rw [hrc]), ?_⟩
        have hlt1 := (Array.getElem?_eq_some_iff.1 hl1).1
        have hl2 : (W1.putObj (w.heap.size + 1) (.loop { rc .ready none with state := .busy })).heap[w.heap.size + 1]? = some (.loop { rc .ready none with state := .busy }) := World.putObj_heap_same hlt1
        have hd2 : (W1.putObj (w.heap.size + 1) (.loop { rc .ready none with state := .busy })).heap[w.heap.size]? = some (.deferred (some [])) := (World.putObj_heap_other (by omega)).trans hd1
        refine wpIn_mono (h _ (grown_put hl1) (ncL hl1) (by simp [World.putObj])) ?_
        have fin : ∀ (jump : Option Code) (W3 : World), KA w.heap.size (W1.putObj (w.heap.size + 1) (.loop { rc .ready none with state := .busy })) W3 →
            ∃ W4, KA (w.heap.size + 2) W3 W4 ∧ (Instr.endRound (w.heap.size + 1) jump).run P W3 = .ok (.bool jump.isNone) W4 ∧ W3.grownBy W4 (some (w.heap.size + 1)) ∧ NC W3 (w.heap.size + 1) ∧ w.heap.size + 2 ≤ W4.heap.size ∧
              W4.heap[w.heap.size + 1]? = some (.loop (rc (if jump.isNone then .ready else .done) jump)) ∧ W4.heap[w.heap.size]? = some (.deferred (some [])) := by
          intro jump W3 hk3
          have hl3 := hk3.2 _ _ (by omega) hl2
          have hd3 := hk3.2 _ _ (Nat.le_refl _) hd2
          have hlt3 := (Array.getElem?_eq_some_iff.1 hl3).1
          have hrun := run_endRound (P := P) jump hl3
          refine ⟨W3.putObj (w.heap.size + 1) (.loop (rc (if jump.isNone then .ready else .done) jump)), KA.put _ (by omega), ?_, grown_put hl3, ncL hl3, by simp [World.putObj]; omega, World.putObj_heap_same hlt3, (World.putObj_heap_other (by omega)).trans hd3⟩
          rw [hrc] at hrun ⊢
          exact hrun
        rintro e a3 W3 hp
        cases e with
        | normal =>
          obtain ⟨hk3, hit3, hi3⟩ := hp
          obtain ⟨W4, hq4, hrun, hg4, hn4, hz4, hl4, hd4⟩ := fin none W3 hk3
          exact ⟨_, _, hrun, by rw [hVz]; exact (((hk1.mono (by omega)).trans (KA.put _ (by omega))).trans (hk3.mono (by omega))).trans hq4, .inl ⟨rfl, ⟨hz4, hI _ _ _ _ (by omega) hn4 hg4 hi3, hl4, hd4⟩, hIt _ _ _ (by omega) hn4 hg4 hit3⟩⟩
        | ret =>
          obtain ⟨hk3, hi3⟩ := hp
          obtain ⟨W4, hq4, hrun, hg4, hn4, hz4, hl4, hd4⟩ := fin (some .ret) W3 hk3
          exact ⟨_, _, hrun, by rw [hVz]; exact (((hk1.mono (by omega)).trans (KA.put _ (by omega))).trans (hk3.mono (by omega))).trans hq4, .inr ⟨rfl, .ret, hIx _ _ _ _ _ (by omega) hn4 hg4 hi3, hl4, hd4⟩⟩
        | exit id =>
          obtain ⟨hk3, hi3⟩ := hp
          obtain ⟨W4, hq4, hrun, hg4, hn4, hz4, hl4, hd4⟩ := fin (some (.exit id)) W3 hk3
          exact ⟨_, _, hrun, by rw [hVz]; exact (((hk1.mono (by omega)).trans (KA.put _ (by omega))).trans (hk3.mono (by omega))).trans hq4, .inr ⟨rfl, .exit id, hIx _ _ _ _ _ (by omega) hn4 hg4 hi3, hl4, hd4⟩⟩
        | goto t =>
          obtain ⟨hk3, hi3⟩ := hp
          obtain ⟨W4, hq4, hrun, hg4, hn4, hz4, hl4, hd4⟩ := fin (some (.goto t)) W3 hk3
          exact ⟨_, _, hrun, by rw [hVz]; exact (((hk1.mono (by omega)).trans (KA.put _ (by omega))).trans (hk3.mono (by omega))).trans hq4, .inr ⟨rfl, .goto t, hIx _ _ _ _ _ (by omega) hn4 hg4 hi3, hl4, hd4⟩⟩
        | panic ch => exact hp.elim
        | outgrown => exact hp.elim
      | ret => exact h.elim
      | exit id => exact h.elim
      | goto t => exact h.elim
      | panic ch => exact h.elim
      | outgrown => exact h.elim
    · rintro e W2 ⟨⟨v, rfl⟩, (⟨xs, hS, ⟨hz, hi, hl, hd⟩, hit⟩ | ⟨pre, hSp, c, hi, hl, hd⟩)⟩
      · have hrun := run_endLoop (P := P) hl (by rw [hrc]; simp)
        rw [hrc] at hrun
        refine ⟨none, _, hrun, ?_⟩
        exact hdone _ xs _ (Nat.le_refl _) hS (hI _ _ _ _ (by omega) (ncL hl) (grown_put hl) hi) (hIt _ _ _ (by omega) (ncL hl) (grown_put hl) hit) ((World.putObj_heap_other (by omega)).trans hd)
      · have hrun := run_endLoop (P := P) hl (by rw [hrc]; simp)
        rw [hrc] at hrun
        refine ⟨some c, _, hrun, ?_⟩
        exact hstop _ c pre _ (Nat.le_refl _) hSp (hIx _ _ _ _ _ (by omega) (ncL hl) (grown_put hl) hi) ((World.putObj_heap_other (by omega)).trans hd)
end
end Go.Proofs.YtgfjmmdkdhodiaaGreatDoor
namespace Go.Proofs.YtgfjmmdkdhodiaaGreatDoor
open Go Go.RowKit
set_option linter.unusedVariables false

/-- Rules in a box. -/
def XR (w : World) (g : Nat) (A : Option Addr) (n c : Nat) : Prop := w.heap[g]? = some (.cells #[.slice A n c] 38 (0, 0))
theorem XR.ext {w w' : World} {g : Nat} {A : Option Addr} {n c : Nat} (h : XR w g A n c) (hx : Ext w w') : XR w' g A n c := hx.heap h
def ItR (g : Nat) (A : Option Addr) (c : Nat) (L : List Nat) (W : World) : Prop := XR W g A L.length c ∧ RS W (.slice A L.length c) (rv L)
theorem ItR.stab (B : Nat) (g : Nat) (A : Option Addr) (c : Nat) (L : List Nat) : Stab B (ItR g A c L) := (Stab.heap _ _ _ _).and (Stab.rs _ _)
theorem ItR.ext {g : Nat} {A : Option Addr} {c : Nat} {L : List Nat} {w w' : World} (h : ItR g A c L w) (hx : Ext w w') : ItR g A c L w' := ⟨h.1.ext hx, h.2.ext hx⟩
def ruleEnc (n : Nat) : Array Value := #[.int .i64 (n : Int)]
def GR (L : List Nat) (pre : List Nat) (x : Nat) (_ : World) : Prop := ∃ rest, L = pre ++ x :: rest
def SpR (L pre : List Nat) : Prop := ∃ rest, L = pre ++ rest
theorem rv_get (l : List Nat) (k : Nat) (h : k < l.length) : (rv l)[k]? = some (.int .i64 (l[k] : Int)) := by simp [rv, h]
theorem Values_at (A : Option Addr) (n c : Nat) (w : World) :
    Calls Tryz.prog 39 #[.slice A n c] w fun e w' => e = .returned (.func (.func 68) #[] #[.pointer (some ⟨w.heap.size, 0, none⟩)]) ∧ XR w' w.heap.size A n c ∧ Ext w w' := by
  have hmf : ∀ (fn : Fn) (first cap : Array Value) (w : World), (Instr.makeFunc fn first cap).run Tryz.prog w = .ok (.func fn first cap) w := fun _ _ _ _ => rfl
  have h0 := heap_alloc_new w (.cells #[.slice A n c] 38)
  have H0 := Lib.hid h0; have HX := Lib.hid ((Ext.refl w).alloc (.cells #[.slice A n c] 38))
  clear h0
  go_enter Tryz.func39, Tryz.ntmps39
  go_wp2
  go_ret
  exact ⟨rfl, H0.out, HX.out⟩
attribute [local go_sem] Oper.semAt_some

set_option maxRecDepth 100000 in
set_option maxHeartbeats 2000000 in
theorem values_iter (g : Nat) (A : Option Addr) (c : Nat) (L : List Nat) (hL : L.length ≤ 1000) :
    IterM Tryz.prog 68 #[.pointer (some ⟨g, 0, none⟩)] ruleEnc (ItR g A c L) (GR L) (fun _ => False) (fun xs => xs = L) (SpR L) := by
  intro lp J Jx W hJ hJx hY hit h0
  refine callsIn_of_wp Tryz.func68 rfl trivial ?_ rfl
  simp only [Tryz.ntmps68, List.size_toArray, List.length_cons, List.length_nil, Nat.reduceAdd, Nat.reduceSub, Array.replicate_succ, Array.replicate_zero, List.push_toArray, List.append_toArray, List.nil_append, List.cons_append]
  have c0 := (row1 hit.1).1
  obtain ⟨ad, hcell⟩ : ∃ ad : Addr, ∀ (V : World), RS V (.slice A L.length c) (rv L) → ∀ j (hj : j < L.length), A = some ad ∧ V.cell? (ad.add j) = some (.int .i64 (L[j] : Int)) := by
    cases A with
    | none =>
      refine ⟨⟨0, 0, none⟩, fun V hV j hj => ?_⟩
      obtain ⟨A', c', he, k1, k2, k3⟩ := hV.open_
      rw [rv_length] at he k3
      injection he with e1 _ e3
      subst e1
      obtain ⟨ad, h, _⟩ := k3 (by omega)
      cases h
    | some ad =>
      refine ⟨ad, fun V hV j hj => ⟨rfl, ?_⟩⟩
      obtain ⟨A', c', he, k1, k2, k3⟩ := hV.open_
      rw [rv_length] at he k3
      injection he with e1 _ e3
      subst e1
      obtain ⟨ad', h, _, h3⟩ := k3 (by omega)
      injection h with h
      subst h
      exact h3 j _ (rv_get L j hj)
  have HC := Lib.hid hcell; have HIT := Lib.hid hit; have HJ0 := Lib.hid h0
  clear hcell hit h0
  gi_wp2_with fail
  gi_loopw [4, 7] (fun _ i wr => ∃ k : Nat, k ≤ L.length ∧ i = .int .i64 k ∧ J (L.take k) wr ∧ ItR g A c L wr) (fun _ i _ => L.length - (intOf i).toNat)
  case atStart => exact ⟨0, by omega, rfl, HJ0.out, HIT.out⟩
  case round =>
    obtain ⟨k, hk, rfl, hj, hi⟩ := hrel
    by_cases hlt : k < L.length
    · have hcc := (HC.out wr hi.2 k hlt).2
      have hA := (HC.out wr hi.2 k hlt).1
      subst hA
      have hyy := hY (L.take k) L[k] wr hj hi ⟨L.drop (k + 1), by rw [List.getElem_cons_drop, List.take_append_drop]⟩
      have HT := Lib.hid (show L.take (k + 1) = L.take k ++ [L[k]] from List.take_succ_eq_append_getElem hlt)
      rw [← HT.out] at hyy
      generalize L[k] = x at *
      obtain ⟨fn, tmps, assign, body, hy, hR⟩ := hyy
      unfold ruleEnc at hy
      clear hj hi c0
      gi_wp2_with fail
      refine ⟨rfl, hR.mono ?_⟩
      rintro e W3 ⟨hq3, (⟨rfl, hJ3, hI3⟩ | ⟨rfl, hJx3⟩)⟩
      · have HJ3 := Lib.hid hJ3; have HI3 := Lib.hid hI3
        clear hq3 hJ3 hI3
        gi_wp2_with fail
        go_roundw
        case rel => exact ⟨k + 1, by omega, by go_num, HJ3.out, HI3.out⟩
        case measure => simp [intOf]; omega
      · have HX3 := Lib.hid hJx3
        clear hq3 hJx3
        gi_wp2_with fail
        first | go_end0 | refine bodyPost_ret (results_none rfl _ _ _) rfl ?_
        exact ⟨⟨_, rfl⟩, .inr ⟨_, ⟨L.drop (k + 1), (List.take_append_drop _ _).symm⟩, HX3.out⟩⟩
    · have hk : k = L.length := by omega
      subst hk
      have HJE := Lib.hid (show J L wr by rw [List.take_length] at hj; exact hj)
      have HIE := Lib.hid hi
      have hnx : ¬ (L.length : Int) < (L.length : Int) := by omega
      clear hj hi hlt
      gi_wp2_with fail
      first | go_end0 | refine bodyPost_ret (results_none rfl _ _ _) rfl ?_
      exact ⟨⟨_, rfl⟩, .inl (by first | exact ⟨HJE.out, HIE.out⟩ | exact ⟨_, rfl, HJE.out, HIE.out⟩)⟩

set_option maxRecDepth 100000 in
set_option maxHeartbeats 2000000 in
theorem brk_iter (g : Nat) (A : Option Addr) (c : Nat) (L : List Nat) (hL : L.length ≤ 1000) :
    IterC Tryz.prog 38 #[.pointer (some ⟨g, 0, none⟩)] ruleEnc (ItR g A c L) (GR L) (fun _ => False) (fun xs => xs = L) (SpR L) := by
  intro lp J Jx W hJ hJx hsJ hsJx hY hit h0
  refine callsIn_of_wp_marks Tryz.func38 rfl trivial (wpIn_wide.2 ?_)
  simp only [Tryz.ntmps38, List.size_toArray, List.length_cons, List.length_nil, Nat.reduceAdd, Nat.reduceSub, Array.replicate_succ, Array.replicate_zero, List.push_toArray, List.append_toArray, List.nil_append, List.cons_append]
  have hbx := heap_alloc_new W (.cells #[.func (.yield lp) #[] #[]] 71)
  obtain ⟨W1, hW1⟩ : ∃ W1, W.alloc (.cells #[.func (.yield lp) #[] #[]] 71) = W1 := ⟨_, rfl⟩
  have hx1 : Ext W W1 := hW1 ▸ (Ext.refl W).alloc _
  have hz1 : W1.heap.size = W.heap.size + 1 := by rw [← hW1]; simp
  rw [hW1] at hbx
  have hit1 := hit.ext hx1
  have hj1 := hJ [] W W1 none (by simp) (grown_none hx1) h0
  have c0 := (row1 hit1.1).1
  have HIT := Lib.hid hit1; have HJ := Lib.hid hj1; have HBX := Lib.hid hbx; have HZ := Lib.hid hz1; have HX := Lib.hid hx1
  clear hit hit1 hj1 h0 hbx hz1 hx1
  go_wp2_with fail
  go_step3
  go_wp2_with fail
  try (go_step3; go_wp2_with fail)
  refine (Values_at A L.length c W1).mono ?_
  rintro e W2 ⟨rfl, hxr, hx2⟩
  have hit2 : ItR W1.heap.size A c L W2 := ⟨hxr, HIT.out.2.ext hx2⟩
  have HI2 := Lib.hid hit2; have HIO := Lib.hid (HIT.out.ext hx2); have HJ2 := Lib.hid (hJ [] W1 W2 none (by simp) (grown_none hx2) HJ.out); have HBX2 := Lib.hid (hx2.heap HBX.out); have HX2 := Lib.hid (HX.out.trans hx2)
  have hz2 : W.heap.size + 1 ≤ W2.heap.size := by have := hx2.size; have := HZ.out; omega
  have HZ2 := Lib.hid hz2
  clear hxr hx2 hit2 HIT HJ HBX HX hz2
  have upJ : ∀ pre, Stab W2.heap.size (J pre) := fun pre X Y l hl hn hg h => hsJ pre X Y l (by have := HZ2.out; omega) hn hg h
  go_wp2_with fail
  refine wpIn_wide.1 (wp_rangeM (gf := 68) (lb := #[.pointer (some ⟨W1.heap.size, 0, none⟩)]) rfl (Go.Proofs.enters_of Tryz.func68 (by kernel_rfl) rfl)
    (values_iter W1.heap.size A c L hL) (fun _ => rfl) (fun k hk => hk.elim) HI2.out (ItR.stab _ _ _ _ _)
    (fun pre V => J pre V ∧ ItR g A c L V ∧ V.heap[W.heap.size]? = some (.cells #[.func (.yield lp) #[] #[]] 71 (0, 0))) (fun cd pre V => cd = .exit 0 ∧ Jx pre V)
    (fun pre => (upJ pre).and ((ItR.stab _ _ _ _ _).and (Stab.heap _ _ _ _))) (fun cd pre => (Stab.pure _).and (fun X Y l hl hn hg h => hsJx pre X Y l (by have := HZ2.out; omega) hn hg h))
    (fun pre X Y r hr hg h => ?_) (fun cd pre X Y r hr hg h => ?_) ⟨HJ2.out, HIO.out, HBX2.out⟩ ?_ ?_ ?_)
  · have hn : r = none := by cases r with | none => rfl | some k => exact (hr k rfl).elim
    subst hn
    exact ⟨hJ pre X Y none (by simp) hg h.1, h.2.1.ext (grown_of_ext hg), (grown_of_ext hg).heap h.2.2⟩
  · exact ⟨h.1, hJx pre X Y r hr hg h.2⟩
  · intro l pre x V hl hnl hzV hIV hitV hGV
    simp only [ruleEnc]
    gi_wp2_with fail
    refine ⟨KeepsFrom.refl _ _, fun V2 hg2 hn2 hsz2 => ?_⟩
    have hJ2 := upJ pre V V2 l hl hn2 hg2 hIV.1
    have hI2 := (ItR.stab W2.heap.size g A c L) V V2 l hl hn2 hg2 hIV.2.1
    have hb2 := heap_nc hn2 hg2 hIV.2.2
    have hit2 := (ItR.stab W2.heap.size W1.heap.size A c L) V V2 l hl hn2 hg2 hitV
    have hyy := hY pre x V2 hJ2 hI2 hGV
    have c1 := (row1 hb2).1
    obtain ⟨fn, tmps, assign, body, hy, hR⟩ := hyy
    unfold ruleEnc at hy
    have HB2 := Lib.hid hb2; have HIT := Lib.hid hit2
    clear hJ2 hI2 hb2 hit2 hIV hitV hn2 hg2 hnl
    gi_wp2_with fail
    have hR' : RoundIn (Fence.wide.inRound l) 0 Tryz.prog lp fn tmps assign body V2 _ := hR
    clear hR
    refine ⟨rfl, hR'.mono ?_⟩
    rintro e W3 ⟨hq3, (⟨rfl, hJ3, hI3⟩ | ⟨rfl, hJx3⟩)⟩
    · have HJ3 := Lib.hid hJ3; have HI3 := Lib.hid hI3; have HQ3 := Lib.hid hq3
      clear hq3 hJ3 hI3 hy hR'
      gi_wp2_with fail
      have hk := HQ3.out
      have hz := HZ2.out
      exact ⟨(hk.mono (by omega)).keeps, ⟨hk.2 _ _ (by have := HZ.out; omega) HIT.out.1, HI3.out.2⟩, HJ3.out, HI3.out, hk.2 _ _ (Nat.le_refl _) HB2.out⟩
    · have HX3 := Lib.hid hJx3; have HQ3 := Lib.hid hq3
      clear hq3 hJx3 hy hR'
      gi_wp2_with fail
      have hk := HQ3.out
      have hz := HZ2.out
      exact ⟨(hk.mono (by omega)).keeps, rfl, HX3.out⟩
  · intro D xs V hD hS hIV hit hdf
    subst hS
    have hJ4 := upJ xs V (V.putObj D (.deferred none)) D hD (NC.of hdf rfl) (grown_put hdf) hIV.1
    have hI4 := (ItR.stab W2.heap.size g A c xs) V (V.putObj D (.deferred none)) D hD (NC.of hdf rfl) (grown_put hdf) hIV.2.1
    refine ⟨by simp, .inl ⟨_, _, rfl, run_takeDeferred hdf, ?_⟩⟩
    exact ⟨.tuple #[], by simp [results, Tryz.results38, go_sem], ⟨_, rfl⟩, .inl ⟨_, rfl, hJ4, hI4⟩⟩
  · intro D cd pre V hD hSp hIx hdf
    obtain ⟨rfl, hx⟩ := hIx
    have hJ4 := hsJx pre V (V.putObj D (.deferred none)) D (by have := HZ2.out; omega) (NC.of hdf rfl) (grown_put hdf) hx
    have HX4 := Lib.hid hJ4; have HSP := Lib.hid hSp; have HDF := Lib.hid hdf
    clear hx hSp hJ4 hdf
    gi_wp2_with fail
    refine ⟨by simp, .inl ⟨_, _, rfl, run_takeDeferred HDF.out, ?_⟩⟩
    exact ⟨.tuple #[], by simp [results, Tryz.results38, go_sem], ⟨_, rfl⟩, .inr ⟨_, HSP.out, HX4.out⟩⟩
end Go.Proofs.YtgfjmmdkdhodiaaGreatDoor
