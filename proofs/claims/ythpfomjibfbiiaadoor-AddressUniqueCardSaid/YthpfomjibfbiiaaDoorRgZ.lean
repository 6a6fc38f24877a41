/- Texts laid together (wip/tools/merge.py): RangeM, RangeC, RangeX, Round, RoundT, RangeN. -/
import Derived.Test.YthpfomjibfbiiaaDoorRange
import Derived.Deep.Quiet
import Derived.OrdersIn
import Derived.Test.YthpfomjibfbiiaaDoorExt2
import Derived.TacticsIn
import Derived.Test.YthpfomjibfbiiaaDoorRangeP
namespace Go.Proofs.YthpfomjibfbiiaaDoor
open Go Go.RowKit
set_option linter.unusedVariables false

/-- What is no cells, from block B on, lies as it lay. -/
def NCK (B : Nat) (W W' : World) : Prop := W.heap.size ≤ W'.heap.size ∧ ∀ k o, B ≤ k → W.heap[k]? = some o → o.isCells = false → W'.heap[k]? = some o
theorem NCK.trans {B : Nat} {X Y Z : World} (h : NCK B X Y) (k : NCK B Y Z) : NCK B X Z := ⟨Nat.le_trans h.1 k.1, fun i o hB hi ho => k.2 i o hB (h.2 i o hB hi ho) ho⟩
theorem NCK.of_keeps {B C : Nat} {X Y : World} (h : KeepsFrom B X Y) (hB : B ≤ C) : NCK C X Y := ⟨h.size, fun k o hk hi ho => h.same k o (by omega) hi ho⟩
theorem NCK.put {B l : Nat} {W : World} (o : Obj) (h : l < B) : NCK B W (W.putObj l o) := ⟨by simp [World.putObj], fun k o' hk hi _ => (World.putObj_heap_other (by omega)).trans hi⟩
section
variable {P : Program}
/-- An iterator's contract; it may keep memory of its own making that is no cells (a map): a round leaves what is no cells, from the call's beginning on, as it lay. It: what it must find; G: what holds of what it hands over (what has come before, what comes now, in which world); own: blocks of its own that it writes; S: all that comes; Sp: a part that may have come when a round has said no more. -/
def IterM {α : Type} (P : Program) (gf : Nat) (lb : Array Value) (encs : α → Array Value) (It : World → Prop) (G : List α → α → World → Prop) (own : Nat → Prop) (S Sp : List α → Prop) : Prop :=
  ∀ (l : Nat) (J Jx : List α → World → Prop) (W : World),
    (∀ pre A B r, (∀ k, r = some k → own k) → A.grownBy B r → J pre A → J pre B) → (∀ pre A B r, (∀ k, r = some k → own k) → A.grownBy B r → Jx pre A → Jx pre B) →
    (∀ pre x W1, J pre W1 → It W1 → G pre x W1 → YieldAt Fence.wide 0 P l (encs x) W1 fun e W' => NCK W.heap.size W1 W' ∧
      ((e = .returned (.bool true) ∧ J (pre ++ [x]) W' ∧ It W') ∨ (e = .returned (.bool false) ∧ Jx (pre ++ [x]) W'))) →
    It W → J [] W →
    CallsIn Fence.wide 0 P gf (#[.func (.yield l) #[] #[]] ++ lb) W fun e W' => (∃ v, e = .returned v) ∧ ((∃ xs, S xs ∧ J xs W' ∧ It W') ∨ (∃ pre, Sp pre ∧ Jx pre W'))

/-- THE RULE. -/
theorem wp_rangeM {α : Type} {g : Operand} {ps : Array Tmp} {assign body : Code} {Q : Exit → Act → World → Prop} {a : Act} {w : World}
    {gf : Nat} {lb : Array Value} (hg : a.eval g = .func (.func gf) #[] lb) (eg : ∀ args w, (callFunc gf args).run P w = .ok (.enter gf args) w)
    {encs : α → Array Value} {It : World → Prop} {G : List α → α → World → Prop} {own : Nat → Prop} {S Sp : List α → Prop} (hseq : IterM P gf lb encs It G own S Sp) (hps : ∀ x, (encs x).size = ps.size)
    (hown : ∀ k, own k → k < w.heap.size) (hIt0 : It w) (hIt : Stab w.heap.size It)
    (I : List α → World → Prop) (Ix : Code → List α → World → Prop) (hI : ∀ pre, Stab w.heap.size (I pre)) (hIx : ∀ c pre, Stab w.heap.size (Ix c pre))
    (hIo : ∀ pre A B r, (∀ k, r = some k → own k) → A.grownBy B r → I pre A → I pre B) (hIxo : ∀ c pre A B r, (∀ k, r = some k → own k) → A.grownBy B r → Ix c pre A → Ix c pre B)
    (h0 : I [] w)
    (hround : ∀ (l : Nat) (pre : List α) (x : α) (W : World), w.heap.size ≤ l → NC W l → w.heap.size ≤ W.heap.size → I pre W → It W → G pre x W →
      assign.wpIn (Fence.wide.inRound l) 0 P (Exit.then (fun a' W1 => KeepsFrom w.heap.size W W1 ∧ ∀ W2, W1.grownBy W2 (some l) → NC W1 l → W2.heap.size = W1.heap.size →
          body.wpIn (Fence.wide.inRound l) 0 P (bPost w.heap.size It I Ix (pre ++ [x]) W2) a' W2) (fun _ _ _ => False))
        { tmps := (ps.zip (encs x)).foldl (fun t (p, v) => t.setIfInBounds p v) a.tmps, defers := [] } W)
    (hdone : ∀ (D : Nat) (xs : List α) (W : World), w.heap.size ≤ D → S xs → I xs W → It W → W.heap[D]? = some (.deferred (some [])) → Q .normal { a with defers := { target := .collected D, args := #[] } :: a.defers } W)
    (hstop : ∀ (D : Nat) (c : Code) (pre : List α) (W : World), w.heap.size ≤ D → Sp pre → Ix c pre W → W.heap[D]? = some (.deferred (some [])) → c.wpIn Fence.wide 0 P Q { a with defers := { target := .collected D, args := #[] } :: a.defers } W) :
    (Code.rangeFunc g ps assign body).wpIn Fence.wide 0 P Q a w := by
  refine wpIn_rangeFunc ?_
  intro fn hfn
  obtain ⟨rc, hrc⟩ : ∃ rc : LoopState → Option Code → Loop, rc = fun st pe => { state := st, pending := pe, fn, tmps := a.tmps, params := ps, assign, body, defers := w.heap.size } := ⟨_, rfl⟩
  obtain ⟨V, hV⟩ : ∃ V, (w.alloc (.deferred (some []))).alloc (.loop (rc .ready none)) = V := ⟨_, rfl⟩
  have hxV : Ext w V := by rw [← hV]; exact ((Ext.refl w).alloc _).alloc _
  have hVz : V.heap.size = w.heap.size + 2 := by rw [← hV]; simp
  have hVL : V.heap[w.heap.size + 1]? = some (.loop (rc .ready none)) := by
    rw [← hV]
    have := heap_alloc_new (w.alloc (.deferred (some []))) (.loop (rc .ready none))
    rwa [World.size_alloc] at this
  have hVD : V.heap[w.heap.size]? = some (.deferred (some [])) := by rw [← hV]; exact ((Ext.refl _).alloc _).heap (heap_alloc_new w _)
  have ncL : ∀ {W : World} {r : Loop}, W.heap[w.heap.size + 1]? = some (.loop r) → NC W (w.heap.size + 1) := fun h => NC.of h rfl
  have toV : ∀ {K : World → Prop}, Stab w.heap.size K → K w → K V := by
    intro K hK hk
    have hn : NC w w.heap.size := fun cs t fr e => by simp at e
    exact hK w V w.heap.size (Nat.le_refl _) hn (hxV.but _) hk
  have keepsOwn : ∀ {A B : World} {r : Option Nat} {k : Nat} {o : Obj}, (∀ j, r = some j → own j) → A.grownBy B r → w.heap.size ≤ k → A.heap[k]? = some o → B.heap[k]? = some o := by
    intro A B r k o hr hgr hk ho
    exact (hgr.block k (Array.getElem?_eq_some_iff.1 ho).1 (fun e => by have := hown k (hr k e.symm); omega)).trans ho
  refine ⟨w.heap.size + 1, [{ target := .collected w.heap.size, args := #[] }], V, { target := .fn (.func gf) lb, args := #[.func (.yield (w.heap.size + 1)) #[] #[]] }, V, gf,
    #[.func (.yield (w.heap.size + 1)) #[] #[]] ++ lb, V, ?_, ?_, ?_, ?_, fun h => by simp [Fence.wide] at h, ?_⟩
  · rw [← hV, hrc]
    exact run_enterLoop_outer _ _ _ _ _
  · simp only [resolve, hg]
    simp [go_sem]
  · intro f' hf'
    trivial
  · simp [invoke, go_sem, eg]
  · refine (hseq (w.heap.size + 1)
      (fun pre W => w.heap.size + 2 ≤ W.heap.size ∧ I pre W ∧ W.heap[w.heap.size + 1]? = some (.loop (rc .ready none)) ∧ W.heap[w.heap.size]? = some (.deferred (some [])))
      (fun pre W => ∃ c, Ix c pre W ∧ W.heap[w.heap.size + 1]? = some (.loop (rc .done (some c))) ∧ W.heap[w.heap.size]? = some (.deferred (some [])))
      V (fun pre A B r hr hgr h => ⟨Nat.le_trans h.1 hgr.size, hIo pre A B r hr hgr h.2.1, keepsOwn hr hgr (by omega) h.2.2.1, keepsOwn hr hgr (Nat.le_refl _) h.2.2.2⟩)
      (fun pre A B r hr hgr ⟨c, h1, h2, h3⟩ => ⟨c, hIxo c pre A B r hr hgr h1, keepsOwn hr hgr (by omega) h2, keepsOwn hr hgr (Nat.le_refl _) h3⟩)
      ?_ (toV hIt hIt0) ⟨by rw [← hV]; simp, toV (hI []) h0, hVL, hVD⟩).mono ?_
    · rintro pre x W ⟨hsz, hi, hl, hd⟩ hit hG
      have hy := run_yield (P := P) (args := encs x) hl (by rw [hrc]; exact hps x)
      rw [hrc] at hy
      refine ⟨fn, _, assign, body, hy, roundIn_of_wpIn hfn ?_⟩
      have hr := hround (w.heap.size + 1) pre x W (by omega) (ncL hl) (by omega) hi hit hG
      refine wpIn_mono hr ?_
      clear hr hy
      rintro e a1 W1 h
      cases e with
      | normal =>
        obtain ⟨hk1, h⟩ := h
        have hl1 := hk1.same _ _ (by omega) hl rfl
        have hd1 := hk1.same _ _ (Nat.le_refl _) hd rfl
        refine ⟨_, run_beginRound hl1 (by rw [hrc]), ?_⟩
        have hlt1 := (Array.getElem?_eq_some_iff.1 hl1).1
        have hl2 : (W1.putObj (w.heap.size + 1) (.loop { rc .ready none with state := .busy })).heap[w.heap.size + 1]? = some (.loop { rc .ready none with state := .busy }) := World.putObj_heap_same hlt1
        have hd2 : (W1.putObj (w.heap.size + 1) (.loop { rc .ready none with state := .busy })).heap[w.heap.size]? = some (.deferred (some [])) := (World.putObj_heap_other (by omega)).trans hd1
        refine wpIn_mono (h _ (grown_put hl1) (ncL hl1) (by simp [World.putObj])) ?_
        have fin : ∀ (jump : Option Code) (W3 : World), KeepsFrom w.heap.size (W1.putObj (w.heap.size + 1) (.loop { rc .ready none with state := .busy })) W3 →
            ∃ W4, NCK (w.heap.size + 2) W3 W4 ∧ (Instr.endRound (w.heap.size + 1) jump).run P W3 = .ok (.bool jump.isNone) W4 ∧ W3.grownBy W4 (some (w.heap.size + 1)) ∧ NC W3 (w.heap.size + 1) ∧ w.heap.size + 2 ≤ W4.heap.size ∧
              W4.heap[w.heap.size + 1]? = some (.loop (rc (if jump.isNone then .ready else .done) jump)) ∧ W4.heap[w.heap.size]? = some (.deferred (some [])) := by
          intro jump W3 hk3
          have hl3 := hk3.same _ _ (by omega) hl2 rfl
          have hd3 := hk3.same _ _ (Nat.le_refl _) hd2 rfl
          have hlt3 := (Array.getElem?_eq_some_iff.1 hl3).1
          have hrun := run_endRound (P := P) jump hl3
          refine ⟨W3.putObj (w.heap.size + 1) (.loop (rc (if jump.isNone then .ready else .done) jump)), NCK.put _ (by omega), ?_, grown_put hl3, ncL hl3, by simp [World.putObj]; omega, World.putObj_heap_same hlt3, (World.putObj_heap_other (by omega)).trans hd3⟩
          rw [hrc] at hrun ⊢
          exact hrun
        rintro e a3 W3 hp
        cases e with
        | normal =>
          obtain ⟨hk3, hit3, hi3⟩ := hp
          obtain ⟨W4, hq4, hrun, hg4, hn4, hz4, hl4, hd4⟩ := fin none W3 hk3
          exact ⟨_, _, hrun, by rw [hVz]; exact (((NCK.of_keeps hk1 (by omega)).trans (NCK.put _ (by omega))).trans (NCK.of_keeps hk3 (by omega))).trans hq4, .inl ⟨rfl, ⟨hz4, hI _ _ _ _ (by omega) hn4 hg4 hi3, hl4, hd4⟩, hIt _ _ _ (by omega) hn4 hg4 hit3⟩⟩
        | ret =>
          obtain ⟨hk3, hi3⟩ := hp
          obtain ⟨W4, hq4, hrun, hg4, hn4, hz4, hl4, hd4⟩ := fin (some .ret) W3 hk3
          exact ⟨_, _, hrun, by rw [hVz]; exact (((NCK.of_keeps hk1 (by omega)).trans (NCK.put _ (by omega))).trans (NCK.of_keeps hk3 (by omega))).trans hq4, .inr ⟨rfl, .ret, hIx _ _ _ _ _ (by omega) hn4 hg4 hi3, hl4, hd4⟩⟩
        | exit id =>
          obtain ⟨hk3, hi3⟩ := hp
          obtain ⟨W4, hq4, hrun, hg4, hn4, hz4, hl4, hd4⟩ := fin (some (.exit id)) W3 hk3
          exact ⟨_, _, hrun, by rw [hVz]; exact (((NCK.of_keeps hk1 (by omega)).trans (NCK.put _ (by omega))).trans (NCK.of_keeps hk3 (by omega))).trans hq4, .inr ⟨rfl, .exit id, hIx _ _ _ _ _ (by omega) hn4 hg4 hi3, hl4, hd4⟩⟩
        | goto t =>
          obtain ⟨hk3, hi3⟩ := hp
          obtain ⟨W4, hq4, hrun, hg4, hn4, hz4, hl4, hd4⟩ := fin (some (.goto t)) W3 hk3
          exact ⟨_, _, hrun, by rw [hVz]; exact (((NCK.of_keeps hk1 (by omega)).trans (NCK.put _ (by omega))).trans (NCK.of_keeps hk3 (by omega))).trans hq4, .inr ⟨rfl, .goto t, hIx _ _ _ _ _ (by omega) hn4 hg4 hi3, hl4, hd4⟩⟩
        | panic ch => exact hp.elim
        | outgrown => exact hp.elim
      | ret => exact h.elim
      | exit id => exact h.elim
      | goto t => exact h.elim
      | panic ch => exact h.elim
      | outgrown => exact h.elim
    · rintro e W2 ⟨⟨v, rfl⟩, (⟨xs, hS, ⟨hz, hi, hl, hd⟩, hit⟩ | ⟨pre, hSp, c, hi, hl, hd⟩)⟩
      · have hrun := run_endLoop (P := P) hl (by rw [hrc]; simp)
        rw [hrc] at hrun
        refine ⟨none, _, hrun, ?_⟩
        exact hdone _ xs _ (Nat.le_refl _) hS (hI _ _ _ _ (by omega) (ncL hl) (grown_put hl) hi) (hIt _ _ _ (by omega) (ncL hl) (grown_put hl) hit) ((World.putObj_heap_other (by omega)).trans hd)
      · have hrun := run_endLoop (P := P) hl (by rw [hrc]; simp)
        rw [hrc] at hrun
        refine ⟨some c, _, hrun, ?_⟩
        exact hstop _ c pre _ (Nat.le_refl _) hSp (hIx _ _ _ _ _ (by omega) (ncL hl) (grown_put hl) hi) ((World.putObj_heap_other (by omega)).trans hd)
end
#print axioms wp_rangeM
end Go.Proofs.YthpfomjibfbiiaaDoor
namespace Go.Proofs.YthpfomjibfbiiaaDoor
open Go Go.RowKit
set_option linter.unusedVariables false
/-- What lies from block B on lies as it lay. -/
def KA (B : Nat) (W W' : World) : Prop := W.heap.size ≤ W'.heap.size ∧ ∀ k o, B ≤ k → W.heap[k]? = some o → W'.heap[k]? = some o
theorem KA.refl (B : Nat) (W : World) : KA B W W := ⟨Nat.le_refl _, fun _ _ _ h => h⟩
theorem KA.trans {B : Nat} {X Y Z : World} (h : KA B X Y) (k : KA B Y Z) : KA B X Z := ⟨Nat.le_trans h.1 k.1, fun i o hB hi => k.2 i o hB (h.2 i o hB hi)⟩
theorem KA.mono {B C : Nat} {X Y : World} (h : KA B X Y) (hB : B ≤ C) : KA C X Y := ⟨h.1, fun k o hk hi => h.2 k o (by omega) hi⟩
theorem KA.put {B l : Nat} {W : World} (o : Obj) (h : l < B) : KA B W (W.putObj l o) := ⟨by simp [World.putObj], fun k o' hk hi => (World.putObj_heap_other (by omega)).trans hi⟩
theorem KA.of_ext {B : Nat} {W W' : World} (h : Ext W W') : KA B W W' := ⟨h.size, fun k o _ hi => h.heap hi⟩
theorem KA.of_grown {B l : Nat} {W W' : World} (h : W.grownBy W' (some l)) (hl : l < B) : KA B W W' := ⟨h.size, fun k o hk hi => (h.block k (Array.getElem?_eq_some_iff.1 hi).1 (by intro e; cases e; omega)).trans hi⟩
theorem KA.nck {B : Nat} {W W' : World} (h : KA B W W') : NCK B W W' := ⟨h.1, fun k o hB hi _ => h.2 k o hB hi⟩
theorem KA.keeps {B : Nat} {W W' : World} (h : KA B W W') : KeepsFrom B W W' := ⟨h.1, fun k o hB hi _ => h.2 k o hB hi⟩
theorem Stab.rs {B : Nat} (v : Value) (xs : List Value) : Stab B (fun W => RS W v xs) := fun W W' l _ hn hg ⟨A, c, hv, h1, h2, h3⟩ => ⟨A, c, hv, h1, h2, fun hp => by
  obtain ⟨ad, ha, hb, hc⟩ := h3 hp
  refine ⟨ad, ha, Nat.lt_of_lt_of_le hb hg.size, fun j u hu => ?_⟩
  have hcu := hc j u hu
  refine hg.cell hcu ?_
  rw [block_of_add]
  intro e
  injection e with e
  subst e
  unfold World.cell? at hcu
  cases ho : W.heap[(ad.add j).block]? with
  | none => rw [ho] at hcu; simp at hcu
  | some o =>
    rw [block_of_add] at ho
    cases o with
    | cells cs t fr => exact hn cs t fr ho
    | _ => simp [ho, block_of_add] at hcu⟩
/-- How a round may end. -/
def bPostC {α : Type} (B : Nat) (It : World → Prop) (I : List α → World → Prop) (Ix : Code → List α → World → Prop) (xs : List α) (W : World) : Exit → Act → World → Prop
  | .normal, _, W' => KA B W W' ∧ It W' ∧ I xs W'
  | .ret, _, W' => KA B W W' ∧ Ix .ret xs W'
  | .exit id, _, W' => KA B W W' ∧ Ix (.exit id) xs W'
  | .goto t, _, W' => KA B W W' ∧ Ix (.goto t) xs W'
  | .panic _, _, _ => False
  | .outgrown, _, _ => False
section
variable {P : Program}
/-- An iterator's contract, of one that ranges over another iterator itself: what the caller keeps bears records of loops, and a round leaves all that lies from the call's beginning on; it may keep memory of its own making that is no cells (a map): a round leaves what is no cells, from the call's beginning on, as it lay. It: what it must find; G: what holds of what it hands over (what has come before, what comes now, in which world); own: blocks of its own that it writes; S: all that comes; Sp: a part that may have come when a round has said no more. -/
def IterC {α : Type} (P : Program) (gf : Nat) (lb : Array Value) (encs : α → Array Value) (It : World → Prop) (G : List α → α → World → Prop) (own : Nat → Prop) (S Sp : List α → Prop) : Prop :=
  ∀ (l : Nat) (J Jx : List α → World → Prop) (W : World),
    (∀ pre A B r, (∀ k, r = some k → own k) → A.grownBy B r → J pre A → J pre B) → (∀ pre A B r, (∀ k, r = some k → own k) → A.grownBy B r → Jx pre A → Jx pre B) →
    (∀ pre, Stab W.heap.size (J pre)) → (∀ pre, Stab W.heap.size (Jx pre)) →
    (∀ pre x W1, J pre W1 → It W1 → G pre x W1 → YieldAt Fence.wide 0 P l (encs x) W1 fun e W' => KA W.heap.size W1 W' ∧
      ((e = .returned (.bool true) ∧ J (pre ++ [x]) W' ∧ It W') ∨ (e = .returned (.bool false) ∧ Jx (pre ++ [x]) W'))) →
    It W → J [] W →
    CallsIn Fence.wide 0 P gf (#[.func (.yield l) #[] #[]] ++ lb) W fun e W' => (∃ v, e = .returned v) ∧ ((∃ xs, S xs ∧ J xs W' ∧ It W') ∨ (∃ pre, Sp pre ∧ Jx pre W'))

/-- THE RULE. -/
theorem wp_rangeC {α : Type} {g : Operand} {ps : Array Tmp} {assign body : Code} {Q : Exit → Act → World → Prop} {a : Act} {w : World}
    {gf : Nat} {lb : Array Value} (hg : a.eval g = .func (.func gf) #[] lb) (eg : ∀ args w, (callFunc gf args).run P w = .ok (.enter gf args) w)
    {encs : α → Array Value} {It : World → Prop} {G : List α → α → World → Prop} {own : Nat → Prop} {S Sp : List α → Prop} (hseq : IterC P gf lb encs It G own S Sp) (hps : ∀ x, (encs x).size = ps.size)
    (hown : ∀ k, own k → k < w.heap.size) (hIt0 : It w) (hIt : Stab w.heap.size It)
    (I : List α → World → Prop) (Ix : Code → List α → World → Prop) (hI : ∀ pre, Stab w.heap.size (I pre)) (hIx : ∀ c pre, Stab w.heap.size (Ix c pre))
    (hIo : ∀ pre A B r, (∀ k, r = some k → own k) → A.grownBy B r → I pre A → I pre B) (hIxo : ∀ c pre A B r, (∀ k, r = some k → own k) → A.grownBy B r → Ix c pre A → Ix c pre B)
    (h0 : I [] w)
    (hround : ∀ (l : Nat) (pre : List α) (x : α) (W : World), w.heap.size ≤ l → NC W l → w.heap.size ≤ W.heap.size → I pre W → It W → G pre x W →
      assign.wpIn (Fence.wide.inRound l) 0 P (Exit.then (fun a' W1 => KA w.heap.size W W1 ∧ ∀ W2, W1.grownBy W2 (some l) → NC W1 l → W2.heap.size = W1.heap.size →
          body.wpIn (Fence.wide.inRound l) 0 P (bPostC w.heap.size It I Ix (pre ++ [x]) W2) a' W2) (fun _ _ _ => False))
        { tmps := (ps.zip (encs x)).foldl (fun t (p, v) => t.setIfInBounds p v) a.tmps, defers := [] } W)
    (hdone : ∀ (D : Nat) (xs : List α) (W : World), w.heap.size ≤ D → S xs → I xs W → It W → W.heap[D]? = some (.deferred (some [])) → Q .normal { a with defers := { target := .collected D, args := #[] } :: a.defers } W)
    (hstop : ∀ (D : Nat) (c : Code) (pre : List α) (W : World), w.heap.size ≤ D → Sp pre → Ix c pre W → W.heap[D]? = some (.deferred (some [])) → c.wpIn Fence.wide 0 P Q { a with defers := { target := .collected D, args := #[] } :: a.defers } W) :
    (Code.rangeFunc g ps assign body).wpIn Fence.wide 0 P Q a w := by
  refine wpIn_rangeFunc ?_
  intro fn hfn
  obtain ⟨rc, hrc⟩ : ∃ rc : LoopState → Option Code → Loop, rc = fun st pe => { state := st, pending := pe, fn, tmps := a.tmps, params := ps, assign, body, defers := w.heap.size } := ⟨_, rfl⟩
  obtain ⟨V, hV⟩ : ∃ V, (w.alloc (.deferred (some []))).alloc (.loop (rc .ready none)) = V := ⟨_, rfl⟩
  have hxV : Ext w V := by rw [← hV]; exact ((Ext.refl w).alloc _).alloc _
  have hVz : V.heap.size = w.heap.size + 2 := by rw [← hV]; simp
  have hVL : V.heap[w.heap.size + 1]? = some (.loop (rc .ready none)) := by
    rw [← hV]
    have := heap_alloc_new (w.alloc (.deferred (some []))) (.loop (rc .ready none))
    rwa [World.size_alloc] at this
  have hVD : V.heap[w.heap.size]? = some (.deferred (some [])) := by rw [← hV]; exact ((Ext.refl _).alloc _).heap (heap_alloc_new w _)
  have ncL : ∀ {W : World} {r : Loop}, W.heap[w.heap.size + 1]? = some (.loop r) → NC W (w.heap.size + 1) := fun h => NC.of h rfl
  have toV : ∀ {K : World → Prop}, Stab w.heap.size K → K w → K V := by
    intro K hK hk
    have hn : NC w w.heap.size := fun cs t fr e => by simp at e
    exact hK w V w.heap.size (Nat.le_refl _) hn (hxV.but _) hk
  have keepsOwn : ∀ {A B : World} {r : Option Nat} {k : Nat} {o : Obj}, (∀ j, r = some j → own j) → A.grownBy B r → w.heap.size ≤ k → A.heap[k]? = some o → B.heap[k]? = some o := by
    intro A B r k o hr hgr hk ho
    exact (hgr.block k (Array.getElem?_eq_some_iff.1 ho).1 (fun e => by have := hown k (hr k e.symm); omega)).trans ho
  have upI : ∀ pre, Stab V.heap.size (I pre) := fun pre X Y l hl hn hg h => hI pre X Y l (by omega) hn hg h
  have upIx : ∀ c pre, Stab V.heap.size (Ix c pre) := fun c pre X Y l hl hn hg h => hIx c pre X Y l (by omega) hn hg h
  refine ⟨w.heap.size + 1, [{ target := .collected w.heap.size, args := #[] }], V, { target := .fn (.func gf) lb, args := #[.func (.yield (w.heap.size + 1)) #[] #[]] }, V, gf,
    #[.func (.yield (w.heap.size + 1)) #[] #[]] ++ lb, V, ?_, ?_, ?_, ?_, fun h => by simp [Fence.wide] at h, ?_⟩
  · rw [← hV, hrc]
    exact run_enterLoop_outer _ _ _ _ _
  · simp only [resolve, hg]
    simp [go_sem]
  · intro f' hf'
    trivial
  · simp [invoke, go_sem, eg]
  · refine (hseq (w.heap.size + 1)
      (fun pre W => w.heap.size + 2 ≤ W.heap.size ∧ I pre W ∧ W.heap[w.heap.size + 1]? = some (.loop (rc .ready none)) ∧ W.heap[w.heap.size]? = some (.deferred (some [])))
      (fun pre W => ∃ c, Ix c pre W ∧ W.heap[w.heap.size + 1]? = some (.loop (rc .done (some c))) ∧ W.heap[w.heap.size]? = some (.deferred (some [])))
      V (fun pre A B r hr hgr h => ⟨Nat.le_trans h.1 hgr.size, hIo pre A B r hr hgr h.2.1, keepsOwn hr hgr (by omega) h.2.2.1, keepsOwn hr hgr (Nat.le_refl _) h.2.2.2⟩)
      (fun pre A B r hr hgr ⟨c, h1, h2, h3⟩ => ⟨c, hIxo c pre A B r hr hgr h1, keepsOwn hr hgr (by omega) h2, keepsOwn hr hgr (Nat.le_refl _) h3⟩)
      (fun pre => ((Stab.size _).and ((upI pre).and ((Stab.obj _ _ (by omega)).and (Stab.obj _ _ (by omega))))))
      (fun pre => Stab.ex fun c => (upIx c pre).and ((Stab.obj _ _ (by omega)).and (Stab.obj _ _ (by omega))))
      ?_ (toV hIt hIt0) ⟨by rw [← hV]; simp, toV (hI []) h0, hVL, hVD⟩).mono ?_
    · rintro pre x W ⟨hsz, hi, hl, hd⟩ hit hG
      have hy := run_yield (P := P) (args := encs x) hl (by rw [hrc]; exact hps x)
      rw [hrc] at hy
      refine ⟨fn, _, assign, body, hy, roundIn_of_wpIn hfn ?_⟩
      have hr := hround (w.heap.size + 1) pre x W (by omega) (ncL hl) (by omega) hi hit hG
      refine wpIn_mono hr ?_
      clear hr hy
      rintro e a1 W1 h
      cases e with
      | normal =>
        obtain ⟨hk1, h⟩ := h
        have hl1 := hk1.2 _ _ (by omega) hl
        have hd1 := hk1.2 _ _ (Nat.le_refl _) hd
        refine ⟨_, run_beginRound hl1 (by rw [hrc]), ?_⟩
        have hlt1 := (Array.getElem?_eq_some_iff.1 hl1).1
        have hl2 : (W1.putObj (w.heap.size + 1) (.loop { rc .ready none with state := .busy })).heap[w.heap.size + 1]? = some (.loop { rc .ready none with state := .busy }) := World.putObj_heap_same hlt1
        have hd2 : (W1.putObj (w.heap.size + 1) (.loop { rc .ready none with state := .busy })).heap[w.heap.size]? = some (.deferred (some [])) := (World.putObj_heap_other (by omega)).trans hd1
        refine wpIn_mono (h _ (grown_put hl1) (ncL hl1) (by simp [World.putObj])) ?_
        have fin : ∀ (jump : Option Code) (W3 : World), KA w.heap.size (W1.putObj (w.heap.size + 1) (.loop { rc .ready none with state := .busy })) W3 →
            ∃ W4, KA (w.heap.size + 2) W3 W4 ∧ (Instr.endRound (w.heap.size + 1) jump).run P W3 = .ok (.bool jump.isNone) W4 ∧ W3.grownBy W4 (some (w.heap.size + 1)) ∧ NC W3 (w.heap.size + 1) ∧ w.heap.size + 2 ≤ W4.heap.size ∧
              W4.heap[w.heap.size + 1]? = some (.loop (rc (if jump.isNone then .ready else .done) jump)) ∧ W4.heap[w.heap.size]? = some (.deferred (some [])) := by
          intro jump W3 hk3
          have hl3 := hk3.2 _ _ (by omega) hl2
          have hd3 := hk3.2 _ _ (Nat.le_refl _) hd2
          have hlt3 := (Array.getElem?_eq_some_iff.1 hl3).1
          have hrun := run_endRound (P := P) jump hl3
          refine ⟨W3.putObj (w.heap.size + 1) (.loop (rc (if jump.isNone then .ready else .done) jump)), KA.put _ (by omega), ?_, grown_put hl3, ncL hl3, by simp [World.putObj]; omega, World.putObj_heap_same hlt3, (World.putObj_heap_other (by omega)).trans hd3⟩
          rw [hrc] at hrun ⊢
          exact hrun
        rintro e a3 W3 hp
        cases e with
        | normal =>
          obtain ⟨hk3, hit3, hi3⟩ := hp
          obtain ⟨W4, hq4, hrun, hg4, hn4, hz4, hl4, hd4⟩ := fin none W3 hk3
          exact ⟨_, _, hrun, by rw [hVz]; exact (((hk1.mono (by omega)).trans (KA.put _ (by omega))).trans (hk3.mono (by omega))).trans hq4, .inl ⟨rfl, ⟨hz4, hI _ _ _ _ (by omega) hn4 hg4 hi3, hl4, hd4⟩, hIt _ _ _ (by omega) hn4 hg4 hit3⟩⟩
        | ret =>
          obtain ⟨hk3, hi3⟩ := hp
          obtain ⟨W4, hq4, hrun, hg4, hn4, hz4, hl4, hd4⟩ := fin (some .ret) W3 hk3
          exact ⟨_, _, hrun, by rw [hVz]; exact (((hk1.mono (by omega)).trans (KA.put _ (by omega))).trans (hk3.mono (by omega))).trans hq4, .inr ⟨rfl, .ret, hIx _ _ _ _ _ (by omega) hn4 hg4 hi3, hl4, hd4⟩⟩
        | exit id =>
          obtain ⟨hk3, hi3⟩ := hp
          obtain ⟨W4, hq4, hrun, hg4, hn4, hz4, hl4, hd4⟩ := fin (some (.exit id)) W3 hk3
          exact ⟨_, _, hrun, by rw [hVz]; exact (((hk1.mono (by omega)).trans (KA.put _ (by omega))).trans (hk3.mono (by omega))).trans hq4, .inr ⟨rfl, .exit id, hIx _ _ _ _ _ (by omega) hn4 hg4 hi3, hl4, hd4⟩⟩
        | goto t =>
          obtain ⟨hk3, hi3⟩ := hp
          obtain ⟨W4, hq4, hrun, hg4, hn4, hz4, hl4, hd4⟩ := fin (some (.goto t)) W3 hk3
          exact ⟨_, _, hrun, by rw [hVz]; exact (((hk1.mono (by omega)).trans (KA.put _ (by omega))).trans (hk3.mono (by omega))).trans hq4, .inr ⟨rfl, .goto t, hIx _ _ _ _ _ (by omega) hn4 hg4 hi3, hl4, hd4⟩⟩
        | panic ch => exact hp.elim
        | outgrown => exact hp.elim
      | ret => exact h.elim
      | exit id => exact h.elim
      | goto t => exact h.elim
      | panic ch => exact h.elim
      | outgrown => exact h.elim
    · rintro e W2 ⟨⟨v, rfl⟩, (⟨xs, hS, ⟨hz, hi, hl, hd⟩, hit⟩ | ⟨pre, hSp, c, hi, hl, hd⟩)⟩
      · have hrun := run_endLoop (P := P) hl (by rw [hrc]; simp)
        rw [hrc] at hrun
        refine ⟨none, _, hrun, ?_⟩
        exact hdone _ xs _ (Nat.le_refl _) hS (hI _ _ _ _ (by omega) (ncL hl) (grown_put hl) hi) (hIt _ _ _ (by omega) (ncL hl) (grown_put hl) hit) ((World.putObj_heap_other (by omega)).trans hd)
      · have hrun := run_endLoop (P := P) hl (by rw [hrc]; simp)
        rw [hrc] at hrun
        refine ⟨some c, _, hrun, ?_⟩
        exact hstop _ c pre _ (Nat.le_refl _) hSp (hIx _ _ _ _ _ (by omega) (ncL hl) (grown_put hl) hi) ((World.putObj_heap_other (by omega)).trans hd)
end
end Go.Proofs.YthpfomjibfbiiaaDoor
namespace Go.Proofs.YthpfomjibfbiiaaDoor
open Go Go.RowKit
set_option linter.unusedVariables false
/-- What lies from block B on lies as it lay, but for the blocks F. -/
def KX (B : Nat) (F : Nat → Prop) (W W' : World) : Prop := W.heap.size ≤ W'.heap.size ∧ ∀ k o, B ≤ k → ¬ F k → W.heap[k]? = some o → W'.heap[k]? = some o
theorem KA.kx {B : Nat} {F : Nat → Prop} {W W' : World} (h : KA B W W') : KX B F W W' := ⟨h.1, fun k o hB _ hi => h.2 k o hB hi⟩
theorem KX.trans {B : Nat} {F : Nat → Prop} {X Y Z : World} (h : KX B F X Y) (k : KX B F Y Z) : KX B F X Z := ⟨Nat.le_trans h.1 k.1, fun i o hB hF hi => k.2 i o hB hF (h.2 i o hB hF hi)⟩
theorem KX.mono {B C : Nat} {F : Nat → Prop} {X Y : World} (h : KX B F X Y) (hB : B ≤ C) : KX C F X Y := ⟨h.1, fun k o hk hF hi => h.2 k o (by omega) hF hi⟩
/-- How a round may end. -/
def bPostX {α : Type} (B : Nat) (F : Nat → Prop) (It : World → Prop) (I : List α → World → Prop) (Ix : Code → List α → World → Prop) (xs : List α) (W : World) : Exit → Act → World → Prop
  | .normal, _, W' => KX B F W W' ∧ It W' ∧ I xs W'
  | .ret, _, W' => KX B F W W' ∧ Ix .ret xs W'
  | .exit id, _, W' => KX B F W W' ∧ Ix (.exit id) xs W'
  | .goto t, _, W' => KX B F W W' ∧ Ix (.goto t) xs W'
  | .panic _, _, _ => False
  | .outgrown, _, _ => False
section
variable {P : Program}
/-- An iterator's contract, of one that ranges over another iterator itself: what the caller keeps bears records of loops, and a round leaves all that lies from the call's beginning on; it may keep memory of its own making that is no cells (a map): a round leaves what is no cells, from the call's beginning on, as it lay. It: what it must find; G: what holds of what it hands over (what has come before, what comes now, in which world); own: blocks of its own that it writes; S: all that comes; Sp: a part that may have come when a round has said no more. -/
def IterX {α : Type} (P : Program) (gf : Nat) (lb : Array Value) (encs : α → Array Value) (It : World → Prop) (G : List α → α → World → Prop) (fr : α → Nat → Prop) (own : Nat → Prop) (S Sp : List α → Prop) : Prop :=
  ∀ (l : Nat) (J Jx : List α → World → Prop) (W : World),
    (∀ pre A B r, (∀ k, r = some k → own k) → A.grownBy B r → J pre A → J pre B) → (∀ pre A B r, (∀ k, r = some k → own k) → A.grownBy B r → Jx pre A → Jx pre B) →
    (∀ pre, Stab W.heap.size (J pre)) → (∀ pre, Stab W.heap.size (Jx pre)) →
    (∀ pre x W1, J pre W1 → It W1 → G pre x W1 → YieldAt Fence.wide 0 P l (encs x) W1 fun e W' => KX W.heap.size (fr x) W1 W' ∧
      ((e = .returned (.bool true) ∧ J (pre ++ [x]) W' ∧ It W') ∨ (e = .returned (.bool false) ∧ Jx (pre ++ [x]) W'))) →
    It W → J [] W →
    CallsIn Fence.wide 0 P gf (#[.func (.yield l) #[] #[]] ++ lb) W fun e W' => (∃ v, e = .returned v) ∧ ((∃ xs, S xs ∧ J xs W' ∧ It W') ∨ (∃ pre, Sp pre ∧ Jx pre W'))

/-- THE RULE. -/
theorem wp_rangeX {α : Type} {g : Operand} {ps : Array Tmp} {assign body : Code} {Q : Exit → Act → World → Prop} {a : Act} {w : World}
    {gf : Nat} {lb : Array Value} (hg : a.eval g = .func (.func gf) #[] lb) (eg : ∀ args w, (callFunc gf args).run P w = .ok (.enter gf args) w)
    {encs : α → Array Value} {It : World → Prop} {G : List α → α → World → Prop} {fr : α → Nat → Prop} {own : Nat → Prop} {S Sp : List α → Prop} (hseq : IterX P gf lb encs It G fr own S Sp) (hfr : ∀ pre x W, G pre x W → ∀ k, fr x k → ∃ cs t f, W.heap[k]? = some (.cells cs t f)) (hps : ∀ x, (encs x).size = ps.size)
    (hown : ∀ k, own k → k < w.heap.size) (hIt0 : It w) (hIt : Stab w.heap.size It)
    (I : List α → World → Prop) (Ix : Code → List α → World → Prop) (hI : ∀ pre, Stab w.heap.size (I pre)) (hIx : ∀ c pre, Stab w.heap.size (Ix c pre))
    (hIo : ∀ pre A B r, (∀ k, r = some k → own k) → A.grownBy B r → I pre A → I pre B) (hIxo : ∀ c pre A B r, (∀ k, r = some k → own k) → A.grownBy B r → Ix c pre A → Ix c pre B)
    (h0 : I [] w)
    (hround : ∀ (l : Nat) (pre : List α) (x : α) (W : World), w.heap.size ≤ l → NC W l → w.heap.size ≤ W.heap.size → I pre W → It W → G pre x W →
      assign.wpIn (Fence.wide.inRound l) 0 P (Exit.then (fun a' W1 => KA w.heap.size W W1 ∧ ∀ W2, W1.grownBy W2 (some l) → NC W1 l → W2.heap.size = W1.heap.size →
          body.wpIn (Fence.wide.inRound l) 0 P (bPostX w.heap.size (fr x) It I Ix (pre ++ [x]) W2) a' W2) (fun _ _ _ => False))
        { tmps := (ps.zip (encs x)).foldl (fun t (p, v) => t.setIfInBounds p v) a.tmps, defers := [] } W)
    (hdone : ∀ (D : Nat) (xs : List α) (W : World), w.heap.size ≤ D → S xs → I xs W → It W → W.heap[D]? = some (.deferred (some [])) → Q .normal { a with defers := { target := .collected D, args := #[] } :: a.defers } W)
    (hstop : ∀ (D : Nat) (c : Code) (pre : List α) (W : World), w.heap.size ≤ D → Sp pre → Ix c pre W → W.heap[D]? = some (.deferred (some [])) → c.wpIn Fence.wide 0 P Q { a with defers := { target := .collected D, args := #[] } :: a.defers } W) :
    (Code.rangeFunc g ps assign body).wpIn Fence.wide 0 P Q a w := by
  refine wpIn_rangeFunc ?_
  intro fn hfn
  obtain ⟨rc, hrc⟩ : ∃ rc : LoopState → Option Code → Loop, rc = fun st pe => { state := st, pending := pe, fn, tmps := a.tmps, params := ps, assign, body, defers := w.heap.size } := ⟨_, rfl⟩
  obtain ⟨V, hV⟩ : ∃ V, (w.alloc (.deferred (some []))).alloc (.loop (rc .ready none)) = V := ⟨_, rfl⟩
  have hxV : Ext w V := by rw [← hV]; exact ((Ext.refl w).alloc _).alloc _
  have hVz : V.heap.size = w.heap.size + 2 := by rw [← hV]; simp
  have hVL : V.heap[w.heap.size + 1]? = some (.loop (rc .ready none)) := by
    rw [← hV]
    have := heap_alloc_new (w.alloc (.deferred (some []))) (.loop (rc .ready none))
    rwa [World.size_alloc] at this
  have hVD : V.heap[w.heap.size]? = some (.deferred (some [])) := by rw [← hV]; exact ((Ext.refl _).alloc _).heap (heap_alloc_new w _)
  have ncL : ∀ {W : World} {r : Loop}, W.heap[w.heap.size + 1]? = some (.loop r) → NC W (w.heap.size + 1) := fun h => NC.of h rfl
  have toV : ∀ {K : World → Prop}, Stab w.heap.size K → K w → K V := by
    intro K hK hk
    have hn : NC w w.heap.size := fun cs t fr e => by simp at e
    exact hK w V w.heap.size (Nat.le_refl _) hn (hxV.but _) hk
  have keepsOwn : ∀ {A B : World} {r : Option Nat} {k : Nat} {o : Obj}, (∀ j, r = some j → own j) → A.grownBy B r → w.heap.size ≤ k → A.heap[k]? = some o → B.heap[k]? = some o := by
    intro A B r k o hr hgr hk ho
    exact (hgr.block k (Array.getElem?_eq_some_iff.1 ho).1 (fun e => by have := hown k (hr k e.symm); omega)).trans ho
  have upI : ∀ pre, Stab V.heap.size (I pre) := fun pre X Y l hl hn hg h => hI pre X Y l (by omega) hn hg h
  have upIx : ∀ c pre, Stab V.heap.size (Ix c pre) := fun c pre X Y l hl hn hg h => hIx c pre X Y l (by omega) hn hg h
  refine ⟨w.heap.size + 1, [{ target := .collected w.heap.size, args := #[] }], V, { target := .fn (.func gf) lb, args := #[.func (.yield (w.heap.size + 1)) #[] #[]] }, V, gf,
    #[.func (.yield (w.heap.size + 1)) #[] #[]] ++ lb, V, ?_, ?_, ?_, ?_, fun h => by simp [Fence.wide] at h, ?_⟩
  · rw [← hV, hrc]
    exact run_enterLoop_outer _ _ _ _ _
  · simp only [resolve, hg]
    simp [go_sem]
  · intro f' hf'
    trivial
  · simp [invoke, go_sem, eg]
  · refine (hseq (w.heap.size + 1)
      (fun pre W => w.heap.size + 2 ≤ W.heap.size ∧ I pre W ∧ W.heap[w.heap.size + 1]? = some (.loop (rc .ready none)) ∧ W.heap[w.heap.size]? = some (.deferred (some [])))
      (fun pre W => ∃ c, Ix c pre W ∧ W.heap[w.heap.size + 1]? = some (.loop (rc .done (some c))) ∧ W.heap[w.heap.size]? = some (.deferred (some [])))
      V (fun pre A B r hr hgr h => ⟨Nat.le_trans h.1 hgr.size, hIo pre A B r hr hgr h.2.1, keepsOwn hr hgr (by omega) h.2.2.1, keepsOwn hr hgr (Nat.le_refl _) h.2.2.2⟩)
      (fun pre A B r hr hgr ⟨c, h1, h2, h3⟩ => ⟨c, hIxo c pre A B r hr hgr h1, keepsOwn hr hgr (by omega) h2, keepsOwn hr hgr (Nat.le_refl _) h3⟩)
      (fun pre => ((Stab.size _).and ((upI pre).and ((Stab.obj _ _ (by omega)).and (Stab.obj _ _ (by omega))))))
      (fun pre => Stab.ex fun c => (upIx c pre).and ((Stab.obj _ _ (by omega)).and (Stab.obj _ _ (by omega))))
      ?_ (toV hIt hIt0) ⟨by rw [← hV]; simp, toV (hI []) h0, hVL, hVD⟩).mono ?_
    · rintro pre x W ⟨hsz, hi, hl, hd⟩ hit hG
      have nL : ¬ fr x (w.heap.size + 1) := fun hf => by obtain ⟨cs, t, f, e⟩ := hfr pre x W hG _ hf; rw [hl] at e; cases e
      have nD : ¬ fr x w.heap.size := fun hf => by obtain ⟨cs, t, f, e⟩ := hfr pre x W hG _ hf; rw [hd] at e; cases e
      have hy := run_yield (P := P) (args := encs x) hl (by rw [hrc]; exact hps x)
      rw [hrc] at hy
      refine ⟨fn, _, assign, body, hy, roundIn_of_wpIn hfn ?_⟩
      have hr := hround (w.heap.size + 1) pre x W (by omega) (ncL hl) (by omega) hi hit hG
      refine wpIn_mono hr ?_
      clear hr hy
      rintro e a1 W1 h
      cases e with
      | normal =>
        obtain ⟨hk1, h⟩ := h
        have hl1 := hk1.2 _ _ (by omega) hl
        have hd1 := hk1.2 _ _ (Nat.le_refl _) hd
        refine ⟨_, run_beginRound hl1 (by rw [hrc]), ?_⟩
        have hlt1 := (Array.getElem?_eq_some_iff.1 hl1).1
        have hl2 : (W1.putObj (w.heap.size + 1) (.loop { rc .ready none with state := .busy })).heap[w.heap.size + 1]? = some (.loop { rc .ready none with state := .busy }) := World.putObj_heap_same hlt1
        have hd2 : (W1.putObj (w.heap.size + 1) (.loop { rc .ready none with state := .busy })).heap[w.heap.size]? = some (.deferred (some [])) := (World.putObj_heap_other (by omega)).trans hd1
        refine wpIn_mono (h _ (grown_put hl1) (ncL hl1) (by simp [World.putObj])) ?_
        have fin : ∀ (jump : Option Code) (W3 : World), KX w.heap.size (fr x) (W1.putObj (w.heap.size + 1) (.loop { rc .ready none with state := .busy })) W3 →
            ∃ W4, KA (w.heap.size + 2) W3 W4 ∧ (Instr.endRound (w.heap.size + 1) jump).run P W3 = .ok (.bool jump.isNone) W4 ∧ W3.grownBy W4 (some (w.heap.size + 1)) ∧ NC W3 (w.heap.size + 1) ∧ w.heap.size + 2 ≤ W4.heap.size ∧
              W4.heap[w.heap.size + 1]? = some (.loop (rc (if jump.isNone then .ready else .done) jump)) ∧ W4.heap[w.heap.size]? = some (.deferred (some [])) := by
          intro jump W3 hk3
          have hl3 := hk3.2 _ _ (by omega) nL hl2
          have hd3 := hk3.2 _ _ (Nat.le_refl _) nD hd2
          have hlt3 := (Array.getElem?_eq_some_iff.1 hl3).1
          have hrun := run_endRound (P := P) jump hl3
          refine ⟨W3.putObj (w.heap.size + 1) (.loop (rc (if jump.isNone then .ready else .done) jump)), KA.put _ (by omega), ?_, grown_put hl3, ncL hl3, by simp [World.putObj]; omega, World.putObj_heap_same hlt3, (World.putObj_heap_other (by omega)).trans hd3⟩
          rw [hrc] at hrun ⊢
          exact hrun
        rintro e a3 W3 hp
        cases e with
        | normal =>
          obtain ⟨hk3, hit3, hi3⟩ := hp
          obtain ⟨W4, hq4, hrun, hg4, hn4, hz4, hl4, hd4⟩ := fin none W3 hk3
          exact ⟨_, _, hrun, by rw [hVz]; exact ((((hk1.mono (by omega)).trans (KA.put _ (by omega))).kx).trans (hk3.mono (by omega))).trans hq4.kx, .inl ⟨rfl, ⟨hz4, hI _ _ _ _ (by omega) hn4 hg4 hi3, hl4, hd4⟩, hIt _ _ _ (by omega) hn4 hg4 hit3⟩⟩
        | ret =>
          obtain ⟨hk3, hi3⟩ := hp
          obtain ⟨W4, hq4, hrun, hg4, hn4, hz4, hl4, hd4⟩ := fin (some .ret) W3 hk3
          exact ⟨_, _, hrun, by rw [hVz]; exact ((((hk1.mono (by omega)).trans (KA.put _ (by omega))).kx).trans (hk3.mono (by omega))).trans hq4.kx, .inr ⟨rfl, .ret, hIx _ _ _ _ _ (by omega) hn4 hg4 hi3, hl4, hd4⟩⟩
        | exit id =>
          obtain ⟨hk3, hi3⟩ := hp
          obtain ⟨W4, hq4, hrun, hg4, hn4, hz4, hl4, hd4⟩ := fin (some (.exit id)) W3 hk3
          exact ⟨_, _, hrun, by rw [hVz]; exact ((((hk1.mono (by omega)).trans (KA.put _ (by omega))).kx).trans (hk3.mono (by omega))).trans hq4.kx, .inr ⟨rfl, .exit id, hIx _ _ _ _ _ (by omega) hn4 hg4 hi3, hl4, hd4⟩⟩
        | goto t =>
          obtain ⟨hk3, hi3⟩ := hp
          obtain ⟨W4, hq4, hrun, hg4, hn4, hz4, hl4, hd4⟩ := fin (some (.goto t)) W3 hk3
          exact ⟨_, _, hrun, by rw [hVz]; exact ((((hk1.mono (by omega)).trans (KA.put _ (by omega))).kx).trans (hk3.mono (by omega))).trans hq4.kx, .inr ⟨rfl, .goto t, hIx _ _ _ _ _ (by omega) hn4 hg4 hi3, hl4, hd4⟩⟩
        | panic ch => exact hp.elim
        | outgrown => exact hp.elim
      | ret => exact h.elim
      | exit id => exact h.elim
      | goto t => exact h.elim
      | panic ch => exact h.elim
      | outgrown => exact h.elim
    · rintro e W2 ⟨⟨v, rfl⟩, (⟨xs, hS, ⟨hz, hi, hl, hd⟩, hit⟩ | ⟨pre, hSp, c, hi, hl, hd⟩)⟩
      · have hrun := run_endLoop (P := P) hl (by rw [hrc]; simp)
        rw [hrc] at hrun
        refine ⟨none, _, hrun, ?_⟩
        exact hdone _ xs _ (Nat.le_refl _) hS (hI _ _ _ _ (by omega) (ncL hl) (grown_put hl) hi) (hIt _ _ _ (by omega) (ncL hl) (grown_put hl) hit) ((World.putObj_heap_other (by omega)).trans hd)
      · have hrun := run_endLoop (P := P) hl (by rw [hrc]; simp)
        rw [hrc] at hrun
        refine ⟨some c, _, hrun, ?_⟩
        exact hstop _ c pre _ (Nat.le_refl _) hSp (hIx _ _ _ _ _ (by omega) (ncL hl) (grown_put hl) hi) ((World.putObj_heap_other (by omega)).trans hd)
end
end Go.Proofs.YthpfomjibfbiiaaDoor
namespace Go.Proofs.YthpfomjibfbiiaaDoor
open Go Go.RowKit
set_option linter.unusedVariables false

section
variable {P : Program} {ops : Array Oper} {md : Region.Mode} {lr : Nat}

theorem defer_not {ρ : Operand → Value} {o : Oper} {w : World} (h : ∃ c, o.op = .defer c) : (∃ d w', (execOp ρ o).run P w = .ok (.defer d) w') ∨ ∃ x w', (execOp ρ o).run P w = .halt x w' := by
  obtain ⟨c, ho⟩ := h
  unfold execOp
  rw [ho]
  simp only [Sem.run_bind]
  cases (resolve ρ c o.type).run P w with
  | ok d w' => exact .inl ⟨d, w', by simp [Result.andThen]⟩
  | halt x w' => exact .inr ⟨x, w', by simp [Result.andThen]⟩

theorem rows_round {row : String} {args : Array Value} {w : World} {R : Value → World → Prop} (h : Rows P row args w R) : RowsIn (Fence.wide.inRound lr) 0 P row args w R := by
  intro c cs _
  obtain ⟨v, w', r, s⟩ := h c cs
  exact ⟨v, w', r, stepsIn_wide.2 s⟩

theorem wpIn_of_y {w0 : World} {o : Oper} {a : Act} {w : World} {V K : Value → World → Prop} {K' : Act → World → Prop} {Q' : Exit → Act → World → Prop} (h : Oper.yieldsK P o a w V K) (hK : ∀ v w', Ext w w' → K v w' → K' (a.put o.dst v) w') :
    o.wpIn (Fence.wide.inRound lr) 0 P a w K' Q' := by
  refine ⟨fun _ _ => trivial, ?_⟩
  by_cases hd : ∃ c, o.op = .defer c
  · unfold Oper.yieldsK at h
    rcases defer_not (P := P) (ρ := a.eval) (w := w) hd with ⟨d, w', e⟩ | ⟨x, w', e⟩
    · rw [e] at h; exact h.elim
    · rw [e] at h; exact h.elim
  · rw [Oper.semAt_eq _ _ _ (fun c e => hd ⟨c, e⟩)]
    unfold Oper.yieldsK at h
    generalize (execOp a.eval o).run P w = r at *
    cases r with
    | ok n w' =>
      cases n <;> simp only [yUpon] at h <;> simp only [Oper.uponIn]
      case value v => exact hK _ _ h.1 h.2
      case skip => exact hK _ _ h.1 h.2
      case enter f args =>
        refine ⟨fun hh => by simp [Fence.inRound, Fence.wide] at hh, CallsIn.inRound lr (callsIn_wide.2 (h.1.mono fun e w'' ⟨v, he, hx, hv⟩ => ?_))⟩
        subst he
        exact hK _ _ hx (h.2 v w'' hx hv)
      case row row args =>
        obtain ⟨h1, h2⟩ := h
        refine ⟨fun hh => by simp [Fence.inRound, Fence.wide] at hh, rows_round (h1.mono fun v w'' ⟨hx, hv⟩ => hK _ _ hx (h2 v w'' hx hv))⟩
    | halt x w' => simp only [yUpon] at h

theorem wpAnyIn_of_E {w0 : World} {Vs : Nat → Value → World → Prop} {Q : Act → World → Prop} {Q' : Exit → Act → World → Prop} (hQ : ∀ a w, Q a w → Q' .normal a w) : ∀ (fuel : Nat) (listed : Array Bool) (a : Act) (Ws : Marks') (w : World), above w0 Ws w →
    wpAnyE P md ops Vs w0 Q fuel listed a Ws → wpAnyIn (Fence.wide.inRound lr) 0 P md ops Q' fuel listed a w
  | 0, _, _, _, w, hw, h => ⟨(h ⟨w, hw⟩).1, hQ _ _ ((h ⟨w, hw⟩).2 w hw)⟩
  | fuel + 1, listed, a, Ws, w, hw, h => by
    obtain ⟨h1, h2⟩ := h ⟨w, hw⟩
    refine ⟨fun h0 => hQ _ _ (h1 h0 w hw), fun i hi => ?_⟩
    have hh := h2 i hi
    unfold eOp at hh
    unfold wpOpIn
    split
    · rename_i ho
      simp only [ho] at hh
      exact wpAnyIn_of_E hQ fuel _ _ _ _ hw hh
    · rename_i o ho
      simp only [ho] at hh
      split
      · rename_i hwd
        simp only [hwd, if_true] at hh
        exact wpIn_of_y (w0 := w0) (hh w hw.okw) (fun v w' hx hk => wpAnyIn_of_E hQ fuel _ _ _ _ (hw.step hx) hk)
      · rename_i hwd
        simp only [hwd] at hh
        exact ⟨fun _ _ => trivial, wpAnyIn_of_E hQ fuel _ _ _ _ hw hh⟩

/-- A region that draws its order, in a round: walked once in the order of the text. -/
theorem wp_round_ext (Vs : Nat → Value → World → Prop) {id : Nat} {Q : Exit → Act → World → Prop} {a : Act} {w : World} {l : List Oper} (hm : P.follows .mixedOrders = true) (hB : Region.lexB .any l.toArray = true)
    (h : wpE P l.toArray Vs w.drew (fun a' w' => Q .normal a' w') 0 l a []) : (Code.region id l.toArray true).wpIn (Fence.wide.inRound lr) 0 P Q a w := by
  simp only [Region.lexB, Bool.and_eq_true] at hB
  refine wpIn_region_any hm (wpAnyIn_of_E (w0 := w.drew) (Ws := []) (Q := fun a' w' => Q .normal a' w') (Vs := Vs) (fun _ _ h => h) _ _ _ _ ⟨Ext.refl _, fun _ _ h => by cases h⟩ ?_)
  have := wpAnyE_lex (Vs := Vs) (md := .any) hB.1 l 0 (Array.replicate l.length false) a [] (by simp) (by simpa using hB.2) h
  simpa using this

theorem wpIn_of_quietR {C : World → Prop} {o : Oper} {a : Act} {K : Act → Prop} {K' : Act → World → Prop} {Q' : Exit → Act → World → Prop} {w : World} (hw : C w) (h : ∀ a w', C w' → K a → K' a w') (hh : o.quiet P a C K) :
    o.wpIn (Fence.wide.inRound lr) 0 P a w K' Q' := by
  obtain ⟨v, h1, h2⟩ := hh
  have h3 := h1 w hw
  unfold Oper.quietAt at h3
  refine ⟨fun _ _ => trivial, ?_⟩
  by_cases hd : ∃ c, o.op = .defer c
  · rcases defer_not (P := P) (ρ := a.eval) (w := w) hd with ⟨d, w', e⟩ | ⟨x, w', e⟩
    · rw [e] at h3; exact h3.elim
    · rw [e] at h3; exact h3.elim
  · rw [Oper.semAt_eq _ _ _ (fun c e => hd ⟨c, e⟩)]
    generalize (execOp a.eval o).run P w = r at *
    cases r with
    | ok n w' =>
      cases n <;> simp only [Oper.quietUpon] at h3 <;> simp only [Oper.uponIn]
      case value u => obtain ⟨rfl, rfl⟩ := h3; exact h _ _ hw h2
      case skip => obtain ⟨rfl, rfl⟩ := h3; exact h _ _ hw h2
      case enter f args =>
        obtain ⟨rfl, h4⟩ := h3
        refine ⟨fun hh => by simp [Fence.inRound, Fence.wide] at hh, CallsIn.inRound lr (callsIn_wide.2 (h4.mono fun e w'' ⟨he, hc⟩ => ?_))⟩
        subst he
        exact h _ _ hc h2
    | halt x w' => simp only [Oper.quietUpon] at h3
theorem wpAnyIn_of_quietR {C : World → Prop} {Q : Act → Prop} {Q' : Exit → Act → World → Prop} (hQ : ∀ a w, C w → Q a → Q' .normal a w) : ∀ (fuel : Nat) (listed : Array Bool) (a : Act) (w : World), C w →
    wpAnyQ P md ops C Q fuel listed a → wpAnyIn (Fence.wide.inRound lr) 0 P md ops Q' fuel listed a w
  | 0, _, _, _, hw, h => ⟨h.1, hQ _ _ hw h.2⟩
  | fuel + 1, listed, a, w, hw, h => by
    refine ⟨fun h0 => hQ _ _ hw (h.1 h0), fun i hi => ?_⟩
    have hh := h.2 i hi
    unfold qOp at hh
    unfold wpOpIn
    split
    · rename_i ho; simp only [ho] at hh; exact wpAnyIn_of_quietR hQ fuel _ _ _ hw hh
    · rename_i o ho
      simp only [ho] at hh
      split
      · rename_i hwd; simp only [hwd, if_true] at hh; exact wpIn_of_quietR hw (fun a' w' hw' hk => wpAnyIn_of_quietR hQ fuel _ a' w' hw' hk) hh
      · rename_i hwd; simp only [hwd] at hh; exact ⟨fun _ _ => trivial, wpAnyIn_of_quietR hQ fuel _ _ _ hw hh⟩
/-- A region that draws its order and only reads, in a round. -/
theorem wp_round_quiet {id : Nat} {Q : Exit → Act → World → Prop} {a : Act} {w : World} {l : List Oper} (hm : P.follows .mixedOrders = true) (hB : Region.lexB .any l.toArray = true)
    (h : wpQuiet P l.toArray (fun w' => ∃ n, w' = w.drewN n) (fun a' => ∀ w', (∃ n, w' = w.drewN n) → Q .normal a' w') l a) : (Code.region id l.toArray true).wpIn (Fence.wide.inRound lr) 0 P Q a w := by
  simp only [Region.lexB, Bool.and_eq_true] at hB
  refine wpIn_region_any hm (wpAnyIn_of_quietR (C := fun w' => ∃ n, w' = w.drewN n) (Q := fun a' => ∀ w', (∃ n, w' = w.drewN n) → Q .normal a' w') (fun _ w' hw' h => h w' hw') _ _ _ _ ⟨1, rfl⟩ ?_)
  have := wpAnyQ_lex (C := fun w' => ∃ n, w' = w.drewN n) (md := .any) hB.1 l 0 (Array.replicate l.length false) a (by simp) (by simpa using hB.2) h
  simpa using this
end
#print axioms wp_round_quiet
end Go.Proofs.YthpfomjibfbiiaaDoor
namespace Go.Proofs.YthpfomjibfbiiaaDoor
open Go Go.RowKit
set_option linter.unusedVariables false

section
variable {P : Program} {ops : Array Oper} {md : Region.Mode} {lr : Nat}

theorem wpAnyIn_of_EL {w0 : World} {Vs : Nat → Value → World → Prop} {n g : Nat} {L : Array Bool → Act → World → Prop} {Q' : Exit → Act → World → Prop} (hL : ∀ listed a w, L listed a w → wpAnyIn (Fence.wide.inRound lr) 0 P md ops Q' g listed a w) : ∀ (fuel : Nat) (listed : Array Bool) (a : Act) (Ws : Marks') (w : World), above w0 Ws w →
    wpAnyEL P md ops Vs w0 n L fuel listed a Ws → wpAnyIn (Fence.wide.inRound lr) 0 P md ops Q' (fuel + g) listed a w
  | 0, _, _, _, w, hw, h => by rw [Nat.zero_add]; exact hL _ _ _ (h ⟨w, hw⟩ w hw)
  | fuel + 1, listed, a, Ws, w, hw, h => by
    rw [show fuel + 1 + g = (fuel + g) + 1 by omega]
    obtain ⟨h1, h2⟩ := h ⟨w, hw⟩
    refine ⟨fun h0 => absurd h0 h1, fun i hi => ?_⟩
    have hh := (h2 i hi).2
    unfold eOp at hh
    unfold wpOpIn
    split
    · rename_i ho
      simp only [ho] at hh
      exact wpAnyIn_of_EL hL fuel _ _ _ _ hw hh
    · rename_i o ho
      simp only [ho] at hh
      split
      · rename_i hwd
        simp only [hwd, if_true] at hh
        exact wpIn_of_y (w0 := w0) (hh w hw.okw) (fun v w' hx hk => wpAnyIn_of_EL hL fuel _ _ _ _ (hw.step hx) hk)
      · rename_i hwd
        simp only [hwd] at hh
        exact ⟨fun _ _ => trivial, wpAnyIn_of_EL hL fuel _ _ _ _ hw hh⟩

theorem wpAnyIn_of_seq {F : Fence} {nn : Nat} {Q' : Exit → Act → World → Prop} : ∀ (l : List Oper) (k : Nat) (listed : Array Bool) (a : Act) (w : World), (∀ j, l[j]? = ops[k + j]?) →
    Region.seqB md ops l.length k listed = true → wpListIn F nn P ops Q' l a w → wpAnyIn F nn P md ops Q' l.length listed a w
  | [], _, _, _, _, _, hB, h => ⟨by simpa [Region.seqB] using hB, h⟩
  | o :: l, k, listed, a, w, hl, hB, h => by
    have h0 : ops[k]? = some o := by simpa using (hl 0).symm
    simp only [List.length_cons, Region.seqB, Bool.and_eq_true, decide_eq_true_eq] at hB
    refine ⟨fun h1 => (by rw [hB.1] at h1; cases h1), fun i hi => ?_⟩
    rw [hB.1] at hi
    have hik : i = k := by simpa using hi
    subst hik
    have key : ∀ a' w', wpListIn F nn P ops Q' l a' w' → wpAnyIn F nn P md ops Q' l.length (listed.setIfInBounds i true) a' w' :=
      fun a' w' h' => wpAnyIn_of_seq l (i + 1) _ a' w' (fun j => by have := hl (j + 1); simpa [Nat.add_assoc, Nat.add_comm 1 j] using this) hB.2 h'
    unfold wpOpIn
    simp only [h0]
    unfold wpListIn at h
    split
    · rename_i hwd
      rw [if_pos hwd] at h
      exact Oper.wpIn_mono key h
    · rename_i hwd
      rw [if_neg hwd] at h
      exact ⟨h.1, key _ _ h.2⟩

/-- **A region that draws its order, with a tail, in a round.** -/
theorem wp_round_ext_tail (n : Nat) (Vs : Nat → Value → World → Prop) {id : Nat} {Q : Exit → Act → World → Prop} {a : Act} {w : World} {l : List Oper} (hm : P.follows .mixedOrders = true) (hB : Region.lexTailB .any l.toArray n = true)
    (h : wpE P l.toArray Vs w.drew (fun a' w' => wpListIn (Fence.wide.inRound lr) 0 P l.toArray Q (l.drop n) a' w') 0 (l.take n) a []) : (Code.region id l.toArray true).wpIn (Fence.wide.inRound lr) 0 P Q a w := by
  simp only [Region.lexTailB, Bool.and_eq_true, decide_eq_true_eq] at hB
  obtain ⟨⟨⟨⟨hsel, hn⟩, hs⟩, hc⟩, hlex⟩ := hB
  have hn' : n < l.length := by simpa using hn
  have htl : (l.take n).length = n := by simp; omega
  have hdl : (l.drop n).length = l.toArray.size - n := by simp
  have inv0 : HeadInv .any l.toArray n (Array.replicate l.toArray.size false) :=
    ⟨by simp, fun j oj _ hl => (by rw [getD_replicate_false] at hl; cases hl), fun t _ ht => getD_in (by simpa using ht) (getD_replicate_false _ _)⟩
  have H := wpAnyEL_lex (md := .any) (g := l.toArray.size - n) hsel hs hc hn (l.take n) 0 _ a [] (fun j hj => by
    have hj' : j < n := by rw [htl] at hj; exact hj
    simp [hj']) (by simpa using htl) inv0 (by rw [htl]; exact hlex) h
  refine wpIn_region_any hm ?_
  have := wpAnyIn_of_EL (lr := lr) (w0 := w.drew) (Q' := Q) (g := l.toArray.size - n) (fun listed a' w' hL => by
    have := wpAnyIn_of_seq (F := Fence.wide.inRound lr) (nn := 0) (md := .any) (Q' := Q) (l.drop n) n listed a' w' (fun j => by simp [List.getElem?_drop]) (by rw [hdl]; exact hL.1) hL.2
    rwa [hdl] at this) _ _ _ [] w.drew ⟨Ext.refl _, fun _ _ h => by cases h⟩ H
  rw [htl, show n + (l.toArray.size - n) = l.toArray.size by omega] at this
  exact this
end
#print axioms wp_round_ext_tail
end Go.Proofs.YthpfomjibfbiiaaDoor
namespace Go.Proofs.YthpfomjibfbiiaaDoor
open Go Go.RowKit
set_option linter.unusedVariables false
theorem Stab.keeps {B : Nat} (Bo : Nat) (W0 : World) (h : W0.heap.size ≤ B) : Stab B (fun W => KeepsFrom Bo W0 W) := fun W W' l hl _ hg hk =>
  ⟨Nat.le_trans hk.size hg.size, fun k o hB hko ho => (hg.block k (Array.getElem?_eq_some_iff.1 (hk.same k o hB hko ho)).1 (by intro e; cases e; have := (Array.getElem?_eq_some_iff.1 hko).1; omega)).trans (hk.same k o hB hko ho)⟩
theorem Ext.keeps {W W' : World} (h : Ext W W') (B : Nat) : KeepsFrom B W W' := h.keepsOthers.from B
section
variable {P : Program}
/-- THE RULE, at a loop in a round of loop l0. -/
theorem wp_rangeMN {α : Type} {g : Operand} {ps : Array Tmp} {assign body : Code} {Q : Exit → Act → World → Prop} {a : Act} {w : World}
    {l0 : Nat} (hl0 : ∃ r0, w.heap[l0]? = some (.loop r0)) {gf : Nat} {lb : Array Value} (hg : a.eval g = .func (.func gf) #[] lb) (eg : ∀ args w, (callFunc gf args).run P w = .ok (.enter gf args) w)
    {encs : α → Array Value} {It : World → Prop} {G : List α → α → World → Prop} {own : Nat → Prop} {S Sp : List α → Prop} (hseq : IterM P gf lb encs It G own S Sp) (hps : ∀ x, (encs x).size = ps.size)
    (hown : ∀ k, own k → k < w.heap.size) (hIt0 : It w) (hIt : Stab w.heap.size It)
    (I : List α → World → Prop) (Ix : Code → List α → World → Prop) (hI : ∀ pre, Stab w.heap.size (I pre)) (hIx : ∀ c pre, Stab w.heap.size (Ix c pre))
    (hIo : ∀ pre A B r, (∀ k, r = some k → own k) → A.grownBy B r → I pre A → I pre B) (hIxo : ∀ c pre A B r, (∀ k, r = some k → own k) → A.grownBy B r → Ix c pre A → Ix c pre B)
    (h0 : I [] w)
    (hround : ∀ (l : Nat) (pre : List α) (x : α) (W : World), w.heap.size ≤ l → NC W l → w.heap.size ≤ W.heap.size → I pre W → It W → G pre x W →
      assign.wpIn (Fence.wide.inRound l) 0 P (Exit.then (fun a' W1 => KeepsFrom w.heap.size W W1 ∧ ∀ W2, W1.grownBy W2 (some l) → NC W1 l → W2.heap.size = W1.heap.size →
          body.wpIn (Fence.wide.inRound l) 0 P (bPost w.heap.size It I Ix (pre ++ [x]) W2) a' W2) (fun _ _ _ => False))
        { tmps := (ps.zip (encs x)).foldl (fun t (p, v) => t.setIfInBounds p v) a.tmps, defers := [] } W)
    (hdone : ∀ (xs : List α) (W : World), S xs → I xs W → It W → Q .normal a W)
    (hstop : ∀ (c : Code) (pre : List α) (W : World), Sp pre → Ix c pre W → c.wpIn (Fence.wide.inRound l0) 0 P Q a W) :
    (Code.rangeFunc g ps assign body).wpIn (Fence.wide.inRound l0) 0 P Q a w := by
  obtain ⟨r0, hr0⟩ := hl0
  refine wpIn_rangeFunc ?_
  intro fn hfn
  obtain ⟨rc, hrc⟩ : ∃ rc : LoopState → Option Code → Loop, rc = fun st pe => { state := st, pending := pe, fn, tmps := a.tmps, params := ps, assign, body, defers := r0.defers } := ⟨_, rfl⟩
  obtain ⟨V, hV⟩ : ∃ V, w.alloc (.loop (rc .ready none)) = V := ⟨_, rfl⟩
  have hxV : Ext w V := by rw [← hV]; exact (Ext.refl w).alloc _
  have hVz : V.heap.size = w.heap.size + 1 := by rw [← hV]; simp
  have hVL : V.heap[w.heap.size]? = some (.loop (rc .ready none)) := by rw [← hV]; exact heap_alloc_new w _
  have ncL : ∀ {W : World} {r : Loop}, W.heap[w.heap.size]? = some (.loop r) → NC W (w.heap.size) := fun h => NC.of h rfl
  have toV : ∀ {K : World → Prop}, Stab w.heap.size K → K w → K V := by
    intro K hK hk
    have hn : NC w w.heap.size := fun cs t fr e => by simp at e
    exact hK w V w.heap.size (Nat.le_refl _) hn (hxV.but _) hk
  have keepsOwn : ∀ {A B : World} {r : Option Nat} {k : Nat} {o : Obj}, (∀ j, r = some j → own j) → A.grownBy B r → w.heap.size ≤ k → A.heap[k]? = some o → B.heap[k]? = some o := by
    intro A B r k o hr hgr hk ho
    exact (hgr.block k (Array.getElem?_eq_some_iff.1 ho).1 (fun e => by have := hown k (hr k e.symm); omega)).trans ho
  refine ⟨w.heap.size, [], V, { target := .fn (.func gf) lb, args := #[.func (.yield (w.heap.size)) #[] #[]] }, V, gf,
    #[.func (.yield (w.heap.size)) #[] #[]] ++ lb, V, ?_, ?_, ?_, ?_, fun h => by simp [Fence.wide] at h, ?_⟩
  · rw [← hV, hrc]
    exact run_enterLoop_inner hr0 _ _ _ _ _
  · simp only [resolve, hg]
    simp [go_sem]
  · intro f' hf'
    trivial
  · simp [invoke, go_sem, eg]
  · refine CallsIn.inRound l0 ((hseq (w.heap.size)
      (fun pre W => w.heap.size + 1 ≤ W.heap.size ∧ I pre W ∧ W.heap[w.heap.size]? = some (.loop (rc .ready none)))
      (fun pre W => ∃ c, Ix c pre W ∧ W.heap[w.heap.size]? = some (.loop (rc .done (some c))))
      V (fun pre A B r hr hgr h => ⟨Nat.le_trans h.1 hgr.size, hIo pre A B r hr hgr h.2.1, keepsOwn hr hgr (Nat.le_refl _) h.2.2⟩)
      (fun pre A B r hr hgr ⟨c, h1, h2⟩ => ⟨c, hIxo c pre A B r hr hgr h1, keepsOwn hr hgr (Nat.le_refl _) h2⟩)
      ?_ (toV hIt hIt0) ⟨by rw [← hV]; simp, toV (hI []) h0, hVL⟩).mono ?_)
    · rintro pre x W ⟨hsz, hi, hl⟩ hit hG
      have hy := run_yield (P := P) (args := encs x) hl (by rw [hrc]; exact hps x)
      rw [hrc] at hy
      refine ⟨fn, _, assign, body, hy, roundIn_of_wpIn hfn ?_⟩
      have hr := hround (w.heap.size) pre x W (by omega) (ncL hl) (by omega) hi hit hG
      refine wpIn_mono hr ?_
      clear hr hy
      rintro e a1 W1 h
      cases e with
      | normal =>
        obtain ⟨hk1, h⟩ := h
        have hl1 := hk1.same _ _ (Nat.le_refl _) hl rfl
        refine ⟨_, run_beginRound hl1 (by rw [hrc]), ?_⟩
        have hlt1 := (Array.getElem?_eq_some_iff.1 hl1).1
        have hl2 : (W1.putObj (w.heap.size) (.loop { rc .ready none with state := .busy })).heap[w.heap.size]? = some (.loop { rc .ready none with state := .busy }) := World.putObj_heap_same hlt1
        refine wpIn_mono (h _ (grown_put hl1) (ncL hl1) (by simp [World.putObj])) ?_
        have fin : ∀ (jump : Option Code) (W3 : World), KeepsFrom w.heap.size (W1.putObj (w.heap.size) (.loop { rc .ready none with state := .busy })) W3 →
            ∃ W4, NCK (w.heap.size + 1) W3 W4 ∧ (Instr.endRound (w.heap.size) jump).run P W3 = .ok (.bool jump.isNone) W4 ∧ W3.grownBy W4 (some (w.heap.size)) ∧ NC W3 (w.heap.size) ∧ w.heap.size + 1 ≤ W4.heap.size ∧
              W4.heap[w.heap.size]? = some (.loop (rc (if jump.isNone then .ready else .done) jump)) := by
          intro jump W3 hk3
          have hl3 := hk3.same _ _ (Nat.le_refl _) hl2 rfl
          have hlt3 := (Array.getElem?_eq_some_iff.1 hl3).1
          have hrun := run_endRound (P := P) jump hl3
          refine ⟨W3.putObj (w.heap.size) (.loop (rc (if jump.isNone then .ready else .done) jump)), NCK.put _ (by omega), ?_, grown_put hl3, ncL hl3, by simp [World.putObj]; omega, World.putObj_heap_same hlt3⟩
          rw [hrc] at hrun ⊢
          exact hrun
        rintro e a3 W3 hp
        cases e with
        | normal =>
          obtain ⟨hk3, hit3, hi3⟩ := hp
          obtain ⟨W4, hq4, hrun, hg4, hn4, hz4, hl4⟩ := fin none W3 hk3
          exact ⟨_, _, hrun, by rw [hVz]; exact (((NCK.of_keeps hk1 (by omega)).trans (NCK.put _ (by omega))).trans (NCK.of_keeps hk3 (by omega))).trans hq4, .inl ⟨rfl, ⟨hz4, hI _ _ _ _ (by omega) hn4 hg4 hi3, hl4⟩, hIt _ _ _ (by omega) hn4 hg4 hit3⟩⟩
        | ret =>
          obtain ⟨hk3, hi3⟩ := hp
          obtain ⟨W4, hq4, hrun, hg4, hn4, hz4, hl4⟩ := fin (some .ret) W3 hk3
          exact ⟨_, _, hrun, by rw [hVz]; exact (((NCK.of_keeps hk1 (by omega)).trans (NCK.put _ (by omega))).trans (NCK.of_keeps hk3 (by omega))).trans hq4, .inr ⟨rfl, .ret, hIx _ _ _ _ _ (by omega) hn4 hg4 hi3, hl4⟩⟩
        | exit id =>
          obtain ⟨hk3, hi3⟩ := hp
          obtain ⟨W4, hq4, hrun, hg4, hn4, hz4, hl4⟩ := fin (some (.exit id)) W3 hk3
          exact ⟨_, _, hrun, by rw [hVz]; exact (((NCK.of_keeps hk1 (by omega)).trans (NCK.put _ (by omega))).trans (NCK.of_keeps hk3 (by omega))).trans hq4, .inr ⟨rfl, .exit id, hIx _ _ _ _ _ (by omega) hn4 hg4 hi3, hl4⟩⟩
        | goto t =>
          obtain ⟨hk3, hi3⟩ := hp
          obtain ⟨W4, hq4, hrun, hg4, hn4, hz4, hl4⟩ := fin (some (.goto t)) W3 hk3
          exact ⟨_, _, hrun, by rw [hVz]; exact (((NCK.of_keeps hk1 (by omega)).trans (NCK.put _ (by omega))).trans (NCK.of_keeps hk3 (by omega))).trans hq4, .inr ⟨rfl, .goto t, hIx _ _ _ _ _ (by omega) hn4 hg4 hi3, hl4⟩⟩
        | panic ch => exact hp.elim
        | outgrown => exact hp.elim
      | ret => exact h.elim
      | exit id => exact h.elim
      | goto t => exact h.elim
      | panic ch => exact h.elim
      | outgrown => exact h.elim
    · rintro e W2 ⟨⟨v, rfl⟩, (⟨xs, hS, ⟨hz, hi, hl⟩, hit⟩ | ⟨pre, hSp, c, hi, hl⟩)⟩
      · have hrun := run_endLoop (P := P) hl (by rw [hrc]; simp)
        rw [hrc] at hrun
        refine ⟨none, _, hrun, ?_⟩
        exact hdone xs _ hS (hI _ _ _ _ (by omega) (ncL hl) (grown_put hl) hi) (hIt _ _ _ (by omega) (ncL hl) (grown_put hl) hit)
      · have hrun := run_endLoop (P := P) hl (by rw [hrc]; simp)
        rw [hrc] at hrun
        refine ⟨some c, _, hrun, ?_⟩
        exact hstop c pre _ hSp (hIx _ _ _ _ _ (by omega) (ncL hl) (grown_put hl) hi)
/-- THE RULE; the body is told of its loop's record. -/
theorem wp_rangePR {α : Type} {g : Operand} {ps : Array Tmp} {assign body : Code} {Q : Exit → Act → World → Prop} {a : Act} {w : World}
    {gf : Nat} {lb : Array Value} (hg : a.eval g = .func (.func gf) #[] lb) (eg : ∀ args w, (callFunc gf args).run P w = .ok (.enter gf args) w)
    {encs : α → Array Value} {It : List α → World → Prop} {G : List α → α → World → Prop} {own : Nat → Prop} {S Sp : List α → Prop} (hseq : IterP P gf lb encs It G own S Sp) (hps : ∀ x, (encs x).size = ps.size)
    (hown : ∀ k, own k → k < w.heap.size) (hIt0 : It [] w) (hIt : ∀ pre, Stab w.heap.size (It pre))
    (I : List α → World → Prop) (Ix : Code → List α → World → Prop) (hI : ∀ pre, Stab w.heap.size (I pre)) (hIx : ∀ c pre, Stab w.heap.size (Ix c pre))
    (hIo : ∀ pre A B r, (∀ k, r = some k → own k) → A.grownBy B r → I pre A → I pre B) (hIxo : ∀ c pre A B r, (∀ k, r = some k → own k) → A.grownBy B r → Ix c pre A → Ix c pre B)
    (h0 : I [] w)
    (hround : ∀ (l : Nat) (pre : List α) (x : α) (W : World), w.heap.size ≤ l → NC W l → w.heap.size ≤ W.heap.size → I pre W → It pre W → G pre x W →
      assign.wpIn (Fence.wide.inRound l) 0 P (Exit.then (fun a' W1 => KeepsFrom w.heap.size W W1 ∧ ∀ W2, W1.grownBy W2 (some l) → NC W1 l → W2.heap.size = W1.heap.size → (∃ r, W2.heap[l]? = some (.loop r)) →
          body.wpIn (Fence.wide.inRound l) 0 P (bPostP w.heap.size (It pre) I Ix (pre ++ [x]) W2) a' W2) (fun _ _ _ => False))
        { tmps := (ps.zip (encs x)).foldl (fun t (p, v) => t.setIfInBounds p v) a.tmps, defers := [] } W)
    (hdone : ∀ (D : Nat) (xs : List α) (W : World), w.heap.size ≤ D → S xs → I xs W → W.heap[D]? = some (.deferred (some [])) → Q .normal { a with defers := { target := .collected D, args := #[] } :: a.defers } W)
    (hstop : ∀ (D : Nat) (c : Code) (pre : List α) (W : World), w.heap.size ≤ D → Sp pre → Ix c pre W → W.heap[D]? = some (.deferred (some [])) → c.wpIn Fence.wide 0 P Q { a with defers := { target := .collected D, args := #[] } :: a.defers } W) :
    (Code.rangeFunc g ps assign body).wpIn Fence.wide 0 P Q a w := by
  refine wpIn_rangeFunc ?_
  intro fn hfn
  obtain ⟨rc, hrc⟩ : ∃ rc : LoopState → Option Code → Loop, rc = fun st pe => { state := st, pending := pe, fn, tmps := a.tmps, params := ps, assign, body, defers := w.heap.size } := ⟨_, rfl⟩
  obtain ⟨V, hV⟩ : ∃ V, (w.alloc (.deferred (some []))).alloc (.loop (rc .ready none)) = V := ⟨_, rfl⟩
  have hxV : Ext w V := by rw [← hV]; exact ((Ext.refl w).alloc _).alloc _
  have hVL : V.heap[w.heap.size + 1]? = some (.loop (rc .ready none)) := by
    rw [← hV]
    have := heap_alloc_new (w.alloc (.deferred (some []))) (.loop (rc .ready none))
    rwa [World.size_alloc] at this
  have hVD : V.heap[w.heap.size]? = some (.deferred (some [])) := by rw [← hV]; exact ((Ext.refl _).alloc _).heap (heap_alloc_new w _)
  have ncL : ∀ {W : World} {r : Loop}, W.heap[w.heap.size + 1]? = some (.loop r) → NC W (w.heap.size + 1) := fun h => NC.of h rfl
  have toV : ∀ {K : World → Prop}, Stab w.heap.size K → K w → K V := by
    intro K hK hk
    have hn : NC w w.heap.size := fun cs t fr e => by simp at e
    exact hK w V w.heap.size (Nat.le_refl _) hn (hxV.but _) hk
  have keepsOwn : ∀ {A B : World} {r : Option Nat} {k : Nat} {o : Obj}, (∀ j, r = some j → own j) → A.grownBy B r → w.heap.size ≤ k → A.heap[k]? = some o → B.heap[k]? = some o := by
    intro A B r k o hr hgr hk ho
    exact (hgr.block k (Array.getElem?_eq_some_iff.1 ho).1 (fun e => by have := hown k (hr k e.symm); omega)).trans ho
  refine ⟨w.heap.size + 1, [{ target := .collected w.heap.size, args := #[] }], V, { target := .fn (.func gf) lb, args := #[.func (.yield (w.heap.size + 1)) #[] #[]] }, V, gf,
    #[.func (.yield (w.heap.size + 1)) #[] #[]] ++ lb, V, ?_, ?_, ?_, ?_, fun h => by simp [Fence.wide] at h, ?_⟩
  · rw [← hV, hrc]
    exact run_enterLoop_outer _ _ _ _ _
  · simp only [resolve, hg]
    simp [go_sem]
  · intro f' hf'
    trivial
  · simp [invoke, go_sem, eg]
  · refine (hseq (w.heap.size + 1)
      (fun pre W => w.heap.size + 2 ≤ W.heap.size ∧ I pre W ∧ W.heap[w.heap.size + 1]? = some (.loop (rc .ready none)) ∧ W.heap[w.heap.size]? = some (.deferred (some [])))
      (fun pre W => ∃ c, Ix c pre W ∧ W.heap[w.heap.size + 1]? = some (.loop (rc .done (some c))) ∧ W.heap[w.heap.size]? = some (.deferred (some [])))
      V (fun pre A B r hr hgr h => ⟨Nat.le_trans h.1 hgr.size, hIo pre A B r hr hgr h.2.1, keepsOwn hr hgr (by omega) h.2.2.1, keepsOwn hr hgr (Nat.le_refl _) h.2.2.2⟩)
      (fun pre A B r hr hgr ⟨c, h1, h2, h3⟩ => ⟨c, hIxo c pre A B r hr hgr h1, keepsOwn hr hgr (by omega) h2, keepsOwn hr hgr (Nat.le_refl _) h3⟩)
      ?_ (toV (hIt []) hIt0) ⟨by rw [← hV]; simp, toV (hI []) h0, hVL, hVD⟩).mono ?_
    · rintro pre x W ⟨hsz, hi, hl, hd⟩ hit hG
      have hy := run_yield (P := P) (args := encs x) hl (by rw [hrc]; exact hps x)
      rw [hrc] at hy
      refine ⟨fn, _, assign, body, hy, roundIn_of_wpIn hfn ?_⟩
      have hr := hround (w.heap.size + 1) pre x W (by omega) (ncL hl) (by omega) hi hit hG
      refine wpIn_mono hr ?_
      clear hr hy
      rintro e a1 W1 h
      cases e with
      | normal =>
        obtain ⟨hk1, h⟩ := h
        have hl1 := hk1.same _ _ (by omega) hl rfl
        have hd1 := hk1.same _ _ (Nat.le_refl _) hd rfl
        refine ⟨_, run_beginRound hl1 (by rw [hrc]), ?_⟩
        have hlt1 := (Array.getElem?_eq_some_iff.1 hl1).1
        have hl2 : (W1.putObj (w.heap.size + 1) (.loop { rc .ready none with state := .busy })).heap[w.heap.size + 1]? = some (.loop { rc .ready none with state := .busy }) := World.putObj_heap_same hlt1
        have hd2 : (W1.putObj (w.heap.size + 1) (.loop { rc .ready none with state := .busy })).heap[w.heap.size]? = some (.deferred (some [])) := (World.putObj_heap_other (by omega)).trans hd1
        refine wpIn_mono (h _ (grown_put hl1) (ncL hl1) (by simp [World.putObj]) ⟨_, hl2⟩) ?_
        have fin : ∀ (jump : Option Code) (W3 : World), KeepsFrom w.heap.size (W1.putObj (w.heap.size + 1) (.loop { rc .ready none with state := .busy })) W3 →
            ∃ W4, (Instr.endRound (w.heap.size + 1) jump).run P W3 = .ok (.bool jump.isNone) W4 ∧ W3.grownBy W4 (some (w.heap.size + 1)) ∧ NC W3 (w.heap.size + 1) ∧ w.heap.size + 2 ≤ W4.heap.size ∧
              W4.heap[w.heap.size + 1]? = some (.loop (rc (if jump.isNone then .ready else .done) jump)) ∧ W4.heap[w.heap.size]? = some (.deferred (some [])) := by
          intro jump W3 hk3
          have hl3 := hk3.same _ _ (by omega) hl2 rfl
          have hd3 := hk3.same _ _ (Nat.le_refl _) hd2 rfl
          have hlt3 := (Array.getElem?_eq_some_iff.1 hl3).1
          have hrun := run_endRound (P := P) jump hl3
          refine ⟨W3.putObj (w.heap.size + 1) (.loop (rc (if jump.isNone then .ready else .done) jump)), ?_, grown_put hl3, ncL hl3, by simp [World.putObj]; omega, World.putObj_heap_same hlt3, (World.putObj_heap_other (by omega)).trans hd3⟩
          rw [hrc] at hrun ⊢
          exact hrun
        rintro e a3 W3 hp
        cases e with
        | normal =>
          obtain ⟨hk3, hit3, hi3⟩ := hp
          obtain ⟨W4, hrun, hg4, hn4, hz4, hl4, hd4⟩ := fin none W3 hk3
          exact ⟨_, _, hrun, .inl ⟨rfl, ⟨hz4, hI _ _ _ _ (by omega) hn4 hg4 hi3, hl4, hd4⟩, hIt pre _ _ _ (by omega) hn4 hg4 hit3⟩⟩
        | ret =>
          obtain ⟨hk3, hi3⟩ := hp
          obtain ⟨W4, hrun, hg4, hn4, hz4, hl4, hd4⟩ := fin (some .ret) W3 hk3
          exact ⟨_, _, hrun, .inr ⟨rfl, .ret, hIx _ _ _ _ _ (by omega) hn4 hg4 hi3, hl4, hd4⟩⟩
        | exit id =>
          obtain ⟨hk3, hi3⟩ := hp
          obtain ⟨W4, hrun, hg4, hn4, hz4, hl4, hd4⟩ := fin (some (.exit id)) W3 hk3
          exact ⟨_, _, hrun, .inr ⟨rfl, .exit id, hIx _ _ _ _ _ (by omega) hn4 hg4 hi3, hl4, hd4⟩⟩
        | goto t =>
          obtain ⟨hk3, hi3⟩ := hp
          obtain ⟨W4, hrun, hg4, hn4, hz4, hl4, hd4⟩ := fin (some (.goto t)) W3 hk3
          exact ⟨_, _, hrun, .inr ⟨rfl, .goto t, hIx _ _ _ _ _ (by omega) hn4 hg4 hi3, hl4, hd4⟩⟩
        | panic ch => exact hp.elim
        | outgrown => exact hp.elim
      | ret => exact h.elim
      | exit id => exact h.elim
      | goto t => exact h.elim
      | panic ch => exact h.elim
      | outgrown => exact h.elim
    · rintro e W2 ⟨⟨v, rfl⟩, (⟨xs, hS, ⟨hz, hi, hl, hd⟩⟩ | ⟨pre, hSp, c, hi, hl, hd⟩)⟩
      · have hrun := run_endLoop (P := P) hl (by rw [hrc]; simp)
        rw [hrc] at hrun
        refine ⟨none, _, hrun, ?_⟩
        exact hdone _ xs _ (Nat.le_refl _) hS (hI _ _ _ _ (by omega) (ncL hl) (grown_put hl) hi) ((World.putObj_heap_other (by omega)).trans hd)
      · have hrun := run_endLoop (P := P) hl (by rw [hrc]; simp)
        rw [hrc] at hrun
        refine ⟨some c, _, hrun, ?_⟩
        exact hstop _ c pre _ (Nat.le_refl _) hSp (hIx _ _ _ _ _ (by omega) (ncL hl) (grown_put hl) hi) ((World.putObj_heap_other (by omega)).trans hd)
end
#print axioms wp_rangeMN
#print axioms wp_rangePR
end Go.Proofs.YthpfomjibfbiiaaDoor
