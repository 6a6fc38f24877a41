/- append inside a round of a fenced loop; a row of the call's own stands. No program. -/
import Derived.Test.YthpfomjibfbiiaaGreatDoorRange
import Derived.Test.YthpfomjibfbiiaaGreatDoorMem
import Derived.OwnWalkIn
namespace Go.Proofs.YthpfomjibfbiiaaGreatDoor
open Go Go.RowKit
set_option linter.unusedVariables false
theorem wpListIn_append_rs {F : Fence} {n : Nat} {P : Program} (w : World) {ops : Array Oper} {rest : List Oper} {o : Oper} {a : Act} {Q : Exit → Act → World → Prop} (hgd : o.guard = none) (s x : Operand) (t : TypeId)
    (ho : o.op = .call { callee := .builtin .append, args := #[s, x], argTypes := #[t, t] })
    (base : Nat) (e : TypeId) (i : TypeInfo) (z : Value) (bytes : Nat) (ht : P.underlying t = some (.slice e)) (hi : P.info? e = some i) (hz : i.zero = some z)
    (hsize : i.size = 1) (hby : i.bytes = bytes) (hzs : z.cells.size = 1)
    (v : Value) (xs : List Value) (hs : a.eval s = v) (hown : w.ownsRow base e 1 v xs.length xs)
    (sv : Value) (news : List Value) (hx : a.eval x = sv) (hr : RS w sv news) (h1 : ∀ u ∈ news, u.oneCell' = true)
    (hbytes : (xs.length + news.length) * bytes ≤ 140737488355328) (hby0 : 0 < bytes) (hbase : base ≤ w.heap.size)
    (h : ∀ v' w', w'.ownsRow base e 1 v' (xs ++ news).length (xs ++ news) → w.grownBy w' v.ownBlock → (v'.ownBlock = v.ownBlock ∨ v'.ownBlock = some w.heap.size) → wpListIn F n P ops Q rest (a.put o.dst v') w') : wpListIn F n P ops Q (o :: rest) a w := by
  refine wpListIn_plain hgd fun K hK => ?_
  obtain ⟨v', w', hrun, h2, h3, h4⟩ := run_append_rs (P := P) w base t o.type e i z bytes ht hi hz hsize hby hzs v xs hown sv news hr h1 hbytes hby0 hbase
  unfold Oper.wpIn
  refine ⟨?_, ?_⟩
  · simp [Oper.about, ho, resolve, Target.leads, Sem.run_pure]
  · rw [Oper.semAt_plain F _ _ (by rw [ho]; intro c hc'; cases hc')]
    simp [execOp, ho, resolve, invoke, builtin, hs, hx, hrun, Result.andThen]
    exact hK _ _ (h v' w' h2 h3 h4)
theorem Stab.own {B : Nat} (b0 : Nat) (e : TypeId) (v : Value) (n : Nat) (xs : List Value) : Stab B (fun W => W.ownsRow b0 e 1 v n xs) := fun W W' l _ hn hg h => by
  refine ⟨h.1, ?_⟩
  rcases h.2 with hh | ⟨g, cap, cur, hv, hb, hh, r⟩
  · exact .inl hh
  · exact .inr ⟨g, cap, cur, hv, hb, heap_nc hn hg hh, r⟩
theorem own_ext1 {w w' : World} {B : Nat} {e : TypeId} {v : Value} {n : Nat} {xs : List Value} (h : w.ownsRow B e 1 v n xs) (he : Ext w w') : w'.ownsRow B e 1 v n xs :=
  h.kept (he.but none) (by cases hv : v.ownBlock <;> simp)
theorem own_keep {W W' : World} {row : Option Nat} {k B : Nat} {o : Obj} (hg : W.grownBy W' row) (hrow : ∀ j, row = some j → B ≤ j) (hk : k < B) (h : W.heap[k]? = some o) : W'.heap[k]? = some o :=
  (hg.block k (Array.getElem?_eq_some_iff.1 h).1 (fun e => by have := hrow k e.symm; omega)).trans h
/-- A store into one cell, below the row. -/
theorem own_set {w : World} {B : Nat} {e : TypeId} {v : Value} {n : Nat} {xs : List Value} (h : w.ownsRow B e 1 v n xs) {k : Nat} (u : Value) (hk : k < B) : (w.setCell ⟨k, 0, none⟩ u).ownsRow B e 1 v n xs :=
  h.kept (grown_set1 w k u) (by
    cases hv : v.ownBlock with
    | none => exact .inl rfl
    | some j => exact .inr (fun e => by have := (World.ownsRow.lt h j hv).1; injection e with e; omega))
/-- The row's block is one of cells. -/
theorem own_cells {w : World} {B : Nat} {e : TypeId} {v : Value} {n : Nat} {xs : List Value} (h : w.ownsRow B e 1 v n xs) : ∀ j o, v.ownBlock = some j → w.heap[j]? = some o → o.isCells = true := fun j o hj ho => by
  rcases h.2 with ⟨rfl, _⟩ | ⟨g, cap, cur, rfl, hb, hg, _⟩
  · simp [Value.ownBlock] at hj
  · have : g = j := Option.some.inj hj
    subst this
    rw [hg] at ho; injection ho with ho; subst ho; rfl
theorem own_keepsOthers {w W' : World} {B : Nat} {e : TypeId} {v : Value} {n : Nat} {xs : List Value} (h : w.ownsRow B e 1 v n xs) (hg : w.grownBy W' v.ownBlock) : KeepsOthers w W' :=
  KeepsOthers.of_grownBy hg (fun j o hj ho => own_cells h j o hj ho)
theorem own_shape {W : World} {B : Nat} {e : TypeId} {v : Value} {xs : List Value} {x : Value} (h : W.ownsRow B e 1 v (xs ++ [x]).length (xs ++ [x])) : ∃ g cap, v = .slice (some ⟨g, 0, none⟩) (xs.length + 1) cap := by
  rcases h.2 with ⟨_, h0⟩ | ⟨g, cap, cur, rfl, _⟩
  · simp at h0
  · exact ⟨g, cap, by rw [List.length_append]; rfl⟩
end Go.Proofs.YthpfomjibfbiiaaGreatDoor
