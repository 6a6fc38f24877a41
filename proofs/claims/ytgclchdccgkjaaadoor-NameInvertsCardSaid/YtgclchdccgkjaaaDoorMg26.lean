/- Texts laid together (wip/tools/automerge.py): Ov, Nm8. -/
import Derived.Test.YtgclchdccgkjaaaDoorMg4
import Derived.Test.YtgclchdccgkjaaaDoorNm7
namespace Go.Proofs.YtgclchdccgkjaaaDoor
open Go Go.RowKit

/-- Values that read as lists of bytes, none of them in the row's own block. -/
def BSA (w : World) (k : Option Nat) (vs : List Value) (ls : List (List UInt8)) : Prop :=
  vs.length = ls.length ∧ ∀ i (h : i < vs.length) (h' : i < ls.length), BS w vs[i] ls[i] ∧ (ls[i] ≠ [] → ∀ b, vs[i].ownBlock = some b → k ≠ some b)
/-- The call's own row of byte slices. -/
def OV (e : TypeId) (w : World) (B : Nat) (v : Value) (ls : List (List UInt8)) : Prop := ∃ vs, w.ownsRow B e 1 v vs.length vs ∧ BSA w v.ownBlock vs ls
theorem OV.nil (e : TypeId) (w : World) (B : Nat) : OV e w B (.slice none 0 0) [] := ⟨[], World.ownsRow_nil _ _ _ _, rfl, fun i h => absurd h (by simp)⟩
theorem BS.apart {w w' : World} {v : Value} {l : List UInt8} {k : Option Nat} (h : BS w v l) (hk : l ≠ [] → ∀ b, v.ownBlock = some b → k ≠ some b) (hb : w.grownBy w' k) : BS w' v l := by
  obtain ⟨A, c, rfl, h1, h2, h3⟩ := h.open_
  refine ⟨A, c, by rw [bv_length], by rw [bv_length]; exact h1, h2, fun hp => ?_⟩
  rw [bv_length] at hp
  obtain ⟨ad, rfl, hlt, hc⟩ := h3 hp
  have hne : l ≠ [] := by intro e; rw [e] at hp; simp at hp
  have hk' := hk hne ad.block rfl
  refine ⟨ad, rfl, Nat.lt_of_lt_of_le hlt hb.size, fun j u hu => ?_⟩
  have hj : j < l.length := by
    have := (List.getElem?_eq_some_iff.1 hu).1
    rwa [bv_length] at this
  rw [bv_get l j hj] at hu
  rw [← hu]
  exact (World.cell?_of_block (hb.block _ (by rw [block_of_add]; exact hlt) (by rw [block_of_add]; exact fun e => hk' e.symm))).trans (hc j hj)
theorem BS.blockLt {w : World} {v : Value} {l : List UInt8} (h : BS w v l) (hne : l ≠ []) : ∀ b, v.ownBlock = some b → b < w.heap.size := by
  obtain ⟨A, c, rfl, h1, h2, h3⟩ := h.open_
  obtain ⟨ad, rfl, hlt, _⟩ := h3 (List.length_pos_iff.2 hne)
  intro b hb
  simp only [Value.ownBlock, Option.some.injEq] at hb
  rw [← hb]; exact hlt
theorem OV.bss {e : TypeId} {w : World} {B : Nat} {v : Value} {ls : List (List UInt8)} (h : OV e w B v ls) : BSS w v ls := by
  obtain ⟨vs, h1, h2, h3⟩ := h
  exact ⟨vs, RS.of_own h1, h2, fun i hi hi' => (h3 i hi hi').1⟩
theorem OV.lt {e : TypeId} {w : World} {B : Nat} {v : Value} {ls : List (List UInt8)} (h : OV e w B v ls) : ∀ k, v.ownBlock = some k → B ≤ k ∧ k < w.heap.size := by
  obtain ⟨vs, h1, _⟩ := h
  exact World.ownsRow.lt h1
theorem OV.ext {e : TypeId} {w w' : World} {B : Nat} {v : Value} {ls : List (List UInt8)} (h : OV e w B v ls) (he : Ext w w') : OV e w' B v ls := by
  obtain ⟨vs, h1, h2, h3⟩ := h
  exact ⟨vs, h1.kept (he.but none) (by cases hv : v.ownBlock <;> simp), h2, fun i hi hi' => ⟨(h3 i hi hi').1.ext he, (h3 i hi hi').2⟩⟩
theorem OV.shape {e : TypeId} {w : World} {B : Nat} {v : Value} {ls : List (List UInt8)} (h : OV e w B v ls) : ∃ A c, v = .slice A ls.length c := by
  obtain ⟨A, c, rfl, _⟩ := h.bss.open_
  exact ⟨A, c, rfl⟩
theorem RS.one (w : World) (e : TypeId) (v : Value) {z : Nat} (hz : z = w.heap.size := by first | rfl | simp) : RS (w.alloc (.cells #[v] e)) (.slice (some ⟨z, 0, none⟩) 1 1) [v] := by
  subst hz
  exact RS.new w e [v] (by simp [maxLen])

theorem OV.grow {e : TypeId} {w w' : World} {B : Nat} {v v' u : Value} {vs : List Value} {ls : List (List UInt8)} {l : List UInt8} (h : w.ownsRow B e 1 v vs.length vs ∧ BSA w v.ownBlock vs ls) 
    (g1 : w'.ownsRow B e 1 v' (vs ++ [u]).length (vs ++ [u])) (g2 : w.grownBy w' v.ownBlock) (g3 : v'.ownBlock = v.ownBlock ∨ v'.ownBlock = some w.heap.size) (hu : BS w u l) (hap : l ≠ [] → ∀ b, u.ownBlock = some b → v.ownBlock ≠ some b) : OV e w' B v' (ls ++ [l]) := by
  obtain ⟨h1, h2, h3⟩ := h
  refine ⟨vs ++ [u], g1, by simp [h2], fun i hi hi' => ?_⟩
  have key : ∀ (y : Value) (m : List UInt8), BS w y m → (m ≠ [] → ∀ b, y.ownBlock = some b → v.ownBlock ≠ some b) → BS w' y m ∧ (m ≠ [] → ∀ b, y.ownBlock = some b → v'.ownBlock ≠ some b) := by
    intro y m hy ha
    refine ⟨hy.apart ha g2, fun hne b hb => ?_⟩
    rcases g3 with g | g
    · rw [g]; exact ha hne b hb
    · rw [g]
      have := hy.blockLt hne b hb
      intro e; injection e with e; omega
  by_cases hlt : i < vs.length
  · have e1 : (vs ++ [u])[i] = vs[i] := List.getElem_append_left hlt
    have e2 : (ls ++ [l])[i] = ls[i]'(by omega) := List.getElem_append_left (by omega)
    rw [e1, e2]
    exact key _ _ (h3 i hlt (by omega)).1 (h3 i hlt (by omega)).2
  · have hi2 : i = vs.length := by simp at hi; omega
    subst hi2
    have e1 : (vs ++ [u])[vs.length] = u := by simp
    have e2 : (ls ++ [l])[vs.length]'hi' = l := by simp [h2]
    rw [e1, e2]
    exact key _ _ hu hap
section
variable {P : Program}
/-- append of one byte slice onto such a row. -/
theorem wpList_append_ov (w : World) {ops : Array Oper} {rest : List Oper} {o : Oper} {a : Act} {Q : Exit → Act → World → Prop} (hgd : o.guard = none) (s x : Operand) (t : TypeId)
    (ho : o.op = .call { callee := .builtin .append, args := #[s, x], argTypes := #[t, t] })
    (base : Nat) (e : TypeId) (i : TypeInfo) (z : Value) (bytes : Nat) (ht : P.underlying t = some (.slice e)) (hi : P.info? e = some i) (hz : i.zero = some z)
    (hsize : i.size = 1) (hby : i.bytes = bytes) (hzs : z.cells.size = 1)
    (v : Value) (ls : List (List UInt8)) (hs : a.eval s = v) (hown : OV e w base v ls)
    (sv : Value) (u : Value) (l : List UInt8) (hx : a.eval x = sv) (hr : RS w sv [u]) (hu : BS w u l) (hap : l ≠ [] → ∀ b, u.ownBlock = some b → v.ownBlock ≠ some b)
    (hbytes : (ls.length + 1) * bytes ≤ 140737488355328) (hby0 : 0 < bytes) (hbase : base ≤ w.heap.size)
    (h : ∀ v' w', OV e w' base v' (ls ++ [l]) → w.grownBy w' v.ownBlock → wpList P ops Q rest (a.put o.dst v') w') : wpList P ops Q (o :: rest) a w := by
  obtain ⟨vs, h1, h2, h3⟩ := hown
  have hone : ∀ u' ∈ [u], u'.oneCell' = true := by
    intro u' hm
    obtain ⟨A, c, rfl, _⟩ := hu.open_
    simp only [List.mem_singleton] at hm
    subst hm; rfl
  refine wpList_append_rs w hgd s x t ho base e i z bytes ht hi hz hsize hby hzs v vs hs h1 sv [u] hx hr hone (by simpa [h2] using hbytes) hby0 hbase ?_
  intro v' w' g1 g2 g3
  refine h v' w' ⟨vs ++ [u], g1, by simp [h2], fun i hi hi' => ?_⟩ g2
  have key : ∀ (y : Value) (m : List UInt8), BS w y m → (m ≠ [] → ∀ b, y.ownBlock = some b → v.ownBlock ≠ some b) → BS w' y m ∧ (m ≠ [] → ∀ b, y.ownBlock = some b → v'.ownBlock ≠ some b) := by
    intro y m hy ha
    refine ⟨hy.apart ha g2, fun hne b hb => ?_⟩
    rcases g3 with g | g
    · rw [g]; exact ha hne b hb
    · rw [g]
      have := hy.blockLt hne b hb
      intro e; injection e with e; omega
  by_cases hlt : i < vs.length
  · have e1 : (vs ++ [u])[i] = vs[i] := List.getElem_append_left hlt
    have e2 : (ls ++ [l])[i] = ls[i]'(by omega) := List.getElem_append_left (by omega)
    rw [e1, e2]
    exact key _ _ (h3 i hlt (by omega)).1 (h3 i hlt (by omega)).2
  · have hi2 : i = vs.length := by simp at hi; omega
    subst hi2
    have e1 : (vs ++ [u])[vs.length] = u := by simp
    have e2 : (ls ++ [l])[vs.length]'hi' = l := by simp [h2]
    rw [e1, e2]
    exact key _ _ hu hap
/-- The same at a step of a region that draws. -/
theorem step_append_ov (w : World) {ops : Array Oper} {o : Oper} {a : Act} {K : Act → World → Prop} {Q : Exit → Act → World → Prop} {E : Prop} (hgd : o.guard = none) (s x : Operand) (t : TypeId)
    (ho : o.op = .call { callee := .builtin .append, args := #[s, x], argTypes := #[t, t] })
    (base : Nat) (e : TypeId) (i : TypeInfo) (z : Value) (bytes : Nat) (ht : P.underlying t = some (.slice e)) (hi : P.info? e = some i) (hz : i.zero = some z)
    (hsize : i.size = 1) (hby : i.bytes = bytes) (hzs : z.cells.size = 1)
    (v : Value) (ls : List (List UInt8)) (hs : a.eval s = v) (hown : OV e w base v ls)
    (sv : Value) (u : Value) (l : List UInt8) (hx : a.eval x = sv) (hr : RS w sv [u]) (hu : BS w u l) (hap : l ≠ [] → ∀ b, u.ownBlock = some b → v.ownBlock ≠ some b)
    (hbytes : (ls.length + 1) * bytes ≤ 140737488355328) (hby0 : 0 < bytes) (hbase : base ≤ w.heap.size)
    (h : ∀ v' w', OV e w' base v' (ls ++ [l]) → w.grownBy w' v.ownBlock → K (a.put o.dst v') w') : if Region.wanted o (yielded ops a.tmps) = true then Oper.wp P o a w K Q else E := by
  have hw : Region.wanted o (yielded ops a.tmps) = true := by simp [Region.wanted, hgd]
  rw [if_pos hw]
  obtain ⟨vs, h1, h2, h3⟩ := hown
  have hone : ∀ u' ∈ [u], u'.oneCell' = true := by
    intro u' hm
    obtain ⟨A, c, rfl, _⟩ := hu.open_
    simp only [List.mem_singleton] at hm
    subst hm; rfl
  obtain ⟨v', w', hrun, g1, g2, g3⟩ := run_append_rs (P := P) w base t o.type e i z bytes ht hi hz hsize hby hzs v vs h1 sv [u] hr hone (by simpa [h2] using hbytes) hby0 hbase
  unfold Oper.wp execOp
  simp only [ho, resolve, invoke, builtin, Sem.run_bind, Sem.run_pure, Result.andThen_ok, List.map_toArray, List.map_cons, List.map_nil, hs, hx, hrun]
  refine h v' w' (OV.grow ⟨h1, h2, h3⟩ g1 g2 g3 hu hap) g2
/-- bytes onto bytes, at a step of a region that draws. -/
theorem step_append_bs (w : World) {ops : Array Oper} {o : Oper} {a : Act} {K : Act → World → Prop} {Q : Exit → Act → World → Prop} {E : Prop} (hgd : o.guard = none) (s x : Operand) (t : TypeId)
    (ho : o.op = .call { callee := .builtin .append, args := #[s, x], argTypes := #[t, t] })
    (base : Nat) (e : TypeId) (i : TypeInfo) (z : Value) (ht : P.underlying t = some (.slice e)) (hi : P.info? e = some i) (hz : i.zero = some z)
    (hsize : i.size = 1) (hby : i.bytes = 1) (hzs : z.cells.size = 1)
    (v : Value) (l : List UInt8) (hs : a.eval s = v) (hown : OB e w base v l)
    (sv : Value) (m : List UInt8) (hx : a.eval x = sv) (hr : BS w sv m)
    (hbytes : l.length + m.length ≤ 140737488355328) (hbase : base ≤ w.heap.size)
    (h : ∀ v' w', OB e w' base v' (l ++ m) → w.grownBy w' v.ownBlock → K (a.put o.dst v') w') : if Region.wanted o (yielded ops a.tmps) = true then Oper.wp P o a w K Q else E := by
  have hw : Region.wanted o (yielded ops a.tmps) = true := by simp [Region.wanted, hgd]
  rw [if_pos hw]
  obtain ⟨v', w', hrun, g1, g2, g3⟩ := run_append_rs (P := P) w base t o.type e i z 1 ht hi hz hsize hby hzs v (bv l) (by unfold OB at hown; simpa using hown) sv (bv m) hr (bv_one m) (by simpa using hbytes) (by omega) hbase
  unfold Oper.wp execOp
  simp only [ho, resolve, invoke, builtin, Sem.run_bind, Sem.run_pure, Result.andThen_ok, List.map_toArray, List.map_cons, List.map_nil, hs, hx, hrun]
  exact h v' w' (by unfold OB; simpa using g1) g2
end
end Go.Proofs.YtgclchdccgkjaaaDoor
namespace Go.Proofs.YtgclchdccgkjaaaDoor
open Go Go.RowKit
set_option linter.unusedVariables false

theorem sinfo' : (Tryd.prog.info? 9).map (fun i => (i.zero, i.size, i.bytes)) = some (some (.string ⟨#[]⟩), 1, 16) := by kernel_rfl
/-- The result, the principal, the bytes under way; the two rows that the call makes. -/
structure NPS (w0 W : World) (pv qv : Value) (parts : List ByteArray) (part : List UInt8) : Prop where
  r0 : W.heap[w0.heap.size]? = some (.cells #[.slice none 0 0, .string ⟨#[]⟩] 24 (0, 0))
  r1 : W.heap[w0.heap.size + 1]? = some (.cells #[pv, .string ⟨#[]⟩] 24 (0, 0))
  r2 : W.heap[w0.heap.size + 1 + 1]? = some (.cells #[qv] 38 (0, 0))
  ow : W.ownsRow (w0.heap.size + 3) 9 1 pv (sv parts).length (sv parts)
  ob : OB 5 W (w0.heap.size + 3) qv part
  ex : Ext w0 W
theorem ownsRow_ext8 {w w' : World} {B : Nat} {e : TypeId} {v : Value} {n : Nat} {xs : List Value} (h : w.ownsRow B e 1 v n xs) (he : Ext w w') : w'.ownsRow B e 1 v n xs :=
  h.kept (he.but none) (by cases hv : v.ownBlock <;> simp)
theorem NPS.ext {w0 W W' : World} {pv qv : Value} {parts : List ByteArray} {part : List UInt8} (h : NPS w0 W pv qv parts part) (hx : Ext W W') : NPS w0 W' pv qv parts part :=
  ⟨hx.heap h.r0, hx.heap h.r1, hx.heap h.r2, ownsRow_ext8 h.ow hx, h.ob.ext hx, h.ex.trans hx⟩
theorem NPS.lt {w0 W : World} {pv qv : Value} {parts : List ByteArray} {part : List UInt8} (h : NPS w0 W pv qv parts part) : w0.heap.size + 3 ≤ W.heap.size := (Array.getElem?_eq_some_iff.1 h.r2).1
/-- The two rows lie apart: their elements are of two types. -/
theorem row_type {W : World} {B : Nat} {e : TypeId} {v : Value} {n : Nat} {xs : List Value} (h : W.ownsRow B e 1 v n xs) {k : Nat} (hk : v.ownBlock = some k) : ∃ cur, W.heap[k]? = some (.cells cur e (0, 0)) := by
  rcases h.2 with ⟨rfl, _⟩ | ⟨g, cap, cur, rfl, hb, hg, _⟩
  · simp [Value.ownBlock] at hk
  · have : g = k := Option.some.inj hk
    subst this
    exact ⟨cur, hg⟩
theorem NPS.apart {w0 W : World} {pv qv : Value} {parts : List ByteArray} {part : List UInt8} (h : NPS w0 W pv qv parts part) : ∀ k, pv.ownBlock = some k → qv.ownBlock ≠ some k := fun k hp hq => by
  obtain ⟨c1, e1⟩ := row_type h.ow hp
  have hob : W.ownsRow (w0.heap.size + 3) 5 1 qv part.length (bv part) := h.ob
  obtain ⟨c2, e2⟩ := row_type hob hq
  rw [e1] at e2
  injection e2 with e3
  injection e3 with _ e4 _
  exact absurd e4 (by decide)
theorem keep_far {W W' : World} {row : Option Nat} {k B : Nat} {o : Obj} (hg : W.grownBy W' row) (hrow : ∀ j, row = some j → B ≤ j) (hk : k < B) (h : W.heap[k]? = some o) : W'.heap[k]? = some o :=
  (hg.block k (Array.getElem?_eq_some_iff.1 h).1 (fun e => by have := hrow k e.symm; omega)).trans h
theorem ob_kept {w w' : World} {B : Nat} {v : Value} {l : List UInt8} {row : Option Nat} (h : OB 5 w B v l) (hg : w.grownBy w' row) (hne : v.ownBlock = none ∨ v.ownBlock ≠ row) : OB 5 w' B v l := World.ownsRow.kept h hg hne
theorem ne_of_apart {a b : Option Nat} (h : ∀ k, a = some k → b ≠ some k) : a = none ∨ a ≠ b := by
  cases a with
  | none => exact .inl rfl
  | some k => exact .inr (fun e => h k rfl e.symm)
theorem ne_of_apart' {a b : Option Nat} (h : ∀ k, a = some k → b ≠ some k) : b = none ∨ b ≠ a := by
  cases b with
  | none => exact .inl rfl
  | some k => exact .inr (fun e => h k e.symm rfl)
theorem ne_far {a : Option Nat} {B k : Nat} (h : ∀ j, a = some j → B ≤ j) (hk : k < B) : a = none ∨ a ≠ some k := by
  cases a with
  | none => exact .inl rfl
  | some j => exact .inr (fun e => by have := h j rfl; injection e with e; omega)
/-- A byte has been put to the component under way. -/
theorem NPS.byte {w0 W W1 W2 : World} {pv qv qv' : Value} {parts : List ByteArray} {part part' : List UInt8} (h : NPS w0 W pv qv parts part) (hx : Ext W W1) (hg : W1.grownBy W2 qv.ownBlock) (ho : OB 5 W2 (w0.heap.size + 3) qv' part') :
    NPS w0 (W2.setCell ⟨w0.heap.size + 1 + 1, 0, none⟩ qv') pv qv' parts part' := by
  have h1 := h.ext hx
  have hq : ∀ j, qv.ownBlock = some j → w0.heap.size + 3 ≤ j := fun j hj => OB.lt h1.ob j hj
  have hp : ∀ j, pv.ownBlock = some j → w0.heap.size + 3 ≤ j := fun j hj => (World.ownsRow.lt h1.ow j hj).1
  have hq' : ∀ j, qv'.ownBlock = some j → w0.heap.size + 3 ≤ j := fun j hj => OB.lt ho j hj
  have g0 := keep_far hg hq (by omega) h1.r0
  have g1 := keep_far hg hq (by omega) h1.r1
  have g2 := keep_far hg hq (by omega) h1.r2
  have gs := grown_set1 W2 (w0.heap.size + 1 + 1) qv'
  exact ⟨heap_far gs g0 (by omega), heap_far gs g1 (by omega), row1_set _ g2, (h1.ow.kept hg (ne_of_apart h1.apart)).kept gs (ne_far hp (by omega)), ob_kept ho gs (ne_far hq' (by omega)), (h1.ex.grown hg (fun k hk => by have := hq k hk; omega)).setCell (p := ⟨w0.heap.size + 1 + 1, 0, none⟩) (show w0.heap.size ≤ w0.heap.size + 1 + 1 by omega) _⟩
/-- A component has been put to the principal. -/
theorem NPS.comp {w0 W W1 W2 : World} {pv qv pv' : Value} {parts parts' : List ByteArray} {part : List UInt8} (h : NPS w0 W pv qv parts part) (hx : Ext W W1) (hg : W1.grownBy W2 pv.ownBlock) (ho : W2.ownsRow (w0.heap.size + 3) 9 1 pv' (sv parts').length (sv parts')) :
    NPS w0 ((W2.setCell ⟨w0.heap.size + 1, 0, none⟩ pv').setCell ⟨w0.heap.size + 1 + 1, 0, none⟩ (.slice none 0 0)) pv' (.slice none 0 0) parts' [] := by
  have h1 := h.ext hx
  have hp : ∀ j, pv.ownBlock = some j → w0.heap.size + 3 ≤ j := fun j hj => (World.ownsRow.lt h1.ow j hj).1
  have hp' : ∀ j, pv'.ownBlock = some j → w0.heap.size + 3 ≤ j := fun j hj => (World.ownsRow.lt ho j hj).1
  have g0 := keep_far hg hp (by omega) h1.r0
  have g1 := keep_far hg hp (by omega) h1.r1
  have g2 := keep_far hg hp (by omega) h1.r2
  have gs := grown_set1 W2 (w0.heap.size + 1) pv'
  have gt := grown_set1 (W2.setCell ⟨w0.heap.size + 1, 0, none⟩ pv') (w0.heap.size + 1 + 1) (.slice none 0 0)
  have k1 : (W2.setCell ⟨w0.heap.size + 1, 0, none⟩ pv').heap[w0.heap.size + 1]? = some (.cells #[pv', .string ⟨#[]⟩] 24 (0, 0)) := by rw [heap_setCell_same W2 _ 0 _ _ _ g1]; rfl
  exact ⟨heap_far gt (heap_far gs g0 (by omega)) (by omega), heap_far gt k1 (by omega), row1_set _ (heap_far gs g2 (by omega)), (ho.kept gs (ne_far hp' (by omega))).kept gt (ne_far hp' (by omega)), OB.nil _ _ _, ((h1.ex.grown hg (fun k hk => by have := hp k hk; omega)).setCell (p := ⟨w0.heap.size + 1, 0, none⟩) (show w0.heap.size ≤ w0.heap.size + 1 by omega) _).setCell (p := ⟨w0.heap.size + 1 + 1, 0, none⟩) (show w0.heap.size ≤ w0.heap.size + 1 + 1 by omega) _⟩

theorem shape_app {W : World} {B : Nat} {e : TypeId} {v : Value} {xs : List Value} {x : Value} (h : W.ownsRow B e 1 v (xs ++ [x]).length (xs ++ [x])) : ∃ g cap, v = .slice (some ⟨g, 0, none⟩) (xs.length + 1) cap := by
  rcases h.2 with ⟨_, h0⟩ | ⟨g, cap, cur, rfl, _⟩
  · simp at h0
  · exact ⟨g, cap, by rw [List.length_append]; rfl⟩
theorem end_cells {w0 W W1 W2 : World} {pv qv : Value} {parts : List ByteArray} {part : List UInt8} (h : NPS w0 W pv qv parts part) (hx : Ext W W1) (hg : W1.grownBy W2 pv.ownBlock) :
    W2.cell? ⟨w0.heap.size + 1, 0, none⟩ = some pv ∧ W2.frozen? ⟨w0.heap.size + 1, 0, none⟩ = false ∧ W2.cell? ⟨w0.heap.size + 1 + 1, 0, none⟩ = some qv ∧ W2.frozen? ⟨w0.heap.size + 1 + 1, 0, none⟩ = false := by
  have h1 := h.ext hx
  have hp : ∀ j, pv.ownBlock = some j → w0.heap.size + 3 ≤ j := fun j hj => (World.ownsRow.lt h1.ow j hj).1
  have g1 := keep_far hg hp (by omega) h1.r1
  have g2 := keep_far hg hp (by omega) h1.r2
  exact ⟨by rw [cell_of_row _ _ 0 _ _ (0, 0) g1]; rfl, frozen_of_row W2 _ 0 _ _ g1, (row1 g2).1, (row1 g2).2⟩
theorem byte_cells {w0 W W1 W2 : World} {pv qv : Value} {parts : List ByteArray} {part : List UInt8} (h : NPS w0 W pv qv parts part) (hx : Ext W W1) (hg : W1.grownBy W2 qv.ownBlock) :
    W2.cell? ⟨w0.heap.size + 1 + 1, 0, none⟩ = some qv ∧ W2.frozen? ⟨w0.heap.size + 1 + 1, 0, none⟩ = false := by
  have h1 := h.ext hx
  have hq : ∀ j, qv.ownBlock = some j → w0.heap.size + 3 ≤ j := fun j hj => OB.lt h1.ob j hj
  exact row1 (keep_far hg hq (by omega) h1.r2)
set_option maxRecDepth 100000 in
set_option maxHeartbeats 1000000 in
theorem NEnd_at (w0 : World) (pv qv : Value) (parts : List ByteArray) (part : List UInt8) (hn : parts.length ≤ 1000) (hm : part.length ≤ 1000) (W : World) (h : NPS w0 W pv qv parts part) :
    Calls Tryd.prog 39 #[.pointer (some ⟨w0.heap.size + 1, 0, none⟩), .pointer (some ⟨w0.heap.size + 1 + 1, 0, none⟩)] W fun e W' => e = .returned (.tuple #[]) ∧ ∃ pv', NPS w0 W' pv' (.slice none 0 0) (parts ++ [⟨part.toArray⟩]) [] := by
  obtain ⟨i0, hi, hz0, hz1, hz2⟩ := info_parts sinfo'
  have H := Lib.hid h
  have k1 : W.cell? ⟨w0.heap.size + 1, 0, none⟩ = some pv := by rw [cell_of_row _ _ 0 _ _ (0, 0) h.r1]; rfl
  have k2 : W.cell? ⟨w0.heap.size + 1 + 1, 0, none⟩ = some qv := by rw [cell_of_row _ _ 0 _ _ (0, 0) h.r2]; rfl
  have hcv : (convert 38 9 qv).run Tryd.prog W = .ok (.string ⟨part.toArray⟩) W := run_str _ _ _ 5 _ _ Tryd.underlying38 Tryd.underlying5 Tryd.underlying9 h.ob.bs
  clear h
  go_enter Tryd.func39, Tryd.ntmps39
  go_wp2_with (at_builtin; refine wpList_append_rs _ rfl (.tmp 3) (.tmp 6) 22 rfl (w0.heap.size + 3) 9 i0 (.string ⟨#[]⟩) 16 Tryd.underlying22 hi hz0 hz1 hz2 rfl _ (sv parts) rfl (ownsRow_ext8 H.out.ow ((Ext.refl W).alloc _)) _ [.string ⟨part.toArray⟩] rfl (RS.one _ _ _) (by simp [Value.oneCell']) ?hb (by omega) ?hm ?_; rotate_right; intro v4 w4 hown4 hg4 _; obtain ⟨g4, cap4, rfl⟩ := shape_app hown4; obtain ⟨c1, f1, c2, f2⟩ := end_cells H.out ((Ext.refl W).alloc (.cells #[.string ⟨part.toArray⟩] 9)) hg4)
  case hb => rw [sv_length]; simp; omega
  case hm => exact Nat.le_trans H.out.lt (by simp)
  have e : sv parts ++ [Value.string ⟨part.toArray⟩] = sv (parts ++ [⟨part.toArray⟩]) := by simp [sv]
  rw [e] at hown4
  have hp : ∀ j, pv.ownBlock = some j → w0.heap.size + 3 ≤ j := fun j hj => (World.ownsRow.lt H.out.ow j hj).1
  have hx := (Ext.refl W).alloc (.cells #[.string ⟨part.toArray⟩] 9)
  have HF := Lib.hid (H.out.comp hx hg4 hown4)
  clear hown4 hg4 e hp hx hcv k1 k2
  go_end0
  exact ⟨rfl, _, HF.out⟩
end Go.Proofs.YtgclchdccgkjaaaDoor
