/- A call's own row of byte slices. -/
import Derived.Test.YthpfomjibfbiiaaGreatDoorRd
namespace Go.Proofs.YthpfomjibfbiiaaGreatDoor
open Go Go.RowKit

/-- Values that read as lists of bytes, none of them in the row's own block. -/
def BSA (w : World) (k : Option Nat) (vs : List Value) (ls : List (List UInt8)) : Prop :=
  vs.length = ls.length ∧ ∀ i (h : i < vs.length) (h' : i < ls.length), BS w vs[i] ls[i] ∧ (ls[i] ≠ [] → ∀ b, vs[i].ownBlock = some b → k ≠ some b)
/-- The call's own row of byte slices. -/
def OV (e : TypeId) (w : World) (B : Nat) (v : Value) (ls : List (List UInt8)) : Prop := ∃ vs, w.ownsRow B e 1 v vs.length vs ∧ BSA w v.ownBlock vs ls
theorem OV.nil (e : TypeId) (w : World) (B : Nat) : OV e w B (.slice none 0 0) [] := ⟨[], World.ownsRow_nil _ _ _ _, rfl, fun i h => absurd h (by simp)⟩
theorem BS.apart {w w' : World} {v : Value} {l : List UInt8} {k : Option Nat} (h : BS w v l) (hk : l ≠ [] → ∀ b, v.ownBlock = some b → k ≠ some b) (hb : w.grownBy w' k) : BS w' v l := by
  obtain ⟨A, c, rfl, h1, h2, h3⟩ := h.open_
  refine ⟨A, c, by rw [bv_length], by rw [bv_length]; exact h1, h2, fun hp => ?_⟩
  rw [bv_length] at hp
  obtain ⟨ad, rfl, hlt, hc⟩ := h3 hp
  have hne : l ≠ [] := by intro e; rw [e] at hp; simp at hp
  have hk' := hk hne ad.block rfl
  refine ⟨ad, rfl, Nat.lt_of_lt_of_le hlt hb.size, fun j u hu => ?_⟩
  have hj : j < l.length := by
    have := (List.getElem?_eq_some_iff.1 hu).1
    rwa [bv_length] at this
  rw [bv_get l j hj] at hu
  rw [← hu]
  exact (World.cell?_of_block (hb.block _ (by rw [block_of_add]; exact hlt) (by rw [block_of_add]; exact fun e => hk' e.symm))).trans (hc j hj)
theorem BS.blockLt {w : World} {v : Value} {l : List UInt8} (h : BS w v l) (hne : l ≠ []) : ∀ b, v.ownBlock = some b → b < w.heap.size := by
  obtain ⟨A, c, rfl, h1, h2, h3⟩ := h.open_
  obtain ⟨ad, rfl, hlt, _⟩ := h3 (List.length_pos_iff.2 hne)
  intro b hb
  simp only [Value.ownBlock, Option.some.injEq] at hb
  rw [← hb]; exact hlt
theorem OV.bss {e : TypeId} {w : World} {B : Nat} {v : Value} {ls : List (List UInt8)} (h : OV e w B v ls) : BSS w v ls := by
  obtain ⟨vs, h1, h2, h3⟩ := h
  exact ⟨vs, RS.of_own h1, h2, fun i hi hi' => (h3 i hi hi').1⟩
theorem OV.lt {e : TypeId} {w : World} {B : Nat} {v : Value} {ls : List (List UInt8)} (h : OV e w B v ls) : ∀ k, v.ownBlock = some k → B ≤ k ∧ k < w.heap.size := by
  obtain ⟨vs, h1, _⟩ := h
  exact World.ownsRow.lt h1
theorem OV.ext {e : TypeId} {w w' : World} {B : Nat} {v : Value} {ls : List (List UInt8)} (h : OV e w B v ls) (he : Ext w w') : OV e w' B v ls := by
  obtain ⟨vs, h1, h2, h3⟩ := h
  exact ⟨vs, h1.kept (he.but none) (by cases hv : v.ownBlock <;> simp), h2, fun i hi hi' => ⟨(h3 i hi hi').1.ext he, (h3 i hi hi').2⟩⟩
theorem OV.shape {e : TypeId} {w : World} {B : Nat} {v : Value} {ls : List (List UInt8)} (h : OV e w B v ls) : ∃ A c, v = .slice A ls.length c := by
  obtain ⟨A, c, rfl, _⟩ := h.bss.open_
  exact ⟨A, c, rfl⟩
theorem RS.one (w : World) (e : TypeId) (v : Value) {z : Nat} (hz : z = w.heap.size := by first | rfl | simp) : RS (w.alloc (.cells #[v] e)) (.slice (some ⟨z, 0, none⟩) 1 1) [v] := by
  subst hz
  exact RS.new w e [v] (by simp [maxLen])

theorem OV.grow {e : TypeId} {w w' : World} {B : Nat} {v v' u : Value} {vs : List Value} {ls : List (List UInt8)} {l : List UInt8} (h : w.ownsRow B e 1 v vs.length vs ∧ BSA w v.ownBlock vs ls) 
    (g1 : w'.ownsRow B e 1 v' (vs ++ [u]).length (vs ++ [u])) (g2 : w.grownBy w' v.ownBlock) (g3 : v'.ownBlock = v.ownBlock ∨ v'.ownBlock = some w.heap.size) (hu : BS w u l) (hap : l ≠ [] → ∀ b, u.ownBlock = some b → v.ownBlock ≠ some b) : OV e w' B v' (ls ++ [l]) := by
  obtain ⟨h1, h2, h3⟩ := h
  refine ⟨vs ++ [u], g1, by simp [h2], fun i hi hi' => ?_⟩
  have key : ∀ (y : Value) (m : List UInt8), BS w y m → (m ≠ [] → ∀ b, y.ownBlock = some b → v.ownBlock ≠ some b) → BS w' y m ∧ (m ≠ [] → ∀ b, y.ownBlock = some b → v'.ownBlock ≠ some b) := by
    intro y m hy ha
    refine ⟨hy.apart ha g2, fun hne b hb => ?_⟩
    rcases g3 with g | g
    · rw [g]; exact ha hne b hb
    · rw [g]
      have := hy.blockLt hne b hb
      intro e; injection e with e; omega
  by_cases hlt : i < vs.length
  · have e1 : (vs ++ [u])[i] = vs[i] := List.getElem_append_left hlt
    have e2 : (ls ++ [l])[i] = ls[i]'(by omega) := List.getElem_append_left (by omega)
    rw [e1, e2]
    exact key _ _ (h3 i hlt (by omega)).1 (h3 i hlt (by omega)).2
  · have hi2 : i = vs.length := by simp at hi; omega
    subst hi2
    have e1 : (vs ++ [u])[vs.length] = u := by simp
    have e2 : (ls ++ [l])[vs.length]'hi' = l := by simp [h2]
    rw [e1, e2]
    exact key _ _ hu hap
section
variable {P : Program}
/-- append of one byte slice onto such a row. -/
theorem wpList_append_ov (w : World) {ops : Array Oper} {rest : List Oper} {o : Oper} {a : Act} {Q : Exit → Act → World → Prop} (hgd : o.guard = none) (s x : Operand) (t : TypeId)
    (ho : o.op = .call { callee := .builtin .append, args := #[s, x], argTypes := #[t, t] })
    (base : Nat) (e : TypeId) (i : TypeInfo) (z : Value) (bytes : Nat) (ht : P.underlying t = some (.slice e)) (hi : P.info? e = some i) (hz : i.zero = some z)
    (hsize : i.size = 1) (hby : i.bytes = bytes) (hzs : z.cells.size = 1)
    (v : Value) (ls : List (List UInt8)) (hs : a.eval s = v) (hown : OV e w base v ls)
    (sv : Value) (u : Value) (l : List UInt8) (hx : a.eval x = sv) (hr : RS w sv [u]) (hu : BS w u l) (hap : l ≠ [] → ∀ b, u.ownBlock = some b → v.ownBlock ≠ some b)
    (hbytes : (ls.length + 1) * bytes ≤ 140737488355328) (hby0 : 0 < bytes) (hbase : base ≤ w.heap.size)
    (h : ∀ v' w', OV e w' base v' (ls ++ [l]) → w.grownBy w' v.ownBlock → wpList P ops Q rest (a.put o.dst v') w') : wpList P ops Q (o :: rest) a w := by
  obtain ⟨vs, h1, h2, h3⟩ := hown
  have hone : ∀ u' ∈ [u], u'.oneCell' = true := by
    intro u' hm
    obtain ⟨A, c, rfl, _⟩ := hu.open_
    simp only [List.mem_singleton] at hm
    subst hm; rfl
  refine wpList_append_rs w hgd s x t ho base e i z bytes ht hi hz hsize hby hzs v vs hs h1 sv [u] hx hr hone (by simpa [h2] using hbytes) hby0 hbase ?_
  intro v' w' g1 g2 g3
  refine h v' w' ⟨vs ++ [u], g1, by simp [h2], fun i hi hi' => ?_⟩ g2
  have key : ∀ (y : Value) (m : List UInt8), BS w y m → (m ≠ [] → ∀ b, y.ownBlock = some b → v.ownBlock ≠ some b) → BS w' y m ∧ (m ≠ [] → ∀ b, y.ownBlock = some b → v'.ownBlock ≠ some b) := by
    intro y m hy ha
    refine ⟨hy.apart ha g2, fun hne b hb => ?_⟩
    rcases g3 with g | g
    · rw [g]; exact ha hne b hb
    · rw [g]
      have := hy.blockLt hne b hb
      intro e; injection e with e; omega
  by_cases hlt : i < vs.length
  · have e1 : (vs ++ [u])[i] = vs[i] := List.getElem_append_left hlt
    have e2 : (ls ++ [l])[i] = ls[i]'(by omega) := List.getElem_append_left (by omega)
    rw [e1, e2]
    exact key _ _ (h3 i hlt (by omega)).1 (h3 i hlt (by omega)).2
  · have hi2 : i = vs.length := by simp at hi; omega
    subst hi2
    have e1 : (vs ++ [u])[vs.length] = u := by simp
    have e2 : (ls ++ [l])[vs.length]'hi' = l := by simp [h2]
    rw [e1, e2]
    exact key _ _ hu hap
/-- The same at a step of a region that draws. -/
theorem step_append_ov (w : World) {ops : Array Oper} {o : Oper} {a : Act} {K : Act → World → Prop} {Q : Exit → Act → World → Prop} {E : Prop} (hgd : o.guard = none) (s x : Operand) (t : TypeId)
    (ho : o.op = .call { callee := .builtin .append, args := #[s, x], argTypes := #[t, t] })
    (base : Nat) (e : TypeId) (i : TypeInfo) (z : Value) (bytes : Nat) (ht : P.underlying t = some (.slice e)) (hi : P.info? e = some i) (hz : i.zero = some z)
    (hsize : i.size = 1) (hby : i.bytes = bytes) (hzs : z.cells.size = 1)
    (v : Value) (ls : List (List UInt8)) (hs : a.eval s = v) (hown : OV e w base v ls)
    (sv : Value) (u : Value) (l : List UInt8) (hx : a.eval x = sv) (hr : RS w sv [u]) (hu : BS w u l) (hap : l ≠ [] → ∀ b, u.ownBlock = some b → v.ownBlock ≠ some b)
    (hbytes : (ls.length + 1) * bytes ≤ 140737488355328) (hby0 : 0 < bytes) (hbase : base ≤ w.heap.size)
    (h : ∀ v' w', OV e w' base v' (ls ++ [l]) → w.grownBy w' v.ownBlock → K (a.put o.dst v') w') : if Region.wanted o (yielded ops a.tmps) = true then Oper.wp P o a w K Q else E := by
  have hw : Region.wanted o (yielded ops a.tmps) = true := by simp [Region.wanted, hgd]
  rw [if_pos hw]
  obtain ⟨vs, h1, h2, h3⟩ := hown
  have hone : ∀ u' ∈ [u], u'.oneCell' = true := by
    intro u' hm
    obtain ⟨A, c, rfl, _⟩ := hu.open_
    simp only [List.mem_singleton] at hm
    subst hm; rfl
  obtain ⟨v', w', hrun, g1, g2, g3⟩ := run_append_rs (P := P) w base t o.type e i z bytes ht hi hz hsize hby hzs v vs h1 sv [u] hr hone (by simpa [h2] using hbytes) hby0 hbase
  unfold Oper.wp execOp
  simp only [ho, resolve, invoke, builtin, Sem.run_bind, Sem.run_pure, Result.andThen_ok, List.map_toArray, List.map_cons, List.map_nil, hs, hx, hrun]
  refine h v' w' (OV.grow ⟨h1, h2, h3⟩ g1 g2 g3 hu hap) g2
/-- bytes onto bytes, at a step of a region that draws. -/
theorem step_append_bs (w : World) {ops : Array Oper} {o : Oper} {a : Act} {K : Act → World → Prop} {Q : Exit → Act → World → Prop} {E : Prop} (hgd : o.guard = none) (s x : Operand) (t : TypeId)
    (ho : o.op = .call { callee := .builtin .append, args := #[s, x], argTypes := #[t, t] })
    (base : Nat) (e : TypeId) (i : TypeInfo) (z : Value) (ht : P.underlying t = some (.slice e)) (hi : P.info? e = some i) (hz : i.zero = some z)
    (hsize : i.size = 1) (hby : i.bytes = 1) (hzs : z.cells.size = 1)
    (v : Value) (l : List UInt8) (hs : a.eval s = v) (hown : OB e w base v l)
    (sv : Value) (m : List UInt8) (hx : a.eval x = sv) (hr : BS w sv m)
    (hbytes : l.length + m.length ≤ 140737488355328) (hbase : base ≤ w.heap.size)
    (h : ∀ v' w', OB e w' base v' (l ++ m) → w.grownBy w' v.ownBlock → K (a.put o.dst v') w') : if Region.wanted o (yielded ops a.tmps) = true then Oper.wp P o a w K Q else E := by
  have hw : Region.wanted o (yielded ops a.tmps) = true := by simp [Region.wanted, hgd]
  rw [if_pos hw]
  obtain ⟨v', w', hrun, g1, g2, g3⟩ := run_append_rs (P := P) w base t o.type e i z 1 ht hi hz hsize hby hzs v (bv l) (by unfold OB at hown; simpa using hown) sv (bv m) hr (bv_one m) (by simpa using hbytes) (by omega) hbase
  unfold Oper.wp execOp
  simp only [ho, resolve, invoke, builtin, Sem.run_bind, Sem.run_pure, Result.andThen_ok, List.map_toArray, List.map_cons, List.map_nil, hs, hx, hrun]
  exact h v' w' (by unfold OB; simpa using g1) g2
end
end Go.Proofs.YthpfomjibfbiiaaGreatDoor
