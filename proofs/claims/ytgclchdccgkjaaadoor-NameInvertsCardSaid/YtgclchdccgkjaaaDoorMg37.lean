/- Texts laid together (wip/tools/automerge.py): Dov, Nm29, NmPan. -/
import Derived.Test.YtgclchdccgkjaaaDoorDs
import Derived.Test.YtgclchdccgkjaaaDoorMg35
import Derived.Laws.Append
import Derived.Deep.LoopGhost
namespace Go.Proofs.YtgclchdccgkjaaaDoor
open Go Go.RowKit

/-- Pairs as cells. -/
def dcs (vs : List (Int × Value)) : List Value := vs.flatMap fun x => [.int .i64 x.1, x.2]
theorem dcs_length (vs : List (Int × Value)) : (dcs vs).length = vs.length * 2 := by
  induction vs with
  | nil => rfl
  | cons x t ih => simp only [dcs, List.flatMap_cons, List.length_append, List.length_cons, List.length_nil] at ih ⊢; omega
theorem dcs_snoc (vs : List (Int × Value)) (x : Int × Value) : dcs (vs ++ [x]) = dcs vs ++ [.int .i64 x.1, x.2] := by simp [dcs]
theorem dcs_get (vs : List (Int × Value)) : ∀ (i : Nat) (h : i < vs.length), (dcs vs)[i * 2]? = some (.int .i64 vs[i].1) ∧ (dcs vs)[i * 2 + 1]? = some vs[i].2 := by
  induction vs with
  | nil => intro i h; simp at h
  | cons x t ih =>
    intro i h
    cases i with
    | zero => simp [dcs]
    | succ j =>
      have := ih j (by simpa using h)
      have e1 : (j + 1) * 2 = j * 2 + 2 := by omega
      rw [e1]
      simpa [dcs] using this
theorem NoU8.of {w : World} {b : Nat} {cs : Array Value} {e : TypeId} {fr : Nat × Nat} (h : w.heap[b]? = some (.cells cs e fr)) (hc : ∀ x ∈ cs.toList, ∀ n, x ≠ .int .u8 n) : NoU8 w b := by
  intro q hq v hv
  unfold World.cell? at hv
  rw [hq, h] at hv
  simp only at hv
  split at hv
  · cases hv
  · obtain ⟨hlt, he⟩ := Array.getElem?_eq_some_iff.1 hv
    exact hc _ (by rw [← Array.mem_def]; exact Array.getElem_mem hlt) v he
theorem NoU8.mem {w : World} {b : Nat} {cs : Array Value} {e : TypeId} (h : NoU8 w b) (hh : w.heap[b]? = some (.cells cs e (0, 0))) : ∀ x ∈ cs.toList, ∀ n, x ≠ .int .u8 n := by
  intro x hx n e0
  subst e0
  obtain ⟨j, hj, he⟩ := List.getElem_of_mem hx
  refine h ⟨b, j, none⟩ rfl n ?_
  rw [cell_of_row w b j cs e (0, 0) hh, Array.getElem?_eq_getElem (by simpa using hj)]
  simpa using he
theorem NoU8.same {w w' : World} {b : Nat} (h : NoU8 w b) (hb : w'.heap[b]? = w.heap[b]?) : NoU8 w' b := by
  intro q hq v hv
  exact h q hq v ((World.cell?_of_block (by rw [hq]; exact hb.symm)).trans hv)
theorem mem_zeroCells (z : Array Value) (hz : 0 < z.size) (n : Nat) : ∀ x ∈ (Builtin.zeroCells z n).toList, x ∈ z.toList := by
  intro x hx
  unfold Builtin.zeroCells at hx
  simp only [Array.toList_map, List.mem_map] at hx
  obtain ⟨i, _, rfl⟩ := hx
  have hlt : i % z.size < z.size := Nat.mod_lt _ hz
  rw [getElem!_pos z _ hlt]
  rw [← Array.mem_def]
  exact Array.getElem_mem hlt
/-- The call's own row of data. -/
def DOV (e : TypeId) (w : World) (B : Nat) (v : Value) (ls : List (Int × List UInt8)) : Prop :=
  (∀ r, v.ownBlock = some r → NoU8 w r) ∧ ∃ vs : List (Int × Value), vs.length = ls.length ∧ w.ownsRow B e 2 v vs.length (dcs vs) ∧ ∀ i (h : i < vs.length) (h' : i < ls.length), vs[i].1 = ls[i].1 ∧ BS w vs[i].2 ls[i].2 ∧ (ls[i].2 ≠ [] → ∀ b, vs[i].2.ownBlock = some b → v.ownBlock ≠ some b)
theorem DOV.nil (e : TypeId) (w : World) (B : Nat) : DOV e w B (.slice none 0 0) [] := ⟨fun r h => by simp [Value.ownBlock] at h, [], rfl, World.ownsRow_nil _ _ _ _, fun i h => absurd h (by simp)⟩
theorem DOV.ext {e : TypeId} {w w' : World} {B : Nat} {v : Value} {ls : List (Int × List UInt8)} (h : DOV e w B v ls) (he : Ext w w') : DOV e w' B v ls := by
  obtain ⟨h0, vs, h1, h2, h3⟩ := h
  exact ⟨fun r hr => (h0 r hr).same (he.block r (World.ownsRow.lt h2 r hr).2), vs, h1, h2.kept (he.but none) (by cases hv : v.ownBlock <;> simp), fun i hi hi' => ⟨(h3 i hi hi').1, (h3 i hi hi').2.1.ext he, (h3 i hi hi').2.2⟩⟩
/-- While a block below the row and with no byte in it turns. -/
theorem DOV.off {e : TypeId} {w w' : World} {B : Nat} {v : Value} {ls : List (Int × List UInt8)} {g : Nat} (h : DOV e w B v ls) (hn : NoU8 w g) (hg : w.grownBy w' (some g)) (hv : v.ownBlock ≠ some g) : DOV e w' B v ls := by
  obtain ⟨h0, vs, h1, h2, h3⟩ := h
  exact ⟨fun r hr => (h0 r hr).same (hg.block r (World.ownsRow.lt h2 r hr).2 (by intro e; cases e; exact hv hr)), vs, h1, h2.kept hg (.inr hv), fun i hi hi' => ⟨(h3 i hi hi').1, (h3 i hi hi').2.1.but hn hg, (h3 i hi hi').2.2⟩⟩
theorem DOV.shape {e : TypeId} {w : World} {B : Nat} {v : Value} {ls : List (Int × List UInt8)} (h : DOV e w B v ls) : ∃ A c, v = .slice A ls.length c := by
  obtain ⟨_, vs, h1, h2, _⟩ := h
  rcases h2.2 with ⟨rfl, h0⟩ | ⟨g, cap, cur, rfl, _⟩
  · exact ⟨none, 0, by rw [← h1, h0]⟩
  · exact ⟨_, cap, by rw [h1]⟩
theorem DOV.ds {e : TypeId} {w : World} {B : Nat} {v : Value} {ls : List (Int × List UInt8)} (h : DOV e w B v ls) : DS w v ls := by
  obtain ⟨_, vs, h1, h2, h3⟩ := h
  have h2' := h2
  rcases h2.2 with ⟨rfl, h0⟩ | ⟨g, cap, cur, rfl, hb, hh, hnc, hcm, _⟩
  · have : ls.length = 0 := by omega
    exact ⟨none, 0, by rw [this], by omega, by unfold maxLen; omega, fun i hi => by omega⟩
  · refine ⟨some ⟨g, 0, none⟩, cap, by rw [h1], by omega, hcm, fun i hi => ?_⟩
    have hi' : i < vs.length := by omega
    obtain ⟨e1, e2, _⟩ := h3 i hi' hi
    obtain ⟨k1, k2⟩ := dcs_get vs i hi'
    have c1 := h2'.cells rfl _ _ k1
    have c2 := h2'.cells rfl _ _ k2
    obtain ⟨B', d, hv, _⟩ := e2.open_
    rw [hv] at c2 e2
    exact ⟨_, B', d, rfl, by rw [c1, e1], c2, e2⟩
theorem DOV.lt {e : TypeId} {w : World} {B : Nat} {v : Value} {ls : List (Int × List UInt8)} (h : DOV e w B v ls) : ∀ k, v.ownBlock = some k → B ≤ k ∧ k < w.heap.size := by
  obtain ⟨_, vs, _, h2, _⟩ := h
  exact World.ownsRow.lt h2
theorem DOV.down {e : TypeId} {w : World} {B B' : Nat} {v : Value} {ls : List (Int × List UInt8)} (h : DOV e w B v ls) (hB : B' ≤ B) : DOV e w B' v ls := by
  obtain ⟨h0, vs, h1, ⟨h2, h2'⟩, h3⟩ := h
  refine ⟨h0, vs, h1, ⟨h2, ?_⟩, h3⟩
  rcases h2' with h | ⟨g, cap, cur, e1, e2, r⟩
  · exact .inl h
  · exact .inr ⟨g, cap, cur, e1, Nat.le_trans hB e2, r⟩
section
variable {P : Program}
/-- The appended row holds no byte, either. -/
theorem append_noU8 (w : World) (base : Nat) (t ty e : TypeId) (i : TypeInfo) (z : Value) (size bytes : Nat) (ht : P.underlying t = some (.slice e)) (hi : P.info? e = some i) (hz : i.zero = some z)
    (hsize : i.size = size) (hby : i.bytes = bytes) (hzs : z.cells.size = size) (hsz : 0 < size)
    (v : Value) (n : Nat) (xs : List Value) (hown : w.ownsRow base e size v n xs)
    (a : Addr) (m c : Nat) (news : List Value) (hl : news.length = m * size) (hnews : ∀ j u, news[j]? = some u → w.cell? (a.add j) = some u) (h1 : ∀ u ∈ news, u.oneCell' = true)
    (hm0 : 0 < m) (h63 : n + m ≤ maxLen) (hbytes : (n + m) * bytes ≤ 140737488355328)
    (h0 : ∀ r, v.ownBlock = some r → NoU8 w r) (hzn : ∀ x ∈ z.cells.toList, ∀ n, x ≠ .int .u8 n) (hnn : ∀ x ∈ news, ∀ n, x ≠ .int .u8 n)
    (v' : Value) (w' : World) (hrun : (Builtin.append_ #[t, t] ty #[v, .slice (some a) m c]).run P w = .ok v' w') : ∀ r, v'.ownBlock = some r → NoU8 w' r := by
  subst hsize
  subst hby
  have hsmall : n + m ≤ 9223372036854775807 := by simp only [maxLen] at h63; omega
  rcases hown.2 with ⟨rfl, rfl⟩ | ⟨g, cap, cur, rfl, hbg, hg, hnc, hcm, hcs, htake⟩
  · have hr := run_append_nil (P := P) w t ty e i z ht hi hz a m c news hl hnews hm0 (by omega) (by have hb := hbytes; simp only [Nat.zero_add] at hb; omega)
    rw [hrun] at hr
    injection hr with e1 e2
    subst e1; subst e2
    intro r hr
    simp only [Value.ownBlock, Option.some.injEq] at hr
    subst hr
    refine NoU8.of (heap_alloc_new w.drew _) fun x hx n => ?_
    simp only [Array.toList_append, List.mem_append] at hx
    rcases hx with hx | hx
    · exact hnn x hx n
    · exact hzn x (mem_zeroCells _ (by omega) _ x hx) n
  · by_cases hroom : n + m ≤ cap
    · have hfit : n * i.size + news.length ≤ cur.size := by rw [hl, hcs, ← Nat.add_mul]; exact Nat.mul_le_mul_right _ hroom
      have hr := run_append_room (P := P) w t ty e i ht hi g n cap cur hg a m c news hl hnews h1 hroom hfit
      rw [hrun] at hr
      injection hr with e1 e2
      subst e1; subst e2
      intro r hr
      simp only [Value.ownBlock, Option.some.injEq] at hr
      subst hr
      have hcur := (h0 g rfl).mem hg
      refine NoU8.of (setRow_heap w g cur _ e _ hg) fun x hx n => ?_
      simp only [List.mem_append] at hx
      rcases hx with (hx | hx) | hx
      · exact hcur x (List.mem_of_mem_take hx) n
      · exact hnn x hx n
      · exact hcur x (List.mem_of_mem_drop hx) n
    · have holds : ∀ j u, xs[j]? = some u → w.cell? ((⟨g, 0, none⟩ : Addr).add j) = some u := hown.cells (g := g) rfl
      have hr := run_append_grow (P := P) w t ty e i z ht hi hz ⟨g, 0, none⟩ n cap xs hown.1 holds a m c news hl hnews (by omega) (by omega) (growslice_fits (by omega) hbytes)
      rw [hrun] at hr
      injection hr with e1 e2
      subst e1; subst e2
      intro r hr
      simp only [Value.ownBlock, Option.some.injEq] at hr
      subst hr
      have hcur := (h0 g rfl).mem hg
      refine NoU8.of (heap_alloc_new w.drew _) fun x hx n => ?_
      simp only [Array.toList_append, List.mem_append] at hx
      rcases hx with (hx | hx) | hx
      · refine hcur x ?_ n
        rw [← htake] at hx
        exact List.mem_of_mem_take hx
      · exact hnn x hx n
      · exact hzn x (mem_zeroCells _ (by omega) _ x hx) n
/-- append of one datum. -/
theorem wpList_append_dov (w : World) {ops : Array Oper} {rest : List Oper} {o : Oper} {a : Act} {Q : Exit → Act → World → Prop} (hgd : o.guard = none) (s x : Operand) (t : TypeId)
    (ho : o.op = .call { callee := .builtin .append, args := #[s, x], argTypes := #[t, t] })
    (base : Nat) (e : TypeId) (i : TypeInfo) (z : Value) (bytes : Nat) (ht : P.underlying t = some (.slice e)) (hi : P.info? e = some i) (hz : i.zero = some z)
    (hsize : i.size = 2) (hby : i.bytes = bytes) (hzs : z.cells.size = 2) (hzn : ∀ x ∈ z.cells.toList, ∀ n, x ≠ .int .u8 n)
    (v : Value) (ls : List (Int × List UInt8)) (hs : a.eval s = v) (hown : DOV e w base v ls)
    (ad : Addr) (c : Nat) (k : Int) (A : Option Addr) (n d : Nat) (l : List UInt8) (hx : a.eval x = .slice (some ad) 1 c) (hc0 : w.cell? (ad.add 0) = some (.int .i64 k)) (hc1 : w.cell? (ad.add 1) = some (.slice A n d)) (hu : BS w (.slice A n d) l) (hap : l ≠ [] → ∀ b, (Value.slice A n d).ownBlock = some b → v.ownBlock ≠ some b)
    (hbytes : (ls.length + 1) * bytes ≤ 140737488355328) (hby0 : 0 < bytes) (hbase : base ≤ w.heap.size)
    (h : ∀ v' w', DOV e w' base v' (ls ++ [(k, l)]) → w.grownBy w' v.ownBlock → (v'.ownBlock = v.ownBlock ∨ v'.ownBlock = some w.heap.size) → wpList P ops Q rest (a.put o.dst v') w') : wpList P ops Q (o :: rest) a w := by
  obtain ⟨h0, vs, h1, h2, h3⟩ := hown
  refine wpList_plain hgd fun K hK => ?_
  have h63 : vs.length + 1 ≤ maxLen := by
    have : ls.length + 1 ≤ (ls.length + 1) * bytes := Nat.le_mul_of_pos_right _ hby0
    unfold maxLen; omega
  have hnews : ∀ j u, ([.int .i64 k, .slice A n d] : List Value)[j]? = some u → w.cell? (ad.add j) = some u := by
    intro j u hju
    rcases j with _ | _ | j
    · simp at hju; subst hju; exact hc0
    · simp at hju; subst hju; exact hc1
    · simp at hju
  have hone : ∀ u ∈ ([.int .i64 k, .slice A n d] : List Value), u.oneCell' = true := by intro u hm; simp at hm; rcases hm with rfl | rfl <;> rfl
  obtain ⟨v', w', hrun, g1, g2, _, g3⟩ := run_append_own_at (P := P) w base t o.type e i z 2 bytes ht hi hz hsize hby hzs (by omega) v vs.length (dcs vs) h2 ad 1 c [.int .i64 k, .slice A n d] rfl
    hnews hone h63 (by rw [h1]; exact hbytes) hbase
  have g4 := append_noU8 (P := P) w base t o.type e i z 2 bytes ht hi hz hsize hby hzs (by omega) v vs.length (dcs vs) h2 ad 1 c [.int .i64 k, .slice A n d] rfl hnews hone (by omega) h63 (by rw [h1]; exact hbytes) h0 hzn (by intro x hm n; simp at hm; rcases hm with rfl | rfl <;> simp) v' w' hrun
  unfold Oper.wp execOp
  simp only [ho, resolve, invoke, builtin, Sem.run_bind, Sem.run_pure, Result.andThen_ok, List.map_toArray, List.map_cons, List.map_nil, hs, hx, hrun]
  refine hK _ _ (h v' w' ⟨g4, vs ++ [(k, .slice A n d)], by simp [h1], ?_, fun i hi hi' => ?_⟩ g2 g3)
  · rw [dcs_snoc]
    simpa using g1
  · have key : ∀ (y : Value) (m : List UInt8), BS w y m → (m ≠ [] → ∀ b, y.ownBlock = some b → v.ownBlock ≠ some b) → BS w' y m ∧ (m ≠ [] → ∀ b, y.ownBlock = some b → v'.ownBlock ≠ some b) := by
      intro y m hy ha
      refine ⟨hy.apart ha g2, fun hne b hb => ?_⟩
      rcases g3 with g | g
      · rw [g]; exact ha hne b hb
      · rw [g]
        have := hy.blockLt hne b hb
        intro e; injection e with e; omega
    by_cases hlt : i < vs.length
    · have e1 : (vs ++ [(k, Value.slice A n d)])[i] = vs[i] := List.getElem_append_left hlt
      have e2 : (ls ++ [(k, l)])[i] = ls[i]'(by omega) := List.getElem_append_left (by omega)
      rw [e1, e2]
      exact ⟨(h3 i hlt (by omega)).1, key _ _ (h3 i hlt (by omega)).2.1 (h3 i hlt (by omega)).2.2⟩
    · have hi2 : i = vs.length := by simp at hi; omega
      subst hi2
      have e1 : (vs ++ [(k, Value.slice A n d)])[vs.length] = (k, .slice A n d) := by simp
      have e2 : (ls ++ [(k, l)])[vs.length]'hi' = (k, l) := by simp [h1]
      rw [e1, e2]
      exact ⟨rfl, key _ _ hu hap⟩
end
theorem grownBy_none {w w' : World} (h : w.grownBy w' none) (r : Nat) : w.grownBy w' (some r) := ⟨h.os, h.tape, h.output, h.size, fun j hj _ => h.block j hj (by simp)⟩
theorem noU8_past (w : World) : NoU8 w w.heap.size := by
  intro q hq v hv
  unfold World.cell? at hv
  rw [hq, Array.getElem?_eq_none (Nat.le_refl _)] at hv
  cases hv
theorem RD.row {T : TypeId} {w w' : World} {g : Nat} {l : List UInt8} {k : Nat} {vb : Option Nat} (h : RD T w g l k) (hn : ∀ r, vb = some r → NoU8 w r) (hne : ∀ r, vb = some r → g ≠ r) (hg : w.grownBy w' vb) : RD T w' g l k := by
  have key : ∀ b, NoU8 w b → w.grownBy w' (some b) → g ≠ b → RD T w' g l k := by
    intro b hb hg hne
    obtain ⟨h1, A, c, hh, hbs⟩ := h
    exact ⟨h1, A, c, (hg.block g (Array.getElem?_eq_some_iff.1 hh).1 (by intro e; exact hne (by injection e))).trans hh, hbs.but hb hg⟩
  cases vb with
  | none => exact key _ (noU8_past w) (grownBy_none hg _) (by have := h.lt; omega)
  | some r => exact key r (hn r rfl) hg (hne r rfl)
theorem grown_row {a b c : World} {g vb : Option Nat} (h : a.grownBy b g) (k : b.grownBy c vb) (hl : ∀ r, vb = some r → a.heap.size ≤ r) : a.grownBy c g :=
  ⟨k.os.trans h.os, k.tape.trans h.tape, k.output.trans h.output, Nat.le_trans h.size k.size, fun j hj hne => by
    have h1 := h.block j hj hne
    exact (k.block j (Nat.lt_of_lt_of_le hj h.size) (by intro e; have := hl j e.symm; omega)).trans h1⟩
end Go.Proofs.YtgclchdccgkjaaaDoor
namespace Go.Proofs.YtgclchdccgkjaaaDoor
open Go Go.RowKit
set_option linter.unusedVariables false

section
variable {P : Program}
/-- A string onto a row of strings, at a step of a region that draws: the row holds no byte. -/
theorem step_append_str (w : World) {ops : Array Oper} {o : Oper} {a : Act} {K : Act → World → Prop} {Q : Exit → Act → World → Prop} {E : Prop} (hgd : o.guard = none) (s x : Operand) (t : TypeId)
    (ho : o.op = .call { callee := .builtin .append, args := #[s, x], argTypes := #[t, t] })
    (base : Nat) (e : TypeId) (i : TypeInfo) (ht : P.underlying t = some (.slice e)) (hi : P.info? e = some i) (hz : i.zero = some (.string ⟨#[]⟩))
    (hsize : i.size = 1) (hby : i.bytes = 16)
    (v : Value) (xs : List Value) (hs : a.eval s = v) (hown : w.ownsRow base e 1 v xs.length xs) (h0 : ∀ r, v.ownBlock = some r → NoU8 w r)
    (q : Nat) (c : Nat) (b : ByteArray) (hx : a.eval x = .slice (some ⟨q, 0, none⟩) 1 c) (hq : w.heap[q]? = some (.cells #[.string b] e (0, 0))) (hc : 1 ≤ c) (hcm : c ≤ maxLen)
    (hbytes : (xs.length + 1) * 16 ≤ 140737488355328) (hbase : base ≤ w.heap.size)
    (h : ∀ v' w', w'.ownsRow base e 1 v' (xs ++ [Value.string b]).length (xs ++ [Value.string b]) → w.grownBy w' v.ownBlock → (∀ r, v'.ownBlock = some r → NoU8 w' r) → K (a.put o.dst v') w') : if Region.wanted o (yielded ops a.tmps) = true then Oper.wp P o a w K Q else E := by
  have hw : Region.wanted o (yielded ops a.tmps) = true := by simp [Region.wanted, hgd]
  rw [if_pos hw]
  have hcell : w.cell? ⟨q, 0, none⟩ = some (.string b) := by rw [cell_of_row _ _ 0 _ _ (0, 0) hq]; rfl
  have hr : RS w (.slice (some ⟨q, 0, none⟩) 1 c) [Value.string b] := ⟨some ⟨q, 0, none⟩, c, rfl, hc, hcm, fun _ => ⟨⟨q, 0, none⟩, rfl, (Array.getElem?_eq_some_iff.1 hq).1, fun j u hu => by
    cases j with
    | zero => simp only [List.getElem?_cons_zero] at hu; rw [← hu]; exact hcell
    | succ j => simp at hu⟩⟩
  obtain ⟨v', w', hrun, g1, g2, g3⟩ := run_append_rs (P := P) w base t o.type e i (.string ⟨#[]⟩) 16 ht hi hz hsize hby rfl v xs hown (.slice (some ⟨q, 0, none⟩) 1 c) [Value.string b] hr (by simp [Value.oneCell']) hbytes (by omega) hbase
  have g4 := append_noU8 (P := P) w base t o.type e i (.string ⟨#[]⟩) 1 16 ht hi hz hsize hby rfl (by omega) v xs.length xs hown ⟨q, 0, none⟩ 1 c [Value.string b] rfl (fun j u hu => by
    cases j with
    | zero => simp only [List.getElem?_cons_zero] at hu; rw [← hu]; exact hcell
    | succ j => simp at hu) (by simp [Value.oneCell']) (by omega) (by unfold maxLen; omega) hbytes h0 (by intro x hx n; simp [Value.cells] at hx; subst hx; simp) (by intro x hx n; simp at hx; subst hx; simp) v' w' hrun
  unfold Oper.wp execOp
  simp only [ho, resolve, invoke, builtin, Sem.run_bind, Sem.run_pure, Result.andThen_ok, List.map_toArray, List.map_cons, List.map_nil, hs, hx, hrun]
  exact h v' w' g1 g2 g4
end

/-- What holds while Read is under way: w0 the world at its call. -/
def NI (w0 W : World) (g gb n nc : Nat) (l : List UInt8) (k kk : Nat) (v : Value) (parts : List ByteArray) (r : ByteArray) : Prop :=
  w0.grownBy W (some g) ∧ B1 70 W n (.pointer (some ⟨g, 0, none⟩)) ∧ PB W (n + 1) v r ∧ B1 28 W (n + 1 + 1) (.int .i64 0) ∧ B1 70 W nc (.pointer (some ⟨gb, 0, none⟩)) ∧
    RD 86 W gb l k ∧ RD 86 W g l kk ∧ W.ownsRow (nc + 1) 9 1 v (sv parts).length (sv parts) ∧ ∀ q, v.ownBlock = some q → NoU8 W q
theorem own_rd {W : World} {B : Nat} {v : Value} {n : Nat} {xs : List Value} (h : W.ownsRow B 9 1 v n xs) {g : Nat} {l : List UInt8} {k : Nat} (hr : RD 86 W g l k) : v.ownBlock ≠ some g := fun e => by
  obtain ⟨cur, hc⟩ := row_type h e
  obtain ⟨_, A, c, hg, _⟩ := hr
  rw [hc] at hg
  injection hg with hg
  injection hg with _ h2 _
  exact absurd h2 (by decide)
theorem own_shape {W : World} {B : Nat} {e : TypeId} {v : Value} {xs : List Value} (h : W.ownsRow B e 1 v xs.length xs) : ∃ p c, v = .slice p xs.length c := by
  rcases h.2 with ⟨rfl, h0⟩ | ⟨g, cap, cur, rfl, _⟩
  · exact ⟨none, 0, by rw [h0]⟩
  · exact ⟨_, _, rfl⟩
theorem own_down {W : World} {B B' : Nat} {e : TypeId} {v : Value} {n : Nat} {xs : List Value} (h : W.ownsRow B e 1 v n xs) (hB : B' ≤ B) : W.ownsRow B' e 1 v n xs := by
  refine ⟨h.1, ?_⟩
  rcases h.2 with h' | ⟨g, cap, cur, e1, e2, r⟩
  · exact .inl h'
  · exact .inr ⟨g, cap, cur, e1, Nat.le_trans hB e2, r⟩
theorem or_ne {a : Option Nat} {b : Option Nat} (h : ∀ k, a = some k → b ≠ some k) : a = none ∨ a ≠ b := by
  cases a with
  | none => exact .inl rfl
  | some k => exact .inr (fun e => h k rfl e.symm)
section
variable {w0 W W' : World} {g gb n nc : Nat} {l : List UInt8} {k kk : Nat} {v : Value} {parts : List ByteArray} {r : ByteArray}
theorem NI.noU8 (h : NI w0 W g gb n nc l k kk v parts r) : NoU8 W (n + 1) := by
  obtain ⟨p, c, hv⟩ := own_shape h.2.2.2.2.2.2.2.1
  have hp := h.2.2.1
  rw [hv] at hp
  exact hp.noU8
theorem NI.ext (h : NI w0 W g gb n nc l k kk v parts r) (hx : Ext W W') : NI w0 W' g gb n nc l k kk v parts r := by
  obtain ⟨h1, h2, h3, h4, h5, h6, h7, h8, h0⟩ := h
  exact ⟨grown_ext h1 hx, h2.ext hx, h3.ext hx, h4.ext hx, h5.ext hx, h6.ext hx, h7.ext hx, ownsRow_ext8 h8 hx, fun q hq => (h0 q hq).same (hx.block q (World.ownsRow.lt h8 q hq).2)⟩
theorem NI.far {g1 : Nat} (h : NI w0 W g gb n nc l k kk v parts r) (hw : w0.heap.size ≤ n) (o1 : g < n) (o2 : n + 1 + 1 < gb) (o3 : gb < nc) (o4 : nc < g1) {x : List UInt8} {j : Nat} (hr : RD 86 W g1 x j) (hg : W.grownBy W' (some g1)) : NI w0 W' g gb n nc l k kk v parts r := by
  obtain ⟨h1, h2, h3, h4, h5, h6, h7, h8, h0⟩ := h
  exact ⟨grown_new h1 hg (by omega), h2.far hg (by omega), h3.but (by omega) hg, h4.far hg (by omega), h5.far hg (by omega), h6.away hr.noU8 hg (by omega), h7.away hr.noU8 hg (by omega), h8.kept hg (or_ne fun k hk e => own_rd h8 hr (by rw [hk, ← e])), fun q hq => (h0 q hq).same (hg.block q (World.ownsRow.lt h8 q hq).2 (fun e => own_rd h8 hr (by rw [hq, e])))⟩
theorem NI.seq {kk' : Nat} (h : NI w0 W g gb n nc l k kk v parts r) (o1 : g < n) (o2 : n + 1 + 1 < gb) (o3 : gb < nc) (hg : W.grownBy W' (some g)) (hr : RD 86 W' g l kk') : NI w0 W' g gb n nc l k kk' v parts r := by
  obtain ⟨h1, h2, h3, h4, h5, h6, h7, h8, h0⟩ := h
  exact ⟨grown_trans h1 hg, h2.far hg (by omega), h3.but (by omega) hg, h4.far hg (by omega), h5.far hg (by omega), h6.away h7.noU8 hg (by omega), hr, h8.kept hg (or_ne fun k hk e => own_rd h8 h7 (by rw [hk, ← e])), fun q hq => (h0 q hq).same (hg.block q (World.ownsRow.lt h8 q hq).2 (fun e => own_rd h8 h7 (by rw [hq, e])))⟩
theorem NI.realm (h : NI w0 W g gb n nc l k kk v parts r) (hw : w0.heap.size ≤ n) (o1 : g < n) (o2 : n + 1 + 1 < gb) (o3 : gb < nc) (t : ByteArray) : NI w0 (W.setCell ⟨n + 1, 1, none⟩ (.string t)) g gb n nc l k kk v parts t := by
  have hn := h.noU8
  obtain ⟨h1, h2, h3, h4, h5, h6, h7, h8, h0⟩ := h
  have hg : W.grownBy (W.setCell ⟨n + 1, 1, none⟩ (.string t)) (some (n + 1)) := grown_set (grown_refl _ _) 1 _
  exact ⟨grown_new h1 hg (by omega), h2.far hg (by omega), h3.set1 t, h4.far hg (by omega), h5.far hg (by omega), h6.away hn hg (by omega), h7.away hn hg (by omega), h8.kept hg (or_ne fun k hk e => by injection e with e; have := (World.ownsRow.lt h8 k hk).1; omega), fun q hq => (h0 q hq).same (hg.block q (World.ownsRow.lt h8 q hq).2 (fun e => by injection e with e; have := (World.ownsRow.lt h8 q hq).1; omega))⟩
/-- A component has been put to the principal. -/
theorem NI.part {W1 W2 : World} {v' : Value} {parts' : List ByteArray} (h : NI w0 W g gb n nc l k kk v parts r) (hw : w0.heap.size ≤ n) (o1 : g < n) (o2 : n + 1 + 1 < gb) (o3 : gb < nc) (hx : Ext W W1) (hg : W1.grownBy W2 v.ownBlock) (ho : W2.ownsRow (nc + 1) 9 1 v' (sv parts').length (sv parts')) (hu : ∀ q, v'.ownBlock = some q → NoU8 W2 q) :
    NI w0 (W2.setCell ⟨n + 1, 0, none⟩ v') g gb n nc l k kk v' parts' r ∧ (∀ g1 x j, nc < g1 → RD 86 W g1 x j → RD 86 (W2.setCell ⟨n + 1, 0, none⟩ v') g1 x j) := by
  have hh := h.ext hx
  obtain ⟨p, c, hv⟩ := own_shape hh.2.2.2.2.2.2.2.1
  obtain ⟨p', c', hv'⟩ := own_shape ho
  have hn0 := h.noU8
  obtain ⟨h1, h2, h3, h4, h5, h6, h7, h8, h0⟩ := hh
  have hlt : ∀ j, v.ownBlock = some j → nc + 1 ≤ j := fun j hj => (World.ownsRow.lt h8 j hj).1
  have hlt' : ∀ j, v'.ownBlock = some j → nc + 1 ≤ j := fun j hj => (World.ownsRow.lt ho j hj).1
  have rdk : ∀ g1 x j, RD 86 W1 g1 x j → RD 86 W2 g1 x j := fun g1 x j hr => by
    cases hb : v.ownBlock with
    | none => rw [hb] at hg; exact hr.ext (grown_of_ext hg)
    | some q =>
      rw [hb] at hg
      have hq : NoU8 W1 q := h0 q hb
      exact hr.away hq hg (fun e => own_rd h8 hr (by rw [hb, e]))
  have keep : ∀ {b : Nat} {o : Obj}, b < nc + 1 → W1.heap[b]? = some o → W2.heap[b]? = some o := fun hb ho' => (hg.block _ (Array.getElem?_eq_some_iff.1 ho').1 (fun e => by have := hlt _ e.symm; omega)).trans ho'
  have h3' : PB W2 (n + 1) v r := keep (by omega) h3
  have hn3 : NoU8 W2 (n + 1) := by rw [hv] at h3'; exact h3'.noU8
  have hgs : W2.grownBy (W2.setCell ⟨n + 1, 0, none⟩ v') (some (n + 1)) := grown_set (grown_refl _ _) 0 _
  have hw2 : w0.grownBy W2 (some g) := by
    cases hb : v.ownBlock with
    | none => rw [hb] at hg; exact grown_ext h1 (grown_of_ext hg)
    | some q => rw [hb] at hg; exact grown_new h1 hg (by have := hlt q hb; omega)
  refine ⟨⟨grown_new hw2 hgs (by omega), B1.far (keep (by omega) h2) hgs (by omega), h3'.set0 v', B1.far (keep (by omega) h4) hgs (by omega), B1.far (keep (by omega) h5) hgs (by omega), (rdk _ _ _ h6).away hn3 hgs (by omega), (rdk _ _ _ h7).away hn3 hgs (by omega), ho.kept hgs (or_ne fun j hj e => by injection e with e; have := hlt' j hj; omega), fun q hq => (hu q hq).same (hgs.block q (World.ownsRow.lt ho q hq).2 (fun e => by injection e with e; have := hlt' q hq; omega))⟩, fun g1 x j h9 hr => (rdk _ _ _ (hr.ext hx)).away hn3 hgs (by omega)⟩
end
theorem NI.at_part {w0 W W1 W2 : World} {g gb n nc : Nat} {l : List UInt8} {k kk : Nat} {v : Value} {parts : List ByteArray} {r : ByteArray} (h : NI w0 W g gb n nc l k kk v parts r) (o2 : n + 1 + 1 < gb) (o3 : gb < nc) (hx : Ext W W1) (hg : W1.grownBy W2 v.ownBlock) :
    W2.cell? ⟨n + 1, 0, none⟩ = some v ∧ W2.frozen? ⟨n + 1, 0, none⟩ = false := by
  have hh := h.ext hx
  have h3 : PB W2 (n + 1) v r := (hg.block _ (Array.getElem?_eq_some_iff.1 hh.2.2.1).1 (fun e => by have := (World.ownsRow.lt hh.2.2.2.2.2.2.2.1 _ e.symm).1; omega)).trans hh.2.2.1
  exact ⟨h3.cells.1, h3.soft 0⟩
theorem boxesN (w : World) (P : Value) : ∃ W3, ((w.alloc (.cells #[P] 70)).alloc (.cells #[.slice none 0 0, .string ⟨#[]⟩] 24)).alloc (.cells #[.int .i64 0] 28) = W3 ∧ Ext w W3 ∧
    B1 70 W3 w.heap.size P ∧ PB W3 (w.heap.size + 1) (.slice none 0 0) ⟨#[]⟩ ∧ B1 28 W3 (w.heap.size + 1 + 1) (.int .i64 0) ∧ W3.heap.size = w.heap.size + 3 := by
  refine ⟨_, rfl, (((Ext.refl w).alloc _).alloc _).alloc _, ?_, ?_, ?_, by simp⟩
  · exact (B1.new _ w P).ext (((Ext.refl _).alloc _).alloc _)
  · have := heap_alloc_new (w.alloc (.cells #[P] 70)) (.cells #[.slice none 0 0, .string ⟨#[]⟩] 24)
    exact PB.ext (by simpa [PB] using this) ((Ext.refl _).alloc _)
  · have := B1.new 28 ((w.alloc (.cells #[P] 70)).alloc (.cells #[.slice none 0 0, .string ⟨#[]⟩] 24)) (.int .i64 0)
    simpa using this
/-- What Read leaves. -/
def RdN (w : World) (g : Nat) (l : List UInt8) (k : Nat) (m : List UInt8) (e : Ending) (w' : World) : Prop :=
  w.grownBy w' (some g) ∧ ((∃ (ps : List ByteArray) (r : ByteArray) (A : Option Addr) (c us : Nat), nameB (dat ps) r.data.toList = true ∧ us ≤ m.length ∧ m.take us = nameE (dat ps) r.data.toList ∧ e = .returned (.tuple #[.agg #[.slice A ps.length c, .string r], .int .i64 0]) ∧ w'.ownsRow w.heap.size 9 1 (.slice A ps.length c) (sv ps).length (sv ps) ∧ RD 86 w' g l (k + us)) ∨
    (NotName m ∧ ∃ er : Nat, er ≠ 0 ∧ e = .returned (.tuple #[.agg #[.slice none 0 0, .string ⟨#[]⟩], .int .i64 (er : Int)]) ∧ RD 86 w' g l k))
theorem doorN_panic {w W : World} {g gb n nc : Nat} {l m : List UInt8} {k kk : Nat} {v : Value} {parts : List ByteArray} {r : ByteArray} {er : Nat} {tmps : Array Value} (hli : NI w W g gb n nc l k kk v parts r) (hw : w.heap.size ≤ n) (o1 : g < n) (o2 : n + 1 + 1 < gb) (o3 : gb < nc) (hne : er ≠ 0) (hnot : NotName m)
    (hres : ∀ W' : World, W'.cell? ⟨n + 1, 0, none⟩ = some (.slice none 0 0) → W'.cell? ⟨n + 1, 1, none⟩ = some (.string ⟨#[]⟩) → W'.cell? ⟨n + 1 + 1, 0, none⟩ = some (.int .i64 (er : Int)) →
      (results Tryd.f55 tmps).run Tryd.prog W' = .ok (.tuple #[.agg #[.slice none 0 0, .string ⟨#[]⟩], .int .i64 (er : Int)]) W') :
    Leaves Tryd.prog Tryd.f55 tmps (RdN w g l k m) [{ target := .fn (.func 68) #[.pointer (some ⟨nc, 0, none⟩), .pointer (some ⟨n, 0, none⟩), .pointer (some ⟨n + 1, 0, none⟩), .pointer (some ⟨n + 1 + 1, 0, none⟩)], args := #[] }]
      (.panicking [{ v := .iface 28 (.int .i64 (er : Int)), recovered := false }]) W := by
  obtain ⟨p, c, hv⟩ := own_shape hli.2.2.2.2.2.2.2.1
  obtain ⟨h1, h2, h3, h4, h5, h6, h7, h8, h0⟩ := hli
  refine leaves_cons (f := 68) (args := #[.pointer (some ⟨nc, 0, none⟩), .pointer (some ⟨n, 0, none⟩), .pointer (some ⟨n + 1, 0, none⟩), .pointer (some ⟨n + 1 + 1, 0, none⟩)]) (by simp) (by simp [go_sem]) ?_
  refine (nmread_panic nc n (n + 1) (n + 1 + 1) g gb er [] l k kk v r W (by omega) (by omega) (by omega) (by omega) h5 h2 h3 h4 h7 h6).mono ?_
  rintro en u' w'' ⟨rfl, rfl, hfix⟩
  rw [hv] at h3
  obtain ⟨hr2, ht2, he2, hgr⟩ := hfix.gives h7 h3 h4 (by omega) (by omega) (by omega)
  obtain ⟨d0, d1⟩ := ht2.cells
  exact ⟨_, hres _ d0 d1 he2.cell, hgr w.heap.size (by omega) (by omega) w rfl h1, .inr ⟨hnot, er, hne, rfl, hr2⟩⟩
theorem readN_end {w W : World} {g gb n nc : Nat} {l : List UInt8} {k kk : Nat} {v : Value} {parts : List ByteArray} {r : ByteArray} (hli : NI w W g gb n nc l k kk v parts r) (hw : w.heap.size ≤ n) (o1 : g < n) (o2 : n + 1 + 1 < gb) (o3 : gb < nc) :
    ∃ WF, ((W.setCell ⟨n + 1, 0, none⟩ v).setCell ⟨n + 1, 1, none⟩ (.string r)).setCell ⟨n + 1 + 1, 0, none⟩ (.int .i64 0) = WF ∧ w.grownBy WF (some g) ∧ RD 86 WF g l kk ∧ WF.ownsRow w.heap.size 9 1 v (sv parts).length (sv parts) ∧
      WF.cell? ⟨n + 1, 0, none⟩ = some v ∧ WF.cell? ⟨n + 1, 1, none⟩ = some (.string r) ∧ WF.cell? ⟨n + 1 + 1, 0, none⟩ = some (.int .i64 0) := by
  refine ⟨_, rfl, ?_⟩
  have a0 := hli.part hw o1 o2 o3 (Ext.refl W) (World.grownBy.refl W _) hli.2.2.2.2.2.2.2.1 hli.2.2.2.2.2.2.2.2
  have a1 := a0.1.realm hw o1 o2 o3 r
  generalize (W.setCell ⟨n + 1, 0, none⟩ v).setCell ⟨n + 1, 1, none⟩ (.string r) = W4 at *
  obtain ⟨k1, k2, k3, k4, k5, k6, k7, k8, k0⟩ := a1
  have hg : W4.grownBy (W4.setCell ⟨n + 1 + 1, 0, none⟩ (.int .i64 0)) (some (n + 1 + 1)) := grown_set (grown_refl _ _) 0 _
  have ht := k3.but (by omega) hg
  exact ⟨grown_new k1 hg (by omega), k7.away k4.noU8i hg (by omega), own_down (k8.kept hg (or_ne fun j hj e => by injection e with e; have := (World.ownsRow.lt k8 j hj).1; omega)) (by omega), ht.cells.1, ht.cells.2, (k4.set (.int .i64 0)).cell⟩
end Go.Proofs.YtgclchdccgkjaaaDoor
namespace Go.Proofs.YtgclchdccgkjaaaDoor
open Go Go.RowKit
theorem leaves_slots {P : Program} {fn : Func} {R : Ending → World → Prop} {t t' : Array Value} (h : results fn t = results fn t') : ∀ (ds : List Deferred) (u : FrameMode) (w : World), Leaves P fn t R ds u w → Leaves P fn t' R ds u w
  | [], .returning, w, hh => by unfold Leaves at hh ⊢; rw [← h]; exact hh
  | [], .panicking chain, w, hh => by unfold Leaves at hh ⊢; exact hh
  | [], .run, w, hh => by unfold Leaves at hh; exact hh.elim
  | d :: ds, u, w, hh => by
    unfold Leaves at hh ⊢
    obtain ⟨h0, fv, cap, f, args, h1, h2, h3⟩ := hh
    refine ⟨h0, fv, cap, f, args, h1, h2, fun c cs hc => ?_⟩
    obtain ⟨e, u', w', fr, hR, hs⟩ := h3 c cs hc
    refine ⟨e, u', w', fr, ?_, hs⟩
    cases e with
    | returned v => exact leaves_slots h ds _ _ hR
    | panicked chain => exact leaves_slots h ds _ _ hR
    | outgrown => exact hR
theorem slots_put {d : Nat} (hd2 : d ≠ 2) (hd3 : d ≠ 3) (t : Array Value) (v : Value) : results Tryd.f55 (t.setIfInBounds d v) = results Tryd.f55 t := by
  have g : ∀ k, d ≠ k → (t.setIfInBounds d v)[k]?.getD undef = t[k]?.getD undef := fun k hk => by
    rw [Array.getElem?_setIfInBounds, if_neg hk]
  simp only [results, Tryd.results55]
  simp [go_sem, g 2 hd2, g 3 hd3]
theorem hq_put {R : Ending → World → Prop} {d : Nat} {v : Value} (hd2 : d ≠ 2) (hd3 : d ≠ 3) {ch : List PanicEntry} {a : Act} {w : World} (h : bodyPostD Tryd.prog Tryd.f55 R (.panic ch) (a.put (some d) v) w) : bodyPostD Tryd.prog Tryd.f55 R (.panic ch) a w :=
  leaves_slots (slots_put hd2 hd3 a.tmps v) _ _ _ h
end Go.Proofs.YtgclchdccgkjaaaDoor
