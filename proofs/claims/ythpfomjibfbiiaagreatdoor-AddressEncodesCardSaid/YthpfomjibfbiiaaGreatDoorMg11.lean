/- Texts laid together (wip/tools/automerge.py): B3, Dov. -/
import Derived.Test.YthpfomjibfbiiaaGreatDoorMg1
import Derived.Test.YthpfomjibfbiiaaGreatDoorMg3
import Derived.Laws.Append
namespace Go.Proofs.YthpfomjibfbiiaaGreatDoor
open Go Go.RowKit

def B3 (T : TypeId) (w : World) (b : Nat) (x y z : Value) : Prop := w.heap[b]? = some (.cells #[x, y, z] T (0, 0))
def B1 (T : TypeId) (w : World) (b : Nat) (x : Value) : Prop := w.heap[b]? = some (.cells #[x] T (0, 0))
section
variable {T : TypeId} {w w' : World} {b : Nat} {x y z : Value}
theorem B3.cells (h : B3 T w b x y z) : w.cell? ⟨b, 0, none⟩ = some x ∧ w.cell? ⟨b, 1, none⟩ = some y ∧ w.cell? ⟨b, 2, none⟩ = some z :=
  ⟨by rw [cell_of_row w b 0 _ _ (0, 0) h]; rfl, by rw [cell_of_row w b 1 _ _ (0, 0) h]; rfl, by rw [cell_of_row w b 2 _ _ (0, 0) h]; rfl⟩
theorem B3.soft (h : B3 T w b x y z) (k : Nat) : w.frozen? ⟨b, k, none⟩ = false := frozen_of_row w b k _ _ h
theorem B3.lt (h : B3 T w b x y z) : b < w.heap.size := (Array.getElem?_eq_some_iff.1 h).1
theorem B3.ext (h : B3 T w b x y z) (hx : Ext w w') : B3 T w' b x y z := hx.heap h
theorem B3.far {g : Nat} (h : B3 T w b x y z) (hb : w.grownBy w' (some g)) (hne : b ≠ g) : B3 T w' b x y z := (hb.block b h.lt (by intro e; cases e; exact hne rfl)).trans h
theorem B3.set0 (h : B3 T w b x y z) (v : Value) : B3 T (w.setCell ⟨b, 0, none⟩ v) b v y z := by unfold B3; rw [heap_setCell_same w b 0 _ _ _ h]; rfl
theorem B3.set1 (h : B3 T w b x y z) (v : Value) : B3 T (w.setCell ⟨b, 1, none⟩ v) b x v z := by unfold B3; rw [heap_setCell_same w b 1 _ _ _ h]; rfl
theorem B3.set2 (h : B3 T w b x y z) (v : Value) : B3 T (w.setCell ⟨b, 2, none⟩ v) b x y v := by unfold B3; rw [heap_setCell_same w b 2 _ _ _ h]; rfl
theorem B3.new (T : TypeId) (w : World) (x y z : Value) : B3 T (w.alloc (.cells #[x, y, z] T)) w.heap.size x y z := heap_alloc_new w _
/-- What three stores leave, and the facts that the walk asks. -/
theorem B3.end_ (h : B3 T w b x y z) (u v t : Value) :
    (w.setCell ⟨b, 0, none⟩ u).cell? ⟨b, 0, none⟩ = some u ∧ ((w.setCell ⟨b, 0, none⟩ u).setCell ⟨b, 1, none⟩ v).cell? ⟨b, 1, none⟩ = some v ∧
    (((w.setCell ⟨b, 0, none⟩ u).setCell ⟨b, 1, none⟩ v).setCell ⟨b, 2, none⟩ t).cell? ⟨b, 2, none⟩ = some t :=
  ⟨(h.set0 u).cells.1, ((h.set0 u).set1 v).cells.2.1, (((h.set0 u).set1 v).set2 t).cells.2.2⟩
theorem B1.cell (h : B1 T w b x) : w.cell? ⟨b, 0, none⟩ = some x := by rw [cell_of_row w b 0 _ _ (0, 0) h]; rfl
theorem B1.soft (h : B1 T w b x) : w.frozen? ⟨b, 0, none⟩ = false := frozen_of_row w b 0 _ _ h
theorem B1.lt (h : B1 T w b x) : b < w.heap.size := (Array.getElem?_eq_some_iff.1 h).1
theorem B1.ext (h : B1 T w b x) (hx : Ext w w') : B1 T w' b x := hx.heap h
theorem B1.far {g : Nat} (h : B1 T w b x) (hb : w.grownBy w' (some g)) (hne : b ≠ g) : B1 T w' b x := (hb.block b h.lt (by intro e; cases e; exact hne rfl)).trans h
theorem B1.set (h : B1 T w b x) (v : Value) : B1 T (w.setCell ⟨b, 0, none⟩ v) b v := by unfold B1; rw [heap_setCell_same w b 0 _ _ _ h]; rfl
theorem B1.new (T : TypeId) (w : World) (x : Value) : B1 T (w.alloc (.cells #[x] T)) w.heap.size x := heap_alloc_new w _
theorem grown_set3 {w w1 : World} {g b : Nat} (h : w.grownBy w1 (some g)) (hb : w.heap.size ≤ b) (u v t : Value) : w.grownBy (((w1.setCell ⟨b, 0, none⟩ u).setCell ⟨b, 1, none⟩ v).setCell ⟨b, 2, none⟩ t) (some g) := by
  have h3 : w1.grownBy (((w1.setCell ⟨b, 0, none⟩ u).setCell ⟨b, 1, none⟩ v).setCell ⟨b, 2, none⟩ t) (some b) := grown_set (grown_set (grown_set (grown_refl w1 _) 0 u) 1 v) 2 t
  exact ⟨h3.os.trans h.os, h3.tape.trans h.tape, h3.output.trans h.output, Nat.le_trans h.size h3.size, fun j hj hne => (h3.block j (Nat.lt_of_lt_of_le hj h.size) (by intro e; cases e; omega)).trans (h.block j hj hne)⟩
theorem ext_set3 {w1 : World} {b : Nat} (w : World) (h : Ext w w1) (hb : w.heap.size ≤ b) (u v t : Value) : Ext w (((w1.setCell ⟨b, 0, none⟩ u).setCell ⟨b, 1, none⟩ v).setCell ⟨b, 2, none⟩ t) :=
  ((h.setCell hb _).setCell hb _).setCell hb _
end
theorem OB.off {e : TypeId} {w w' : World} {B : Nat} {v : Value} {b : List UInt8} {g : Nat} (h : OB e w B v b) (hg : w.grownBy w' (some g)) (hlt : g < B) : OB e w' B v b := by
  refine ⟨h.1, ?_⟩
  rcases h.2 with hh | ⟨g', cap, cur, hv, hb, hh, r⟩
  · exact .inl hh
  · exact .inr ⟨g', cap, cur, hv, hb, (hg.block g' (Array.getElem?_eq_some_iff.1 hh).1 (by intro e; cases e; omega)).trans hh, r⟩
end Go.Proofs.YthpfomjibfbiiaaGreatDoor
namespace Go.Proofs.YthpfomjibfbiiaaGreatDoor
open Go Go.RowKit

/-- Pairs as cells. -/
def dcs (vs : List (Int × Value)) : List Value := vs.flatMap fun x => [.int .i64 x.1, x.2]
theorem dcs_length (vs : List (Int × Value)) : (dcs vs).length = vs.length * 2 := by
  induction vs with
  | nil => rfl
  | cons x t ih => simp only [dcs, List.flatMap_cons, List.length_append, List.length_cons, List.length_nil] at ih ⊢; omega
theorem dcs_snoc (vs : List (Int × Value)) (x : Int × Value) : dcs (vs ++ [x]) = dcs vs ++ [.int .i64 x.1, x.2] := by simp [dcs]
theorem dcs_get (vs : List (Int × Value)) : ∀ (i : Nat) (h : i < vs.length), (dcs vs)[i * 2]? = some (.int .i64 vs[i].1) ∧ (dcs vs)[i * 2 + 1]? = some vs[i].2 := by
  induction vs with
  | nil => intro i h; simp at h
  | cons x t ih =>
    intro i h
    cases i with
    | zero => simp [dcs]
    | succ j =>
      have := ih j (by simpa using h)
      have e1 : (j + 1) * 2 = j * 2 + 2 := by omega
      rw [e1]
      simpa [dcs] using this
theorem NoU8.of {w : World} {b : Nat} {cs : Array Value} {e : TypeId} {fr : Nat × Nat} (h : w.heap[b]? = some (.cells cs e fr)) (hc : ∀ x ∈ cs.toList, ∀ n, x ≠ .int .u8 n) : NoU8 w b := by
  intro q hq v hv
  unfold World.cell? at hv
  rw [hq, h] at hv
  simp only at hv
  split at hv
  · cases hv
  · obtain ⟨hlt, he⟩ := Array.getElem?_eq_some_iff.1 hv
    exact hc _ (by rw [← Array.mem_def]; exact Array.getElem_mem hlt) v he
theorem NoU8.mem {w : World} {b : Nat} {cs : Array Value} {e : TypeId} (h : NoU8 w b) (hh : w.heap[b]? = some (.cells cs e (0, 0))) : ∀ x ∈ cs.toList, ∀ n, x ≠ .int .u8 n := by
  intro x hx n e0
  subst e0
  obtain ⟨j, hj, he⟩ := List.getElem_of_mem hx
  refine h ⟨b, j, none⟩ rfl n ?_
  rw [cell_of_row w b j cs e (0, 0) hh, Array.getElem?_eq_getElem (by simpa using hj)]
  simpa using he
theorem NoU8.same {w w' : World} {b : Nat} (h : NoU8 w b) (hb : w'.heap[b]? = w.heap[b]?) : NoU8 w' b := by
  intro q hq v hv
  exact h q hq v ((World.cell?_of_block (by rw [hq]; exact hb.symm)).trans hv)
theorem mem_zeroCells (z : Array Value) (hz : 0 < z.size) (n : Nat) : ∀ x ∈ (Builtin.zeroCells z n).toList, x ∈ z.toList := by
  intro x hx
  unfold Builtin.zeroCells at hx
  simp only [Array.toList_map, List.mem_map] at hx
  obtain ⟨i, _, rfl⟩ := hx
  have hlt : i % z.size < z.size := Nat.mod_lt _ hz
  rw [getElem!_pos z _ hlt]
  rw [← Array.mem_def]
  exact Array.getElem_mem hlt
/-- The call's own row of data. -/
def DOV (e : TypeId) (w : World) (B : Nat) (v : Value) (ls : List (Int × List UInt8)) : Prop :=
  (∀ r, v.ownBlock = some r → NoU8 w r) ∧ ∃ vs : List (Int × Value), vs.length = ls.length ∧ w.ownsRow B e 2 v vs.length (dcs vs) ∧ ∀ i (h : i < vs.length) (h' : i < ls.length), vs[i].1 = ls[i].1 ∧ BS w vs[i].2 ls[i].2 ∧ (ls[i].2 ≠ [] → ∀ b, vs[i].2.ownBlock = some b → v.ownBlock ≠ some b)
theorem DOV.nil (e : TypeId) (w : World) (B : Nat) : DOV e w B (.slice none 0 0) [] := ⟨fun r h => by simp [Value.ownBlock] at h, [], rfl, World.ownsRow_nil _ _ _ _, fun i h => absurd h (by simp)⟩
theorem DOV.ext {e : TypeId} {w w' : World} {B : Nat} {v : Value} {ls : List (Int × List UInt8)} (h : DOV e w B v ls) (he : Ext w w') : DOV e w' B v ls := by
  obtain ⟨h0, vs, h1, h2, h3⟩ := h
  exact ⟨fun r hr => (h0 r hr).same (he.block r (World.ownsRow.lt h2 r hr).2), vs, h1, h2.kept (he.but none) (by cases hv : v.ownBlock <;> simp), fun i hi hi' => ⟨(h3 i hi hi').1, (h3 i hi hi').2.1.ext he, (h3 i hi hi').2.2⟩⟩
/-- While a block below the row and with no byte in it turns. -/
theorem DOV.off {e : TypeId} {w w' : World} {B : Nat} {v : Value} {ls : List (Int × List UInt8)} {g : Nat} (h : DOV e w B v ls) (hn : NoU8 w g) (hg : w.grownBy w' (some g)) (hv : v.ownBlock ≠ some g) : DOV e w' B v ls := by
  obtain ⟨h0, vs, h1, h2, h3⟩ := h
  exact ⟨fun r hr => (h0 r hr).same (hg.block r (World.ownsRow.lt h2 r hr).2 (by intro e; cases e; exact hv hr)), vs, h1, h2.kept hg (.inr hv), fun i hi hi' => ⟨(h3 i hi hi').1, (h3 i hi hi').2.1.but hn hg, (h3 i hi hi').2.2⟩⟩
theorem DOV.shape {e : TypeId} {w : World} {B : Nat} {v : Value} {ls : List (Int × List UInt8)} (h : DOV e w B v ls) : ∃ A c, v = .slice A ls.length c := by
  obtain ⟨_, vs, h1, h2, _⟩ := h
  rcases h2.2 with ⟨rfl, h0⟩ | ⟨g, cap, cur, rfl, _⟩
  · exact ⟨none, 0, by rw [← h1, h0]⟩
  · exact ⟨_, cap, by rw [h1]⟩
theorem DOV.ds {e : TypeId} {w : World} {B : Nat} {v : Value} {ls : List (Int × List UInt8)} (h : DOV e w B v ls) : DS w v ls := by
  obtain ⟨_, vs, h1, h2, h3⟩ := h
  have h2' := h2
  rcases h2.2 with ⟨rfl, h0⟩ | ⟨g, cap, cur, rfl, hb, hh, hnc, hcm, _⟩
  · have : ls.length = 0 := by omega
    exact ⟨none, 0, by rw [this], by omega, by unfold maxLen; omega, fun i hi => by omega⟩
  · refine ⟨some ⟨g, 0, none⟩, cap, by rw [h1], by omega, hcm, fun i hi => ?_⟩
    have hi' : i < vs.length := by omega
    obtain ⟨e1, e2, _⟩ := h3 i hi' hi
    obtain ⟨k1, k2⟩ := dcs_get vs i hi'
    have c1 := h2'.cells rfl _ _ k1
    have c2 := h2'.cells rfl _ _ k2
    obtain ⟨B', d, hv, _⟩ := e2.open_
    rw [hv] at c2 e2
    exact ⟨_, B', d, rfl, by rw [c1, e1], c2, e2⟩
theorem DOV.lt {e : TypeId} {w : World} {B : Nat} {v : Value} {ls : List (Int × List UInt8)} (h : DOV e w B v ls) : ∀ k, v.ownBlock = some k → B ≤ k ∧ k < w.heap.size := by
  obtain ⟨_, vs, _, h2, _⟩ := h
  exact World.ownsRow.lt h2
theorem DOV.down {e : TypeId} {w : World} {B B' : Nat} {v : Value} {ls : List (Int × List UInt8)} (h : DOV e w B v ls) (hB : B' ≤ B) : DOV e w B' v ls := by
  obtain ⟨h0, vs, h1, ⟨h2, h2'⟩, h3⟩ := h
  refine ⟨h0, vs, h1, ⟨h2, ?_⟩, h3⟩
  rcases h2' with h | ⟨g, cap, cur, e1, e2, r⟩
  · exact .inl h
  · exact .inr ⟨g, cap, cur, e1, Nat.le_trans hB e2, r⟩
section
variable {P : Program}
/-- The appended row holds no byte, either. -/
theorem append_noU8 (w : World) (base : Nat) (t ty e : TypeId) (i : TypeInfo) (z : Value) (size bytes : Nat) (ht : P.underlying t = some (.slice e)) (hi : P.info? e = some i) (hz : i.zero = some z)
    (hsize : i.size = size) (hby : i.bytes = bytes) (hzs : z.cells.size = size) (hsz : 0 < size)
    (v : Value) (n : Nat) (xs : List Value) (hown : w.ownsRow base e size v n xs)
    (a : Addr) (m c : Nat) (news : List Value) (hl : news.length = m * size) (hnews : ∀ j u, news[j]? = some u → w.cell? (a.add j) = some u) (h1 : ∀ u ∈ news, u.oneCell' = true)
    (hm0 : 0 < m) (h63 : n + m ≤ maxLen) (hbytes : (n + m) * bytes ≤ 140737488355328)
    (h0 : ∀ r, v.ownBlock = some r → NoU8 w r) (hzn : ∀ x ∈ z.cells.toList, ∀ n, x ≠ .int .u8 n) (hnn : ∀ x ∈ news, ∀ n, x ≠ .int .u8 n)
    (v' : Value) (w' : World) (hrun : (Builtin.append_ #[t, t] ty #[v, .slice (some a) m c]).run P w = .ok v' w') : ∀ r, v'.ownBlock = some r → NoU8 w' r := by
  subst hsize
  subst hby
  have hsmall : n + m ≤ 9223372036854775807 := by simp only [maxLen] at h63; omega
  rcases hown.2 with ⟨rfl, rfl⟩ | ⟨g, cap, cur, rfl, hbg, hg, hnc, hcm, hcs, htake⟩
  · have hr := run_append_nil (P := P) w t ty e i z ht hi hz a m c news hl hnews hm0 (by omega) (by have hb := hbytes; simp only [Nat.zero_add] at hb; omega)
    rw [hrun] at hr
    injection hr with e1 e2
    subst e1; subst e2
    intro r hr
    simp only [Value.ownBlock, Option.some.injEq] at hr
    subst hr
    refine NoU8.of (heap_alloc_new w.drew _) fun x hx n => ?_
    simp only [Array.toList_append, List.mem_append] at hx
    rcases hx with hx | hx
    · exact hnn x hx n
    · exact hzn x (mem_zeroCells _ (by omega) _ x hx) n
  · by_cases hroom : n + m ≤ cap
    · have hfit : n * i.size + news.length ≤ cur.size := by rw [hl, hcs, ← Nat.add_mul]; exact Nat.mul_le_mul_right _ hroom
      have hr := run_append_room (P := P) w t ty e i ht hi g n cap cur hg a m c news hl hnews h1 hroom hfit
      rw [hrun] at hr
      injection hr with e1 e2
      subst e1; subst e2
      intro r hr
      simp only [Value.ownBlock, Option.some.injEq] at hr
      subst hr
      have hcur := (h0 g rfl).mem hg
      refine NoU8.of (setRow_heap w g cur _ e _ hg) fun x hx n => ?_
      simp only [List.mem_append] at hx
      rcases hx with (hx | hx) | hx
      · exact hcur x (List.mem_of_mem_take hx) n
      · exact hnn x hx n
      · exact hcur x (List.mem_of_mem_drop hx) n
    · have holds : ∀ j u, xs[j]? = some u → w.cell? ((⟨g, 0, none⟩ : Addr).add j) = some u := hown.cells (g := g) rfl
      have hr := run_append_grow (P := P) w t ty e i z ht hi hz ⟨g, 0, none⟩ n cap xs hown.1 holds a m c news hl hnews (by omega) (by omega) (growslice_fits (by omega) hbytes)
      rw [hrun] at hr
      injection hr with e1 e2
      subst e1; subst e2
      intro r hr
      simp only [Value.ownBlock, Option.some.injEq] at hr
      subst hr
      have hcur := (h0 g rfl).mem hg
      refine NoU8.of (heap_alloc_new w.drew _) fun x hx n => ?_
      simp only [Array.toList_append, List.mem_append] at hx
      rcases hx with (hx | hx) | hx
      · refine hcur x ?_ n
        rw [← htake] at hx
        exact List.mem_of_mem_take hx
      · exact hnn x hx n
      · exact hzn x (mem_zeroCells _ (by omega) _ x hx) n
/-- append of one datum. -/
theorem wpList_append_dov (w : World) {ops : Array Oper} {rest : List Oper} {o : Oper} {a : Act} {Q : Exit → Act → World → Prop} (hgd : o.guard = none) (s x : Operand) (t : TypeId)
    (ho : o.op = .call { callee := .builtin .append, args := #[s, x], argTypes := #[t, t] })
    (base : Nat) (e : TypeId) (i : TypeInfo) (z : Value) (bytes : Nat) (ht : P.underlying t = some (.slice e)) (hi : P.info? e = some i) (hz : i.zero = some z)
    (hsize : i.size = 2) (hby : i.bytes = bytes) (hzs : z.cells.size = 2) (hzn : ∀ x ∈ z.cells.toList, ∀ n, x ≠ .int .u8 n)
    (v : Value) (ls : List (Int × List UInt8)) (hs : a.eval s = v) (hown : DOV e w base v ls)
    (ad : Addr) (c : Nat) (k : Int) (A : Option Addr) (n d : Nat) (l : List UInt8) (hx : a.eval x = .slice (some ad) 1 c) (hc0 : w.cell? (ad.add 0) = some (.int .i64 k)) (hc1 : w.cell? (ad.add 1) = some (.slice A n d)) (hu : BS w (.slice A n d) l) (hap : l ≠ [] → ∀ b, (Value.slice A n d).ownBlock = some b → v.ownBlock ≠ some b)
    (hbytes : (ls.length + 1) * bytes ≤ 140737488355328) (hby0 : 0 < bytes) (hbase : base ≤ w.heap.size)
    (h : ∀ v' w', DOV e w' base v' (ls ++ [(k, l)]) → w.grownBy w' v.ownBlock → (v'.ownBlock = v.ownBlock ∨ v'.ownBlock = some w.heap.size) → wpList P ops Q rest (a.put o.dst v') w') : wpList P ops Q (o :: rest) a w := by
  obtain ⟨h0, vs, h1, h2, h3⟩ := hown
  refine wpList_plain hgd fun K hK => ?_
  have h63 : vs.length + 1 ≤ maxLen := by
    have : ls.length + 1 ≤ (ls.length + 1) * bytes := Nat.le_mul_of_pos_right _ hby0
    unfold maxLen; omega
  have hnews : ∀ j u, ([.int .i64 k, .slice A n d] : List Value)[j]? = some u → w.cell? (ad.add j) = some u := by
    intro j u hju
    rcases j with _ | _ | j
    · simp at hju; subst hju; exact hc0
    · simp at hju; subst hju; exact hc1
    · simp at hju
  have hone : ∀ u ∈ ([.int .i64 k, .slice A n d] : List Value), u.oneCell' = true := by intro u hm; simp at hm; rcases hm with rfl | rfl <;> rfl
  obtain ⟨v', w', hrun, g1, g2, _, g3⟩ := run_append_own_at (P := P) w base t o.type e i z 2 bytes ht hi hz hsize hby hzs (by omega) v vs.length (dcs vs) h2 ad 1 c [.int .i64 k, .slice A n d] rfl
    hnews hone h63 (by rw [h1]; exact hbytes) hbase
  have g4 := append_noU8 (P := P) w base t o.type e i z 2 bytes ht hi hz hsize hby hzs (by omega) v vs.length (dcs vs) h2 ad 1 c [.int .i64 k, .slice A n d] rfl hnews hone (by omega) h63 (by rw [h1]; exact hbytes) h0 hzn (by intro x hm n; simp at hm; rcases hm with rfl | rfl <;> simp) v' w' hrun
  unfold Oper.wp execOp
  simp only [ho, resolve, invoke, builtin, Sem.run_bind, Sem.run_pure, Result.andThen_ok, List.map_toArray, List.map_cons, List.map_nil, hs, hx, hrun]
  refine hK _ _ (h v' w' ⟨g4, vs ++ [(k, .slice A n d)], by simp [h1], ?_, fun i hi hi' => ?_⟩ g2 g3)
  · rw [dcs_snoc]
    simpa using g1
  · have key : ∀ (y : Value) (m : List UInt8), BS w y m → (m ≠ [] → ∀ b, y.ownBlock = some b → v.ownBlock ≠ some b) → BS w' y m ∧ (m ≠ [] → ∀ b, y.ownBlock = some b → v'.ownBlock ≠ some b) := by
      intro y m hy ha
      refine ⟨hy.apart ha g2, fun hne b hb => ?_⟩
      rcases g3 with g | g
      · rw [g]; exact ha hne b hb
      · rw [g]
        have := hy.blockLt hne b hb
        intro e; injection e with e; omega
    by_cases hlt : i < vs.length
    · have e1 : (vs ++ [(k, Value.slice A n d)])[i] = vs[i] := List.getElem_append_left hlt
      have e2 : (ls ++ [(k, l)])[i] = ls[i]'(by omega) := List.getElem_append_left (by omega)
      rw [e1, e2]
      exact ⟨(h3 i hlt (by omega)).1, key _ _ (h3 i hlt (by omega)).2.1 (h3 i hlt (by omega)).2.2⟩
    · have hi2 : i = vs.length := by simp at hi; omega
      subst hi2
      have e1 : (vs ++ [(k, Value.slice A n d)])[vs.length] = (k, .slice A n d) := by simp
      have e2 : (ls ++ [(k, l)])[vs.length]'hi' = (k, l) := by simp [h1]
      rw [e1, e2]
      exact ⟨rfl, key _ _ hu hap⟩
end
theorem grownBy_none {w w' : World} (h : w.grownBy w' none) (r : Nat) : w.grownBy w' (some r) := ⟨h.os, h.tape, h.output, h.size, fun j hj _ => h.block j hj (by simp)⟩
theorem noU8_past (w : World) : NoU8 w w.heap.size := by
  intro q hq v hv
  unfold World.cell? at hv
  rw [hq, Array.getElem?_eq_none (Nat.le_refl _)] at hv
  cases hv
theorem RD.row {T : TypeId} {w w' : World} {g : Nat} {l : List UInt8} {k : Nat} {vb : Option Nat} (h : RD T w g l k) (hn : ∀ r, vb = some r → NoU8 w r) (hne : ∀ r, vb = some r → g ≠ r) (hg : w.grownBy w' vb) : RD T w' g l k := by
  have key : ∀ b, NoU8 w b → w.grownBy w' (some b) → g ≠ b → RD T w' g l k := by
    intro b hb hg hne
    obtain ⟨h1, A, c, hh, hbs⟩ := h
    exact ⟨h1, A, c, (hg.block g (Array.getElem?_eq_some_iff.1 hh).1 (by intro e; exact hne (by injection e))).trans hh, hbs.but hb hg⟩
  cases vb with
  | none => exact key _ (noU8_past w) (grownBy_none hg _) (by have := h.lt; omega)
  | some r => exact key r (hn r rfl) hg (hne r rfl)
theorem grown_row {a b c : World} {g vb : Option Nat} (h : a.grownBy b g) (k : b.grownBy c vb) (hl : ∀ r, vb = some r → a.heap.size ≤ r) : a.grownBy c g :=
  ⟨k.os.trans h.os, k.tape.trans h.tape, k.output.trans h.output, Nat.le_trans h.size k.size, fun j hj hne => by
    have h1 := h.block j hj hne
    exact (k.block j (Nat.lt_of_lt_of_le hj h.size) (by intro e; have := hl j e.symm; omega)).trans h1⟩
end Go.Proofs.YthpfomjibfbiiaaGreatDoor
