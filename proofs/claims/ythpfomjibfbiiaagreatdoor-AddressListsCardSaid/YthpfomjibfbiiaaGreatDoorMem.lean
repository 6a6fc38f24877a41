/- Words for slices that read as lists, and what the operations on them do. No program. -/
import Derived.Test.YthpfomjibfbiiaaGreatDoorExt
import Derived.WalkKit
import Derived.Maps.AppendAt
import Derived.Laws.OwnMore
import Derived.Deep.Draws
namespace Go.Proofs.YthpfomjibfbiiaaGreatDoor
open Go Go.RowKit

theorem block_of_add (a : Addr) (n : Nat) : (a.add n).block = a.block := by unfold Addr.add; split <;> rfl
theorem add_of_add (a : Addr) (i j : Nat) : (a.add i).add j = a.add (i + j) := by
  unfold Addr.add
  by_cases hi : i = 0 <;> by_cases hj : j = 0 <;> simp [hi, hj, Nat.add_assoc]

theorem Ext.cell {w w' : World} (h : Ext w w') {p : Addr} {v : Value} (hc : w.cell? p = some v) : w'.cell? p = some v :=
  (Below.cell h (World.block_lt_of_cell? w p hc)).trans hc
theorem Ext.frozen {w w' : World} (h : Ext w w') {p : Addr} (hp : p.block < w.heap.size) : w'.frozen? p = w.frozen? p := Below.frozen h hp
theorem Ext.heap {w w' : World} (h : Ext w w') {k : Nat} {o : Obj} (hk : w.heap[k]? = some o) : w'.heap[k]? = some o := (h.block k (Array.getElem?_eq_some_iff.1 hk).1).trans hk
theorem Ext.alloc {w w' : World} (h : Ext w w') (o : Obj) : Ext w (w'.alloc o) := Below.alloc h h.size o
theorem Ext.drew' {w w' : World} (h : Ext w w') : Ext w w'.drew := Below.drew h
theorem Ext.drewN {w w' : World} (h : Ext w w') (n : Nat) : Ext w (w'.drewN n) := ⟨h.os, h.tape, h.output, h.size, h.block⟩
theorem Ext.setCell {w w' : World} (h : Ext w w') {p : Addr} (hp : w.heap.size ≤ p.block) (u : Value) : Ext w (w'.setCell p u) := Below.setCell h hp u
theorem Ext.grown {a w w' : World} {row : Option Nat} (h : Ext a w) (hg : w.grownBy w' row) (hr : ∀ k, row = some k → a.heap.size ≤ k) : Ext a w' := Below.grown h hg h.size hr

/-- The slice value v holds the cells xs (elements of one cell each), nil let in. -/
def RS (w : World) (v : Value) (xs : List Value) : Prop :=
  ∃ A c, v = .slice A xs.length c ∧ xs.length ≤ c ∧ c ≤ maxLen ∧ (0 < xs.length → ∃ ad, A = some ad ∧ ad.block < w.heap.size ∧ ∀ j u, xs[j]? = some u → w.cell? (ad.add j) = some u)

/-- A byte as a value. -/
def bv (l : List UInt8) : List Value := l.map fun b => .int .u8 (b.toNat : Int)
@[simp] theorem bv_length (l : List UInt8) : (bv l).length = l.length := by simp [bv]
@[simp] theorem bv_nil : bv [] = [] := rfl
@[simp] theorem bv_append (a b : List UInt8) : bv (a ++ b) = bv a ++ bv b := by simp [bv]
theorem bv_cons (a : UInt8) (b : List UInt8) : bv (a :: b) = .int .u8 (a.toNat : Int) :: bv b := rfl
theorem bv_get (l : List UInt8) (j : Nat) (h : j < l.length) : (bv l)[j]? = some (.int .u8 (l[j].toNat : Int)) := by simp [bv, h]
theorem bv_one (l : List UInt8) : ∀ u ∈ bv l, u.oneCell' = true := by
  intro u hu
  simp only [bv, List.mem_map] at hu
  obtain ⟨b, _, rfl⟩ := hu
  rfl
theorem bv_take (l : List UInt8) (k : Nat) : bv (l.take k) = (bv l).take k := by simp [bv]
theorem bv_drop (l : List UInt8) (k : Nat) : bv (l.drop k) = (bv l).drop k := by simp [bv]

/-- The slice value v reads as the bytes l. -/
def BS (w : World) (v : Value) (l : List UInt8) : Prop := RS w v (bv l)

section
variable {w w' : World} {v : Value} {xs : List Value} {l : List UInt8}
theorem RS.ext (h : RS w v xs) (he : Ext w w') : RS w' v xs := by
  obtain ⟨A, c, hv, h1, h2, h3⟩ := h
  refine ⟨A, c, hv, h1, h2, fun hp => ?_⟩
  obtain ⟨ad, ha, hb, hc⟩ := h3 hp
  exact ⟨ad, ha, Nat.lt_of_lt_of_le hb he.size, fun j u hu => he.cell (hc j u hu)⟩
theorem BS.ext (h : BS w v l) (he : Ext w w') : BS w' v l := RS.ext h he
theorem RS.nil (w : World) : RS w (.slice none 0 0) [] := ⟨none, 0, rfl, Nat.le_refl _, Nat.zero_le _, fun h => absurd h (Nat.lt_irrefl 0)⟩
theorem BS.nil (w : World) : BS w (.slice none 0 0) [] := RS.nil w
/-- Opened: the slice, its head where it is not empty. -/
theorem RS.open_ (h : RS w v xs) : ∃ A c, v = .slice A xs.length c ∧ xs.length ≤ c ∧ c ≤ maxLen ∧ (0 < xs.length → ∃ ad, A = some ad ∧ ad.block < w.heap.size ∧ ∀ j u, xs[j]? = some u → w.cell? (ad.add j) = some u) := h
theorem BS.open_ (h : BS w v l) : ∃ A c, v = .slice A l.length c ∧ l.length ≤ c ∧ c ≤ maxLen ∧ (0 < l.length → ∃ ad, A = some ad ∧ ad.block < w.heap.size ∧ ∀ j (hj : j < l.length), w.cell? (ad.add j) = some (.int .u8 (l[j].toNat : Int))) := by
  obtain ⟨A, c, hv, h1, h2, h3⟩ := h
  simp only [bv_length] at hv h1 h3
  refine ⟨A, c, hv, h1, h2, fun hp => ?_⟩
  obtain ⟨ad, ha, hb, hc⟩ := h3 hp
  exact ⟨ad, ha, hb, fun j hj => hc j _ (bv_get l j hj)⟩
theorem RS.of_own {base : Nat} {e : TypeId} {n : Nat} (h : w.ownsRow base e 1 v n xs) : RS w v xs := by
  obtain ⟨h1, h2⟩ := h
  simp only [Nat.mul_one] at h1
  subst h1
  rcases h2 with ⟨hv, h0⟩ | ⟨g, cap, cur, hv, hb, hg, hc, hm, hs, ht⟩
  · have hx : xs = [] := List.eq_nil_of_length_eq_zero h0
    subst hx
    exact ⟨none, 0, hv, Nat.le_refl _, Nat.zero_le _, fun h => absurd h (Nat.lt_irrefl 0)⟩
  · refine ⟨some ⟨g, 0, none⟩, cap, hv, hc, hm, fun _ => ⟨⟨g, 0, none⟩, rfl, (Array.getElem?_eq_some_iff.1 hg).1, fun j u hu => ?_⟩⟩
    have hown : w.ownsRow base e 1 (.slice (some ⟨g, 0, none⟩) xs.length cap) xs.length xs := ⟨by simp, .inr ⟨g, cap, cur, rfl, hb, hg, hc, hm, hs, ht⟩⟩
    exact hown.cells (g := g) rfl j u hu
theorem BS.of_own {base : Nat} {e : TypeId} {n : Nat} (h : w.ownsRow base e 1 v n (bv l)) : BS w v l := RS.of_own h
end

/-- Owned bytes among the blocks from B on. -/
def OB (e : TypeId) (w : World) (B : Nat) (v : Value) (l : List UInt8) : Prop := w.ownsRow B e 1 v l.length (bv l)
theorem OB.bs {e : TypeId} {w : World} {B : Nat} {v : Value} {l : List UInt8} (h : OB e w B v l) : BS w v l := BS.of_own h
theorem OB.nil (e : TypeId) (w : World) (B : Nat) : OB e w B (.slice none 0 0) [] := World.ownsRow_nil _ _ _ _
theorem OB.ext {e : TypeId} {w w' : World} {B : Nat} {v : Value} {l : List UInt8} (h : OB e w B v l) (he : Ext w w') : OB e w' B v l := by
  refine ⟨h.1, ?_⟩
  rcases h.2 with hn | ⟨g, cap, cur, hv, hb, hg, r⟩
  · exact .inl hn
  · exact .inr ⟨g, cap, cur, hv, hb, he.heap hg, r⟩
theorem OB.mono {e : TypeId} {w : World} {B B' : Nat} {v : Value} {l : List UInt8} (h : OB e w B v l) (hB : B' ≤ B) : OB e w B' v l := by
  refine ⟨h.1, ?_⟩
  rcases h.2 with hn | ⟨g, cap, cur, hv, hb, r⟩
  · exact .inl hn
  · exact .inr ⟨g, cap, cur, hv, Nat.le_trans hB hb, r⟩

section
variable {P : Program}
theorem run_append_of_nil (w : World) (base : Nat) (t ty e : TypeId) (i : TypeInfo) (size : Nat) (ht : P.underlying t = some (.slice e)) (hi : P.info? e = some i)
    (v : Value) (n : Nat) (xs : List Value) (hown : w.ownsRow base e size v n xs) (c : Nat) : (Builtin.append_ #[t, t] ty #[v, .slice none 0 c]).run P w = .ok v w := by
  rcases hown.2 with ⟨rfl, rfl⟩ | ⟨g, cap, cur, rfl, _, _, hnc, _⟩
  · simp [Builtin.append_, run_underlying ht, sizeOf, typeInfo, hi, Builtin.lenOf, Builtin.firstCells]
  · simp [Builtin.append_, run_underlying ht, sizeOf, typeInfo, hi, Builtin.lenOf, Builtin.firstCells, hnc, storeCells]

/-- append onto a row of the call's own, elements of one cell; the source is whatever slice. -/
theorem run_append_rs (w : World) (base : Nat) (t ty e : TypeId) (i : TypeInfo) (z : Value) (bytes : Nat) (ht : P.underlying t = some (.slice e)) (hi : P.info? e = some i) (hz : i.zero = some z)
    (hsize : i.size = 1) (hby : i.bytes = bytes) (hzs : z.cells.size = 1)
    (v : Value) (xs : List Value) (hown : w.ownsRow base e 1 v xs.length xs)
    (s : Value) (news : List Value) (hr : RS w s news) (h1 : ∀ u ∈ news, u.oneCell' = true)
    (hbytes : (xs.length + news.length) * bytes ≤ 140737488355328) (hby0 : 0 < bytes) (hbase : base ≤ w.heap.size) :
    ∃ v' w', (Builtin.append_ #[t, t] ty #[v, s]).run P w = .ok v' w' ∧ w'.ownsRow base e 1 v' (xs ++ news).length (xs ++ news) ∧ w.grownBy w' v.ownBlock ∧
      (v'.ownBlock = v.ownBlock ∨ v'.ownBlock = some w.heap.size) := by
  obtain ⟨A, c, rfl, hlc, hcm, hcell⟩ := hr
  have h63 : xs.length + news.length ≤ maxLen := by
    have : xs.length + news.length ≤ (xs.length + news.length) * bytes := Nat.le_mul_of_pos_right _ hby0
    unfold maxLen; omega
  rw [List.length_append]
  rcases A with _ | ad
  · have hm : news.length = 0 := by
      rcases Nat.eq_zero_or_pos news.length with h0 | h0
      · exact h0
      · obtain ⟨ad, h, _⟩ := hcell h0
        cases h
    have hn : news = [] := List.eq_nil_of_length_eq_zero hm
    subst hn
    exact ⟨v, w, run_append_of_nil w base t ty e i 1 ht hi v xs.length xs hown c, by simpa using hown, World.grownBy.refl w _, .inl rfl⟩
  · have hcells : ∀ j u, news[j]? = some u → w.cell? (ad.add j) = some u := by
      intro j u hu
      rcases Nat.eq_zero_or_pos news.length with h0 | h0
      · have hn : news = [] := List.eq_nil_of_length_eq_zero h0
        subst hn
        simp at hu
      · obtain ⟨ad', h, _, hc⟩ := hcell h0
        injection h with h
        subst h
        exact hc j u hu
    obtain ⟨v', w', hrun, h2, h3, _, h5⟩ := run_append_own_at (P := P) w base t ty e i z 1 bytes ht hi hz hsize hby hzs (by omega) v xs.length xs hown ad news.length c news (by simp) hcells h1 h63 hbytes hbase
    exact ⟨v', w', hrun, h2, h3, h5⟩

/-- At the operation, in a plain region. -/
theorem wpList_append_rs (w : World) {ops : Array Oper} {rest : List Oper} {o : Oper} {a : Act} {Q : Exit → Act → World → Prop} (hgd : o.guard = none) (s x : Operand) (t : TypeId)
    (ho : o.op = .call { callee := .builtin .append, args := #[s, x], argTypes := #[t, t] })
    (base : Nat) (e : TypeId) (i : TypeInfo) (z : Value) (bytes : Nat) (ht : P.underlying t = some (.slice e)) (hi : P.info? e = some i) (hz : i.zero = some z)
    (hsize : i.size = 1) (hby : i.bytes = bytes) (hzs : z.cells.size = 1)
    (v : Value) (xs : List Value) (hs : a.eval s = v) (hown : w.ownsRow base e 1 v xs.length xs)
    (sv : Value) (news : List Value) (hx : a.eval x = sv) (hr : RS w sv news) (h1 : ∀ u ∈ news, u.oneCell' = true)
    (hbytes : (xs.length + news.length) * bytes ≤ 140737488355328) (hby0 : 0 < bytes) (hbase : base ≤ w.heap.size)
    (h : ∀ v' w', w'.ownsRow base e 1 v' (xs ++ news).length (xs ++ news) → w.grownBy w' v.ownBlock → (v'.ownBlock = v.ownBlock ∨ v'.ownBlock = some w.heap.size) → wpList P ops Q rest (a.put o.dst v') w') : wpList P ops Q (o :: rest) a w := by
  refine wpList_plain hgd fun K hK => ?_
  obtain ⟨v', w', hrun, h2, h3, h4⟩ := run_append_rs (P := P) w base t o.type e i z bytes ht hi hz hsize hby hzs v xs hown sv news hr h1 hbytes hby0 hbase
  unfold Oper.wp execOp
  simp only [ho, resolve, invoke, builtin, Sem.run_bind, Sem.run_pure, Result.andThen_ok, List.map_toArray, List.map_cons, List.map_nil, hs, hx, hrun]
  exact hK _ _ (h v' w' h2 h3 h4)

/-- bytes onto bytes. -/
theorem wpList_append_bs (w : World) {ops : Array Oper} {rest : List Oper} {o : Oper} {a : Act} {Q : Exit → Act → World → Prop} (hgd : o.guard = none) (s x : Operand) (t : TypeId)
    (ho : o.op = .call { callee := .builtin .append, args := #[s, x], argTypes := #[t, t] })
    (base : Nat) (e : TypeId) (i : TypeInfo) (z : Value) (ht : P.underlying t = some (.slice e)) (hi : P.info? e = some i) (hz : i.zero = some z)
    (hsize : i.size = 1) (hby : i.bytes = 1) (hzs : z.cells.size = 1)
    (v : Value) (l : List UInt8) (hs : a.eval s = v) (hown : OB e w base v l)
    (sv : Value) (m : List UInt8) (hx : a.eval x = sv) (hr : BS w sv m)
    (hbytes : l.length + m.length ≤ 140737488355328) (hbase : base ≤ w.heap.size)
    (h : ∀ v' w', OB e w' base v' (l ++ m) → w.grownBy w' v.ownBlock → (v'.ownBlock = v.ownBlock ∨ v'.ownBlock = some w.heap.size) → wpList P ops Q rest (a.put o.dst v') w') : wpList P ops Q (o :: rest) a w := by
  refine wpList_append_rs w hgd s x t ho base e i z 1 ht hi hz hsize hby hzs v (bv l) hs (by unfold OB at hown; simpa using hown) sv (bv m) hx hr (bv_one m) (by simpa using hbytes) (by omega) hbase ?_
  intro v' w' h1 h2 h3
  exact h v' w' (by unfold OB; simpa using h1) h2 h3
end

theorem OB.lt {e : TypeId} {w : World} {B : Nat} {v : Value} {l : List UInt8} (h : OB e w B v l) : ∀ k, v.ownBlock = some k → B ≤ k := fun k hk => (World.ownsRow.lt h k hk).1

theorem OB.up {e : TypeId} {w w1 w2 : World} {v : Value} {l : List UInt8} (h : OB e w2 w1.heap.size v l) (hx : Ext w w1) : OB e w2 w.heap.size v l := h.mono hx.size
theorem OB.shape {e : TypeId} {w : World} {B : Nat} {v : Value} {l : List UInt8} (h : OB e w B v l) : ∃ A c, v = .slice A l.length c := by
  obtain ⟨A, c, hv, _⟩ := h.bs.open_
  exact ⟨A, c, hv⟩
/-- What a call that hands back new bytes leaves: the value by its constructor. -/
theorem OB.ret {e : TypeId} {w w' : World} {B : Nat} {en : Ending} {l : List UInt8} (h : ∃ v, en = .returned v ∧ OB e w' B v l ∧ Ext w w') :
    ∃ A c, en = .returned (.slice A l.length c) ∧ OB e w' B (.slice A l.length c) l ∧ Ext w w' := by
  obtain ⟨v, rfl, hb, hx⟩ := h
  obtain ⟨A, c, rfl⟩ := hb.shape
  exact ⟨A, c, rfl, hb, hx⟩

/-- A new one-row block of bytes reads as its bytes. -/
theorem BS.new (w : World) (e : TypeId) (l : List UInt8) (hl : l.length ≤ maxLen) : BS (w.alloc (.cells (bv l).toArray e)) (.slice (some ⟨w.heap.size, 0, none⟩) l.length l.length) l := by
  refine ⟨some ⟨w.heap.size, 0, none⟩, l.length, by simp, by simp, hl, fun _ => ⟨⟨w.heap.size, 0, none⟩, rfl, by simp, fun j u hu => ?_⟩⟩
  have hg : (w.alloc (.cells (bv l).toArray e)).heap[w.heap.size]? = some (.cells (bv l).toArray e (0, 0)) := heap_alloc_new w _
  have hadd : (⟨w.heap.size, 0, none⟩ : Addr).add j = ⟨w.heap.size, j, none⟩ := by unfold Addr.add; split <;> simp_all
  rw [hadd, cell_of_row _ _ j _ e (0, 0) hg]
  simpa using hu
theorem RS.new (w : World) (e : TypeId) (xs : List Value) (hl : xs.length ≤ maxLen) : RS (w.alloc (.cells xs.toArray e)) (.slice (some ⟨w.heap.size, 0, none⟩) xs.length xs.length) xs := by
  refine ⟨some ⟨w.heap.size, 0, none⟩, xs.length, rfl, Nat.le_refl _, hl, fun _ => ⟨⟨w.heap.size, 0, none⟩, rfl, by simp, fun j u hu => ?_⟩⟩
  have hg : (w.alloc (.cells xs.toArray e)).heap[w.heap.size]? = some (.cells xs.toArray e (0, 0)) := heap_alloc_new w _
  have hadd : (⟨w.heap.size, 0, none⟩ : Addr).add j = ⟨w.heap.size, j, none⟩ := by unfold Addr.add; split <;> simp_all
  rw [hadd, cell_of_row _ _ j _ e (0, 0) hg]
  simpa using hu

theorem BS.new' (w : World) (e : TypeId) (xs : List Value) (l : List UInt8) (h : xs = bv l) (n : Nat) (hn : n = l.length) (hl : l.length ≤ maxLen) {z : Nat} (hk : z = w.heap.size := by first | rfl | simp) : BS (w.alloc (.cells xs.toArray e)) (.slice (some ⟨z, 0, none⟩) n n) l := by
  subst h; subst hn; subst hk; exact BS.new w e l hl
/-- A slice of byte slices. -/
def BSS (w : World) (v : Value) (ls : List (List UInt8)) : Prop := ∃ vs, RS w v vs ∧ vs.length = ls.length ∧ ∀ i (h : i < vs.length) (h' : i < ls.length), BS w vs[i] ls[i]
theorem BSS.ext {w w' : World} {v : Value} {ls : List (List UInt8)} (h : BSS w v ls) (he : Ext w w') : BSS w' v ls := by
  obtain ⟨vs, h1, h2, h3⟩ := h
  exact ⟨vs, h1.ext he, h2, fun i hi hi' => (h3 i hi hi').ext he⟩
theorem BSS.new (w : World) (e : TypeId) (vs : List Value) (ls : List (List UInt8)) (n : Nat) (hn : n = vs.length) (h : vs.length = ls.length) (hl : vs.length ≤ maxLen)
    (hE : ∀ i (hi : i < vs.length) (h' : i < ls.length), BS w vs[i] ls[i]) : BSS (w.alloc (.cells vs.toArray e)) (.slice (some ⟨w.heap.size, 0, none⟩) n n) ls := by
  subst hn
  exact ⟨vs, RS.new w e vs hl, h, fun i hi h' => (hE i hi h').ext ((Ext.refl w).alloc _)⟩
theorem BSS.new1 (w : World) (e : TypeId) (v : Value) (l : List UInt8) (h : BS w v l) {z : Nat} (hz : z = w.heap.size := by first | rfl | simp) : BSS (w.alloc (.cells #[v] e)) (.slice (some ⟨z, 0, none⟩) 1 1) [l] :=
  hz ▸ BSS.new w e [v] [l] 1 rfl rfl (by simp [maxLen]) (fun i hi h' => by
    have : i = 0 := by simpa using hi
    subst this; exact h)
theorem BSS.new2 (w : World) (e : TypeId) (v u : Value) (l m : List UInt8) (h : BS w v l) (k : BS w u m) {z : Nat} (hz : z = w.heap.size := by first | rfl | simp) : BSS (w.alloc (.cells #[v, u] e)) (.slice (some ⟨z, 0, none⟩) 2 2) [l, m] :=
  hz ▸ BSS.new w e [v, u] [l, m] 2 rfl rfl (by simp [maxLen]) (fun i hi h' => by
    match i, hi with
    | 0, _ => exact h
    | 1, _ => exact k)
theorem BSS.new3 (w : World) (e : TypeId) (v u x : Value) (l m n : List UInt8) (h : BS w v l) (k : BS w u m) (j : BS w x n) {z : Nat} (hz : z = w.heap.size := by first | rfl | simp) : BSS (w.alloc (.cells #[v, u, x] e)) (.slice (some ⟨z, 0, none⟩) 3 3) [l, m, n] :=
  hz ▸ BSS.new w e [v, u, x] [l, m, n] 3 rfl rfl (by simp [maxLen]) (fun i hi h' => by
    match i, hi with
    | 0, _ => exact h
    | 1, _ => exact k
    | 2, _ => exact j)
/-- Opened. -/
theorem BSS.open_ {w : World} {v : Value} {ls : List (List UInt8)} (h : BSS w v ls) : ∃ A c, v = .slice A ls.length c ∧ ls.length ≤ c ∧ c ≤ maxLen ∧
    (0 < ls.length → ∃ ad, A = some ad ∧ ad.block < w.heap.size) ∧
    (∀ i (hi : i < ls.length), ∃ ad B d, A = some ad ∧ w.cell? (ad.add i) = some (.slice B ls[i].length d) ∧ BS w (.slice B ls[i].length d) ls[i]) := by
  obtain ⟨vs, ⟨A, c, hv, h1, h2, h3⟩, hl, he⟩ := h
  rw [hl] at hv h1 h3
  refine ⟨A, c, hv, h1, h2, fun hp => ?_, fun i hi => ?_⟩
  · obtain ⟨ad, ha, hb, _⟩ := h3 hp
    exact ⟨ad, ha, hb⟩
  · obtain ⟨ad, ha, hb, hc⟩ := h3 (by omega)
    have hb := he i (by omega) hi
    obtain ⟨B, d, hv', _⟩ := hb.open_
    refine ⟨ad, B, d, ha, ?_, by rw [← hv']; exact hb⟩
    rw [hc i _ (List.getElem?_eq_getElem (by omega)), hv']
end Go.Proofs.YthpfomjibfbiiaaGreatDoor
