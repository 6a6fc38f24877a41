/- PolicyHolds: up to the two lists of rules. (wip/tools/genlawpo.py printed this.) -/
import Derived.Test.YtgfjmmdkdhodiaaGreatDoorPoH1
import Derived.Lib.MinMax
import Derived.Deep.Cut
import Derived.Deep.RegionHeld3
import Derived.Maps.OwnIn
import Derived.Maps.Views
namespace Go.Proofs.YtgfjmmdkdhodiaaGreatDoor.policyHolds
open Go Go.RowKit Go.Maps
set_option linter.unusedVariables false
attribute [local go_sem] Oper.semAt_some
/-- The policy with lower requirements. -/
def lowP (p : Pol) (x y z : Int) : Pol := ((p.set 1 (max 1 (p.len - x))).set 2 (max 1 (p.cla - y))).set 3 (min (max 1 (p.len - x)) (max 0 (p.dis - z)))
theorem low_ok {p : Pol} (h : p.ok = true) {x y z : Int} (hx : 0 ≤ x) (hy : 0 ≤ y) (hz : 0 ≤ z) : (lowP p x y z).ok = true := by
  have hb := (Pol.ok_iff p).1 h
  rw [Pol.ok_iff]
  obtain ⟨h1, h2, h3, h4, h5, h6, h7, h8, h9, h10, h11⟩ := hb
  refine ⟨h1, ?_, ?_, ?_, h5, h6, h7, h8, h9, h10, h11⟩
  · show 1 ≤ max 1 (p.len - x) ∧ max 1 (p.len - x) ≤ 64; omega
  · show 1 ≤ max 1 (p.cla - y) ∧ max 1 (p.cla - y) ≤ 5; omega
  · show 0 ≤ min (max 1 (p.len - x)) (max 0 (p.dis - z)) ∧ min (max 1 (p.len - x)) (max 0 (p.dis - z)) ≤ max 1 (p.len - x); omega
theorem low_brk {p : Pol} (h : p.ok = true) {x y z : Int} (hx : 0 ≤ x) (hy : 0 ≤ y) (hz : 0 ≤ z) {ps : List (List UInt8)} {b : List UInt8} (hk : brkP p ps b = []) : brkP (lowP p x y z) ps b = [] := by
  have hb := (Pol.ok_iff p).1 h
  unfold brkP at hk ⊢
  rw [if_pos h] at hk
  rw [if_pos (low_ok h hx hy hz)]
  obtain ⟨h1, h2, h3, h4, h5, h6, h7, h8, h9, h10, h11⟩ := hb
  refine brk_low ?_ ?_ ?_ hk
  · show max 1 (p.len - x) ≤ p.len; omega
  · show max 1 (p.cla - y) ≤ p.cla; omega
  · show min (max 1 (p.len - x)) (max 0 (p.dis - z)) ≤ p.dis; omega
/-- The cells that the region loads. -/
abbrev SHold (W : World) (g n : Nat) (p : Pol) (v : Value) (r : ByteArray) : Prop :=
  W.cell? ⟨g, 0, none⟩ = some (.string p.nm) ∧ W.cell? ⟨g, 1, none⟩ = some (.int .i64 p.len) ∧ W.cell? ⟨g, 2, none⟩ = some (.int .i64 p.cla) ∧ W.cell? ⟨g, 3, none⟩ = some (.int .i64 p.dis) ∧ W.cell? ⟨g, 4, none⟩ = some (.int .i64 p.his) ∧ W.cell? ⟨g, 5, none⟩ = some (.int .i64 p.mina) ∧ W.cell? ⟨g, 6, none⟩ = some (.int .i64 p.maxa) ∧ W.cell? ⟨g, 7, none⟩ = some (.int .i64 p.fai) ∧ W.cell? ⟨g, 8, none⟩ = some (.int .i64 p.win) ∧ W.cell? ⟨g, 9, none⟩ = some (.int .i64 p.loc) ∧ W.cell? ⟨n, 0, none⟩ = some v ∧ W.cell? ⟨n, 1, none⟩ = some (.string r)
theorem SHold_of {W : World} {g n : Nat} {p : Pol} {v : Value} {r : ByteArray} (h : PL W g p) (k : NB W n v r) : SHold W g n p v r :=
  ⟨h.cells.c0, h.cells.c1, h.cells.c2, h.cells.c3, h.cells.c4, h.cells.c5, h.cells.c6, h.cells.c7, h.cells.c8, h.cells.c9, k.cell0, NBcell1 k⟩
/-- The two lists' iterators. -/
def TwoSeq (W4 : World) (L0 L1 : List Nat) (v20 v21 : Value) (W : World) : Prop := ∃ g1 B1 e1 g2 B2 e2, v20 = .func (.func 38) #[] #[.pointer (some ⟨g1, 0, none⟩)] ∧ v21 = .func (.func 38) #[] #[.pointer (some ⟨g2, 0, none⟩)] ∧ ItR g1 B1 e1 L0 W ∧ ItR g2 B2 e2 L1 W ∧ Ext W4 W
/-- Bytes onto bytes, at a step of a region that draws; where the new bytes lie. -/
theorem step_append_bs2 {P : Program} (w : World) {ops : Array Oper} {o : Oper} {a : Act} {K : Act → World → Prop} {Q : Exit → Act → World → Prop} {E : Prop} (hgd : o.guard = none) (s x : Operand) (t : TypeId)
    (ho : o.op = .call { callee := .builtin .append, args := #[s, x], argTypes := #[t, t] })
    (base : Nat) (e : TypeId) (i : TypeInfo) (z : Value) (ht : P.underlying t = some (.slice e)) (hi : P.info? e = some i) (hz : i.zero = some z)
    (hsize : i.size = 1) (hby : i.bytes = 1) (hzs : z.cells.size = 1)
    (v : Value) (l : List UInt8) (hs : a.eval s = v) (hown : OB e w base v l)
    (sv : Value) (m : List UInt8) (hx : a.eval x = sv) (hr : BS w sv m)
    (hbytes : l.length + m.length ≤ 140737488355328) (hbase : base ≤ w.heap.size)
    (h : ∀ v' w', OB e w' base v' (l ++ m) → w.grownBy w' v.ownBlock → (v'.ownBlock = v.ownBlock ∨ v'.ownBlock = some w.heap.size) → K (a.put o.dst v') w') : if Region.wanted o (yielded ops a.tmps) = true then Oper.wp P o a w K Q else E := by
  have hw : Region.wanted o (yielded ops a.tmps) = true := by simp [Region.wanted, hgd]
  rw [if_pos hw]
  obtain ⟨v', w', hrun, g1, g2, g3⟩ := run_append_rs (P := P) w base t o.type e i z 1 ht hi hz hsize hby hzs v (bv l) (by unfold OB at hown; simpa using hown) sv (bv m) hr (bv_one m) (by simpa using hbytes) (by omega) hbase
  unfold Oper.wp execOp
  simp only [ho, resolve, invoke, builtin, Sem.run_bind, Sem.run_pure, Result.andThen_ok, List.map_toArray, List.map_cons, List.map_nil, hs, hx, hrun]
  exact h v' w' (by unfold OB; simpa using g1) g2 g3
/-- The iterator's memory is none of v's own. -/
def Sep (g : Nat) (B : Option Addr) (L : List Nat) (v : Value) : Prop := ∀ k, v.ownBlock = some k → k ≠ g ∧ (0 < L.length → ∀ ad, B = some ad → ad.block ≠ k)
theorem ItR_lt {g : Nat} {B : Option Addr} {c : Nat} {L : List Nat} {W : World} (h : ItR g B c L W) : g < W.heap.size ∧ (0 < L.length → ∀ ad, B = some ad → ad.block < W.heap.size) := by
  refine ⟨(Array.getElem?_eq_some_iff.1 h.1).1, fun hp ad ha => ?_⟩
  obtain ⟨A', c', he, e1, e2, e3⟩ := h.2
  obtain ⟨ad', h1, h2, _⟩ := e3 (by rw [rv_length]; exact hp)
  injection he with z1 _ z3
  rw [← z1, ha] at h1
  injection h1 with h1
  subst h1
  exact h2
theorem ItR_far {g : Nat} {B : Option Addr} {c : Nat} {L : List Nat} {W W' : World} {k : Nat} (h : ItR g B c L W) (hg : W.grownBy W' (some k)) (h1 : k ≠ g) (h2 : 0 < L.length → ∀ ad, B = some ad → ad.block ≠ k) : ItR g B c L W' := by
  refine ⟨heap_far hg h.1 (Ne.symm h1), ?_⟩
  cases hl : L with
  | nil =>
    have h3 := h.2
    rw [hl] at h3
    obtain ⟨A', c', he, e1, e2, e3⟩ := h3
    exact ⟨A', c', he, e1, e2, fun hp => by simp [rv] at hp⟩
  | cons x L' => rw [← hl]; exact h.2.far hg (h2 (by rw [hl]; simp))
theorem ItR_sep {g : Nat} {B : Option Addr} {c : Nat} {L : List Nat} {W W' : World} {v : Value} (h : ItR g B c L W) (hg : W.grownBy W' v.ownBlock) (hs : Sep g B L v) : ItR g B c L W' := by
  cases hv : v.ownBlock with
  | none => rw [hv] at hg; exact h.ext (grown_of_ext hg)
  | some k =>
    rw [hv] at hg
    obtain ⟨h1, h2⟩ := hs k hv
    exact ItR_far h hg h1 h2
theorem apA {W4 w1 w8 : World} {g1 e1 : Nat} {B1 : Option Addr} {L : List Nat} {v8 : Value} {b : List UInt8} (hx1 : Ext W4 w1) (hit : ItR g1 B1 e1 L w1) (hown : OB 5 w8 w1.heap.size v8 ([] ++ b))
    (hg : (w1.alloc (.cells #[] 5)).grownBy w8 (some w1.heap.size)) (hat : v8.ownBlock = some w1.heap.size ∨ v8.ownBlock = some (w1.alloc (.cells #[] 5)).heap.size) :
    ∃ A8 c8, v8 = .slice A8 b.length c8 ∧ OB 5 w8 W4.heap.size (.slice A8 b.length c8) b ∧ Sep g1 B1 L (.slice A8 b.length c8) ∧ ItR g1 B1 e1 L w8 ∧ Ext W4 w8 := by
  have hb : OB 5 w8 w1.heap.size v8 b := by simpa using hown
  obtain ⟨A8, c8, rfl⟩ := hb.shape
  have hl := ItR_lt hit
  have hi2 : ItR g1 B1 e1 L (w1.alloc (.cells #[] 5)) := hit.ext ((Ext.refl _).alloc _)
  refine ⟨A8, c8, rfl, hb.mono hx1.size, fun k hk => ?_, ItR_sep hi2 (v := .slice (some ⟨w1.heap.size, 0, none⟩) 0 0) hg (fun k hk => ?_), (hx1.alloc _).grown hg (fun j hj => by injection hj with hj; have := hx1.size; omega)⟩
  · have hk2 : w1.heap.size ≤ k := (World.ownsRow.lt hb k hk).1
    exact ⟨by omega, fun hp ad ha => by have := hl.2 hp ad ha; omega⟩
  · injection hk with hk
    subst hk
    exact ⟨by have := hl.1; simp only; omega, fun hp ad ha => by have := hl.2 hp ad ha; simp only; omega⟩
theorem apB {W4 wd w1 w8 : World} {g1 e1 : Nat} {B1 : Option Addr} {L : List Nat} {v8 : Value} {b : List UInt8} (hxd : Ext W4 wd) (hx1 : Ext (wd.alloc (.cells #[] 5)).drew w1) (hit : ItR g1 B1 e1 L w1) (hg1 : (wd.alloc (.cells #[] 5)).drew.heap.size ≤ g1) (ha1 : ∀ ad, B1 = some ad → (wd.alloc (.cells #[] 5)).drew.heap.size ≤ ad.block) (hown : OB 5 w8 wd.heap.size v8 ([] ++ b))
    (hg : w1.grownBy w8 (some wd.heap.size)) (hat : v8.ownBlock = some wd.heap.size ∨ v8.ownBlock = some w1.heap.size) :
    ∃ A8 c8, v8 = .slice A8 b.length c8 ∧ OB 5 w8 W4.heap.size (.slice A8 b.length c8) b ∧ Sep g1 B1 L (.slice A8 b.length c8) ∧ ItR g1 B1 e1 L w8 ∧ Ext W4 w8 := by
  have hb : OB 5 w8 wd.heap.size v8 b := by simpa using hown
  obtain ⟨A8, c8, rfl⟩ := hb.shape
  have hl := ItR_lt hit
  have hg1 : wd.heap.size + 1 ≤ g1 := by simpa using hg1
  have ha2 : ∀ ad, B1 = some ad → wd.heap.size + 1 ≤ ad.block := fun ad ha => by simpa using ha1 ad ha
  refine ⟨A8, c8, rfl, hb.mono hxd.size, fun k hk => ?_, ItR_sep hit (v := .slice (some ⟨wd.heap.size, 0, none⟩) 0 0) hg (fun k hk => ?_), ((hxd.alloc _).drew'.trans hx1).grown hg (fun j hj => by injection hj with hj; have := hxd.size; omega)⟩
  · rcases hat with h | h
    · rw [h] at hk; injection hk with hk; subst hk
      exact ⟨by omega, fun hp ad ha => by have := ha2 ad ha; omega⟩
    · rw [h] at hk; injection hk with hk; subst hk
      exact ⟨by have := hl.1; omega, fun hp ad ha => by have := hl.2 hp ad ha; omega⟩
  · injection hk with hk
    subst hk
    exact ⟨by simp only; omega, fun hp ad ha => by have := ha2 ad ha; simp only; omega⟩
theorem apC {W4 w8 w10 : World} {g1 e1 : Nat} {B1 : Option Addr} {L : List Nat} {v v10 : Value} {b m : List UInt8} (hx8 : Ext W4 w8) (hit : ItR g1 B1 e1 L w8) (hs : Sep g1 B1 L v) (hown : OB 5 w10 W4.heap.size v10 (b ++ m)) (hg : w8.grownBy w10 v.ownBlock)
    (hat : v10.ownBlock = v.ownBlock ∨ v10.ownBlock = some w8.heap.size) (hlt : ∀ k, v.ownBlock = some k → W4.heap.size ≤ k) {bm : List UInt8} (hbm : b ++ m = bm) :
    ∃ A c, v10 = .slice A bm.length c ∧ OB 5 w10 W4.heap.size (.slice A bm.length c) bm ∧ ItR g1 B1 e1 L w10 ∧ Ext W4 w10 := by
  rw [hbm] at hown
  obtain ⟨A, c, rfl⟩ := hown.shape
  exact ⟨A, c, rfl, hown, ItR_sep hit hg hs, hx8.grown hg hlt⟩
theorem lawRule : Keyed Tryz.prog 33 := int_keyed Tryz.underlying33
/-- A map of rules, true at those of l. -/
def MKR (W : World) (g n : Nat) (l : List Nat) : Prop := ∃ D : DataW Unit, W.ownsMap Tryz.prog 33 (plainElem Tryz.prog 4) g n D ∧ ∀ x ∈ l, ∀ z, D.atKey (.int .i64 ((x : Nat) : Int)) z = .lit (.bool true)
theorem MKR_new (w : World) : MKR (w.alloc (.map #[] 0)) w.heap.size 0 [] := ⟨.map [], World.ownsMap_made _ _ _ _, fun x hx => by cases hx⟩
theorem MKR_kept {w w' : World} {g n : Nat} {l : List Nat} {row : Option Nat} (h : MKR w g n l) (hg : w.grownBy w' row) (hne : some g ≠ row) : MKR w' g n l := by
  obtain ⟨D, h1, h2⟩ := h
  exact ⟨D, h1.kept hg hne, h2⟩
theorem MKR_add {w1 : World} {g n : Nat} {l : List Nat} {D : DataW Unit} {x : Nat} (hown : w1.ownsMap Tryz.prog 33 (plainElem Tryz.prog 4) g (n + 1) (D.put (.int .i64 (x : Int)) (.lit (.bool true))))
    (hat : ∀ x ∈ l, ∀ z, D.atKey (.int .i64 ((x : Nat) : Int)) z = .lit (.bool true)) (hm : IsMap D) : MKR w1 g (n + 1) (l ++ [x]) := by
  refine ⟨_, hown, fun y hy z => ?_⟩
  by_cases he : y = x
  · subst he; exact atKey_put_same (k := .int .i64 ((y : Nat) : Int)) hm trivial _ _
  · rw [atKey_put_other (by intro e; injection e with _ e; omega)]
    rcases List.mem_append.1 hy with h | h
    · exact hat y h z
    · simp at h; exact absurd h he
theorem MKR_look {w : World} {g n : Nat} {l : List Nat} (h : MKR w g n l) {x : Nat} (hx : x ∈ l) (h7 : x ≤ 1000) : (Instr.lookup 60 (.map (some g)) (.int .i64 (x : Int)) false).run Tryz.prog w = .ok (.bool true) w := by
  obtain ⟨D, hown, hat⟩ := h
  obtain ⟨v, ps, hrun, hv⟩ := hown.lookup lawRule Tryz.underlying60 (z := .bool false) (zd := .lit (.bool false)) (zp := []) (by kernel_rfl) (plainElem_bool Tryz.underlying4 false) (keyOf_int_mk Tryz.underlying33 (wf_i64 (n := (x : Int)) (by omega) (by omega)))
  rw [hat x hx] at hv
  rw [hrun]
  cases v <;> simp [plainElem, Tryz.underlying4] at hv
  rename_i bb
  rw [hv.1]
def StI (s : Nat) (W4 : World) (g1 : Nat) (B1 : Option Addr) (e1 : Nat) (L0 : List Nat) (pre : List Nat) (V : World) : Prop := V.heap[s + 1]? = some (.cells #[.map (some s)] 60 (0, 0)) ∧ MKR V s pre.length pre ∧ ItR g1 B1 e1 L0 V ∧ Ext W4 V
theorem MKR_stab {B s n : Nat} {l : List Nat} (hs : s < B) : Stab B (fun W => MKR W s n l) := fun W W' k hk _ hg h => MKR_kept h hg (by intro e; injection e with e; omega)
theorem StI_stab {B s : Nat} {W4 : World} {g1 : Nat} {B1 : Option Addr} {e1 : Nat} {L0 : List Nat} (hs : s < B) (h : W4.heap.size ≤ B) (pre : List Nat) : Stab B (StI s W4 g1 B1 e1 L0 pre) := (Stab.heap _ _ _ _).and ((MKR_stab hs).and ((ItR.stab _ _ _ _ _).and (Stab.ext W4 h)))
/-- Between two rounds of the second loop. -/
def FiI (s f D0 : Nat) (L1 : List Nat) (W4 : World) (pre : List Nat) (V : World) : Prop :=
  V.heap[s + 1]? = some (.cells #[.map (some s)] 60 (0, 0)) ∧ MKR V s L1.length L1 ∧ V.heap[f]? = some (.cells #[.int .i64 (firstR pre)] 33 (0, 0)) ∧ V.heap[D0]? = some (.deferred (some [])) ∧ Ext W4 V
theorem FiI_stab {B s f D0 : Nat} {L1 : List Nat} {W4 : World} (hs : s < B) (hd : D0 < B) (h : W4.heap.size ≤ B) (pre : List Nat) : Stab B (FiI s f D0 L1 W4 pre) := (Stab.heap _ _ _ _).and ((MKR_stab hs).and ((Stab.heap _ _ _ _).and ((Stab.obj _ _ hd).and (Stab.ext W4 h))))
theorem brkP_more {p : Pol} {ps : List (List UInt8)} {b : List UInt8} (m : List UInt8) {x : Nat} (hx : x = 2 ∨ x = 3 ∨ x = 6 ∨ x = 7) (h : x ∈ brkP p ps b) : x ∈ brkP p ps (b ++ m) := by
  unfold brkP at h ⊢
  cases hp : p.ok with
  | true => rw [if_pos hp] at h; exact brk_more m hx h
  | false => rw [if_neg (by rw [hp]; decide)] at h; cases h
theorem num_k (v : Int) (w : World) : Calls Tryz.prog 16 #[.int .i64 v] w fun e w' => e = .returned (.int .i64 v) ∧ w = w' := (num_at' v w).mono fun _ _ h => ⟨h.1, h.2.symm⟩
theorem parse_text {p : Pol} (hok : p.ok = true) (w : World) (hE : Env w) : Calls Tryz.prog 23 #[.string ⟨p.text.toArray⟩] w fun e w' => e = .returned (.tuple #[p.v, .int .i64 0]) ∧ Ext w w' := by
  refine (PoParse_at ⟨p.text.toArray⟩ (by have := Pol.text_len hok; simp only [ByteArray.size, List.size_toArray]; omega) w hE).mono ?_
  rintro e w' ⟨h, hx⟩
  refine ⟨?_, hx⟩
  rcases h with ⟨q, hq, ht, rfl⟩ | ⟨hno, _⟩
  · rw [Pol.text_inj hq hok (by rw [ht])]
  · exact absurd rfl (hno p hok)
theorem brkP_bd {p : Pol} {ps : List (List UInt8)} {b : List UInt8} {f : Nat} (h : f ∈ brkP p ps b) : 1 ≤ f ∧ f ≤ 7 := by
  unfold brkP at h
  cases hp : p.ok with
  | true => rw [if_pos hp] at h; exact brk_bd h
  | false => rw [if_neg (by rw [hp]; decide)] at h; cases h
set_option maxRecDepth 100000 in
set_option maxHeartbeats 8000000 in
theorem walk_nil (p : Pol) (A1 : Option Addr) (c1 : Nat) (ps : List ByteArray) (r : ByteArray) (A : Option Addr) (c : Nat) (b : List UInt8) (D : Option Addr) (dc : Nat) (m : List UInt8) (x y z : Int) (w : World) (hm : Env w) (hs4 : p.nm.size ≤ 4294967280) (hR : RS w (.slice A1 ps.length c1) (svP ps)) (hB : BS w (.slice A b.length c) b) (hD : BS w (.slice D m.length dc) m) (hok : p.ok = true) (hsm : smlP ps = true) (h2 : b.length ≤ 200) (h3 : m.length ≤ 20) (hx : 0 ≤ x) (hxb : x ≤ 255) (hy : 0 ≤ y) (hyb : y ≤ 255) (hz : 0 ≤ z) (hzb : z ≤ 255) (hL : brkP p (datP ps) b = []) :
    Calls Tryz.prog 8 #[p.v, .agg #[.slice A1 ps.length c1, .string r], .slice A b.length c, .slice D m.length dc, .agg #[.int .u8 x, .int .u8 y, .int .u8 z]] w fun e w' => e = .returned (.bool true) ∧ Ext w w' := by
  have HM := Lib.hid hm; clear hm
  obtain ⟨hn6, hp40⟩ := smlP_yes hsm
  have HPS : Hid (∀ p ∈ ps, p.size ≤ 1000) := Lib.hid (fun p hp => Nat.le_trans (hp40 p hp) (by omega))
  have HB1 : Hid (b.length ≤ 1000) := Lib.hid (by omega)
  have HN1 : Hid (ps.length ≤ 1000) := Lib.hid (by omega)
  have HM1 : Hid (m.length ≤ 20) := Lib.hid h3; have HB2 : Hid (b.length ≤ 200) := Lib.hid h2
  have hb2 : (b.length : Int) ≤ 200 := by omega
  have hm2 : (m.length : Int) ≤ 20 := by omega
  have HV := Lib.hid (fun W => hok ▸ PoValid_at p hs4 W)
  have HT := Lib.hid (fun W hW => PoText_at p hok W hW)
  have HPA := Lib.hid (fun W hW => parse_text hok W hW)
  have h0 := heap_alloc_new w (.cells p.cs 23)
  obtain ⟨W1, e1⟩ : ∃ W, w.alloc (.cells p.cs 23) = W := ⟨_, rfl⟩
  have x1 : Ext w W1 := e1 ▸ (Ext.refl w).alloc _
  have z1 : W1.heap.size = w.heap.size + 1 := by rw [← e1]; simp
  rw [e1] at h0
  have h1 := heap_alloc_new W1 (.cells #[.slice A1 ps.length c1, .string r] 30)
  obtain ⟨W2, e2⟩ : ∃ W, W1.alloc (.cells #[.slice A1 ps.length c1, .string r] 30) = W := ⟨_, rfl⟩
  have x2 : Ext W1 W2 := e2 ▸ (Ext.refl W1).alloc _
  have z2 : W2.heap.size = w.heap.size + 1 + 1 := by rw [← e2]; simp [z1]
  rw [e2] at h1
  have h2 := heap_alloc_new W2 (.cells #[.int .u8 x, .int .u8 y, .int .u8 z] 59)
  obtain ⟨W3, e3⟩ : ∃ W, W2.alloc (.cells #[.int .u8 x, .int .u8 y, .int .u8 z] 59) = W := ⟨_, rfl⟩
  have x3 : Ext W2 W3 := e3 ▸ (Ext.refl W2).alloc _
  rw [e3] at h2
  have h3 := heap_alloc_new W3 (.cells #[.bool false] 4)
  obtain ⟨W4, e4⟩ : ∃ W, W3.alloc (.cells #[.bool false] 4) = W := ⟨_, rfl⟩
  have x4 : Ext W3 W4 := e4 ▸ (Ext.refl W3).alloc _
  rw [e4] at h3
  have hp2 : PL W4 w.heap.size p := ((x2.trans x3).trans x4).heap h0
  have hn2 : NB W4 W1.heap.size (.slice A1 ps.length c1) r := (x3.trans x4).heap h1
  have hy2 := x4.heap h2
  have hx2 := x1.trans ((x2.trans x3).trans x4)
  have hxw3 := x1.trans (x2.trans x3)
  have HP := Lib.hid hp2; have HN := Lib.hid hn2; have HX := Lib.hid hx2; have HY := Lib.hid hy2; have HR := Lib.hid h3; have HW3 := Lib.hid hxw3.size; have HW43 := Lib.hid (show W3.heap.size < W4.heap.size by rw [← e4]; simp)
  have HRS := Lib.hid (hR.ext hx2); have HBS := Lib.hid (hB.ext hx2); have HMS := Lib.hid (hD.ext hx2)
  clear h0 h1 h2 h3 hp2 hn2 hy2 x1 x2 x3 x4 z1 z2 hx2 hxw3 hR hB hD
  have HSM := Lib.hid (fun W (hx : Ext W4 W) => hsm ▸ lsmall_at A1 c1 ps r W (HRS.out.ext hx))
  have HC := Lib.hid (fun W (hx : Ext W4 W) => Check_at p hs4 A1 c1 ps r HN1.out HPS.out A c b HB1.out W (HRS.out.ext hx) (HBS.out.ext hx) hok)
  rw [hL] at HC
  have HBK := Lib.hid (fun (q : Pol) (hq : lowP p x y z = q) W (hx' : Ext W4 W) => Check_at q (by rw [← hq]; exact hs4) A1 c1 ps r HN1.out HPS.out A c b HB1.out W (HRS.out.ext hx') (HBS.out.ext hx') (hq ▸ low_ok hok hx hy hz))
  have HB0 := Lib.hid (fun (q : Pol) (hq : lowP p x y z = q) => hq ▸ low_brk hok hx hy hz hL)
  have hbd := (Pol.ok_iff p).1 hok
  have b1 := hbd.len.1; have b2 := hbd.len.2; have b3 := hbd.cla.1; have b4 := hbd.cla.2; have b5 := hbd.dis.1; have b6 := hbd.dis.2
  have HL := Lib.hid hL; have HOK := Lib.hid hok; have HS4 := Lib.hid hs4
  clear hok hs4 hsm hbd hL h2 h3 hp40 hn6
  simp only [firstR] at HC
  obtain ⟨T, hT⟩ : ∃ T, p.text = T := ⟨_, rfl⟩
  rw [hT] at HT HPA
  clear hT
  obtain ⟨k0, k1, k2, k3, k4, k5, k6, k7, k8, k9⟩ := (HP.out.ext (Ext.refl W4)).cells
  have d0 := (HN.out.ext (Ext.refl W4)).cell0; have d1 := NBcell1 (HN.out.ext (Ext.refl W4))
  obtain ⟨y0, y1, y2⟩ := byCells ((Ext.heap (Ext.refl W4)) HY.out)
  refine calls_of_marks Tryz.func8 rfl ?_
  simp only [Tryz.ntmps8, List.size_toArray, List.length_cons, List.length_nil, Nat.reduceAdd, Nat.reduceSub, Array.replicate_succ, Array.replicate_zero, List.push_toArray, List.append_toArray, List.nil_append, List.cons_append]
  unfold Pol.v
  unfold Pol.cs at e1
  go_wp2_with fail
  refine (HV.out _).mono ?_
  rintro _ w5 ⟨rfl, hx5⟩
  have HY5 := Lib.hid hx5
  clear hx5 k0 k1 k2 k3 k4 k5 k6 k7 k8 k9 d0 d1 y0 y1 y2 e1 e2 e3 e4
  obtain ⟨k0, k1, k2, k3, k4, k5, k6, k7, k8, k9⟩ := (HP.out.ext HY5.out).cells
  have d0 := (HN.out.ext HY5.out).cell0; have d1 := NBcell1 (HN.out.ext HY5.out)
  obtain ⟨y0, y1, y2⟩ := byCells ((Ext.heap HY5.out) HY.out)
  go_wp2_with fail
  refine (HSM.out _ HY5.out).mono ?_
  rintro _ w6 ⟨rfl, hx6⟩
  have HY6 := Lib.hid (HY5.out.trans hx6)
  clear hx6 k0 k1 k2 k3 k4 k5 k6 k7 k8 k9 d0 d1 y0 y1 y2
  obtain ⟨k0, k1, k2, k3, k4, k5, k6, k7, k8, k9⟩ := (HP.out.ext HY6.out).cells
  have d0 := (HN.out.ext HY6.out).cell0; have d1 := NBcell1 (HN.out.ext HY6.out)
  obtain ⟨y0, y1, y2⟩ := byCells ((Ext.heap HY6.out) HY.out)
  go_wp2_with fail
  refine (HC.out _ HY6.out).mono ?_
  rintro _ w7 ⟨rfl, hx7⟩
  have HY7 := Lib.hid (HY6.out.trans hx7)
  clear hx7 k0 k1 k2 k3 k4 k5 k6 k7 k8 k9 d0 d1 y0 y1 y2
  obtain ⟨k0, k1, k2, k3, k4, k5, k6, k7, k8, k9⟩ := (HP.out.ext HY7.out).cells
  have d0 := (HN.out.ext HY7.out).cell0; have d1 := NBcell1 (HN.out.ext HY7.out)
  obtain ⟨y0, y1, y2⟩ := byCells ((Ext.heap HY7.out) HY.out)
  go_wp2_with fail
  refine (HT.out _ (HM.out.ext (HX.out.trans HY7.out)).pow).mono ?_
  rintro _ w8 ⟨rfl, hx8⟩
  have HY8 := Lib.hid (HY7.out.trans hx8)
  clear hx8 k0 k1 k2 k3 k4 k5 k6 k7 k8 k9 d0 d1 y0 y1 y2
  go_wp2_with fail
  refine (HPA.out _ (HM.out.ext (HX.out.trans HY8.out))).mono ?_
  rintro _ w9 ⟨rfl, hx9⟩
  have HY9 := Lib.hid (HY8.out.trans hx9)
  clear hx9
  have hx := (Ext.refl w9).alloc (.cells Pol.zero.cs 23)
  have h0 : PL (w9.alloc (.cells Pol.zero.cs 23)) w9.heap.size Pol.zero := heap_alloc_new w9 _
  obtain ⟨Y9, hY9⟩ : ∃ W, w9.alloc (.cells Pol.zero.cs 23) = W := ⟨_, rfl⟩
  rw [hY9] at hx h0
  have f0 := h0.soft 0; have f1 := h0.soft 1; have f2 := h0.soft 2; have f3 := h0.soft 3; have f4 := h0.soft 4; have f5 := h0.soft 5; have f6 := h0.soft 6; have f7 := h0.soft 7; have f8 := h0.soft 8; have f9 := h0.soft 9
  obtain ⟨d0, d1, d2, d3, d4, d5, d6, d7, d8, d9⟩ := h0.cells
  obtain ⟨Z9, hZ9, hxF, hpF⟩ := putPL (q := p) hx (Nat.le_refl _) h0
  have HZZ9 := Lib.hid hxF
  have HXZ9 := Lib.hid (HY9.out.trans hxF); have HPZ9 := Lib.hid hpF
  unfold Pol.cs Pol.zero at hY9
  clear hx hxF hpF h0
  unfold Pol.v
  obtain ⟨k0, k1, k2, k3, k4, k5, k6, k7, k8, k9⟩ := (HP.out.ext HXZ9.out).cells
  have d0 := (HN.out.ext HXZ9.out).cell0; have d1 := NBcell1 (HN.out.ext HXZ9.out)
  obtain ⟨y0, y1, y2⟩ := byCells ((Ext.heap HXZ9.out) HY.out)
  obtain ⟨l0, l1, l2, l3, l4, l5, l6, l7, l8, l9⟩ := HPZ9.out.cells
  go_wp2_with fail
  refine (num_k _ _).mono ?_
  rintro _ wz ⟨rfl, rfl⟩
  go_wp2_with fail
  refine (num_k _ _).mono ?_
  rintro _ wz ⟨rfl, rfl⟩
  go_wp2_with fail
  refine (num_k _ _).mono ?_
  rintro _ wz ⟨rfl, rfl⟩
  clear f0 f1 f2 f3 f4 f5 f6 f7 f8 f9 d0 d1 d2 d3 d4 d5 d6 d7 d8 d9 hY9 hZ9
  have hx := (Ext.refl Z9).alloc (.cells Pol.zero.cs 23)
  have h0 : PL (Z9.alloc (.cells Pol.zero.cs 23)) Z9.heap.size Pol.zero := heap_alloc_new Z9 _
  obtain ⟨YL, hYL⟩ : ∃ W, Z9.alloc (.cells Pol.zero.cs 23) = W := ⟨_, rfl⟩
  rw [hYL] at hx h0
  have f0 := h0.soft 0; have f1 := h0.soft 1; have f2 := h0.soft 2; have f3 := h0.soft 3; have f4 := h0.soft 4; have f5 := h0.soft 5; have f6 := h0.soft 6; have f7 := h0.soft 7; have f8 := h0.soft 8; have f9 := h0.soft 9
  obtain ⟨d0, d1, d2, d3, d4, d5, d6, d7, d8, d9⟩ := h0.cells
  obtain ⟨ZL, hZL, hxF, hpF⟩ := putPL (q := p) hx (Nat.le_refl _) h0
  have HZZL := Lib.hid hxF
  have HXZL := Lib.hid (HXZ9.out.trans hxF); have HPZL := Lib.hid hpF
  unfold Pol.cs Pol.zero at hYL
  clear hx hxF hpF h0
  obtain ⟨V1, hV1⟩ : ∃ V, ZL.setCell ⟨Z9.heap.size, 1, none⟩ (.int .i64 (max 1 (p.len - x))) = V := ⟨_, rfl⟩
  obtain ⟨V2, hV2⟩ : ∃ V, V1.setCell ⟨Z9.heap.size, 2, none⟩ (.int .i64 (max 1 (p.cla - y))) = V := ⟨_, rfl⟩
  obtain ⟨V3, hV3⟩ : ∃ V, V2.setCell ⟨Z9.heap.size, 3, none⟩ (.int .i64 (min (max 1 (p.len - x)) (max 0 (p.dis - z)))) = V := ⟨_, rfl⟩
  have p1 := hV1 ▸ HPZL.out.set 1 (by omega) (by omega) (max 1 (p.len - x))
  have p2 := hV2 ▸ p1.set 2 (by omega) (by omega) (max 1 (p.cla - y))
  have p3 := hV3 ▸ p2.set 3 (by omega) (by omega) (min (max 1 (p.len - x)) (max 0 (p.dis - z)))
  have x1 := hV1 ▸ HXZL.out.setCell (p := ⟨Z9.heap.size, 1, none⟩) HXZ9.out.size (.int .i64 (max 1 (p.len - x)))
  have x2 := hV2 ▸ x1.setCell (p := ⟨Z9.heap.size, 2, none⟩) HXZ9.out.size (.int .i64 (max 1 (p.cla - y)))
  have x3 := hV3 ▸ x2.setCell (p := ⟨Z9.heap.size, 3, none⟩) HXZ9.out.size (.int .i64 (min (max 1 (p.len - x)) (max 0 (p.dis - z))))
  have g1 := HPZL.out.soft 1; have g2 := p1.soft 2; have g3 := p2.soft 3
  have c1z := HPZL.out.cells.c1; have c2z := p1.cells.c2; have c3z := p2.cells.c3; have c1w := p2.cells.c1
  simp only [Pol.set] at c2z c3z c1w
  obtain ⟨o0, o1, o2, o3, o4, o5, o6, o7, o8, o9⟩ := (HP.out.ext HXZL.out).cells
  have d0 := (HN.out.ext HXZL.out).cell0; have d1 := NBcell1 (HN.out.ext HXZL.out)
  obtain ⟨y0, y1, y2⟩ := byCells ((Ext.heap HXZL.out) HY.out)
  have k2' := (HP.out.ext x1).cells.c2; have k3' := (HP.out.ext x2).cells.c3
  have y1' := (byCells (x1.heap HY.out)).2.1; have y2' := (byCells (x2.heap HY.out)).2.2
  have P3 := Lib.hid p3; have X3 := Lib.hid x3
  clear p1 p2 p3 x1 x2 x3
  obtain ⟨q, hq⟩ : ∃ q, lowP p x y z = q := ⟨_, rfl⟩
  have P3q := Lib.hid (show PL V3 Z9.heap.size q from hq ▸ P3.out)
  have HCQ := Lib.hid (HBK.out q hq V3 X3.out)
  rw [HB0.out q hq] at HCQ
  simp only [firstR] at HCQ
  clear hq
  obtain ⟨n0, n1, n2, n3, n4, n5, n6, n7, n8, n9⟩ := P3q.out.cells
  have d0' := (HN.out.ext X3.out).cell0; have d1' := NBcell1 (HN.out.ext X3.out)
  go_wp2_with fail
  refine HCQ.out.mono ?_
  rintro _ wa ⟨rfl, hxa⟩
  have HYA := Lib.hid (X3.out.trans hxa)
  clear hxa n0 n1 n2 n3 n4 n5 n6 n7 n8 n9 d0' d1'
  go_wp2_with fail
  refine (num_k _ _).mono ?_
  rintro _ wz ⟨rfl, rfl⟩
  clear k0 k1 k2 k3 k4 k5 k6 k7 k8 k9 d0 d1 y0 y1 y2 o0 o1 o2 o3 o4 o5 o6 o7 o8 o9 l0 l1 l2 l3 l4 l5 l6 l7 l8 l9 k2' k3' y1' y2' c1z c2z c3z c1w g1 g2 g3 hV1 hV2 hV3
  clear f0 f1 f2 f3 f4 f5 f6 f7 f8 f9 d0 d1 d2 d3 d4 d5 d6 d7 d8 d9 hYL hZL
  go_upto_region 16 with fail
  obtain ⟨i0, hi, hz0, hz1, hz2⟩ := info_parts u8info
  have HBA := Lib.hid (fun W (hx : Ext W4 W) => Broken_at p HS4.out A1 c1 ps r HN1.out HPS.out A c b HB1.out W (HRS.out.ext hx) (HBS.out.ext hx))
  obtain ⟨bm, hbm⟩ : ∃ l, b ++ m = l := ⟨_, rfl⟩
  have HBB := Lib.hid (fun W B d (hx : Ext W4 W) (hb : BS W (.slice B bm.length d) bm) => Broken_at p HS4.out A1 c1 ps r HN1.out HPS.out B d bm (by have := HB2.out; have := HM1.out; rw [← hbm, List.length_append]; omega) W (HRS.out.ext hx) hb)
  have HBM := Lib.hid hbm
  clear hbm
  obtain ⟨L0, hL0⟩ : ∃ L, brkP p (datP ps) b = L := ⟨_, rfl⟩
  obtain ⟨L1, hL1⟩ : ∃ L, brkP p (datP ps) bm = L := ⟨_, rfl⟩
  rw [hL0] at HBA HL; rw [hL1] at HBB
  unfold Pol.v at HBA HBB
  have HSS := Lib.hid (fun W (hx : Ext W4 W) => SHold_of (HP.out.ext hx) (HN.out.ext hx))
  have HL0 := Lib.hid hL0; have HL1 := Lib.hid hL1; have HW4A := Lib.hid HYA.out.size
  clear hL0 hL1
  go_cut [20, 21] from 120 to 131 (fun v20 v21 wx => TwoSeq W4 L0 L1 v20 v21 wx)
  case first =>
    go_region_held3 (fun w' => SHold w' w.heap.size W1.heap.size p (.slice A1 ps.length c1) r) (exact HSS.out _ (by first | exact HYA.out.drew' | exact hx1 | exact hx8 | exact hx10 | exact hx11 | exact hx1.alloc _ | exact (HYA.out.alloc _).drew' | exact (HYA.out.drew').alloc _)) ((first
      | (go_at_call 18; (with_reducible refine (HBA.out _ (HYA.out.drew')).mono ?_); rintro _ w1 ⟨⟨g1, B1, e1, rfl, hit1, hg1, ha1⟩, hx1'⟩; have hx1 := (HYA.out.drew').trans hx1')
      | (go_at_call 18; (with_reducible refine (HBA.out _ ((HYA.out.alloc _).drew')).mono ?_); rintro _ w1 ⟨⟨g1, B1, e1, rfl, hit1, hg1, ha1⟩, hx1'⟩; have hx1 := ((HYA.out.alloc _).drew').trans hx1')
      | (refine step_append_bs2 _ rfl (.tmp 126) (.tmp 127) 31 rfl w1.heap.size 5 i0 (.int .u8 0) Tryz.underlying31 hi hz0 hz1 hz2 rfl (.slice (some ⟨w1.heap.size, 0, none⟩) 0 0) [] (by simp [Act.eval]) (OB.lit w1 5 w1.heap.size [] [] rfl 0 rfl (by simp [maxLen]) (Nat.le_refl _) (z := w1.heap.size) rfl) (.slice A b.length c) b (by simp [Act.eval]) (HBS.out.ext (hx1.alloc _)) (by have := HB1.out; simp; omega) (by simp) ?_; intro v8 w8 hown8 hg8 hat8; obtain ⟨A8, c8, rfl, hob8, hs8, hit8, hx8⟩ := apA hx1 hit1 hown8 hg8 hat8)
      | (refine step_append_bs2 _ rfl (.tmp 126) (.tmp 127) 31 rfl wa.heap.size 5 i0 (.int .u8 0) Tryz.underlying31 hi hz0 hz1 hz2 rfl (.slice (some ⟨wa.heap.size, 0, none⟩) 0 0) [] (by simp [Act.eval]) ((OB.lit wa 5 wa.heap.size [] [] rfl 0 rfl (by simp [maxLen]) (Nat.le_refl _) (z := wa.heap.size) rfl).ext ((Ext.drew _).trans hx1')) (.slice A b.length c) b (by simp [Act.eval]) (HBS.out.ext hx1) (by have := HB1.out; simp; omega) (by have := hx1'.size; simp at this ⊢; omega) ?_; intro v8 w8 hown8 hg8 hat8; obtain ⟨A8, c8, rfl, hob8, hs8, hit8, hx8⟩ := apB HYA.out hx1' hit1 hg1 ha1 hown8 hg8 hat8)
      | (refine step_append_bs2 _ rfl (.tmp 128) (.tmp 129) 31 rfl W4.heap.size 5 i0 (.int .u8 0) Tryz.underlying31 hi hz0 hz1 hz2 rfl (.slice A8 b.length c8) b (by simp [Act.eval]) hob8 (.slice D m.length dc) m (by simp [Act.eval]) (HMS.out.ext hx8) (by have := HB1.out; have := HM1.out; omega) hx8.size ?_; intro v10 w10 hown10 hg10 hat10; obtain ⟨A10, c10, rfl, hob10, hit10, hx10⟩ := apC hx8 hit8 hs8 hown10 hg10 hat10 hob8.lt HBM.out)
      | (go_at_call 18; (with_reducible refine (HBB.out _ _ _ hx10 hob10.bs).mono ?_); rintro _ w11 ⟨⟨g2, B2, e2, rfl, hit2, hg2, ha2⟩, hx11'⟩; have hx11 := hx10.trans hx11')))
    all_goals
      go_wp2_with fail
      go_meet
      case rel => exact ⟨g1, B1, e1, g2, B2, e2, rfl, rfl, hit10.ext hx11', hit2, hx11⟩
  case rest =>
    obtain ⟨g1, B1, e1, g2, B2, e2, rfl, rfl, hit1, hit2, hxc⟩ := hcut
    obtain ⟨V, rfl⟩ : ∃ V : World, V = wc := ⟨_, rfl⟩
    have hq1 := seq_nilR #[.pointer (some ⟨g1, 0, none⟩)]; have hq2 := seq_nilR #[.pointer (some ⟨g2, 0, none⟩)]
    have hmm := @run_makeMap Tryz.prog
    obtain ⟨U, hU⟩ : ∃ U, U = (V.alloc (.map #[] 0)).alloc (.cells #[.map (some V.heap.size)] 60) := ⟨_, rfl⟩
    have hxu : Ext V U := by rw [hU]; exact ((Ext.refl V).alloc _).alloc _
    have hzu : U.heap.size = V.heap.size + 2 := by rw [hU]; simp
    have hbu : U.heap[V.heap.size + 1]? = some (.cells #[.map (some V.heap.size)] 60 (0, 0)) := by
      rw [hU]
      have h := heap_alloc_new (V.alloc (.map #[] 0)) (.cells #[.map (some V.heap.size)] 60)
      rwa [World.size_alloc] at h
    have hmu : MKR U V.heap.size 0 [] := by rw [hU]; exact MKR_kept (MKR_new V) (World.grownBy_alloc _ _ none) (by simp)
    obtain ⟨l1a, l1b⟩ := ItR_lt hit1
    obtain ⟨l2a, l2b⟩ := ItR_lt hit2
    have HIT1 := Lib.hid hit1; have HIT2 := Lib.hid (hit2.ext hxu); have HXU := Lib.hid (hxc.trans hxu); have HBU := Lib.hid hbu; have HMU := Lib.hid hmu; have HZU := Lib.hid hzu; have HXV := Lib.hid hxu; have HW4V := Lib.hid hxc.size
    have HG1 := Lib.hid l1a; have HG1b := Lib.hid l1b; have HG2 := Lib.hid l2a; have HG2b := Lib.hid l2b
    have HN0 := Lib.hid (show L0.length ≤ 7 by rw [← HL0.out]; exact brkP_len _ _ _)
    have HN7 := Lib.hid (show L1.length ≤ 7 by rw [← HL1.out]; exact brkP_len _ _ _)
    have HMEM := Lib.hid (fun (k : Nat) (hk : k = 2 ∨ k = 3 ∨ k = 6 ∨ k = 7) (hm : k ∈ L0) => show k ∈ L1 by rw [← HL1.out, ← HBM.out]; rw [← HL0.out] at hm; exact brkP_more m hk hm)
    have HBD := Lib.hid (fun (k : Nat) (hm : k ∈ L0) => show 1 ≤ k ∧ k ≤ 7 by rw [← HL0.out] at hm; exact brkP_bd hm)
    clear hit1 hit2 hxc hxu hzu hbu hmu l1a l1b l2a l2b
    go_wp2_with fail
    rw [← hU]
    clear hU hq1 hq2 hmm
    refine wpIn_wide.1 (wp_rangeC (gf := 38) (lb := #[.pointer (some ⟨g2, 0, none⟩)]) rfl (Go.Proofs.enters_of Tryz.func38 (by kernel_rfl) rfl)
      (brk_iter g2 B2 e2 L1 (by have := HN7.out; omega)) (fun _ => rfl) (fun k hk => hk.elim) HIT2.out (ItR.stab _ _ _ _ _)
      (StI V.heap.size W4 g1 B1 e1 L0) (fun _ _ _ => False)
      (fun pre => StI_stab (by have := HZU.out; omega) HXU.out.size pre) (fun cd pre => Stab.pure False)
      (fun pre X Y rr hr hg h => ?_) (fun cd pre X Y rr hr hg h => h) ⟨HBU.out, HMU.out, HIT1.out.ext HXV.out, HXU.out⟩ ?_ ?_ ?_)
    · have hn : rr = none := by cases rr with | none => rfl | some k => exact (hr k rfl).elim
      subst hn
      exact ⟨(grown_of_ext hg).heap h.1, MKR_kept h.2.1 hg (by simp), h.2.2.1.ext (grown_of_ext hg), h.2.2.2.trans (grown_of_ext hg)⟩
    · intro l pre k X hl hnl hzV hIV hitV hGV
      simp only [ruleEnc]
      gi_wp2_with fail
      refine ⟨KA.refl _ _, fun X2 hg2 hn2 hsz2 => ?_⟩
      obtain ⟨h1, ⟨DM, hown, hat⟩, hit1, h3⟩ := (StI_stab (by have := HZU.out; omega) HXU.out.size pre) X X2 l hl hn2 hg2 hIV
      have hit2 := (ItR.stab U.heap.size g2 B2 e2 L1) X X2 l hl hn2 hg2 hitV
      obtain ⟨rest, hrest⟩ := hGV
      have hlt : pre.length < L1.length := by rw [hrest]; simp
      have h7 : pre.length < maxLen := by have := HN7.out; unfold maxLen; omega
      have hk7 : k ≤ 7 := by
        have hm : k ∈ brkP p (datP ps) bm := by rw [HL1.out, hrest]; simp
        exact (brkP_bd hm).2
      have q1 := (row1 h1).1
      have hkey : keyOf Tryz.prog 33 (.int .i64 (k : Int)) = some (.int .i64 (k : Int)) := keyOf_int_mk Tryz.underlying33 (wf_i64 (by omega) (by omega))
      have HOW := Lib.hid hown; have HAT := Lib.hid hat; have H1 := Lib.hid h1; have H3 := Lib.hid h3; have HI2 := Lib.hid hit2; have HI1 := Lib.hid hit1; have HLT := Lib.hid hlt; have H7 := Lib.hid h7; have HKEY := Lib.hid hkey
      clear hown hat h1 h3 hit1 hit2 hlt h7 hkey hIV hitV hn2 hg2 hnl hsz2 hrest hk7
      gi_wp2_with (gi_at_mapUpdate; refine wpListIn_mapUpdate_own _ rfl (.tmp 141) (.tmp 142) (.const (.bool true)) 60 rfl 33 4 lawRule Tryz.underlying60 _ V.heap.size pre.length DM rfl HOW.out H7.out _ _ _ rfl rfl HKEY.out _ [] (plainElem_bool Tryz.underlying4 true) ?_; intro w1 hown1 hgrow1)
      have hz := HZU.out
      have hlt := HLT.out
      refine ⟨KA.of_grown hgrow1 (by omega), ⟨heap_far hgrow1 HI2.out.1 (by have := HG2.out; omega), HI2.out.2.far hgrow1 (fun ad ha => by have := HG2b.out (by omega) ad ha; omega)⟩, heap_far hgrow1 H1.out (by omega), ?_, ItR_far HI1.out hgrow1 (by have := HG1.out; omega) (fun hp ad ha => by have := HG1b.out hp ad ha; omega), H3.out.grown hgrow1 (fun j hj => by injection hj with hj; have := HW4V.out; omega)⟩
      rw [List.length_append, List.length_singleton]
      exact MKR_add hown1 HAT.out HOW.out.isMap
    · intro D0 xs X hD hS hIV hit hdf
      obtain rfl := hS.symm
      obtain ⟨h1, h2, h3a, h3⟩ := hIV
      obtain ⟨Y, hY⟩ : ∃ Y, Y = X.alloc (.cells #[.int .i64 0] 33) := ⟨_, rfl⟩
      have hxy : Ext X Y := by rw [hY]; exact (Ext.refl X).alloc _
      have hzy : Y.heap.size = X.heap.size + 1 := by rw [hY]; simp
      have hby : Y.heap[X.heap.size]? = some (.cells #[.int .i64 0] 33 (0, 0)) := by rw [hY]; exact heap_alloc_new X _
      have hD0 := hxy.heap hdf
      have HDL := Lib.hid (Array.getElem?_eq_some_iff.1 hdf).1
      have HI1 := Lib.hid (h3a.ext hxy); have HZY := Lib.hid hzy; have HS1 := Lib.hid (Array.getElem?_eq_some_iff.1 h1).1
      have HY0 := Lib.hid (show FiI V.heap.size X.heap.size D0 L1 W4 [] Y from ⟨hxy.heap h1, MKR_kept h2 (hY ▸ World.grownBy_alloc _ _ none) (by simp), hby, hD0, h3.trans hxy⟩)
      clear h1 h2 h3 h3a hxy hby hD0 hit hdf
      go_wp2_with fail
      rw [← hY]
      clear hY
      refine wpIn_wide.1 (wp_rangeC (gf := 38) (lb := #[.pointer (some ⟨g1, 0, none⟩)]) rfl (Go.Proofs.enters_of Tryz.func38 (by kernel_rfl) rfl)
        (brk_iter g1 B1 e1 L0 (by have := HN0.out; omega)) (fun _ => rfl) (fun k hk => hk.elim) HI1.out (ItR.stab _ _ _ _ _)
        (FiI V.heap.size X.heap.size D0 L1 W4) (fun _ _ _ => False)
        (fun pre => FiI_stab (by have := HZY.out; have := HS1.out; omega) (by have := HZY.out; have := HDL.out; omega) HY0.out.2.2.2.2.size pre) (fun cd pre => Stab.pure False)
        (fun pre X' Y' rr hr hg h => ?_) (fun cd pre X' Y' rr hr hg h => h) HY0.out ?_ ?_ ?_)
      · have hn : rr = none := by cases rr with | none => rfl | some k => exact (hr k rfl).elim
        subst hn
        exact ⟨(grown_of_ext hg).heap h.1, MKR_kept h.2.1 hg (by simp), (grown_of_ext hg).heap h.2.2.1, (grown_of_ext hg).heap h.2.2.2.1, h.2.2.2.2.trans (grown_of_ext hg)⟩
      · intro l pre k Z hl hnl hzV hIV hitV hGV
        simp only [ruleEnc]
        gi_wp2_with fail
        refine ⟨KA.refl _ _, fun Z2 hg2 hn2 hsz2 => ?_⟩
        obtain ⟨h1, h2, h3, h4, h5⟩ := (FiI_stab (B := Y.heap.size) (by have := HZY.out; have := HS1.out; omega) (by have := HZY.out; have := HDL.out; omega) HY0.out.2.2.2.2.size pre) Z Z2 l hl hn2 hg2 hIV
        have hit2 := (ItR.stab Y.heap.size g1 B1 e1 L0) Z Z2 l hl hn2 hg2 hitV
        obtain ⟨rest, hrest⟩ := hGV
        have hin : k ∈ L0 := by rw [hrest]; simp
        have hkb := HBD.out k hin
        have HIN := Lib.hid hin
        have hne : 0 < L0.length := by rw [hrest]; simp only [List.length_append, List.length_cons]; omega
        have r1 := hkb.1; have r2 := hkb.2
        clear hIV hitV hn2 hg2 hnl hsz2 hkb
        rcases pre with _ | ⟨a, pr⟩
        · have HF3 := Lib.hid (row1_set (.int .i64 (k : Int)) h3)
          have hM3 : MKR (Z2.setCell ⟨X.heap.size, 0, none⟩ (.int .i64 (k : Int))) V.heap.size L1.length L1 := MKR_kept h2 (grown_set1 _ _ _) (by have := HS1.out; simp; omega)
          have hb3 := heap_far (grown_set1 Z2 X.heap.size (.int .i64 (k : Int))) h1 (by have := HS1.out; omega)
          have hd3 := heap_far (grown_set1 Z2 X.heap.size (.int .i64 (k : Int))) h4 (by have := HDL.out; omega)
          have hi3 := ItR_far hit2 (grown_set1 Z2 X.heap.size (.int .i64 (k : Int))) (by have := HG1.out; have := HS1.out; omega) (fun hp ad ha => by have := HG1b.out hp ad ha; have := HS1.out; omega)
          have hx3 := h5.setCell (p := ⟨X.heap.size, 0, none⟩) (by show W4.heap.size ≤ X.heap.size; have := HW4V.out; have := HS1.out; omega) (.int .i64 (k : Int))
          have q1 := (row1 hb3).1; have q3 := (row1 h3).1; have s3 := (row1 h3).2
          simp only [firstR] at q3
          have HFIN := Lib.hid (show KA Y.heap.size Z2 (Z2.setCell ⟨X.heap.size, 0, none⟩ (.int .i64 (k : Int))) ∧ ItR g1 B1 e1 L0 (Z2.setCell ⟨X.heap.size, 0, none⟩ (.int .i64 (k : Int))) ∧ FiI V.heap.size X.heap.size D0 L1 W4 ([] ++ [k]) (Z2.setCell ⟨X.heap.size, 0, none⟩ (.int .i64 (k : Int))) from
            ⟨KA.of_grown (grown_set1 _ _ _) (by have := HZY.out; omega), hi3, hb3, hM3, HF3.out, hd3, hx3⟩)
          have HM3 := Lib.hid hM3
          clear h1 h2 h3 h4 h5 hit2 hM3 hb3 hd3 hi3 hx3 hrest hne hin
          rcases (show k = 3 ∨ k = 6 ∨ k = 7 ∨ k = 2 ∨ (k ≠ 3 ∧ k ≠ 6 ∧ k ≠ 7 ∧ k ≠ 2) by omega) with hs | hs | hs | hs | hs
          · have HK := Lib.hid hs
            have c3 : ((k : Int) == 3) = true := by rw [beq_iff_eq]; omega
            have hlk := MKR_look HM3.out (HMEM.out k (by omega) HIN.out) (by omega)
            clear hs
            gi_wp2_with fail
            exact HFIN.out
          · have HK := Lib.hid hs
            have c3 : ((k : Int) == 3) = false := by rw [beq_eq_false_iff_ne]; omega
            have c6 : ((k : Int) == 6) = true := by rw [beq_iff_eq]; omega
            have hlk := MKR_look HM3.out (HMEM.out k (by omega) HIN.out) (by omega)
            clear hs
            gi_wp2_with fail
            exact HFIN.out
          · have HK := Lib.hid hs
            have c3 : ((k : Int) == 3) = false := by rw [beq_eq_false_iff_ne]; omega
            have c6 : ((k : Int) == 6) = false := by rw [beq_eq_false_iff_ne]; omega
            have c7 : ((k : Int) == 7) = true := by rw [beq_iff_eq]; omega
            have hlk := MKR_look HM3.out (HMEM.out k (by omega) HIN.out) (by omega)
            clear hs
            gi_wp2_with fail
            exact HFIN.out
          · have HK := Lib.hid hs
            have c3 : ((k : Int) == 3) = false := by rw [beq_eq_false_iff_ne]; omega
            have c6 : ((k : Int) == 6) = false := by rw [beq_eq_false_iff_ne]; omega
            have c7 : ((k : Int) == 7) = false := by rw [beq_eq_false_iff_ne]; omega
            have c2 : ((k : Int) == 2) = true := by rw [beq_iff_eq]; omega
            have hlk := MKR_look HM3.out (HMEM.out k (by omega) HIN.out) (by omega)
            clear hs
            gi_wp2_with fail
            exact HFIN.out
          · have HK := Lib.hid hs
            have c3 : ((k : Int) == 3) = false := by rw [beq_eq_false_iff_ne]; omega
            have c6 : ((k : Int) == 6) = false := by rw [beq_eq_false_iff_ne]; omega
            have c7 : ((k : Int) == 7) = false := by rw [beq_eq_false_iff_ne]; omega
            have c2 : ((k : Int) == 2) = false := by rw [beq_eq_false_iff_ne]; omega
            clear hs
            gi_wp2_with fail
            exact HFIN.out
        · have hab := HBD.out a (by rw [hrest]; simp)
          have ha0 : ((a : Int) == 0) = false := by rw [beq_eq_false_iff_ne]; omega
          have q1 := (row1 h1).1; have q3 := (row1 h3).1
          simp only [firstR] at q3
          have HFIN := Lib.hid (show KA Y.heap.size Z2 Z2 ∧ ItR g1 B1 e1 L0 Z2 ∧ FiI V.heap.size X.heap.size D0 L1 W4 ((a :: pr) ++ [k]) Z2 from ⟨KA.refl _ _, hit2, h1, h2, h3, h4, h5⟩)
          have HM3 := Lib.hid h2
          clear h1 h2 h3 h4 h5 hit2 hrest hne hin hab
          rcases (show k = 3 ∨ k = 6 ∨ k = 7 ∨ k = 2 ∨ (k ≠ 3 ∧ k ≠ 6 ∧ k ≠ 7 ∧ k ≠ 2) by omega) with hs | hs | hs | hs | hs
          · have HK := Lib.hid hs
            have c3 : ((k : Int) == 3) = true := by rw [beq_iff_eq]; omega
            have hlk := MKR_look HM3.out (HMEM.out k (by omega) HIN.out) (by omega)
            clear hs
            gi_wp2_with fail
            exact HFIN.out
          · have HK := Lib.hid hs
            have c3 : ((k : Int) == 3) = false := by rw [beq_eq_false_iff_ne]; omega
            have c6 : ((k : Int) == 6) = true := by rw [beq_iff_eq]; omega
            have hlk := MKR_look HM3.out (HMEM.out k (by omega) HIN.out) (by omega)
            clear hs
            gi_wp2_with fail
            exact HFIN.out
          · have HK := Lib.hid hs
            have c3 : ((k : Int) == 3) = false := by rw [beq_eq_false_iff_ne]; omega
            have c6 : ((k : Int) == 6) = false := by rw [beq_eq_false_iff_ne]; omega
            have c7 : ((k : Int) == 7) = true := by rw [beq_iff_eq]; omega
            have hlk := MKR_look HM3.out (HMEM.out k (by omega) HIN.out) (by omega)
            clear hs
            gi_wp2_with fail
            exact HFIN.out
          · have HK := Lib.hid hs
            have c3 : ((k : Int) == 3) = false := by rw [beq_eq_false_iff_ne]; omega
            have c6 : ((k : Int) == 6) = false := by rw [beq_eq_false_iff_ne]; omega
            have c7 : ((k : Int) == 7) = false := by rw [beq_eq_false_iff_ne]; omega
            have c2 : ((k : Int) == 2) = true := by rw [beq_iff_eq]; omega
            have hlk := MKR_look HM3.out (HMEM.out k (by omega) HIN.out) (by omega)
            clear hs
            gi_wp2_with fail
            exact HFIN.out
          · have HK := Lib.hid hs
            have c3 : ((k : Int) == 3) = false := by rw [beq_eq_false_iff_ne]; omega
            have c6 : ((k : Int) == 6) = false := by rw [beq_eq_false_iff_ne]; omega
            have c7 : ((k : Int) == 7) = false := by rw [beq_eq_false_iff_ne]; omega
            have c2 : ((k : Int) == 2) = false := by rw [beq_eq_false_iff_ne]; omega
            clear hs
            gi_wp2_with fail
            exact HFIN.out
      · intro D1 xs Z hD1 hS hIV hit hdf
        obtain rfl := hS.symm
        obtain ⟨h1, h2, h3, h4, h5⟩ := hIV
        have q3 := (row1 h3).1
        obtain ⟨ff, hff⟩ : ∃ ff, firstR L0 = ff := ⟨_, rfl⟩
        rw [hff] at q3
        have hfe : (ff == 0) = true := by rw [beq_iff_eq, ← hff, HL.out]; rfl
        have H5 := Lib.hid h5; have H4 := Lib.hid h4; have HDF := Lib.hid hdf
        have z1 := HZU.out; have z2 := HZY.out; have z3 := HDL.out; have z4 := HS1.out; have z5 := HW4V.out; have z6 := HW43.out
        have HZA := Lib.hid (show W3.heap.size ≠ D0 ∧ W3.heap.size ≠ D1 ∧ D0 ≠ D1 ∧ w.heap.size ≤ D0 ∧ w.heap.size ≤ D1 by have := HW3.out; omega)
        clear h1 h2 h3 h4 h5 hit hdf hff z1 z2 z3 z4 z5 z6
        go_wp2_with fail
        refine (PKnown_at _ (HM.out.ext (HX.out.trans H5.out))).mono ?_
        rintro _ wk ⟨rfl, hxk⟩
        obtain ⟨y1, y2, y3, y4, y5⟩ := HZA.out
        have hrk := (H5.out.trans hxk).heap HR.out
        obtain ⟨j0, j1⟩ := row1 hrk
        have hD1s := heap_far (grown_set1 wk W3.heap.size (.bool true)) (hxk.heap HDF.out) (by omega)
        have hD0s := heap_far (grown_set1 wk W3.heap.size (.bool true)) (hxk.heap H4.out) (by omega)
        have h4s := row1_set (.bool true) hrk
        have hxs := (HX.out.trans (H5.out.trans hxk)).setCell (p := ⟨W3.heap.size, 0, none⟩) HW3.out (.bool true)
        obtain ⟨Ws, hWs⟩ : ∃ Ws, wk.setCell ⟨W3.heap.size, 0, none⟩ (.bool true) = Ws := ⟨_, rfl⟩
        rw [hWs] at hD1s hD0s h4s hxs
        have hD0p : (Ws.putObj D1 (.deferred none)).heap[D0]? = some (.deferred (some [])) := (World.putObj_heap_other (by omega)).trans hD0s
        have h4p : ((Ws.putObj D1 (.deferred none)).putObj D0 (.deferred none)).heap[W3.heap.size]? = some (.cells #[.bool true] 4 (0, 0)) := (World.putObj_heap_other (by omega)).trans ((World.putObj_heap_other (by omega)).trans h4s)
        have hxp : Ext w ((Ws.putObj D1 (.deferred none)).putObj D0 (.deferred none)) := Ext.of_grown (Ext.of_grown hxs (grown_put hD1s) (by omega)) (grown_put hD0p) (by omega)
        have hcp := (row1 h4p).1
        have HD1S := Lib.hid hD1s; have HD0P := Lib.hid hD0p; have HXPP := Lib.hid hxp
        clear hD1s hD0s hD0p h4p hxp hxs h4s hxk hrk y1 y2 y3 y4 y5
        go_wp2_with fail
        refine ⟨by simp, .inl ⟨_, _, rfl, run_takeDeferred HD1S.out, ?_⟩⟩
        refine ⟨by simp, .inl ⟨_, _, rfl, run_takeDeferred HD0P.out, ?_⟩⟩
        exact ⟨.bool true, by simp [results, Tryz.results8, go_sem, hcp]; try rfl, rfl, HXPP.out⟩
      · intro D cd pre Z hD hSp hIx hdf
        exact hIx.elim
    · intro D cd pre X hD hSp hIx hdf
      exact hIx.elim
set_option maxRecDepth 100000 in
set_option maxHeartbeats 8000000 in
theorem walk_cons (p : Pol) (A1 : Option Addr) (c1 : Nat) (ps : List ByteArray) (r : ByteArray) (A : Option Addr) (c : Nat) (b : List UInt8) (D : Option Addr) (dc : Nat) (m : List UInt8) (x y z : Int) (w : World) (hm : Env w) (hs4 : p.nm.size ≤ 4294967280) (hR : RS w (.slice A1 ps.length c1) (svP ps)) (hB : BS w (.slice A b.length c) b) (hD : BS w (.slice D m.length dc) m) (hok : p.ok = true) (hsm : smlP ps = true) (h2 : b.length ≤ 200) (h3 : m.length ≤ 20) (hx : 0 ≤ x) (hxb : x ≤ 255) (hy : 0 ≤ y) (hyb : y ≤ 255) (hz : 0 ≤ z) (hzb : z ≤ 255) (f : Nat) (L : List Nat) (hL : brkP p (datP ps) b = f :: L) :
    Calls Tryz.prog 8 #[p.v, .agg #[.slice A1 ps.length c1, .string r], .slice A b.length c, .slice D m.length dc, .agg #[.int .u8 x, .int .u8 y, .int .u8 z]] w fun e w' => e = .returned (.bool true) ∧ Ext w w' := by
  have HM := Lib.hid hm; clear hm
  obtain ⟨hn6, hp40⟩ := smlP_yes hsm
  have HPS : Hid (∀ p ∈ ps, p.size ≤ 1000) := Lib.hid (fun p hp => Nat.le_trans (hp40 p hp) (by omega))
  have HB1 : Hid (b.length ≤ 1000) := Lib.hid (by omega)
  have HN1 : Hid (ps.length ≤ 1000) := Lib.hid (by omega)
  have HM1 : Hid (m.length ≤ 20) := Lib.hid h3; have HB2 : Hid (b.length ≤ 200) := Lib.hid h2
  have hb2 : (b.length : Int) ≤ 200 := by omega
  have hm2 : (m.length : Int) ≤ 20 := by omega
  have HV := Lib.hid (fun W => hok ▸ PoValid_at p hs4 W)
  have HT := Lib.hid (fun W hW => PoText_at p hok W hW)
  have HPA := Lib.hid (fun W hW => parse_text hok W hW)
  have h0 := heap_alloc_new w (.cells p.cs 23)
  obtain ⟨W1, e1⟩ : ∃ W, w.alloc (.cells p.cs 23) = W := ⟨_, rfl⟩
  have x1 : Ext w W1 := e1 ▸ (Ext.refl w).alloc _
  have z1 : W1.heap.size = w.heap.size + 1 := by rw [← e1]; simp
  rw [e1] at h0
  have h1 := heap_alloc_new W1 (.cells #[.slice A1 ps.length c1, .string r] 30)
  obtain ⟨W2, e2⟩ : ∃ W, W1.alloc (.cells #[.slice A1 ps.length c1, .string r] 30) = W := ⟨_, rfl⟩
  have x2 : Ext W1 W2 := e2 ▸ (Ext.refl W1).alloc _
  have z2 : W2.heap.size = w.heap.size + 1 + 1 := by rw [← e2]; simp [z1]
  rw [e2] at h1
  have h2 := heap_alloc_new W2 (.cells #[.int .u8 x, .int .u8 y, .int .u8 z] 59)
  obtain ⟨W3, e3⟩ : ∃ W, W2.alloc (.cells #[.int .u8 x, .int .u8 y, .int .u8 z] 59) = W := ⟨_, rfl⟩
  have x3 : Ext W2 W3 := e3 ▸ (Ext.refl W2).alloc _
  rw [e3] at h2
  have h3 := heap_alloc_new W3 (.cells #[.bool false] 4)
  obtain ⟨W4, e4⟩ : ∃ W, W3.alloc (.cells #[.bool false] 4) = W := ⟨_, rfl⟩
  have x4 : Ext W3 W4 := e4 ▸ (Ext.refl W3).alloc _
  rw [e4] at h3
  have hp2 : PL W4 w.heap.size p := ((x2.trans x3).trans x4).heap h0
  have hn2 : NB W4 W1.heap.size (.slice A1 ps.length c1) r := (x3.trans x4).heap h1
  have hy2 := x4.heap h2
  have hx2 := x1.trans ((x2.trans x3).trans x4)
  have hxw3 := x1.trans (x2.trans x3)
  have HP := Lib.hid hp2; have HN := Lib.hid hn2; have HX := Lib.hid hx2; have HY := Lib.hid hy2; have HR := Lib.hid h3; have HW3 := Lib.hid hxw3.size; have HW43 := Lib.hid (show W3.heap.size < W4.heap.size by rw [← e4]; simp)
  have HRS := Lib.hid (hR.ext hx2); have HBS := Lib.hid (hB.ext hx2); have HMS := Lib.hid (hD.ext hx2)
  clear h0 h1 h2 h3 hp2 hn2 hy2 x1 x2 x3 x4 z1 z2 hx2 hxw3 hR hB hD
  have HSM := Lib.hid (fun W (hx : Ext W4 W) => hsm ▸ lsmall_at A1 c1 ps r W (HRS.out.ext hx))
  have HC := Lib.hid (fun W (hx : Ext W4 W) => Check_at p hs4 A1 c1 ps r HN1.out HPS.out A c b HB1.out W (HRS.out.ext hx) (HBS.out.ext hx) hok)
  rw [hL] at HC
  have HBK := Lib.hid (fun (q : Pol) (hq : lowP p x y z = q) W (hx' : Ext W4 W) => Check_at q (by rw [← hq]; exact hs4) A1 c1 ps r HN1.out HPS.out A c b HB1.out W (HRS.out.ext hx') (HBS.out.ext hx') (hq ▸ low_ok hok hx hy hz))
  have hbd := (Pol.ok_iff p).1 hok
  have b1 := hbd.len.1; have b2 := hbd.len.2; have b3 := hbd.cla.1; have b4 := hbd.cla.2; have b5 := hbd.dis.1; have b6 := hbd.dis.2
  have HL := Lib.hid hL; have HOK := Lib.hid hok; have HS4 := Lib.hid hs4
  clear hok hs4 hsm hbd hL h2 h3 hp40 hn6
  simp only [firstR] at HC
  obtain ⟨T, hT⟩ : ∃ T, p.text = T := ⟨_, rfl⟩
  rw [hT] at HT HPA
  clear hT
  obtain ⟨k0, k1, k2, k3, k4, k5, k6, k7, k8, k9⟩ := (HP.out.ext (Ext.refl W4)).cells
  have d0 := (HN.out.ext (Ext.refl W4)).cell0; have d1 := NBcell1 (HN.out.ext (Ext.refl W4))
  obtain ⟨y0, y1, y2⟩ := byCells ((Ext.heap (Ext.refl W4)) HY.out)
  refine calls_of_marks Tryz.func8 rfl ?_
  simp only [Tryz.ntmps8, List.size_toArray, List.length_cons, List.length_nil, Nat.reduceAdd, Nat.reduceSub, Array.replicate_succ, Array.replicate_zero, List.push_toArray, List.append_toArray, List.nil_append, List.cons_append]
  unfold Pol.v
  unfold Pol.cs at e1
  go_wp2_with fail
  refine (HV.out _).mono ?_
  rintro _ w5 ⟨rfl, hx5⟩
  have HY5 := Lib.hid hx5
  clear hx5 k0 k1 k2 k3 k4 k5 k6 k7 k8 k9 d0 d1 y0 y1 y2 e1 e2 e3 e4
  obtain ⟨k0, k1, k2, k3, k4, k5, k6, k7, k8, k9⟩ := (HP.out.ext HY5.out).cells
  have d0 := (HN.out.ext HY5.out).cell0; have d1 := NBcell1 (HN.out.ext HY5.out)
  obtain ⟨y0, y1, y2⟩ := byCells ((Ext.heap HY5.out) HY.out)
  go_wp2_with fail
  refine (HSM.out _ HY5.out).mono ?_
  rintro _ w6 ⟨rfl, hx6⟩
  have HY6 := Lib.hid (HY5.out.trans hx6)
  clear hx6 k0 k1 k2 k3 k4 k5 k6 k7 k8 k9 d0 d1 y0 y1 y2
  obtain ⟨k0, k1, k2, k3, k4, k5, k6, k7, k8, k9⟩ := (HP.out.ext HY6.out).cells
  have d0 := (HN.out.ext HY6.out).cell0; have d1 := NBcell1 (HN.out.ext HY6.out)
  obtain ⟨y0, y1, y2⟩ := byCells ((Ext.heap HY6.out) HY.out)
  go_wp2_with fail
  refine (HC.out _ HY6.out).mono ?_
  rintro _ w7 ⟨rfl, hx7⟩
  have HY7 := Lib.hid (HY6.out.trans hx7)
  clear hx7 k0 k1 k2 k3 k4 k5 k6 k7 k8 k9 d0 d1 y0 y1 y2
  obtain ⟨k0, k1, k2, k3, k4, k5, k6, k7, k8, k9⟩ := (HP.out.ext HY7.out).cells
  have d0 := (HN.out.ext HY7.out).cell0; have d1 := NBcell1 (HN.out.ext HY7.out)
  obtain ⟨y0, y1, y2⟩ := byCells ((Ext.heap HY7.out) HY.out)
  go_wp2_with fail
  refine (HT.out _ (HM.out.ext (HX.out.trans HY7.out)).pow).mono ?_
  rintro _ w8 ⟨rfl, hx8⟩
  have HY8 := Lib.hid (HY7.out.trans hx8)
  clear hx8 k0 k1 k2 k3 k4 k5 k6 k7 k8 k9 d0 d1 y0 y1 y2
  go_wp2_with fail
  refine (HPA.out _ (HM.out.ext (HX.out.trans HY8.out))).mono ?_
  rintro _ w9 ⟨rfl, hx9⟩
  have HY9 := Lib.hid (HY8.out.trans hx9)
  clear hx9
  have hx := (Ext.refl w9).alloc (.cells Pol.zero.cs 23)
  have h0 : PL (w9.alloc (.cells Pol.zero.cs 23)) w9.heap.size Pol.zero := heap_alloc_new w9 _
  obtain ⟨Y9, hY9⟩ : ∃ W, w9.alloc (.cells Pol.zero.cs 23) = W := ⟨_, rfl⟩
  rw [hY9] at hx h0
  have f0 := h0.soft 0; have f1 := h0.soft 1; have f2 := h0.soft 2; have f3 := h0.soft 3; have f4 := h0.soft 4; have f5 := h0.soft 5; have f6 := h0.soft 6; have f7 := h0.soft 7; have f8 := h0.soft 8; have f9 := h0.soft 9
  obtain ⟨d0, d1, d2, d3, d4, d5, d6, d7, d8, d9⟩ := h0.cells
  obtain ⟨Z9, hZ9, hxF, hpF⟩ := putPL (q := p) hx (Nat.le_refl _) h0
  have HZZ9 := Lib.hid hxF
  have HXZ9 := Lib.hid (HY9.out.trans hxF); have HPZ9 := Lib.hid hpF
  unfold Pol.cs Pol.zero at hY9
  clear hx hxF hpF h0
  unfold Pol.v
  obtain ⟨k0, k1, k2, k3, k4, k5, k6, k7, k8, k9⟩ := (HP.out.ext HXZ9.out).cells
  have d0 := (HN.out.ext HXZ9.out).cell0; have d1 := NBcell1 (HN.out.ext HXZ9.out)
  obtain ⟨y0, y1, y2⟩ := byCells ((Ext.heap HXZ9.out) HY.out)
  obtain ⟨l0, l1, l2, l3, l4, l5, l6, l7, l8, l9⟩ := HPZ9.out.cells
  go_wp2_with fail
  refine (num_k _ _).mono ?_
  rintro _ wz ⟨rfl, rfl⟩
  go_wp2_with fail
  refine (num_k _ _).mono ?_
  rintro _ wz ⟨rfl, rfl⟩
  go_wp2_with fail
  refine (num_k _ _).mono ?_
  rintro _ wz ⟨rfl, rfl⟩
  clear f0 f1 f2 f3 f4 f5 f6 f7 f8 f9 d0 d1 d2 d3 d4 d5 d6 d7 d8 d9 hY9 hZ9
  have hx := (Ext.refl Z9).alloc (.cells Pol.zero.cs 23)
  have h0 : PL (Z9.alloc (.cells Pol.zero.cs 23)) Z9.heap.size Pol.zero := heap_alloc_new Z9 _
  obtain ⟨YL, hYL⟩ : ∃ W, Z9.alloc (.cells Pol.zero.cs 23) = W := ⟨_, rfl⟩
  rw [hYL] at hx h0
  have f0 := h0.soft 0; have f1 := h0.soft 1; have f2 := h0.soft 2; have f3 := h0.soft 3; have f4 := h0.soft 4; have f5 := h0.soft 5; have f6 := h0.soft 6; have f7 := h0.soft 7; have f8 := h0.soft 8; have f9 := h0.soft 9
  obtain ⟨d0, d1, d2, d3, d4, d5, d6, d7, d8, d9⟩ := h0.cells
  obtain ⟨ZL, hZL, hxF, hpF⟩ := putPL (q := p) hx (Nat.le_refl _) h0
  have HZZL := Lib.hid hxF
  have HXZL := Lib.hid (HXZ9.out.trans hxF); have HPZL := Lib.hid hpF
  unfold Pol.cs Pol.zero at hYL
  clear hx hxF hpF h0
  obtain ⟨V1, hV1⟩ : ∃ V, ZL.setCell ⟨Z9.heap.size, 1, none⟩ (.int .i64 (max 1 (p.len - x))) = V := ⟨_, rfl⟩
  obtain ⟨V2, hV2⟩ : ∃ V, V1.setCell ⟨Z9.heap.size, 2, none⟩ (.int .i64 (max 1 (p.cla - y))) = V := ⟨_, rfl⟩
  obtain ⟨V3, hV3⟩ : ∃ V, V2.setCell ⟨Z9.heap.size, 3, none⟩ (.int .i64 (min (max 1 (p.len - x)) (max 0 (p.dis - z)))) = V := ⟨_, rfl⟩
  have p1 := hV1 ▸ HPZL.out.set 1 (by omega) (by omega) (max 1 (p.len - x))
  have p2 := hV2 ▸ p1.set 2 (by omega) (by omega) (max 1 (p.cla - y))
  have p3 := hV3 ▸ p2.set 3 (by omega) (by omega) (min (max 1 (p.len - x)) (max 0 (p.dis - z)))
  have x1 := hV1 ▸ HXZL.out.setCell (p := ⟨Z9.heap.size, 1, none⟩) HXZ9.out.size (.int .i64 (max 1 (p.len - x)))
  have x2 := hV2 ▸ x1.setCell (p := ⟨Z9.heap.size, 2, none⟩) HXZ9.out.size (.int .i64 (max 1 (p.cla - y)))
  have x3 := hV3 ▸ x2.setCell (p := ⟨Z9.heap.size, 3, none⟩) HXZ9.out.size (.int .i64 (min (max 1 (p.len - x)) (max 0 (p.dis - z))))
  have g1 := HPZL.out.soft 1; have g2 := p1.soft 2; have g3 := p2.soft 3
  have c1z := HPZL.out.cells.c1; have c2z := p1.cells.c2; have c3z := p2.cells.c3; have c1w := p2.cells.c1
  simp only [Pol.set] at c2z c3z c1w
  obtain ⟨o0, o1, o2, o3, o4, o5, o6, o7, o8, o9⟩ := (HP.out.ext HXZL.out).cells
  have d0 := (HN.out.ext HXZL.out).cell0; have d1 := NBcell1 (HN.out.ext HXZL.out)
  obtain ⟨y0, y1, y2⟩ := byCells ((Ext.heap HXZL.out) HY.out)
  have k2' := (HP.out.ext x1).cells.c2; have k3' := (HP.out.ext x2).cells.c3
  have y1' := (byCells (x1.heap HY.out)).2.1; have y2' := (byCells (x2.heap HY.out)).2.2
  have P3 := Lib.hid p3; have X3 := Lib.hid x3
  clear p1 p2 p3 x1 x2 x3
  have hf1 : 1 ≤ f := (brkP_bd (f := f) (by rw [HL.out]; simp)).1
  have hf0 : ((f : Int) == 0) = false := by rw [beq_eq_false_iff_ne]; omega
  have HYA := Lib.hid X3.out
  go_upto_region 16 with fail
  clear k0 k1 k2 k3 k4 k5 k6 k7 k8 k9 d0 d1 y0 y1 y2 o0 o1 o2 o3 o4 o5 o6 o7 o8 o9 l0 l1 l2 l3 l4 l5 l6 l7 l8 l9 k2' k3' y1' y2' c1z c2z c3z c1w g1 g2 g3 hV1 hV2 hV3
  clear f0 f1 f2 f3 f4 f5 f6 f7 f8 f9 d0 d1 d2 d3 d4 d5 d6 d7 d8 d9 hYL hZL
  obtain ⟨i0, hi, hz0, hz1, hz2⟩ := info_parts u8info
  have HBA := Lib.hid (fun W (hx : Ext W4 W) => Broken_at p HS4.out A1 c1 ps r HN1.out HPS.out A c b HB1.out W (HRS.out.ext hx) (HBS.out.ext hx))
  obtain ⟨bm, hbm⟩ : ∃ l, b ++ m = l := ⟨_, rfl⟩
  have HBB := Lib.hid (fun W B d (hx : Ext W4 W) (hb : BS W (.slice B bm.length d) bm) => Broken_at p HS4.out A1 c1 ps r HN1.out HPS.out B d bm (by have := HB2.out; have := HM1.out; rw [← hbm, List.length_append]; omega) W (HRS.out.ext hx) hb)
  have HBM := Lib.hid hbm
  clear hbm
  obtain ⟨L0, hL0⟩ : ∃ L, brkP p (datP ps) b = L := ⟨_, rfl⟩
  obtain ⟨L1, hL1⟩ : ∃ L, brkP p (datP ps) bm = L := ⟨_, rfl⟩
  rw [hL0] at HBA HL; rw [hL1] at HBB
  unfold Pol.v at HBA HBB
  have HSS := Lib.hid (fun W (hx : Ext W4 W) => SHold_of (HP.out.ext hx) (HN.out.ext hx))
  have HL0 := Lib.hid hL0; have HL1 := Lib.hid hL1; have HW4A := Lib.hid HYA.out.size
  clear hL0 hL1
  go_cut [20, 21] from 120 to 131 (fun v20 v21 wx => TwoSeq W4 L0 L1 v20 v21 wx)
  case first =>
    go_region_held3 (fun w' => SHold w' w.heap.size W1.heap.size p (.slice A1 ps.length c1) r) (exact HSS.out _ (by first | exact HYA.out.drew' | exact hx1 | exact hx8 | exact hx10 | exact hx11 | exact hx1.alloc _ | exact (HYA.out.alloc _).drew' | exact (HYA.out.drew').alloc _)) ((first
      | (go_at_call 18; (with_reducible refine (HBA.out _ (HYA.out.drew')).mono ?_); rintro _ w1 ⟨⟨g1, B1, e1, rfl, hit1, hg1, ha1⟩, hx1'⟩; have hx1 := (HYA.out.drew').trans hx1')
      | (go_at_call 18; (with_reducible refine (HBA.out _ ((HYA.out.alloc _).drew')).mono ?_); rintro _ w1 ⟨⟨g1, B1, e1, rfl, hit1, hg1, ha1⟩, hx1'⟩; have hx1 := ((HYA.out.alloc _).drew').trans hx1')
      | (refine step_append_bs2 _ rfl (.tmp 126) (.tmp 127) 31 rfl w1.heap.size 5 i0 (.int .u8 0) Tryz.underlying31 hi hz0 hz1 hz2 rfl (.slice (some ⟨w1.heap.size, 0, none⟩) 0 0) [] (by simp [Act.eval]) (OB.lit w1 5 w1.heap.size [] [] rfl 0 rfl (by simp [maxLen]) (Nat.le_refl _) (z := w1.heap.size) rfl) (.slice A b.length c) b (by simp [Act.eval]) (HBS.out.ext (hx1.alloc _)) (by have := HB1.out; simp; omega) (by simp) ?_; intro v8 w8 hown8 hg8 hat8; obtain ⟨A8, c8, rfl, hob8, hs8, hit8, hx8⟩ := apA hx1 hit1 hown8 hg8 hat8)
      | (refine step_append_bs2 _ rfl (.tmp 126) (.tmp 127) 31 rfl V3.heap.size 5 i0 (.int .u8 0) Tryz.underlying31 hi hz0 hz1 hz2 rfl (.slice (some ⟨V3.heap.size, 0, none⟩) 0 0) [] (by simp [Act.eval]) ((OB.lit V3 5 V3.heap.size [] [] rfl 0 rfl (by simp [maxLen]) (Nat.le_refl _) (z := V3.heap.size) rfl).ext ((Ext.drew _).trans hx1')) (.slice A b.length c) b (by simp [Act.eval]) (HBS.out.ext hx1) (by have := HB1.out; simp; omega) (by have := hx1'.size; simp at this ⊢; omega) ?_; intro v8 w8 hown8 hg8 hat8; obtain ⟨A8, c8, rfl, hob8, hs8, hit8, hx8⟩ := apB HYA.out hx1' hit1 hg1 ha1 hown8 hg8 hat8)
      | (refine step_append_bs2 _ rfl (.tmp 128) (.tmp 129) 31 rfl W4.heap.size 5 i0 (.int .u8 0) Tryz.underlying31 hi hz0 hz1 hz2 rfl (.slice A8 b.length c8) b (by simp [Act.eval]) hob8 (.slice D m.length dc) m (by simp [Act.eval]) (HMS.out.ext hx8) (by have := HB1.out; have := HM1.out; omega) hx8.size ?_; intro v10 w10 hown10 hg10 hat10; obtain ⟨A10, c10, rfl, hob10, hit10, hx10⟩ := apC hx8 hit8 hs8 hown10 hg10 hat10 hob8.lt HBM.out)
      | (go_at_call 18; (with_reducible refine (HBB.out _ _ _ hx10 hob10.bs).mono ?_); rintro _ w11 ⟨⟨g2, B2, e2, rfl, hit2, hg2, ha2⟩, hx11'⟩; have hx11 := hx10.trans hx11')))
    all_goals
      go_wp2_with fail
      go_meet
      case rel => exact ⟨g1, B1, e1, g2, B2, e2, rfl, rfl, hit10.ext hx11', hit2, hx11⟩
  case rest =>
    obtain ⟨g1, B1, e1, g2, B2, e2, rfl, rfl, hit1, hit2, hxc⟩ := hcut
    obtain ⟨V, rfl⟩ : ∃ V : World, V = wc := ⟨_, rfl⟩
    have hq1 := seq_nilR #[.pointer (some ⟨g1, 0, none⟩)]; have hq2 := seq_nilR #[.pointer (some ⟨g2, 0, none⟩)]
    have hmm := @run_makeMap Tryz.prog
    obtain ⟨U, hU⟩ : ∃ U, U = (V.alloc (.map #[] 0)).alloc (.cells #[.map (some V.heap.size)] 60) := ⟨_, rfl⟩
    have hxu : Ext V U := by rw [hU]; exact ((Ext.refl V).alloc _).alloc _
    have hzu : U.heap.size = V.heap.size + 2 := by rw [hU]; simp
    have hbu : U.heap[V.heap.size + 1]? = some (.cells #[.map (some V.heap.size)] 60 (0, 0)) := by
      rw [hU]
      have h := heap_alloc_new (V.alloc (.map #[] 0)) (.cells #[.map (some V.heap.size)] 60)
      rwa [World.size_alloc] at h
    have hmu : MKR U V.heap.size 0 [] := by rw [hU]; exact MKR_kept (MKR_new V) (World.grownBy_alloc _ _ none) (by simp)
    obtain ⟨l1a, l1b⟩ := ItR_lt hit1
    obtain ⟨l2a, l2b⟩ := ItR_lt hit2
    have HIT1 := Lib.hid hit1; have HIT2 := Lib.hid (hit2.ext hxu); have HXU := Lib.hid (hxc.trans hxu); have HBU := Lib.hid hbu; have HMU := Lib.hid hmu; have HZU := Lib.hid hzu; have HXV := Lib.hid hxu; have HW4V := Lib.hid hxc.size
    have HG1 := Lib.hid l1a; have HG1b := Lib.hid l1b; have HG2 := Lib.hid l2a; have HG2b := Lib.hid l2b
    have HN0 := Lib.hid (show L0.length ≤ 7 by rw [← HL0.out]; exact brkP_len _ _ _)
    have HN7 := Lib.hid (show L1.length ≤ 7 by rw [← HL1.out]; exact brkP_len _ _ _)
    have HMEM := Lib.hid (fun (k : Nat) (hk : k = 2 ∨ k = 3 ∨ k = 6 ∨ k = 7) (hm : k ∈ L0) => show k ∈ L1 by rw [← HL1.out, ← HBM.out]; rw [← HL0.out] at hm; exact brkP_more m hk hm)
    have HBD := Lib.hid (fun (k : Nat) (hm : k ∈ L0) => show 1 ≤ k ∧ k ≤ 7 by rw [← HL0.out] at hm; exact brkP_bd hm)
    clear hit1 hit2 hxc hxu hzu hbu hmu l1a l1b l2a l2b
    go_wp2_with fail
    rw [← hU]
    clear hU hq1 hq2 hmm
    refine wpIn_wide.1 (wp_rangeC (gf := 38) (lb := #[.pointer (some ⟨g2, 0, none⟩)]) rfl (Go.Proofs.enters_of Tryz.func38 (by kernel_rfl) rfl)
      (brk_iter g2 B2 e2 L1 (by have := HN7.out; omega)) (fun _ => rfl) (fun k hk => hk.elim) HIT2.out (ItR.stab _ _ _ _ _)
      (StI V.heap.size W4 g1 B1 e1 L0) (fun _ _ _ => False)
      (fun pre => StI_stab (by have := HZU.out; omega) HXU.out.size pre) (fun cd pre => Stab.pure False)
      (fun pre X Y rr hr hg h => ?_) (fun cd pre X Y rr hr hg h => h) ⟨HBU.out, HMU.out, HIT1.out.ext HXV.out, HXU.out⟩ ?_ ?_ ?_)
    · have hn : rr = none := by cases rr with | none => rfl | some k => exact (hr k rfl).elim
      subst hn
      exact ⟨(grown_of_ext hg).heap h.1, MKR_kept h.2.1 hg (by simp), h.2.2.1.ext (grown_of_ext hg), h.2.2.2.trans (grown_of_ext hg)⟩
    · intro l pre k X hl hnl hzV hIV hitV hGV
      simp only [ruleEnc]
      gi_wp2_with fail
      refine ⟨KA.refl _ _, fun X2 hg2 hn2 hsz2 => ?_⟩
      obtain ⟨h1, ⟨DM, hown, hat⟩, hit1, h3⟩ := (StI_stab (by have := HZU.out; omega) HXU.out.size pre) X X2 l hl hn2 hg2 hIV
      have hit2 := (ItR.stab U.heap.size g2 B2 e2 L1) X X2 l hl hn2 hg2 hitV
      obtain ⟨rest, hrest⟩ := hGV
      have hlt : pre.length < L1.length := by rw [hrest]; simp
      have h7 : pre.length < maxLen := by have := HN7.out; unfold maxLen; omega
      have hk7 : k ≤ 7 := by
        have hm : k ∈ brkP p (datP ps) bm := by rw [HL1.out, hrest]; simp
        exact (brkP_bd hm).2
      have q1 := (row1 h1).1
      have hkey : keyOf Tryz.prog 33 (.int .i64 (k : Int)) = some (.int .i64 (k : Int)) := keyOf_int_mk Tryz.underlying33 (wf_i64 (by omega) (by omega))
      have HOW := Lib.hid hown; have HAT := Lib.hid hat; have H1 := Lib.hid h1; have H3 := Lib.hid h3; have HI2 := Lib.hid hit2; have HI1 := Lib.hid hit1; have HLT := Lib.hid hlt; have H7 := Lib.hid h7; have HKEY := Lib.hid hkey
      clear hown hat h1 h3 hit1 hit2 hlt h7 hkey hIV hitV hn2 hg2 hnl hsz2 hrest hk7
      gi_wp2_with (gi_at_mapUpdate; refine wpListIn_mapUpdate_own _ rfl (.tmp 141) (.tmp 142) (.const (.bool true)) 60 rfl 33 4 lawRule Tryz.underlying60 _ V.heap.size pre.length DM rfl HOW.out H7.out _ _ _ rfl rfl HKEY.out _ [] (plainElem_bool Tryz.underlying4 true) ?_; intro w1 hown1 hgrow1)
      have hz := HZU.out
      have hlt := HLT.out
      refine ⟨KA.of_grown hgrow1 (by omega), ⟨heap_far hgrow1 HI2.out.1 (by have := HG2.out; omega), HI2.out.2.far hgrow1 (fun ad ha => by have := HG2b.out (by omega) ad ha; omega)⟩, heap_far hgrow1 H1.out (by omega), ?_, ItR_far HI1.out hgrow1 (by have := HG1.out; omega) (fun hp ad ha => by have := HG1b.out hp ad ha; omega), H3.out.grown hgrow1 (fun j hj => by injection hj with hj; have := HW4V.out; omega)⟩
      rw [List.length_append, List.length_singleton]
      exact MKR_add hown1 HAT.out HOW.out.isMap
    · intro D0 xs X hD hS hIV hit hdf
      obtain rfl := hS.symm
      obtain ⟨h1, h2, h3a, h3⟩ := hIV
      obtain ⟨Y, hY⟩ : ∃ Y, Y = X.alloc (.cells #[.int .i64 0] 33) := ⟨_, rfl⟩
      have hxy : Ext X Y := by rw [hY]; exact (Ext.refl X).alloc _
      have hzy : Y.heap.size = X.heap.size + 1 := by rw [hY]; simp
      have hby : Y.heap[X.heap.size]? = some (.cells #[.int .i64 0] 33 (0, 0)) := by rw [hY]; exact heap_alloc_new X _
      have hD0 := hxy.heap hdf
      have HDL := Lib.hid (Array.getElem?_eq_some_iff.1 hdf).1
      have HI1 := Lib.hid (h3a.ext hxy); have HZY := Lib.hid hzy; have HS1 := Lib.hid (Array.getElem?_eq_some_iff.1 h1).1
      have HY0 := Lib.hid (show FiI V.heap.size X.heap.size D0 L1 W4 [] Y from ⟨hxy.heap h1, MKR_kept h2 (hY ▸ World.grownBy_alloc _ _ none) (by simp), hby, hD0, h3.trans hxy⟩)
      clear h1 h2 h3 h3a hxy hby hD0 hit hdf
      go_wp2_with fail
      rw [← hY]
      clear hY
      refine wpIn_wide.1 (wp_rangeC (gf := 38) (lb := #[.pointer (some ⟨g1, 0, none⟩)]) rfl (Go.Proofs.enters_of Tryz.func38 (by kernel_rfl) rfl)
        (brk_iter g1 B1 e1 L0 (by have := HN0.out; omega)) (fun _ => rfl) (fun k hk => hk.elim) HI1.out (ItR.stab _ _ _ _ _)
        (FiI V.heap.size X.heap.size D0 L1 W4) (fun _ _ _ => False)
        (fun pre => FiI_stab (by have := HZY.out; have := HS1.out; omega) (by have := HZY.out; have := HDL.out; omega) HY0.out.2.2.2.2.size pre) (fun cd pre => Stab.pure False)
        (fun pre X' Y' rr hr hg h => ?_) (fun cd pre X' Y' rr hr hg h => h) HY0.out ?_ ?_ ?_)
      · have hn : rr = none := by cases rr with | none => rfl | some k => exact (hr k rfl).elim
        subst hn
        exact ⟨(grown_of_ext hg).heap h.1, MKR_kept h.2.1 hg (by simp), (grown_of_ext hg).heap h.2.2.1, (grown_of_ext hg).heap h.2.2.2.1, h.2.2.2.2.trans (grown_of_ext hg)⟩
      · intro l pre k Z hl hnl hzV hIV hitV hGV
        simp only [ruleEnc]
        gi_wp2_with fail
        refine ⟨KA.refl _ _, fun Z2 hg2 hn2 hsz2 => ?_⟩
        obtain ⟨h1, h2, h3, h4, h5⟩ := (FiI_stab (B := Y.heap.size) (by have := HZY.out; have := HS1.out; omega) (by have := HZY.out; have := HDL.out; omega) HY0.out.2.2.2.2.size pre) Z Z2 l hl hn2 hg2 hIV
        have hit2 := (ItR.stab Y.heap.size g1 B1 e1 L0) Z Z2 l hl hn2 hg2 hitV
        obtain ⟨rest, hrest⟩ := hGV
        have hin : k ∈ L0 := by rw [hrest]; simp
        have hkb := HBD.out k hin
        have HIN := Lib.hid hin
        have hne : 0 < L0.length := by rw [hrest]; simp only [List.length_append, List.length_cons]; omega
        have r1 := hkb.1; have r2 := hkb.2
        clear hIV hitV hn2 hg2 hnl hsz2 hkb
        rcases pre with _ | ⟨a, pr⟩
        · have HF3 := Lib.hid (row1_set (.int .i64 (k : Int)) h3)
          have hM3 : MKR (Z2.setCell ⟨X.heap.size, 0, none⟩ (.int .i64 (k : Int))) V.heap.size L1.length L1 := MKR_kept h2 (grown_set1 _ _ _) (by have := HS1.out; simp; omega)
          have hb3 := heap_far (grown_set1 Z2 X.heap.size (.int .i64 (k : Int))) h1 (by have := HS1.out; omega)
          have hd3 := heap_far (grown_set1 Z2 X.heap.size (.int .i64 (k : Int))) h4 (by have := HDL.out; omega)
          have hi3 := ItR_far hit2 (grown_set1 Z2 X.heap.size (.int .i64 (k : Int))) (by have := HG1.out; have := HS1.out; omega) (fun hp ad ha => by have := HG1b.out hp ad ha; have := HS1.out; omega)
          have hx3 := h5.setCell (p := ⟨X.heap.size, 0, none⟩) (by show W4.heap.size ≤ X.heap.size; have := HW4V.out; have := HS1.out; omega) (.int .i64 (k : Int))
          have q1 := (row1 hb3).1; have q3 := (row1 h3).1; have s3 := (row1 h3).2
          simp only [firstR] at q3
          have HFIN := Lib.hid (show KA Y.heap.size Z2 (Z2.setCell ⟨X.heap.size, 0, none⟩ (.int .i64 (k : Int))) ∧ ItR g1 B1 e1 L0 (Z2.setCell ⟨X.heap.size, 0, none⟩ (.int .i64 (k : Int))) ∧ FiI V.heap.size X.heap.size D0 L1 W4 ([] ++ [k]) (Z2.setCell ⟨X.heap.size, 0, none⟩ (.int .i64 (k : Int))) from
            ⟨KA.of_grown (grown_set1 _ _ _) (by have := HZY.out; omega), hi3, hb3, hM3, HF3.out, hd3, hx3⟩)
          have HM3 := Lib.hid hM3
          clear h1 h2 h3 h4 h5 hit2 hM3 hb3 hd3 hi3 hx3 hrest hne hin
          rcases (show k = 3 ∨ k = 6 ∨ k = 7 ∨ k = 2 ∨ (k ≠ 3 ∧ k ≠ 6 ∧ k ≠ 7 ∧ k ≠ 2) by omega) with hs | hs | hs | hs | hs
          · have HK := Lib.hid hs
            have c3 : ((k : Int) == 3) = true := by rw [beq_iff_eq]; omega
            have hlk := MKR_look HM3.out (HMEM.out k (by omega) HIN.out) (by omega)
            clear hs
            gi_wp2_with fail
            exact HFIN.out
          · have HK := Lib.hid hs
            have c3 : ((k : Int) == 3) = false := by rw [beq_eq_false_iff_ne]; omega
            have c6 : ((k : Int) == 6) = true := by rw [beq_iff_eq]; omega
            have hlk := MKR_look HM3.out (HMEM.out k (by omega) HIN.out) (by omega)
            clear hs
            gi_wp2_with fail
            exact HFIN.out
          · have HK := Lib.hid hs
            have c3 : ((k : Int) == 3) = false := by rw [beq_eq_false_iff_ne]; omega
            have c6 : ((k : Int) == 6) = false := by rw [beq_eq_false_iff_ne]; omega
            have c7 : ((k : Int) == 7) = true := by rw [beq_iff_eq]; omega
            have hlk := MKR_look HM3.out (HMEM.out k (by omega) HIN.out) (by omega)
            clear hs
            gi_wp2_with fail
            exact HFIN.out
          · have HK := Lib.hid hs
            have c3 : ((k : Int) == 3) = false := by rw [beq_eq_false_iff_ne]; omega
            have c6 : ((k : Int) == 6) = false := by rw [beq_eq_false_iff_ne]; omega
            have c7 : ((k : Int) == 7) = false := by rw [beq_eq_false_iff_ne]; omega
            have c2 : ((k : Int) == 2) = true := by rw [beq_iff_eq]; omega
            have hlk := MKR_look HM3.out (HMEM.out k (by omega) HIN.out) (by omega)
            clear hs
            gi_wp2_with fail
            exact HFIN.out
          · have HK := Lib.hid hs
            have c3 : ((k : Int) == 3) = false := by rw [beq_eq_false_iff_ne]; omega
            have c6 : ((k : Int) == 6) = false := by rw [beq_eq_false_iff_ne]; omega
            have c7 : ((k : Int) == 7) = false := by rw [beq_eq_false_iff_ne]; omega
            have c2 : ((k : Int) == 2) = false := by rw [beq_eq_false_iff_ne]; omega
            clear hs
            gi_wp2_with fail
            exact HFIN.out
        · have hab := HBD.out a (by rw [hrest]; simp)
          have ha0 : ((a : Int) == 0) = false := by rw [beq_eq_false_iff_ne]; omega
          have q1 := (row1 h1).1; have q3 := (row1 h3).1
          simp only [firstR] at q3
          have HFIN := Lib.hid (show KA Y.heap.size Z2 Z2 ∧ ItR g1 B1 e1 L0 Z2 ∧ FiI V.heap.size X.heap.size D0 L1 W4 ((a :: pr) ++ [k]) Z2 from ⟨KA.refl _ _, hit2, h1, h2, h3, h4, h5⟩)
          have HM3 := Lib.hid h2
          clear h1 h2 h3 h4 h5 hit2 hrest hne hin hab
          rcases (show k = 3 ∨ k = 6 ∨ k = 7 ∨ k = 2 ∨ (k ≠ 3 ∧ k ≠ 6 ∧ k ≠ 7 ∧ k ≠ 2) by omega) with hs | hs | hs | hs | hs
          · have HK := Lib.hid hs
            have c3 : ((k : Int) == 3) = true := by rw [beq_iff_eq]; omega
            have hlk := MKR_look HM3.out (HMEM.out k (by omega) HIN.out) (by omega)
            clear hs
            gi_wp2_with fail
            exact HFIN.out
          · have HK := Lib.hid hs
            have c3 : ((k : Int) == 3) = false := by rw [beq_eq_false_iff_ne]; omega
            have c6 : ((k : Int) == 6) = true := by rw [beq_iff_eq]; omega
            have hlk := MKR_look HM3.out (HMEM.out k (by omega) HIN.out) (by omega)
            clear hs
            gi_wp2_with fail
            exact HFIN.out
          · have HK := Lib.hid hs
            have c3 : ((k : Int) == 3) = false := by rw [beq_eq_false_iff_ne]; omega
            have c6 : ((k : Int) == 6) = false := by rw [beq_eq_false_iff_ne]; omega
            have c7 : ((k : Int) == 7) = true := by rw [beq_iff_eq]; omega
            have hlk := MKR_look HM3.out (HMEM.out k (by omega) HIN.out) (by omega)
            clear hs
            gi_wp2_with fail
            exact HFIN.out
          · have HK := Lib.hid hs
            have c3 : ((k : Int) == 3) = false := by rw [beq_eq_false_iff_ne]; omega
            have c6 : ((k : Int) == 6) = false := by rw [beq_eq_false_iff_ne]; omega
            have c7 : ((k : Int) == 7) = false := by rw [beq_eq_false_iff_ne]; omega
            have c2 : ((k : Int) == 2) = true := by rw [beq_iff_eq]; omega
            have hlk := MKR_look HM3.out (HMEM.out k (by omega) HIN.out) (by omega)
            clear hs
            gi_wp2_with fail
            exact HFIN.out
          · have HK := Lib.hid hs
            have c3 : ((k : Int) == 3) = false := by rw [beq_eq_false_iff_ne]; omega
            have c6 : ((k : Int) == 6) = false := by rw [beq_eq_false_iff_ne]; omega
            have c7 : ((k : Int) == 7) = false := by rw [beq_eq_false_iff_ne]; omega
            have c2 : ((k : Int) == 2) = false := by rw [beq_eq_false_iff_ne]; omega
            clear hs
            gi_wp2_with fail
            exact HFIN.out
      · intro D1 xs Z hD1 hS hIV hit hdf
        obtain rfl := hS.symm
        obtain ⟨h1, h2, h3, h4, h5⟩ := hIV
        have q3 := (row1 h3).1
        obtain ⟨ff, hff⟩ : ∃ ff, firstR L0 = ff := ⟨_, rfl⟩
        rw [hff] at q3
        have hfe : (ff == (f : Int)) = true := by rw [beq_iff_eq, ← hff, HL.out]; rfl
        have H5 := Lib.hid h5; have H4 := Lib.hid h4; have HDF := Lib.hid hdf
        have z1 := HZU.out; have z2 := HZY.out; have z3 := HDL.out; have z4 := HS1.out; have z5 := HW4V.out; have z6 := HW43.out
        have HZA := Lib.hid (show W3.heap.size ≠ D0 ∧ W3.heap.size ≠ D1 ∧ D0 ≠ D1 ∧ w.heap.size ≤ D0 ∧ w.heap.size ≤ D1 by have := HW3.out; omega)
        clear h1 h2 h3 h4 h5 hit hdf hff z1 z2 z3 z4 z5 z6
        go_wp2_with fail
        refine (PKnown_at _ (HM.out.ext (HX.out.trans H5.out))).mono ?_
        rintro _ wk ⟨rfl, hxk⟩
        obtain ⟨y1, y2, y3, y4, y5⟩ := HZA.out
        have hrk := (H5.out.trans hxk).heap HR.out
        obtain ⟨j0, j1⟩ := row1 hrk
        have hD1s := heap_far (grown_set1 wk W3.heap.size (.bool true)) (hxk.heap HDF.out) (by omega)
        have hD0s := heap_far (grown_set1 wk W3.heap.size (.bool true)) (hxk.heap H4.out) (by omega)
        have h4s := row1_set (.bool true) hrk
        have hxs := (HX.out.trans (H5.out.trans hxk)).setCell (p := ⟨W3.heap.size, 0, none⟩) HW3.out (.bool true)
        obtain ⟨Ws, hWs⟩ : ∃ Ws, wk.setCell ⟨W3.heap.size, 0, none⟩ (.bool true) = Ws := ⟨_, rfl⟩
        rw [hWs] at hD1s hD0s h4s hxs
        have hD0p : (Ws.putObj D1 (.deferred none)).heap[D0]? = some (.deferred (some [])) := (World.putObj_heap_other (by omega)).trans hD0s
        have h4p : ((Ws.putObj D1 (.deferred none)).putObj D0 (.deferred none)).heap[W3.heap.size]? = some (.cells #[.bool true] 4 (0, 0)) := (World.putObj_heap_other (by omega)).trans ((World.putObj_heap_other (by omega)).trans h4s)
        have hxp : Ext w ((Ws.putObj D1 (.deferred none)).putObj D0 (.deferred none)) := Ext.of_grown (Ext.of_grown hxs (grown_put hD1s) (by omega)) (grown_put hD0p) (by omega)
        have hcp := (row1 h4p).1
        have HD1S := Lib.hid hD1s; have HD0P := Lib.hid hD0p; have HXPP := Lib.hid hxp
        clear hD1s hD0s hD0p h4p hxp hxs h4s hxk hrk y1 y2 y3 y4 y5
        go_wp2_with fail
        refine ⟨by simp, .inl ⟨_, _, rfl, run_takeDeferred HD1S.out, ?_⟩⟩
        refine ⟨by simp, .inl ⟨_, _, rfl, run_takeDeferred HD0P.out, ?_⟩⟩
        exact ⟨.bool true, by simp [results, Tryz.results8, go_sem, hcp]; try rfl, rfl, HXPP.out⟩
      · intro D cd pre Z hD hSp hIx hdf
        exact hIx.elim
    · intro D cd pre X hD hSp hIx hdf
      exact hIx.elim
end Go.Proofs.YtgfjmmdkdhodiaaGreatDoor.policyHolds
