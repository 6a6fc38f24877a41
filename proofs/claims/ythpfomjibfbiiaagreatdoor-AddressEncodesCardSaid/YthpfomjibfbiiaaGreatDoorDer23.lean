/- structured at data; the methods Key, Sealed, Data. -/
import Derived.Test.YthpfomjibfbiiaaGreatDoorMg41
import Derived.Test.YthpfomjibfbiiaaGreatDoorMg42
namespace Go.Proofs.YthpfomjibfbiiaaGreatDoor
open Go Go.RowKit

def FixedD (w w' : World) (g k bv be : Nat) (er : Int) : Prop := ∃ W1, Ext w W1 ∧ w' = (((W1.setCell ⟨g, 1, none⟩ (.int .i64 (k : Int))).setCell ⟨bv, 0, none⟩ (.slice none 0 0)).setCell ⟨be, 0, none⟩ (.int .i64 er))
theorem B1.noU8s {T : TypeId} {w : World} {b : Nat} {p : Option Addr} {n c : Nat} (hb : B1 T w b (.slice p n c)) : NoU8 w b := by
  intro q hq v hv
  unfold World.cell? at hv
  rw [hq, hb] at hv
  simp only at hv
  split at hv
  · cases hv
  · obtain ⟨hlt, he⟩ := Array.getElem?_eq_some_iff.1 hv
    have h3 : q.off = 0 := by simp at hlt; omega
    simp [h3] at he
theorem FixedD.gives {T2 T3 : TypeId} {w w' : World} {g k bv be : Nat} {er : Int} {p : Option Addr} {n c : Nat} (hf : FixedD w w' g k bv be er) {l : List UInt8} {k' : Nat} (h : RD 72 w g l k') (hk : k ≤ l.length)
    (h2 : B1 T2 w bv (.slice p n c)) (h3 : B1 T3 w be (.int .i64 0)) (n1 : g ≠ bv) (n2 : g ≠ be) (n3 : bv ≠ be) :
    RD 72 w' g l k ∧ B1 T2 w' bv (.slice none 0 0) ∧ B1 T3 w' be (.int .i64 er) ∧ (∀ B, B ≤ bv → B ≤ be → B ≤ w.heap.size → ∀ w0 : World, w0.heap.size = B → w0.grownBy w (some g) → w0.grownBy w' (some g)) := by
  obtain ⟨W1, hx, rfl⟩ := hf
  have r1 := h.ext hx; have b1 := h2.ext hx; have e1 := h3.ext hx
  have g1 : W1.grownBy (W1.setCell ⟨g, 1, none⟩ (.int .i64 (k : Int))) (some g) := grown_set (grown_refl _ _) 1 _
  have r2 := r1.moved k hk _ rfl; have b2 := b1.far g1 n1.symm; have e2 := e1.far g1 n2.symm
  generalize W1.setCell ⟨g, 1, none⟩ (.int .i64 (k : Int)) = W2 at *
  have g2 : W2.grownBy (W2.setCell ⟨bv, 0, none⟩ (.slice none 0 0)) (some bv) := grown_set (grown_refl _ _) 0 _
  have r3 := r2.off b2.noU8s g2 n1; have b3 := b2.set (.slice none 0 0); have e3 := e2.far g2 n3.symm
  generalize W2.setCell ⟨bv, 0, none⟩ (.slice none 0 0) = W3 at *
  have g3 : W3.grownBy (W3.setCell ⟨be, 0, none⟩ (.int .i64 er)) (some be) := grown_set (grown_refl _ _) 0 _
  have r4 := r3.off e3.noU8 g3 n2; have b4 := b3.far g3 n3; have e4 := e3.set (.int .i64 er)
  refine ⟨r4, b4, e4, fun B h1 h2 h3 w0 hB hg => ?_⟩
  exact grown_new (grown_new (grown_trans (grown_ext hg hx) g1) g2 (by omega)) g3 (by omega)

set_option maxRecDepth 100000 in
theorem data_idle (p0 p1 p2 p3 : Addr) (w : World) :
    CallsD Tryz.prog 88 #[.pointer (some p0), .pointer (some p1), .pointer (some p2), .pointer (some p3)] .returning w fun e u' w' => e = .returned (.tuple #[]) ∧ u' = .returning ∧ w' = w := by
  have ta : ∀ w : World, (Instr.typeAssert .nilIface 20 31 true).run Tryz.prog w = .ok (.tuple #[.int .i64 0, .bool false]) w := fun _ => by kernel_rfl
  refine callsD_of_wpS Tryz.func88 rfl fun c₀ cs hu => ?_
  simp only [Tryz.ntmps88, List.size_toArray, List.length_cons, List.length_nil, Nat.reduceAdd, Nat.reduceSub, Array.replicate_succ, Array.replicate_zero, List.push_toArray, List.append_toArray, List.nil_append, List.cons_append]
  apply wpS_seq
  apply wpS_region
  simp [wpOpsS, go_sem, recoverD, hu, ta, Exit.thenS]
  refine wpS_of_wp ?_
  go_wp2
  cases c₀
  simp_all [bodyPostS, results, Tryz.results88]
set_option maxRecDepth 100000 in
theorem data_panic (bf br bv be g : Nat) (er : Int) (older : List PanicEntry) (l : List UInt8) (k k' : Nat) (p : Option Addr) (n c : Nat) (w : World) (n1 : g ≠ bv) (n2 : g ≠ be) (n3 : bv ≠ be)
    (h0 : B1 3 w bf (.int .i64 (k : Int))) (h1 : B1 40 w br (.pointer (some ⟨g, 0, none⟩))) (h2 : B1 61 w bv (.slice p n c)) (h3 : B1 31 w be (.int .i64 0)) (h : RD 72 w g l k') :
    CallsD Tryz.prog 88 #[.pointer (some ⟨bf, 0, none⟩), .pointer (some ⟨br, 0, none⟩), .pointer (some ⟨bv, 0, none⟩), .pointer (some ⟨be, 0, none⟩)] (.panicking ({ v := .iface 31 (.int .i64 er), recovered := false } :: older)) w fun e u' w' =>
      e = .returned (.tuple #[]) ∧ u' = .panicking ({ v := .iface 31 (.int .i64 er), recovered := true } :: older) ∧ FixedD w w' g k bv be er := by
  have ta : ∀ w : World, (Instr.typeAssert (.iface 31 (.int .i64 er)) 20 31 true).run Tryz.prog w = .ok (.tuple #[.int .i64 er, .bool true]) w := fun _ => by kernel_rfl
  refine callsD_of_wpS Tryz.func88 rfl fun c₀ cs hu => ?_
  simp only [Tryz.ntmps88, List.size_toArray, List.length_cons, List.length_nil, Nat.reduceAdd, Nat.reduceSub, Array.replicate_succ, Array.replicate_zero, List.push_toArray, List.append_toArray, List.nil_append, List.cons_append]
  apply wpS_seq
  apply wpS_region
  simp [wpOpsS, go_sem, recoverD, hu, ta, Exit.thenS]
  have hx := Ext.refl w
  have c0 := (h0.ext hx).cell; have c1 := (h1.ext hx).cell; have c3 := (h3.ext hx).cell; have d0 := h2.cell
  have f2 := h2.soft; have f3 := h3.soft
  obtain ⟨Ax, cx, hbx, k0, k1, k2, kf⟩ := (h.ext hx).cells
  have l1 := h.lt; have l2 := h2.lt; have l3 := h3.lt
  have m1 : ¬ bv = g := fun e => n1 e.symm
  have m2 : ¬ be = g := fun e => n2 e.symm
  have m3 : ¬ be = bv := fun e => n3 e.symm
  refine wpS_of_wp ?_
  go_wp2
  cases c₀
  have hfix : FixedD w (((w.setCell ⟨g, 1, none⟩ (.int .i64 (k : Int))).setCell ⟨bv, 0, none⟩ (.slice none 0 0)).setCell ⟨be, 0, none⟩ (.int .i64 er)) g k bv be er := ⟨w, hx, rfl⟩
  exact ⟨rfl, _, rfl, .tuple #[], results_none rfl _ _ _, rfl, rfl, hfix⟩

theorem boxesD (w : World) (P : Value) (k : Int) : ∃ W3, (((w.alloc (.cells #[P] 40)).alloc (.cells #[.slice none 0 0] 61)).alloc (.cells #[.int .i64 0] 31)).alloc (.cells #[.int .i64 k] 3) = W3 ∧ Ext w W3 ∧
    B1 40 W3 w.heap.size P ∧ B1 61 W3 (w.heap.size + 1) (.slice none 0 0) ∧ B1 31 W3 (w.heap.size + 1 + 1) (.int .i64 0) ∧ B1 3 W3 (w.heap.size + 1 + 1 + 1) (.int .i64 k) ∧ W3.heap.size = w.heap.size + 4 := by
  refine ⟨_, rfl, (((Ext.refl w).alloc _).alloc _).alloc _ |>.alloc _, ?_, ?_, ?_, ?_, by simp⟩
  · exact (B1.new _ w P).ext ((((Ext.refl _).alloc _).alloc _).alloc _)
  · have := (B1.new 61 (w.alloc (.cells #[P] 40)) (.slice none 0 0)).ext (((Ext.refl _).alloc (.cells #[.int .i64 0] 31)).alloc (.cells #[.int .i64 k] 3))
    simpa using this
  · have := (B1.new 31 ((w.alloc (.cells #[P] 40)).alloc (.cells #[.slice none 0 0] 61)) (.int .i64 0)).ext ((Ext.refl _).alloc (.cells #[.int .i64 k] 3))
    simpa using this
  · have := B1.new 3 (((w.alloc (.cells #[P] 40)).alloc (.cells #[.slice none 0 0] 61)).alloc (.cells #[.int .i64 0] 31)) (.int .i64 k)
    simpa using this
theorem endsD {T T' : TypeId} {w W3 w1 : World} {g bv be : Nat} {l : List UInt8} {k' : Nat} {L : List (Int × List UInt8)} {A : Option Addr} {n c : Nat} {p0 : Option Addr} {n0 c0 : Nat} (hx3 : Ext w W3) (hg1 : W3.grownBy w1 (some g)) (hr1 : RD 72 w1 g l k') (hob : DOV 62 w1 W3.heap.size (.slice A n c) L)
    (hb : B1 T w1 bv (.slice p0 n0 c0)) (he : B1 T' w1 be (.int .i64 0)) (n1 : g ≠ bv) (n2 : g ≠ be) (n3 : bv ≠ be) (s1 : w.heap.size ≤ bv) (s2 : w.heap.size ≤ be) (s3 : bv < W3.heap.size) (s4 : be < W3.heap.size) (E : Int) :
    ∃ W4, (w1.setCell ⟨bv, 0, none⟩ (.slice A n c)).setCell ⟨be, 0, none⟩ (.int .i64 E) = W4 ∧
      w.grownBy W4 (some g) ∧ RD 72 W4 g l k' ∧ DOV 62 W4 w.heap.size (.slice A n c) L ∧ W4.cell? ⟨bv, 0, none⟩ = some (.slice A n c) ∧ W4.cell? ⟨be, 0, none⟩ = some (.int .i64 E) := by
  refine ⟨_, rfl, ?_⟩
  have g2 : w1.grownBy (w1.setCell ⟨bv, 0, none⟩ (.slice A n c)) (some bv) := grown_set (grown_refl _ _) 0 _
  have v1 : (Value.slice A n c).ownBlock ≠ some bv := by intro e; have := (hob.lt bv e).1; omega
  have v2 : (Value.slice A n c).ownBlock ≠ some be := by intro e; have := (hob.lt be e).1; omega
  have r3 := hr1.off hb.noU8s g2 n1; have b3 := hb.set (.slice A n c); have e3 := he.far g2 n3.symm; have o3 := hob.off hb.noU8s g2 v1
  generalize w1.setCell ⟨bv, 0, none⟩ (.slice A n c) = w3 at *
  have g3 : w3.grownBy (w3.setCell ⟨be, 0, none⟩ (.int .i64 E)) (some be) := grown_set (grown_refl _ _) 0 _
  have b4 := b3.far g3 n3; have e4 := e3.set (.int .i64 E)
  exact ⟨grown_new (grown_new (grown_trans (hx3.but _) hg1) g2 s1) g3 s2, r3.off e3.noU8 g3 n2, (o3.off e3.noU8 g3 v2).down hx3.size, b4.cell, e4.cell⟩

/-- What the reading of data leaves. -/
def DatOut (w : World) (g : Nat) (l : List UInt8) (k : Nat) (m : List UInt8) (e : Ending) (w' : World) : Prop :=
  w.grownBy w' (some g) ∧ ((∃ (L : List (Int × List UInt8)) (used : Nat) (A : Option Addr) (c : Nat), e = .returned (.tuple #[.slice A L.length c, .int .i64 0]) ∧ used ≤ m.length ∧ m.take used = dataF L ∧ dataF L ≠ [] ∧ DOV 62 w' w.heap.size (.slice A L.length c) L ∧ RD 72 w' g l (k + used)) ∨ (∃ er : Nat, er ≠ 0 ∧ e = .returned (.tuple #[.slice none 0 0, .int .i64 (er : Int)]) ∧ RD 72 w' g l k))
set_option maxRecDepth 100000 in
set_option maxHeartbeats 1000000 in
theorem structured_data_at (g : Nat) (l : List UInt8) (k : Nat) (m : List UInt8) (hm : l.drop k = m) (hl0 : m.length ≤ 900) (w : World) (h : RD 72 w g l k) :
    Calls Tryz.prog 63 #[.pointer (some ⟨g, 0, none⟩), .func (.func 64) #[] #[]] w (DatOut w g l k m) := by
  have hgl := h.lt
  have hkl := h.le
  have HK := Lib.hid (fun W hW => Data1_at g l k m hm hl0 W hW)
  clear hm
  have hmf : ∀ (fn : Fn) (first cap : Array Value) (w : World), (Instr.makeFunc fn first cap).run Tryz.prog w = .ok (.func fn first cap) w := fun _ _ _ _ => rfl
  obtain ⟨W3, hw3, hx3, hp3, hb3, he3, hi3, hs3⟩ := boxesD w (.pointer (some ⟨g, 0, none⟩)) k
  have HX3 := Lib.hid hx3; have HP3 := Lib.hid hp3; have HB3 := Lib.hid hb3; have HE3 := Lib.hid he3; have HI3 := Lib.hid hi3; have HS3 := Lib.hid hs3
  have cp := hp3.cell
  clear hp3 hb3 he3 hi3 hs3
  obtain ⟨Ax, cx, hbx, k0, k1, k2, kf⟩ := (h.ext ((((Ext.refl w).alloc (.cells #[.pointer (some ⟨g, 0, none⟩)] 40)).alloc (.cells #[.slice none 0 0] 61)).alloc (.cells #[.int .i64 0] 31))).cells
  go_enter_defers Tryz.func63, Tryz.ntmps63
  go_wp2_with fail
  refine (HK.out W3 (h.ext hx3)).mono ?_
  rintro e w1 ⟨hg1, ⟨L, used, V, rfl, hu, ht, hne, hdv, hr1⟩ | ⟨er, her, hee, k1', hr1⟩⟩
  · obtain ⟨A1, c1, rfl⟩ := hdv.shape
    have HU := Lib.hid (And.intro hu (And.intro ht hne)); clear hu ht hne
    have hb1 := HB3.out.far hg1 (by omega)
    have q0 := hb1.cell
    have f0 := hb1.soft
    have he1 := HE3.out.far hg1 (by omega)
    have q3 := he1.cell
    have f3 := he1.soft
    obtain ⟨W4, hW4, hg4, hr4, hob4, d0, d3⟩ := endsD hx3 hg1 hr1 hdv hb1 he1 (by omega) (by omega) (by omega) (by omega) (by omega) (by have := HS3.out; omega) (by have := HS3.out; omega) 0
    clear hb1 he1
    clear hw3
    go_wp2_with fail
    refine leaves_cons (f := 88) (args := #[.pointer (some ⟨w.heap.size + 1 + 1 + 1, 0, none⟩), .pointer (some ⟨w.heap.size, 0, none⟩), .pointer (some ⟨w.heap.size + 1, 0, none⟩), .pointer (some ⟨w.heap.size + 1 + 1, 0, none⟩)]) (by simp) (by simp [go_sem]) ?_
    refine (data_idle _ _ _ _ _).mono ?_
    rintro e u' w'' ⟨rfl, rfl, rfl⟩
    exact ⟨.tuple #[.slice A1 L.length c1, .int .i64 0], by simp [results, Tryz.results63, go_sem, d0, d3], hg4, .inl ⟨L, used, A1, c1, rfl, HU.out.1, HU.out.2.1, HU.out.2.2, hob4, hr4⟩⟩
  · unfold erp at hee
    subst hee
    have hp1 := HP3.out.far hg1 (by omega)
    have hb1 := HB3.out.far hg1 (by omega)
    have he1 := HE3.out.far hg1 (by omega)
    have hi1 := HI3.out.far hg1 (by omega)
    have HP1 := Lib.hid hp1; have HB1 := Lib.hid hb1; have HE1 := Lib.hid he1; have HI1 := Lib.hid hi1
    have HER := Lib.hid her
    clear hp1 hb1 he1 hi1 her
    go_wp2_with fail
    refine leaves_cons (f := 88) (args := #[.pointer (some ⟨w.heap.size + 1 + 1 + 1, 0, none⟩), .pointer (some ⟨w.heap.size, 0, none⟩), .pointer (some ⟨w.heap.size + 1, 0, none⟩), .pointer (some ⟨w.heap.size + 1 + 1, 0, none⟩)]) (by simp) (by simp [go_sem]) ?_
    refine (data_panic _ _ _ _ g _ [] l k k1' _ _ _ w1 (by omega) (by omega) (by omega) HI1.out HP1.out HB1.out HE1.out hr1).mono ?_
    rintro e u' w'' ⟨rfl, rfl, hfix⟩
    obtain ⟨hr2, hb2, he2, hgr⟩ := hfix.gives hr1 hkl HB1.out HE1.out (by omega) (by omega) (by omega)
    have d0 := hb2.cell
    have d3 := he2.cell
    exact ⟨.tuple #[.slice none 0 0, .int .i64 (er : Int)], by simp [results, Tryz.results63, go_sem, d0, d3], hgr w.heap.size (by omega) (by omega) (by have := hg1.size; have := HS3.out; omega) w rfl (grown_trans (hx3.but _) hg1), .inr ⟨er, HER.out, rfl, hr2⟩⟩
end Go.Proofs.YthpfomjibfbiiaaGreatDoor
