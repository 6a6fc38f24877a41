/- structured: the deferred closures. -/
import Derived.Test.YtmbmhepmeajnoaaDer19
import Derived.Defers
import Derived.Recover
namespace Go.Proofs.Ytmbmhepmeajnoaa
open Go Go.RowKit

/-- What the deferred closure leaves: the reader's offset as it was, the zero value, the error. -/
def Fixed3 (w w' : World) (g k bv be : Nat) (er : Int) : Prop := ∃ W1, Ext w W1 ∧ w' = (((((W1.setCell ⟨g, 1, none⟩ (.int .i64 (k : Int))).setCell ⟨bv, 0, none⟩ (.int .i64 0)).setCell ⟨bv, 1, none⟩ (.int .i64 0)).setCell ⟨bv, 2, none⟩ (.slice none 0 0)).setCell ⟨be, 0, none⟩ (.int .i64 er)).drew
theorem B3.noU8 {T : TypeId} {w : World} {b : Nat} {x y : Int} {p : Option Addr} {n c : Nat} (hb : B3 T w b (.int .i64 x) (.int .i64 y) (.slice p n c)) : NoU8 w b := by
  intro q hq v hv
  unfold World.cell? at hv
  rw [hq, hb] at hv
  simp only at hv
  split at hv
  · cases hv
  · obtain ⟨hlt, he⟩ := Array.getElem?_eq_some_iff.1 hv
    have h3 : q.off = 0 ∨ q.off = 1 ∨ q.off = 2 := by simp at hlt; omega
    rcases h3 with h | h | h <;> simp [h] at he
theorem B1.noU8 {T : TypeId} {w : World} {b : Nat} {x : Int} (hb : B1 T w b (.int .i64 x)) : NoU8 w b := by
  intro q hq v hv
  unfold World.cell? at hv
  rw [hq, hb] at hv
  simp only at hv
  split at hv
  · cases hv
  · obtain ⟨hlt, he⟩ := Array.getElem?_eq_some_iff.1 hv
    have h3 : q.off = 0 := by simp at hlt; omega
    simp [h3] at he
theorem RD.off {T : TypeId} {w w' : World} {g b : Nat} {l : List UInt8} {k : Nat} (h : RD T w g l k) (hn : NoU8 w b) (hg : w.grownBy w' (some b)) (hne : g ≠ b) : RD T w' g l k := by
  obtain ⟨h1, A, c, hh, hbs⟩ := h
  exact ⟨h1, A, c, (hg.block g (Array.getElem?_eq_some_iff.1 hh).1 (by intro e; exact hne (by injection e))).trans hh, hbs.but hn hg⟩
theorem Fixed3.gives {T2 T3 : TypeId} {w w' : World} {g k bv be : Nat} {er x y : Int} {p : Option Addr} {n c : Nat} (hf : Fixed3 w w' g k bv be er) {l : List UInt8} {k' : Nat} (h : RD 62 w g l k') (hk : k ≤ l.length)
    (h2 : B3 T2 w bv (.int .i64 x) (.int .i64 y) (.slice p n c)) (h3 : B1 T3 w be (.int .i64 0)) (n1 : g ≠ bv) (n2 : g ≠ be) (n3 : bv ≠ be) :
    RD 62 w' g l k ∧ B3 T2 w' bv (.int .i64 0) (.int .i64 0) (.slice none 0 0) ∧ B1 T3 w' be (.int .i64 er) ∧ (∀ B, B ≤ bv → B ≤ be → B ≤ w.heap.size → ∀ w0 : World, w0.heap.size = B → w0.grownBy w (some g) → w0.grownBy w' (some g)) := by
  obtain ⟨W1, hx, rfl⟩ := hf
  have r1 := h.ext hx; have b1 := h2.ext hx; have e1 := h3.ext hx
  have g1 : W1.grownBy (W1.setCell ⟨g, 1, none⟩ (.int .i64 (k : Int))) (some g) := grown_set (grown_refl _ _) 1 _
  have r2 := r1.moved k hk _ rfl; have b2 := b1.far g1 n1.symm; have e2 := e1.far g1 n2.symm
  generalize W1.setCell ⟨g, 1, none⟩ (.int .i64 (k : Int)) = W2 at *
  have g2 : W2.grownBy (((W2.setCell ⟨bv, 0, none⟩ (.int .i64 0)).setCell ⟨bv, 1, none⟩ (.int .i64 0)).setCell ⟨bv, 2, none⟩ (.slice none 0 0)) (some bv) := grown_set (grown_set (grown_set (grown_refl _ _) 0 _) 1 _) 2 _
  have r3 := r2.off b2.noU8 g2 n1; have b3 := ((b2.set0 (.int .i64 0)).set1 (.int .i64 0)).set2 (.slice none 0 0); have e3 := e2.far g2 n3.symm
  generalize ((W2.setCell ⟨bv, 0, none⟩ (.int .i64 0)).setCell ⟨bv, 1, none⟩ (.int .i64 0)).setCell ⟨bv, 2, none⟩ (.slice none 0 0) = W3 at *
  have g3 : W3.grownBy (W3.setCell ⟨be, 0, none⟩ (.int .i64 er)) (some be) := grown_set (grown_refl _ _) 0 _
  have r4 := r3.off e3.noU8 g3 n2; have b4 := b3.far g3 n3; have e4 := e3.set (.int .i64 er)
  have hd := Ext.drew (W3.setCell ⟨be, 0, none⟩ (.int .i64 er))
  refine ⟨r4.ext hd, b4.ext hd, e4.ext hd, fun B h1 h2 h3 w0 hB hg => ?_⟩
  exact grown_ext (grown_new (grown_new (grown_trans (grown_ext hg hx) g1) g2 (by omega)) g3 (by omega)) hd

set_option maxRecDepth 100000 in
theorem key_idle (p0 p1 p2 p3 : Addr) (w : World) :
    CallsD Try.prog 93 #[.pointer (some p0), .pointer (some p1), .pointer (some p2), .pointer (some p3)] .returning w fun e u' w' => e = .returned (.tuple #[]) ∧ u' = .returning ∧ w' = w := by
  have ta : ∀ w : World, (Instr.typeAssert .nilIface 20 43 true).run Try.prog w = .ok (.tuple #[.int .i64 0, .bool false]) w := fun _ => by kernel_rfl
  refine callsD_of_wpS Try.func93 rfl fun c₀ cs hu => ?_
  simp only [Try.ntmps93, List.size_toArray, List.length_cons, List.length_nil, Nat.reduceAdd, Nat.reduceSub, Array.replicate_succ, Array.replicate_zero, List.push_toArray, List.append_toArray, List.nil_append, List.cons_append]
  apply wpS_seq
  apply wpS_region
  simp [wpOpsS, go_sem, recoverD, hu, ta, Exit.thenS]
  refine wpS_of_wp ?_
  go_wp2
  cases c₀
  simp_all [bodyPostS, results, Try.results93]
set_option maxRecDepth 100000 in
theorem key_panic (bf br bv be g : Nat) (er : Int) (older : List PanicEntry) (l : List UInt8) (k k' : Nat) (x y z : Value) (w : World) (n1 : g ≠ bv) (n2 : g ≠ be) (n3 : bv ≠ be)
    (h0 : B1 3 w bf (.int .i64 (k : Int))) (h1 : B1 41 w br (.pointer (some ⟨g, 0, none⟩))) (h2 : B3 49 w bv x y z) (h3 : B1 43 w be (.int .i64 0)) (h : RD 62 w g l k') :
    CallsD Try.prog 93 #[.pointer (some ⟨bf, 0, none⟩), .pointer (some ⟨br, 0, none⟩), .pointer (some ⟨bv, 0, none⟩), .pointer (some ⟨be, 0, none⟩)] (.panicking ({ v := .iface 43 (.int .i64 er), recovered := false } :: older)) w fun e u' w' =>
      e = .returned (.tuple #[]) ∧ u' = .panicking ({ v := .iface 43 (.int .i64 er), recovered := true } :: older) ∧ Fixed3 w w' g k bv be er := by
  have ta : ∀ w : World, (Instr.typeAssert (.iface 43 (.int .i64 er)) 20 43 true).run Try.prog w = .ok (.tuple #[.int .i64 er, .bool true]) w := fun _ => by kernel_rfl
  refine callsD_of_wpS Try.func93 rfl fun c₀ cs hu => ?_
  simp only [Try.ntmps93, List.size_toArray, List.length_cons, List.length_nil, Nat.reduceAdd, Nat.reduceSub, Array.replicate_succ, Array.replicate_zero, List.push_toArray, List.append_toArray, List.nil_append, List.cons_append]
  apply wpS_seq
  apply wpS_region
  simp [wpOpsS, go_sem, recoverD, hu, ta, Exit.thenS]
  have hx := (Ext.refl w).alloc (.cells #[.int .i64 0, .int .i64 0, .slice none 0 0] 49)
  have c0 := (h0.ext hx).cell; have c1 := (h1.ext hx).cell; have c3 := (h3.ext hx).cell; obtain ⟨d0, d1, d2⟩ := (h2.ext hx).cells
  have f2 := (h2.ext hx).soft 0; have f20 := (h2.ext hx).soft 1; have f21 := (h2.ext hx).soft 2; have f3 := (h3.ext hx).soft
  obtain ⟨Ax, cx, hbx, k0, k1, k2, kf⟩ := (h.ext hx).cells
  obtain ⟨z0, z1, z2⟩ := (B3.new 49 w (.int .i64 0) (.int .i64 0) (.slice none 0 0)).cells
  have l1 := h.lt; have l2 := h2.lt; have l3 := h3.lt
  have s1 : ¬ w.heap.size = g := by omega
  have s2 : ¬ w.heap.size = bv := by omega
  have s3 : ¬ w.heap.size = be := by omega
  have m1 : ¬ bv = g := fun e => n1 e.symm
  have m2 : ¬ be = g := fun e => n2 e.symm
  have m3 : ¬ be = bv := fun e => n3 e.symm
  refine wpS_of_wp ?_
  go_wp2
  generalize w.alloc (.cells #[.int .i64 0, .int .i64 0, .slice none 0 0] 49) = W1 at *
  go_region
  cases c₀
  have hfix : Fixed3 w (((((W1.setCell ⟨g, 1, none⟩ (.int .i64 (k : Int))).setCell ⟨bv, 0, none⟩ (.int .i64 0)).setCell ⟨bv, 1, none⟩ (.int .i64 0)).setCell ⟨bv, 2, none⟩ (.slice none 0 0)).setCell ⟨be, 0, none⟩ (.int .i64 er)).drew g k bv be er := ⟨W1, hx, rfl⟩
  exact ⟨rfl, _, rfl, .tuple #[], results_none rfl _ _ _, rfl, rfl, hfix⟩

theorem tripleRd_zero (m : List UInt8) (h : (tripleRd m).2.1 ≠ 0) : tripleRd m = ((0, 0, []), (tripleRd m).2.1, 0) := by
  unfold tripleRd at h ⊢
  by_cases h1 : (readInF 48 m).2.1 ≠ 0
  · rw [if_pos h1]
  · rw [if_neg h1] at h ⊢
    by_cases h2 : (tripleIn ((readInF 48 m).1.getD [])).2 ≠ 0
    · rw [if_pos h2]
    · rw [if_neg h2] at h
      exact absurd rfl h
theorem boxesK (T : TypeId) (w : World) (P : Value) (k : Int) : ∃ W3, (((w.alloc (.cells #[P] 41)).alloc (.cells #[.int .i64 0, .int .i64 0, .slice none 0 0] T)).alloc (.cells #[.int .i64 0] 43)).alloc (.cells #[.int .i64 k] 3) = W3 ∧ Ext w W3 ∧
    B1 41 W3 w.heap.size P ∧ B3 T W3 (w.heap.size + 1) (.int .i64 0) (.int .i64 0) (.slice none 0 0) ∧ B1 43 W3 (w.heap.size + 1 + 1) (.int .i64 0) ∧ B1 3 W3 (w.heap.size + 1 + 1 + 1) (.int .i64 k) ∧ W3.heap.size = w.heap.size + 4 := by
  refine ⟨_, rfl, (((Ext.refl w).alloc _).alloc _).alloc _ |>.alloc _, ?_, ?_, ?_, ?_, by simp⟩
  · exact (B1.new _ w P).ext ((((Ext.refl _).alloc _).alloc _).alloc _)
  · have := (B3.new T (w.alloc (.cells #[P] 41)) (.int .i64 0) (.int .i64 0) (.slice none 0 0)).ext (((Ext.refl _).alloc (.cells #[.int .i64 0] 43)).alloc (.cells #[.int .i64 k] 3))
    simpa using this
  · have := (B1.new 43 ((w.alloc (.cells #[P] 41)).alloc (.cells #[.int .i64 0, .int .i64 0, .slice none 0 0] T)) (.int .i64 0)).ext ((Ext.refl _).alloc (.cells #[.int .i64 k] 3))
    simpa using this
  · have := B1.new 3 (((w.alloc (.cells #[P] 41)).alloc (.cells #[.int .i64 0, .int .i64 0, .slice none 0 0] T)).alloc (.cells #[.int .i64 0] 43)) (.int .i64 k)
    simpa using this
theorem setE {w w1 : World} {g b : Nat} (h : w.grownBy w1 (some g)) (hb : w.heap.size ≤ b) (u : Value) : w.grownBy (w1.setCell ⟨b, 0, none⟩ u) (some g) :=
  grown_new h (grown_set (grown_refl w1 (some b)) 0 u) hb

theorem endsOk {T T' : TypeId} {w W3 w1 : World} {g bv be : Nat} {l : List UInt8} {k' : Nat} {A : Option Addr} {c : Nat} {b : List UInt8} {x y : Int} {p0 : Option Addr} {n0 c0 : Nat} (hx3 : Ext w W3) (hg1 : W3.grownBy w1 (some g)) (hr1 : RD 62 w1 g l k') (hob : OB 5 w1 W3.heap.size (.slice A b.length c) b)
    (hb : B3 T w1 bv (.int .i64 x) (.int .i64 y) (.slice p0 n0 c0)) (he : B1 T' w1 be (.int .i64 0)) (n1 : g ≠ bv) (n2 : g ≠ be) (n3 : bv ≠ be) (s1 : w.heap.size ≤ bv) (s2 : w.heap.size ≤ be) (s3 : bv < W3.heap.size) (s4 : be < W3.heap.size) (P V E : Int) :
    ∃ W4, (((w1.setCell ⟨bv, 0, none⟩ (.int .i64 P)).setCell ⟨bv, 1, none⟩ (.int .i64 V)).setCell ⟨bv, 2, none⟩ (.slice A b.length c)).setCell ⟨be, 0, none⟩ (.int .i64 E) = W4 ∧
      w.grownBy W4 (some g) ∧ RD 62 W4 g l k' ∧ OB 5 W4 w.heap.size (.slice A b.length c) b ∧
      W4.cell? ⟨bv, 0, none⟩ = some (.int .i64 P) ∧ W4.cell? ⟨bv, 1, none⟩ = some (.int .i64 V) ∧ W4.cell? ⟨bv, 2, none⟩ = some (.slice A b.length c) ∧ W4.cell? ⟨be, 0, none⟩ = some (.int .i64 E) := by
  refine ⟨_, rfl, ?_⟩
  have g2 : w1.grownBy (((w1.setCell ⟨bv, 0, none⟩ (.int .i64 P)).setCell ⟨bv, 1, none⟩ (.int .i64 V)).setCell ⟨bv, 2, none⟩ (.slice A b.length c)) (some bv) := grown_set (grown_set (grown_set (grown_refl _ _) 0 _) 1 _) 2 _
  have r3 := hr1.off hb.noU8 g2 n1; have b3 := ((hb.set0 (.int .i64 P)).set1 (.int .i64 V)).set2 (.slice A b.length c); have e3 := he.far g2 n3.symm; have o3 := OB.off hob g2 s3
  generalize ((w1.setCell ⟨bv, 0, none⟩ (.int .i64 P)).setCell ⟨bv, 1, none⟩ (.int .i64 V)).setCell ⟨bv, 2, none⟩ (.slice A b.length c) = w3 at *
  have g3 : w3.grownBy (w3.setCell ⟨be, 0, none⟩ (.int .i64 E)) (some be) := grown_set (grown_refl _ _) 0 _
  have b4 := b3.far g3 n3; have e4 := e3.set (.int .i64 E)
  exact ⟨grown_new (grown_new (grown_trans (hx3.but _) hg1) g2 s1) g3 s2, r3.off e3.noU8 g3 n2, (OB.off o3 g3 s4).mono hx3.size, b4.cells.1, b4.cells.2.1, b4.cells.2.2, e4.cell⟩

set_option maxRecDepth 100000 in
set_option maxHeartbeats 1000000 in
theorem structured_key_at (g : Nat) (l : List UInt8) (k : Nat) (m : List UInt8) (hm : l.drop k = m) (hl0 : m.length ≤ 140737488355328) (p v : Int) (b : List UInt8) (er used : Nat) (hR : tripleRd m = ((p, v, b), er, used)) (w : World) (h : RD 62 w g l k) :
    Calls Try.prog 81 #[.pointer (some ⟨g, 0, none⟩), .func (.func 82) #[] #[]] w fun e w' =>
      w.grownBy w' (some g) ∧ RD 62 w' g l (k + used) ∧ ∃ A c, e = .returned (.tuple #[.agg #[.int .i64 p, .int .i64 v, .slice A b.length c], .int .i64 (er : Int)]) ∧ OB 5 w' w.heap.size (.slice A b.length c) b := by
  have hgl := h.lt
  have hkl := h.le
  have hz := tripleRd_zero m
  have HK := Lib.hid (fun W hW => Key1_at g l k m hm hl0 W hW)
  rw [hR] at hz HK
  have HZ := Lib.hid hz
  clear hR hm hz
  have hmf : ∀ (fn : Fn) (first cap : Array Value) (w : World), (Instr.makeFunc fn first cap).run Try.prog w = .ok (.func fn first cap) w := fun _ _ _ _ => rfl
  obtain ⟨W3, hw3, hx3, hp3, hb3, he3, hi3, hs3⟩ := boxesK 49 w (.pointer (some ⟨g, 0, none⟩)) k
  have HX3 := Lib.hid hx3; have HP3 := Lib.hid hp3; have HB3 := Lib.hid hb3; have HE3 := Lib.hid he3; have HI3 := Lib.hid hi3; have HS3 := Lib.hid hs3
  have cp := hp3.cell
  clear hp3 hb3 he3 hi3 hs3
  obtain ⟨Ax, cx, hbx, k0, k1, k2, kf⟩ := (h.ext ((((Ext.refl w).alloc (.cells #[.pointer (some ⟨g, 0, none⟩)] 41)).alloc (.cells #[.int .i64 0, .int .i64 0, .slice none 0 0] 49)).alloc (.cells #[.int .i64 0] 43))).cells
  go_enter_defers Try.func81, Try.ntmps81
  go_wp2_with fail
  refine (HK.out W3 (h.ext hx3)).mono ?_
  rintro e w1 ⟨hg1, ⟨he, hr1, A1, c1, rfl, hob⟩ | ⟨he, ⟨k1', hr1⟩, hee⟩⟩
  · dsimp only at he hr1 hob
    subst he
    have hb1 := HB3.out.far hg1 (by omega)
    obtain ⟨q0, q1, q2⟩ := hb1.cells
    have f0 := hb1.soft 0; have f1 := hb1.soft 1; have f2 := hb1.soft 2
    have he1 := HE3.out.far hg1 (by omega)
    have q3 := he1.cell
    have f3 := he1.soft
    obtain ⟨W4, hW4, hg4, hr4, hob4, d0, d1, d2, d3⟩ := endsOk hx3 hg1 hr1 hob hb1 he1 (by omega) (by omega) (by omega) (by omega) (by omega) (by have := HS3.out; omega) (by have := HS3.out; omega) p v 0
    clear hb1 he1
    clear hw3
    go_wp2_with fail
    refine leaves_cons (f := 93) (args := #[.pointer (some ⟨w.heap.size + 1 + 1 + 1, 0, none⟩), .pointer (some ⟨w.heap.size, 0, none⟩), .pointer (some ⟨w.heap.size + 1, 0, none⟩), .pointer (some ⟨w.heap.size + 1 + 1, 0, none⟩)]) (by simp) (by simp [go_sem]) ?_
    refine (key_idle _ _ _ _ _).mono ?_
    rintro e u' w'' ⟨rfl, rfl, rfl⟩
    exact ⟨.tuple #[.agg #[.int .i64 p, .int .i64 v, .slice A1 b.length c1], .int .i64 0], by simp [results, Try.results81, go_sem, d0, d1, d2, d3], hg4, hr4, A1, c1, rfl, hob4⟩
  · unfold erp at hee
    subst hee
    dsimp only at he
    have hz := HZ.out he
    simp only [Prod.mk.injEq] at hz
    obtain ⟨⟨rfl, rfl, rfl⟩, _, rfl⟩ := hz
    have hp1 := HP3.out.far hg1 (by omega)
    have hb1 := HB3.out.far hg1 (by omega)
    have he1 := HE3.out.far hg1 (by omega)
    have hi1 := HI3.out.far hg1 (by omega)
    have HP1 := Lib.hid hp1; have HB1 := Lib.hid hb1; have HE1 := Lib.hid he1; have HI1 := Lib.hid hi1
    clear hp1 hb1 he1 hi1 he
    go_wp2_with fail
    refine leaves_cons (f := 93) (args := #[.pointer (some ⟨w.heap.size + 1 + 1 + 1, 0, none⟩), .pointer (some ⟨w.heap.size, 0, none⟩), .pointer (some ⟨w.heap.size + 1, 0, none⟩), .pointer (some ⟨w.heap.size + 1 + 1, 0, none⟩)]) (by simp) (by simp [go_sem]) ?_
    refine (key_panic _ _ _ _ g _ [] l k k1' _ _ _ w1 (by omega) (by omega) (by omega) HI1.out HP1.out HB1.out HE1.out hr1).mono ?_
    rintro e u' w'' ⟨rfl, rfl, hfix⟩
    obtain ⟨hr2, hb2, he2, hgr⟩ := hfix.gives hr1 hkl HB1.out HE1.out (by omega) (by omega) (by omega)
    obtain ⟨d0, d1, d2⟩ := hb2.cells
    have d3 := he2.cell
    exact ⟨.tuple #[.agg #[.int .i64 0, .int .i64 0, .slice none 0 0], .int .i64 (er : Int)], by simp [results, Try.results81, go_sem, d0, d1, d2, d3], hgr w.heap.size (by omega) (by omega) (by have := hg1.size; have := HS3.out; omega) w rfl (grown_trans (hx3.but _) hg1), hr2, none, 0, rfl, OB.nil _ _ _⟩
end Go.Proofs.Ytmbmhepmeajnoaa
