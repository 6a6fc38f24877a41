/- structured at sealed strings. -/
import Derived.Test.YtmbmhepmeajnoaaDer20
namespace Go.Proofs.Ytmbmhepmeajnoaa
open Go Go.RowKit

set_option maxRecDepth 100000 in
theorem sealed_idle (p0 p1 p2 p3 : Addr) (w : World) :
    CallsD Try.prog 94 #[.pointer (some p0), .pointer (some p1), .pointer (some p2), .pointer (some p3)] .returning w fun e u' w' => e = .returned (.tuple #[]) ∧ u' = .returning ∧ w' = w := by
  have ta : ∀ w : World, (Instr.typeAssert .nilIface 20 43 true).run Try.prog w = .ok (.tuple #[.int .i64 0, .bool false]) w := fun _ => by kernel_rfl
  refine callsD_of_wpS Try.func94 rfl fun c₀ cs hu => ?_
  simp only [Try.ntmps94, List.size_toArray, List.length_cons, List.length_nil, Nat.reduceAdd, Nat.reduceSub, Array.replicate_succ, Array.replicate_zero, List.push_toArray, List.append_toArray, List.nil_append, List.cons_append]
  apply wpS_seq
  apply wpS_region
  simp [wpOpsS, go_sem, recoverD, hu, ta, Exit.thenS]
  refine wpS_of_wp ?_
  go_wp2
  cases c₀
  simp_all [bodyPostS, results, Try.results94]
set_option maxRecDepth 100000 in
theorem sealed_panic (bf br bv be g : Nat) (er : Int) (older : List PanicEntry) (l : List UInt8) (k k' : Nat) (x y z : Value) (w : World) (n1 : g ≠ bv) (n2 : g ≠ be) (n3 : bv ≠ be)
    (h0 : B1 3 w bf (.int .i64 (k : Int))) (h1 : B1 41 w br (.pointer (some ⟨g, 0, none⟩))) (h2 : B3 50 w bv x y z) (h3 : B1 43 w be (.int .i64 0)) (h : RD 62 w g l k') :
    CallsD Try.prog 94 #[.pointer (some ⟨bf, 0, none⟩), .pointer (some ⟨br, 0, none⟩), .pointer (some ⟨bv, 0, none⟩), .pointer (some ⟨be, 0, none⟩)] (.panicking ({ v := .iface 43 (.int .i64 er), recovered := false } :: older)) w fun e u' w' =>
      e = .returned (.tuple #[]) ∧ u' = .panicking ({ v := .iface 43 (.int .i64 er), recovered := true } :: older) ∧ Fixed3 w w' g k bv be er := by
  have ta : ∀ w : World, (Instr.typeAssert (.iface 43 (.int .i64 er)) 20 43 true).run Try.prog w = .ok (.tuple #[.int .i64 er, .bool true]) w := fun _ => by kernel_rfl
  refine callsD_of_wpS Try.func94 rfl fun c₀ cs hu => ?_
  simp only [Try.ntmps94, List.size_toArray, List.length_cons, List.length_nil, Nat.reduceAdd, Nat.reduceSub, Array.replicate_succ, Array.replicate_zero, List.push_toArray, List.append_toArray, List.nil_append, List.cons_append]
  apply wpS_seq
  apply wpS_region
  simp [wpOpsS, go_sem, recoverD, hu, ta, Exit.thenS]
  have hx := (Ext.refl w).alloc (.cells #[.int .i64 0, .int .i64 0, .slice none 0 0] 50)
  have c0 := (h0.ext hx).cell; have c1 := (h1.ext hx).cell; have c3 := (h3.ext hx).cell; obtain ⟨d0, d1, d2⟩ := (h2.ext hx).cells
  have f2 := (h2.ext hx).soft 0; have f20 := (h2.ext hx).soft 1; have f21 := (h2.ext hx).soft 2; have f3 := (h3.ext hx).soft
  obtain ⟨Ax, cx, hbx, k0, k1, k2, kf⟩ := (h.ext hx).cells
  obtain ⟨z0, z1, z2⟩ := (B3.new 50 w (.int .i64 0) (.int .i64 0) (.slice none 0 0)).cells
  have l1 := h.lt; have l2 := h2.lt; have l3 := h3.lt
  have s1 : ¬ w.heap.size = g := by omega
  have s2 : ¬ w.heap.size = bv := by omega
  have s3 : ¬ w.heap.size = be := by omega
  have m1 : ¬ bv = g := fun e => n1 e.symm
  have m2 : ¬ be = g := fun e => n2 e.symm
  have m3 : ¬ be = bv := fun e => n3 e.symm
  refine wpS_of_wp ?_
  go_wp2
  generalize w.alloc (.cells #[.int .i64 0, .int .i64 0, .slice none 0 0] 50) = W1 at *
  go_region
  cases c₀
  have hfix : Fixed3 w (((((W1.setCell ⟨g, 1, none⟩ (.int .i64 (k : Int))).setCell ⟨bv, 0, none⟩ (.int .i64 0)).setCell ⟨bv, 1, none⟩ (.int .i64 0)).setCell ⟨bv, 2, none⟩ (.slice none 0 0)).setCell ⟨be, 0, none⟩ (.int .i64 er)).drew g k bv be er := ⟨W1, hx, rfl⟩
  exact ⟨rfl, _, rfl, .tuple #[], results_none rfl _ _ _, rfl, rfl, hfix⟩

set_option maxRecDepth 100000 in
set_option maxHeartbeats 1000000 in
theorem structured_sealed_at (g : Nat) (l : List UInt8) (k : Nat) (m : List UInt8) (hm : l.drop k = m) (hl0 : m.length ≤ 140737488355328) (p v : Int) (b : List UInt8) (er used : Nat) (hR : tripleRd m = ((p, v, b), er, used)) (w : World) (h : RD 62 w g l k) :
    Calls Try.prog 84 #[.pointer (some ⟨g, 0, none⟩), .func (.func 85) #[] #[]] w fun e w' =>
      w.grownBy w' (some g) ∧ RD 62 w' g l (k + used) ∧ ∃ A c, e = .returned (.tuple #[.agg #[.int .i64 p, .int .i64 v, .slice A b.length c], .int .i64 (er : Int)]) ∧ OB 5 w' w.heap.size (.slice A b.length c) b := by
  have hgl := h.lt
  have hkl := h.le
  have hz := tripleRd_zero m
  have HK := Lib.hid (fun W hW => Sealed1_at g l k m hm hl0 W hW)
  rw [hR] at hz HK
  have HZ := Lib.hid hz
  clear hR hm hz
  have hmf : ∀ (fn : Fn) (first cap : Array Value) (w : World), (Instr.makeFunc fn first cap).run Try.prog w = .ok (.func fn first cap) w := fun _ _ _ _ => rfl
  obtain ⟨W3, hw3, hx3, hp3, hb3, he3, hi3, hs3⟩ := boxesK 50 w (.pointer (some ⟨g, 0, none⟩)) k
  have HX3 := Lib.hid hx3; have HP3 := Lib.hid hp3; have HB3 := Lib.hid hb3; have HE3 := Lib.hid he3; have HI3 := Lib.hid hi3; have HS3 := Lib.hid hs3
  have cp := hp3.cell
  clear hp3 hb3 he3 hi3 hs3
  obtain ⟨Ax, cx, hbx, k0, k1, k2, kf⟩ := (h.ext ((((Ext.refl w).alloc (.cells #[.pointer (some ⟨g, 0, none⟩)] 41)).alloc (.cells #[.int .i64 0, .int .i64 0, .slice none 0 0] 50)).alloc (.cells #[.int .i64 0] 43))).cells
  go_enter_defers Try.func84, Try.ntmps84
  go_wp2_with fail
  refine (HK.out W3 (h.ext hx3)).mono ?_
  rintro e w1 ⟨hg1, ⟨he, hr1, A1, c1, rfl, hob⟩ | ⟨he, ⟨k1', hr1⟩, hee⟩⟩
  · dsimp only at he hr1 hob
    subst he
    have hb1 := HB3.out.far hg1 (by omega)
    obtain ⟨q0, q1, q2⟩ := hb1.cells
    have f0 := hb1.soft 0; have f1 := hb1.soft 1; have f2 := hb1.soft 2
    have he1 := HE3.out.far hg1 (by omega)
    have q3 := he1.cell
    have f3 := he1.soft
    obtain ⟨W4, hW4, hg4, hr4, hob4, d0, d1, d2, d3⟩ := endsOk hx3 hg1 hr1 hob hb1 he1 (by omega) (by omega) (by omega) (by omega) (by omega) (by have := HS3.out; omega) (by have := HS3.out; omega) p v 0
    clear hb1 he1
    clear hw3
    go_wp2_with fail
    refine leaves_cons (f := 94) (args := #[.pointer (some ⟨w.heap.size + 1 + 1 + 1, 0, none⟩), .pointer (some ⟨w.heap.size, 0, none⟩), .pointer (some ⟨w.heap.size + 1, 0, none⟩), .pointer (some ⟨w.heap.size + 1 + 1, 0, none⟩)]) (by simp) (by simp [go_sem]) ?_
    refine (sealed_idle _ _ _ _ _).mono ?_
    rintro e u' w'' ⟨rfl, rfl, rfl⟩
    exact ⟨.tuple #[.agg #[.int .i64 p, .int .i64 v, .slice A1 b.length c1], .int .i64 0], by simp [results, Try.results84, go_sem, d0, d1, d2, d3], hg4, hr4, A1, c1, rfl, hob4⟩
  · unfold erp at hee
    subst hee
    dsimp only at he
    have hz := HZ.out he
    simp only [Prod.mk.injEq] at hz
    obtain ⟨⟨rfl, rfl, rfl⟩, _, rfl⟩ := hz
    have hp1 := HP3.out.far hg1 (by omega)
    have hb1 := HB3.out.far hg1 (by omega)
    have he1 := HE3.out.far hg1 (by omega)
    have hi1 := HI3.out.far hg1 (by omega)
    have HP1 := Lib.hid hp1; have HB1 := Lib.hid hb1; have HE1 := Lib.hid he1; have HI1 := Lib.hid hi1
    clear hp1 hb1 he1 hi1 he
    go_wp2_with fail
    refine leaves_cons (f := 94) (args := #[.pointer (some ⟨w.heap.size + 1 + 1 + 1, 0, none⟩), .pointer (some ⟨w.heap.size, 0, none⟩), .pointer (some ⟨w.heap.size + 1, 0, none⟩), .pointer (some ⟨w.heap.size + 1 + 1, 0, none⟩)]) (by simp) (by simp [go_sem]) ?_
    refine (sealed_panic _ _ _ _ g _ [] l k k1' _ _ _ w1 (by omega) (by omega) (by omega) HI1.out HP1.out HB1.out HE1.out hr1).mono ?_
    rintro e u' w'' ⟨rfl, rfl, hfix⟩
    obtain ⟨hr2, hb2, he2, hgr⟩ := hfix.gives hr1 hkl HB1.out HE1.out (by omega) (by omega) (by omega)
    obtain ⟨d0, d1, d2⟩ := hb2.cells
    have d3 := he2.cell
    exact ⟨.tuple #[.agg #[.int .i64 0, .int .i64 0, .slice none 0 0], .int .i64 (er : Int)], by simp [results, Try.results84, go_sem, d0, d1, d2, d3], hgr w.heap.size (by omega) (by omega) (by have := hg1.size; have := HS3.out; omega) w rfl (grown_trans (hx3.but _) hg1), hr2, none, 0, rfl, OB.nil _ _ _⟩
end Go.Proofs.Ytmbmhepmeajnoaa
