/- Lifetimes: Decode. -/
import Derived.Test.YtfgmmjpejlpdoaaGreatDoorLtD3
namespace Go.Proofs.YtfgmmjpejlpdoaaGreatDoor
open Go Go.RowKit
set_option linter.unusedVariables false

/-- What Decode hands back. -/
def timesDec (b : List UInt8) : (Int × Int × Int × Int) × Nat :=
  if (timesRd b).2.1 ≠ 0 then ((0, 0, 0, 0), (timesRd b).2.1) else if (timesRd b).2.2 < b.length then ((0, 0, 0, 0), 5) else ((timesRd b).1, 0)
theorem TB.far4 {w w1 : World} {n g : Nat} {a s e r : Int} (h : TB w n a s e r) (hg : w.grownBy w1 (some g)) (hne : n ≠ g) : TB w1 n a s e r := h.but hne hg
theorem End_no (g : Nat) (l : List UInt8) (k : Nat) (hk : k < l.length) (w : World) (h : RD 94 w g l k) :
    Calls Tryz.prog 28 #[.pointer (some ⟨g, 0, none⟩)] w fun e w' => e = .returned (.int .i64 5) ∧ Ext w w' := by
  have := End_at g l k w h
  rw [if_pos hk] at this
  exact this
theorem End_yes (g : Nat) (l : List UInt8) (k : Nat) (hk : ¬ k < l.length) (w : World) (h : RD 94 w g l k) :
    Calls Tryz.prog 28 #[.pointer (some ⟨g, 0, none⟩)] w fun e w' => e = .returned (.int .i64 0) ∧ Ext w w' := by
  have := End_at g l k w h
  rw [if_neg hk] at this
  exact this
/-- What four stores into a block of the call's own leave. -/
theorem put4 {w0 W : World} {n : Nat} {a s e r : Int} (hx : Ext w0 W) (hn : w0.heap.size ≤ n) (h : TB W n a s e r) (A S E Q : Int) :
    ∃ WF, (((W.setCell ⟨n, 0, none⟩ (.int .i64 A)).setCell ⟨n, 1, none⟩ (.int .i64 S)).setCell ⟨n, 2, none⟩ (.int .i64 E)).setCell ⟨n, 3, none⟩ (.int .i64 Q) = WF ∧ Ext w0 WF ∧
      WF.cell? ⟨n, 0, none⟩ = some (.int .i64 A) ∧ WF.cell? ⟨n, 1, none⟩ = some (.int .i64 S) ∧ WF.cell? ⟨n, 2, none⟩ = some (.int .i64 E) ∧ WF.cell? ⟨n, 3, none⟩ = some (.int .i64 Q) := by
  have ht := ((((h.set0 A).set1 S).set2 E).set3 Q).cells
  exact ⟨_, rfl, (((hx.setCell hn _).setCell hn _).setCell hn _).setCell hn _, ht.1, ht.2.1, ht.2.2.1, ht.2.2.2⟩

set_option maxRecDepth 100000 in
set_option maxHeartbeats 1000000 in
theorem Decode_at (A0 : Option Addr) (c0 : Nat) (b : List UInt8) (hl : b.length ≤ 140737488355328) (a s e r : Int) (er : Nat) (hres : timesDec b = ((a, s, e, r), er)) (w : World) (hB : BS w (.slice A0 b.length c0) b) :
    Calls Tryz.prog 9 #[.slice A0 b.length c0] w fun en w' => en = .returned (.tuple #[.agg #[.int .i64 a, .int .i64 s, .int .i64 e, .int .i64 r], .int .i64 (er : Int)]) ∧ Ext w w' := by
  obtain ⟨⟨a1, s1, e1, r1⟩, er1, u1, hR⟩ : ∃ T er u, timesRd b = (T, er, u) := ⟨_, _, _, rfl⟩
  unfold timesDec at hres
  rw [hR] at hres
  have HRD := Lib.hid (fun (W : World) (g : Nat) => Read_at g b 0 b rfl W)
  rw [hR] at HRD
  have HZ := Lib.hid (timesRd_zero b)
  rw [hR] at HZ
  clear hR
  have hTn : TB (w.alloc (.cells #[.int .i64 0, .int .i64 0, .int .i64 0, .int .i64 0] 23)) w.heap.size 0 0 0 0 := heap_alloc_new w _
  have HTN := Lib.hid hTn; clear hTn
  have HX0 := Lib.hid ((Ext.refl w).alloc (.cells #[.int .i64 0, .int .i64 0, .int .i64 0, .int .i64 0] 23))
  have hB1 := hB.ext HX0.out
  go_enter Tryz.func9, Tryz.ntmps9
  go_wp2_with fail
  refine (New_at A0 c0 b _ hB1 hl).mono ?_
  rintro en w2 ⟨g, rfl, hBg, hr2, hx2⟩
  have hgw : w.heap.size < g := by simp at hBg; omega
  go_wp2_with fail
  refine (HRD.out w2 g hr2).mono ?_
  rintro en w3 ⟨hg3, hr3, rfl⟩
  have hT3 := (HTN.out.ext hx2).but (by omega) hg3
  have hx3 := Ext.of_grown (HX0.out.trans hx2) hg3 (by omega)
  obtain ⟨W4, hW4, hx4, hT4, hT4n⟩ : ∃ W4, w3.alloc (.cells #[.int .i64 a1, .int .i64 s1, .int .i64 e1, .int .i64 r1] 23) = W4 ∧ Ext w3 W4 ∧ TB W4 w3.heap.size a1 s1 e1 r1 ∧ TB W4 w.heap.size 0 0 0 0 := ⟨_, rfl, (Ext.refl _).alloc _, heap_alloc_new w3 _, hT3.ext ((Ext.refl _).alloc _)⟩
  have HX4 := Lib.hid (hx3.trans hx4); have HR4 := Lib.hid (hr3.ext hx4); have HT4 := Lib.hid hT4; have HT4N := Lib.hid hT4n
  dsimp only at HR4
  clear hr2 hx2 hg3 hr3 hT3 hx3 hx4 hT4 hT4n hB1 hBg
  dsimp only
  by_cases he1 : er1 = 0
  · subst he1
    rw [if_neg (by simp)] at hres
    by_cases hlt : 0 + u1 < b.length
    · rw [if_pos (by simpa using hlt)] at hres
      simp only [Prod.mk.injEq] at hres
      obtain ⟨⟨rfl, rfl, rfl, rfl⟩, rfl⟩ := hres
      have HLT := Lib.hid hlt; clear hlt
      go_wp2_with fail
      refine (End_no g b _ HLT.out W4 HR4.out).mono ?_
      rintro en w5 ⟨rfl, hx5⟩
      have hT5 := HT4N.out.ext hx5
      obtain ⟨q0, q1, q2, q3⟩ := hT5.cells
      have f0 := hT5.soft 0; have f1 := hT5.soft 1; have f2 := hT5.soft 2; have f3 := hT5.soft 3
      obtain ⟨WF, hWF, hxF, d0, d1, d2, d3⟩ := put4 (HX4.out.trans hx5) (Nat.le_refl _) hT5 0 0 0 0
      clear hx5 hT5
      go_wp2_with fail
      refine bodyPost_ret (v := .tuple #[.agg #[.int .i64 0, .int .i64 0, .int .i64 0, .int .i64 0], .int .i64 5]) (by simp [results, Tryz.results9, go_sem, d0, d1, d2, d3]; try rfl) rfl ?_
      exact ⟨rfl, hxF⟩
    · rw [if_neg (by simpa using hlt)] at hres
      simp only [Prod.mk.injEq] at hres
      obtain ⟨⟨rfl, rfl, rfl, rfl⟩, rfl⟩ := hres
      have HLT := Lib.hid hlt; clear hlt
      go_wp2_with fail
      refine (End_yes g b _ HLT.out W4 HR4.out).mono ?_
      rintro en w5 ⟨rfl, hx5⟩
      have hT5 := HT4N.out.ext hx5
      obtain ⟨q0, q1, q2, q3⟩ := hT5.cells
      obtain ⟨p0, p1, p2, p3⟩ := (HT4.out.ext hx5).cells
      have f0 := hT5.soft 0; have f1 := hT5.soft 1; have f2 := hT5.soft 2; have f3 := hT5.soft 3
      obtain ⟨WF, hWF, hxF, d0, d1, d2, d3⟩ := put4 (HX4.out.trans hx5) (Nat.le_refl _) hT5 a1 s1 e1 r1
      clear hx5 hT5
      go_wp2_with fail
      refine bodyPost_ret (v := .tuple #[.agg #[.int .i64 a1, .int .i64 s1, .int .i64 e1, .int .i64 r1], .int .i64 0]) (by simp [results, Tryz.results9, go_sem, d0, d1, d2, d3]; try rfl) rfl ?_
      exact ⟨rfl, hxF⟩
  · rw [if_pos (by simpa using he1)] at hres
    simp only [Prod.mk.injEq] at hres
    obtain ⟨⟨rfl, rfl, rfl, rfl⟩, rfl⟩ := hres
    have hne : ((er1 : Int) != 0) = true := by rw [bne_iff_ne]; omega
    have hne2 : ((er1 : Int) == 0) = false := by rw [beq_eq_false_iff_ne]; omega
    clear he1
    obtain ⟨q0, q1, q2, q3⟩ := HT4N.out.cells
    have f0 := HT4N.out.soft 0; have f1 := HT4N.out.soft 1; have f2 := HT4N.out.soft 2; have f3 := HT4N.out.soft 3
    obtain ⟨WF, hWF, hxF, d0, d1, d2, d3⟩ := put4 HX4.out (Nat.le_refl _) HT4N.out 0 0 0 0
    go_wp2_with fail
    refine bodyPost_ret (v := .tuple #[.agg #[.int .i64 0, .int .i64 0, .int .i64 0, .int .i64 0], .int .i64 (er1 : Int)]) (by simp [results, Tryz.results9, go_sem, d0, d1, d2, d3]; try rfl) rfl ?_
    exact ⟨rfl, hxF⟩
end Go.Proofs.YtfgmmjpejlpdoaaGreatDoor
