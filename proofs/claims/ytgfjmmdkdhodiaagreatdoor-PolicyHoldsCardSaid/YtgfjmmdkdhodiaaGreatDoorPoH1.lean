/- PolicyHolds: the arms in which nothing is asked. (wip/tools/genlawpo.py printed this.) -/
import Derived.Test.YtgfjmmdkdhodiaaGreatDoorPoL4
import Derived.Test.YtgfjmmdkdhodiaaGreatDoorPoH0
import Derived.Test.YtgfjmmdkdhodiaaGreatDoorMg37
import Derived.Lib.MinMax
import Derived.Deep.Cut
namespace Go.Proofs.YtgfjmmdkdhodiaaGreatDoor.policyHolds
open Go Go.RowKit
set_option linter.unusedVariables false
theorem NBcell1 {w : World} {g : Nat} {v : Value} {r : ByteArray} (h : NB w g v r) : w.cell? ⟨g, 1, none⟩ = some (.string r) := by rw [cell_of_row _ _ 1 _ _ (0, 0) h]; rfl
theorem byCells {w : World} {g : Nat} {x y z : Int} (h : w.heap[g]? = some (.cells #[.int .u8 x, .int .u8 y, .int .u8 z] 59 (0, 0))) : w.cell? ⟨g, 0, none⟩ = some (.int .u8 x) ∧ w.cell? ⟨g, 1, none⟩ = some (.int .u8 y) ∧ w.cell? ⟨g, 2, none⟩ = some (.int .u8 z) := by
  refine ⟨?_, ?_, ?_⟩
  · rw [cell_of_row _ _ 0 _ _ (0, 0) h]; rfl
  · rw [cell_of_row _ _ 1 _ _ (0, 0) h]; rfl
  · rw [cell_of_row _ _ 2 _ _ (0, 0) h]; rfl
set_option maxRecDepth 100000 in
set_option maxHeartbeats 8000000 in
theorem walk_bad (p : Pol) (A1 : Option Addr) (c1 : Nat) (ps : List ByteArray) (r : ByteArray) (A : Option Addr) (c : Nat) (b : List UInt8) (D : Option Addr) (dc : Nat) (m : List UInt8) (x y z : Int) (w : World) (hm : Env w) (hs4 : p.nm.size ≤ maxLen) (hR : RS w (.slice A1 ps.length c1) (svP ps)) (hB : BS w (.slice A b.length c) b) (hD : BS w (.slice D m.length dc) m) (hok : p.ok = false) :
    Calls Tryz.prog 8 #[p.v, .agg #[.slice A1 ps.length c1, .string r], .slice A b.length c, .slice D m.length dc, .agg #[.int .u8 x, .int .u8 y, .int .u8 z]] w fun e w' => e = .returned (.bool true) ∧ Ext w w' := by
  have HM := Lib.hid hm; clear hm
  have HV := Lib.hid (fun W => Valid_bad p hs4 hok W)
  have h0 := heap_alloc_new w (.cells p.cs 23)
  obtain ⟨W1, e1⟩ : ∃ W, w.alloc (.cells p.cs 23) = W := ⟨_, rfl⟩
  have x1 : Ext w W1 := e1 ▸ (Ext.refl w).alloc _
  have z1 : W1.heap.size = w.heap.size + 1 := by rw [← e1]; simp
  rw [e1] at h0
  have h1 := heap_alloc_new W1 (.cells #[.slice A1 ps.length c1, .string r] 30)
  obtain ⟨W2, e2⟩ : ∃ W, W1.alloc (.cells #[.slice A1 ps.length c1, .string r] 30) = W := ⟨_, rfl⟩
  have x2 : Ext W1 W2 := e2 ▸ (Ext.refl W1).alloc _
  have z2 : W2.heap.size = w.heap.size + 1 + 1 := by rw [← e2]; simp [z1]
  rw [e2] at h1
  have h2 := heap_alloc_new W2 (.cells #[.int .u8 x, .int .u8 y, .int .u8 z] 59)
  obtain ⟨W3, e3⟩ : ∃ W, W2.alloc (.cells #[.int .u8 x, .int .u8 y, .int .u8 z] 59) = W := ⟨_, rfl⟩
  have x3 : Ext W2 W3 := e3 ▸ (Ext.refl W2).alloc _
  rw [e3] at h2
  have h3 := heap_alloc_new W3 (.cells #[.bool false] 4)
  obtain ⟨W4, e4⟩ : ∃ W, W3.alloc (.cells #[.bool false] 4) = W := ⟨_, rfl⟩
  have x4 : Ext W3 W4 := e4 ▸ (Ext.refl W3).alloc _
  rw [e4] at h3
  have hp2 : PL W4 w.heap.size p := ((x2.trans x3).trans x4).heap h0
  have hn2 : NB W4 W1.heap.size (.slice A1 ps.length c1) r := (x3.trans x4).heap h1
  have hy2 := x4.heap h2
  have hx2 := x1.trans ((x2.trans x3).trans x4)
  have hxw3 := x1.trans (x2.trans x3)
  have HP := Lib.hid hp2; have HN := Lib.hid hn2; have HX := Lib.hid hx2; have HY := Lib.hid hy2; have HR := Lib.hid h3; have HW3 := Lib.hid hxw3.size; have HW43 := Lib.hid (show W3.heap.size < W4.heap.size by rw [← e4]; simp)
  have HRS := Lib.hid (hR.ext hx2); have HBS := Lib.hid (hB.ext hx2); have HMS := Lib.hid (hD.ext hx2)
  clear h0 h1 h2 h3 hp2 hn2 hy2 x1 x2 x3 x4 z1 z2 hx2 hxw3 hR hB hD
  clear hok hs4
  obtain ⟨k0, k1, k2, k3, k4, k5, k6, k7, k8, k9⟩ := (HP.out.ext (Ext.refl W4)).cells
  have d0 := (HN.out.ext (Ext.refl W4)).cell0; have d1 := NBcell1 (HN.out.ext (Ext.refl W4))
  obtain ⟨y0, y1, y2⟩ := byCells ((Ext.heap (Ext.refl W4)) HY.out)
  go_enter Tryz.func8, Tryz.ntmps8
  unfold Pol.v
  unfold Pol.cs at e1
  go_wp2_with fail
  refine (HV.out _).mono ?_
  rintro _ w5 ⟨rfl, hx5⟩
  have HY5 := Lib.hid hx5
  clear hx5 k0 k1 k2 k3 k4 k5 k6 k7 k8 k9 d0 d1 y0 y1 y2 e1 e2 e3 e4
  go_wp2_with fail
  refine (PKnown_at _ (HM.out.ext (HX.out.trans (HY5.out)))).mono ?_
  rintro _ wk ⟨rfl, hxk⟩
  have hrk := ((HY5.out).trans hxk).heap HR.out
  obtain ⟨j0, j1⟩ := row1 hrk
  have jr := (row1 (row1_set (.bool true) hrk)).1
  have HXF := Lib.hid ((HX.out.trans ((HY5.out).trans hxk)).setCell (p := ⟨W3.heap.size, 0, none⟩) HW3.out (.bool true))
  clear hxk hrk
  go_wp2_with fail
  refine bodyPost_ret (v := .bool true) (by simp [results, Tryz.results8, go_sem, jr]; try rfl) rfl ?_
  exact ⟨rfl, HXF.out⟩
set_option maxRecDepth 100000 in
set_option maxHeartbeats 8000000 in
theorem walk_sm (p : Pol) (A1 : Option Addr) (c1 : Nat) (ps : List ByteArray) (r : ByteArray) (A : Option Addr) (c : Nat) (b : List UInt8) (D : Option Addr) (dc : Nat) (m : List UInt8) (x y z : Int) (w : World) (hm : Env w) (hs4 : p.nm.size ≤ 4294967280) (hR : RS w (.slice A1 ps.length c1) (svP ps)) (hB : BS w (.slice A b.length c) b) (hD : BS w (.slice D m.length dc) m) (hok : p.ok = true) (hsm : smlP ps = false) :
    Calls Tryz.prog 8 #[p.v, .agg #[.slice A1 ps.length c1, .string r], .slice A b.length c, .slice D m.length dc, .agg #[.int .u8 x, .int .u8 y, .int .u8 z]] w fun e w' => e = .returned (.bool true) ∧ Ext w w' := by
  have HM := Lib.hid hm; clear hm
  have HV := Lib.hid (fun W => hok ▸ PoValid_at p hs4 W)
  have h0 := heap_alloc_new w (.cells p.cs 23)
  obtain ⟨W1, e1⟩ : ∃ W, w.alloc (.cells p.cs 23) = W := ⟨_, rfl⟩
  have x1 : Ext w W1 := e1 ▸ (Ext.refl w).alloc _
  have z1 : W1.heap.size = w.heap.size + 1 := by rw [← e1]; simp
  rw [e1] at h0
  have h1 := heap_alloc_new W1 (.cells #[.slice A1 ps.length c1, .string r] 30)
  obtain ⟨W2, e2⟩ : ∃ W, W1.alloc (.cells #[.slice A1 ps.length c1, .string r] 30) = W := ⟨_, rfl⟩
  have x2 : Ext W1 W2 := e2 ▸ (Ext.refl W1).alloc _
  have z2 : W2.heap.size = w.heap.size + 1 + 1 := by rw [← e2]; simp [z1]
  rw [e2] at h1
  have h2 := heap_alloc_new W2 (.cells #[.int .u8 x, .int .u8 y, .int .u8 z] 59)
  obtain ⟨W3, e3⟩ : ∃ W, W2.alloc (.cells #[.int .u8 x, .int .u8 y, .int .u8 z] 59) = W := ⟨_, rfl⟩
  have x3 : Ext W2 W3 := e3 ▸ (Ext.refl W2).alloc _
  rw [e3] at h2
  have h3 := heap_alloc_new W3 (.cells #[.bool false] 4)
  obtain ⟨W4, e4⟩ : ∃ W, W3.alloc (.cells #[.bool false] 4) = W := ⟨_, rfl⟩
  have x4 : Ext W3 W4 := e4 ▸ (Ext.refl W3).alloc _
  rw [e4] at h3
  have hp2 : PL W4 w.heap.size p := ((x2.trans x3).trans x4).heap h0
  have hn2 : NB W4 W1.heap.size (.slice A1 ps.length c1) r := (x3.trans x4).heap h1
  have hy2 := x4.heap h2
  have hx2 := x1.trans ((x2.trans x3).trans x4)
  have hxw3 := x1.trans (x2.trans x3)
  have HP := Lib.hid hp2; have HN := Lib.hid hn2; have HX := Lib.hid hx2; have HY := Lib.hid hy2; have HR := Lib.hid h3; have HW3 := Lib.hid hxw3.size; have HW43 := Lib.hid (show W3.heap.size < W4.heap.size by rw [← e4]; simp)
  have HRS := Lib.hid (hR.ext hx2); have HBS := Lib.hid (hB.ext hx2); have HMS := Lib.hid (hD.ext hx2)
  clear h0 h1 h2 h3 hp2 hn2 hy2 x1 x2 x3 x4 z1 z2 hx2 hxw3 hR hB hD
  have HSM := Lib.hid (fun W (hx : Ext W4 W) => hsm ▸ lsmall_at A1 c1 ps r W (HRS.out.ext hx))
  clear hsm
  clear hok hs4
  obtain ⟨k0, k1, k2, k3, k4, k5, k6, k7, k8, k9⟩ := (HP.out.ext (Ext.refl W4)).cells
  have d0 := (HN.out.ext (Ext.refl W4)).cell0; have d1 := NBcell1 (HN.out.ext (Ext.refl W4))
  obtain ⟨y0, y1, y2⟩ := byCells ((Ext.heap (Ext.refl W4)) HY.out)
  go_enter Tryz.func8, Tryz.ntmps8
  unfold Pol.v
  unfold Pol.cs at e1
  go_wp2_with fail
  refine (HV.out _).mono ?_
  rintro _ w5 ⟨rfl, hx5⟩
  have HY5 := Lib.hid hx5
  clear hx5 k0 k1 k2 k3 k4 k5 k6 k7 k8 k9 d0 d1 y0 y1 y2 e1 e2 e3 e4
  obtain ⟨k0, k1, k2, k3, k4, k5, k6, k7, k8, k9⟩ := (HP.out.ext HY5.out).cells
  have d0 := (HN.out.ext HY5.out).cell0; have d1 := NBcell1 (HN.out.ext HY5.out)
  obtain ⟨y0, y1, y2⟩ := byCells ((Ext.heap HY5.out) HY.out)
  go_wp2_with fail
  refine (HSM.out _ HY5.out).mono ?_
  rintro _ w6 ⟨rfl, hx6⟩
  have HY6 := Lib.hid (HY5.out.trans hx6)
  clear hx6 k0 k1 k2 k3 k4 k5 k6 k7 k8 k9 d0 d1 y0 y1 y2
  go_wp2_with fail
  refine (PKnown_at _ (HM.out.ext (HX.out.trans (HY6.out)))).mono ?_
  rintro _ wk ⟨rfl, hxk⟩
  have hrk := ((HY6.out).trans hxk).heap HR.out
  obtain ⟨j0, j1⟩ := row1 hrk
  have jr := (row1 (row1_set (.bool true) hrk)).1
  have HXF := Lib.hid ((HX.out.trans ((HY6.out).trans hxk)).setCell (p := ⟨W3.heap.size, 0, none⟩) HW3.out (.bool true))
  clear hxk hrk
  go_wp2_with fail
  refine bodyPost_ret (v := .bool true) (by simp [results, Tryz.results8, go_sem, jr]; try rfl) rfl ?_
  exact ⟨rfl, HXF.out⟩
set_option maxRecDepth 100000 in
set_option maxHeartbeats 8000000 in
theorem walk_long (p : Pol) (A1 : Option Addr) (c1 : Nat) (ps : List ByteArray) (r : ByteArray) (A : Option Addr) (c : Nat) (b : List UInt8) (D : Option Addr) (dc : Nat) (m : List UInt8) (x y z : Int) (w : World) (hm : Env w) (hs4 : p.nm.size ≤ 4294967280) (hR : RS w (.slice A1 ps.length c1) (svP ps)) (hB : BS w (.slice A b.length c) b) (hD : BS w (.slice D m.length dc) m) (hok : p.ok = true) (hsm : smlP ps = true) (h2 : 200 < (b.length : Int)) :
    Calls Tryz.prog 8 #[p.v, .agg #[.slice A1 ps.length c1, .string r], .slice A b.length c, .slice D m.length dc, .agg #[.int .u8 x, .int .u8 y, .int .u8 z]] w fun e w' => e = .returned (.bool true) ∧ Ext w w' := by
  have HM := Lib.hid hm; clear hm
  have HV := Lib.hid (fun W => hok ▸ PoValid_at p hs4 W)
  have h0 := heap_alloc_new w (.cells p.cs 23)
  obtain ⟨W1, e1⟩ : ∃ W, w.alloc (.cells p.cs 23) = W := ⟨_, rfl⟩
  have x1 : Ext w W1 := e1 ▸ (Ext.refl w).alloc _
  have z1 : W1.heap.size = w.heap.size + 1 := by rw [← e1]; simp
  rw [e1] at h0
  have h1 := heap_alloc_new W1 (.cells #[.slice A1 ps.length c1, .string r] 30)
  obtain ⟨W2, e2⟩ : ∃ W, W1.alloc (.cells #[.slice A1 ps.length c1, .string r] 30) = W := ⟨_, rfl⟩
  have x2 : Ext W1 W2 := e2 ▸ (Ext.refl W1).alloc _
  have z2 : W2.heap.size = w.heap.size + 1 + 1 := by rw [← e2]; simp [z1]
  rw [e2] at h1
  have h2 := heap_alloc_new W2 (.cells #[.int .u8 x, .int .u8 y, .int .u8 z] 59)
  obtain ⟨W3, e3⟩ : ∃ W, W2.alloc (.cells #[.int .u8 x, .int .u8 y, .int .u8 z] 59) = W := ⟨_, rfl⟩
  have x3 : Ext W2 W3 := e3 ▸ (Ext.refl W2).alloc _
  rw [e3] at h2
  have h3 := heap_alloc_new W3 (.cells #[.bool false] 4)
  obtain ⟨W4, e4⟩ : ∃ W, W3.alloc (.cells #[.bool false] 4) = W := ⟨_, rfl⟩
  have x4 : Ext W3 W4 := e4 ▸ (Ext.refl W3).alloc _
  rw [e4] at h3
  have hp2 : PL W4 w.heap.size p := ((x2.trans x3).trans x4).heap h0
  have hn2 : NB W4 W1.heap.size (.slice A1 ps.length c1) r := (x3.trans x4).heap h1
  have hy2 := x4.heap h2
  have hx2 := x1.trans ((x2.trans x3).trans x4)
  have hxw3 := x1.trans (x2.trans x3)
  have HP := Lib.hid hp2; have HN := Lib.hid hn2; have HX := Lib.hid hx2; have HY := Lib.hid hy2; have HR := Lib.hid h3; have HW3 := Lib.hid hxw3.size; have HW43 := Lib.hid (show W3.heap.size < W4.heap.size by rw [← e4]; simp)
  have HRS := Lib.hid (hR.ext hx2); have HBS := Lib.hid (hB.ext hx2); have HMS := Lib.hid (hD.ext hx2)
  clear h0 h1 h2 h3 hp2 hn2 hy2 x1 x2 x3 x4 z1 z2 hx2 hxw3 hR hB hD
  have HSM := Lib.hid (fun W (hx : Ext W4 W) => hsm ▸ lsmall_at A1 c1 ps r W (HRS.out.ext hx))
  clear hsm
  clear hok hs4
  obtain ⟨k0, k1, k2, k3, k4, k5, k6, k7, k8, k9⟩ := (HP.out.ext (Ext.refl W4)).cells
  have d0 := (HN.out.ext (Ext.refl W4)).cell0; have d1 := NBcell1 (HN.out.ext (Ext.refl W4))
  obtain ⟨y0, y1, y2⟩ := byCells ((Ext.heap (Ext.refl W4)) HY.out)
  go_enter Tryz.func8, Tryz.ntmps8
  unfold Pol.v
  unfold Pol.cs at e1
  go_wp2_with fail
  refine (HV.out _).mono ?_
  rintro _ w5 ⟨rfl, hx5⟩
  have HY5 := Lib.hid hx5
  clear hx5 k0 k1 k2 k3 k4 k5 k6 k7 k8 k9 d0 d1 y0 y1 y2 e1 e2 e3 e4
  obtain ⟨k0, k1, k2, k3, k4, k5, k6, k7, k8, k9⟩ := (HP.out.ext HY5.out).cells
  have d0 := (HN.out.ext HY5.out).cell0; have d1 := NBcell1 (HN.out.ext HY5.out)
  obtain ⟨y0, y1, y2⟩ := byCells ((Ext.heap HY5.out) HY.out)
  go_wp2_with fail
  refine (HSM.out _ HY5.out).mono ?_
  rintro _ w6 ⟨rfl, hx6⟩
  have HY6 := Lib.hid (HY5.out.trans hx6)
  clear hx6 k0 k1 k2 k3 k4 k5 k6 k7 k8 k9 d0 d1 y0 y1 y2
  go_wp2_with fail
  refine (PKnown_at _ (HM.out.ext (HX.out.trans (HY6.out)))).mono ?_
  rintro _ wk ⟨rfl, hxk⟩
  have hrk := ((HY6.out).trans hxk).heap HR.out
  obtain ⟨j0, j1⟩ := row1 hrk
  have jr := (row1 (row1_set (.bool true) hrk)).1
  have HXF := Lib.hid ((HX.out.trans ((HY6.out).trans hxk)).setCell (p := ⟨W3.heap.size, 0, none⟩) HW3.out (.bool true))
  clear hxk hrk
  go_wp2_with fail
  refine bodyPost_ret (v := .bool true) (by simp [results, Tryz.results8, go_sem, jr]; try rfl) rfl ?_
  exact ⟨rfl, HXF.out⟩
set_option maxRecDepth 100000 in
set_option maxHeartbeats 8000000 in
theorem walk_more (p : Pol) (A1 : Option Addr) (c1 : Nat) (ps : List ByteArray) (r : ByteArray) (A : Option Addr) (c : Nat) (b : List UInt8) (D : Option Addr) (dc : Nat) (m : List UInt8) (x y z : Int) (w : World) (hm : Env w) (hs4 : p.nm.size ≤ 4294967280) (hR : RS w (.slice A1 ps.length c1) (svP ps)) (hB : BS w (.slice A b.length c) b) (hD : BS w (.slice D m.length dc) m) (hok : p.ok = true) (hsm : smlP ps = true) (h2 : (b.length : Int) ≤ 200) (h3 : 20 < (m.length : Int)) :
    Calls Tryz.prog 8 #[p.v, .agg #[.slice A1 ps.length c1, .string r], .slice A b.length c, .slice D m.length dc, .agg #[.int .u8 x, .int .u8 y, .int .u8 z]] w fun e w' => e = .returned (.bool true) ∧ Ext w w' := by
  have HM := Lib.hid hm; clear hm
  have HV := Lib.hid (fun W => hok ▸ PoValid_at p hs4 W)
  have h0 := heap_alloc_new w (.cells p.cs 23)
  obtain ⟨W1, e1⟩ : ∃ W, w.alloc (.cells p.cs 23) = W := ⟨_, rfl⟩
  have x1 : Ext w W1 := e1 ▸ (Ext.refl w).alloc _
  have z1 : W1.heap.size = w.heap.size + 1 := by rw [← e1]; simp
  rw [e1] at h0
  have h1 := heap_alloc_new W1 (.cells #[.slice A1 ps.length c1, .string r] 30)
  obtain ⟨W2, e2⟩ : ∃ W, W1.alloc (.cells #[.slice A1 ps.length c1, .string r] 30) = W := ⟨_, rfl⟩
  have x2 : Ext W1 W2 := e2 ▸ (Ext.refl W1).alloc _
  have z2 : W2.heap.size = w.heap.size + 1 + 1 := by rw [← e2]; simp [z1]
  rw [e2] at h1
  have h2 := heap_alloc_new W2 (.cells #[.int .u8 x, .int .u8 y, .int .u8 z] 59)
  obtain ⟨W3, e3⟩ : ∃ W, W2.alloc (.cells #[.int .u8 x, .int .u8 y, .int .u8 z] 59) = W := ⟨_, rfl⟩
  have x3 : Ext W2 W3 := e3 ▸ (Ext.refl W2).alloc _
  rw [e3] at h2
  have h3 := heap_alloc_new W3 (.cells #[.bool false] 4)
  obtain ⟨W4, e4⟩ : ∃ W, W3.alloc (.cells #[.bool false] 4) = W := ⟨_, rfl⟩
  have x4 : Ext W3 W4 := e4 ▸ (Ext.refl W3).alloc _
  rw [e4] at h3
  have hp2 : PL W4 w.heap.size p := ((x2.trans x3).trans x4).heap h0
  have hn2 : NB W4 W1.heap.size (.slice A1 ps.length c1) r := (x3.trans x4).heap h1
  have hy2 := x4.heap h2
  have hx2 := x1.trans ((x2.trans x3).trans x4)
  have hxw3 := x1.trans (x2.trans x3)
  have HP := Lib.hid hp2; have HN := Lib.hid hn2; have HX := Lib.hid hx2; have HY := Lib.hid hy2; have HR := Lib.hid h3; have HW3 := Lib.hid hxw3.size; have HW43 := Lib.hid (show W3.heap.size < W4.heap.size by rw [← e4]; simp)
  have HRS := Lib.hid (hR.ext hx2); have HBS := Lib.hid (hB.ext hx2); have HMS := Lib.hid (hD.ext hx2)
  clear h0 h1 h2 h3 hp2 hn2 hy2 x1 x2 x3 x4 z1 z2 hx2 hxw3 hR hB hD
  have HSM := Lib.hid (fun W (hx : Ext W4 W) => hsm ▸ lsmall_at A1 c1 ps r W (HRS.out.ext hx))
  clear hsm
  clear hok hs4
  obtain ⟨k0, k1, k2, k3, k4, k5, k6, k7, k8, k9⟩ := (HP.out.ext (Ext.refl W4)).cells
  have d0 := (HN.out.ext (Ext.refl W4)).cell0; have d1 := NBcell1 (HN.out.ext (Ext.refl W4))
  obtain ⟨y0, y1, y2⟩ := byCells ((Ext.heap (Ext.refl W4)) HY.out)
  go_enter Tryz.func8, Tryz.ntmps8
  unfold Pol.v
  unfold Pol.cs at e1
  go_wp2_with fail
  refine (HV.out _).mono ?_
  rintro _ w5 ⟨rfl, hx5⟩
  have HY5 := Lib.hid hx5
  clear hx5 k0 k1 k2 k3 k4 k5 k6 k7 k8 k9 d0 d1 y0 y1 y2 e1 e2 e3 e4
  obtain ⟨k0, k1, k2, k3, k4, k5, k6, k7, k8, k9⟩ := (HP.out.ext HY5.out).cells
  have d0 := (HN.out.ext HY5.out).cell0; have d1 := NBcell1 (HN.out.ext HY5.out)
  obtain ⟨y0, y1, y2⟩ := byCells ((Ext.heap HY5.out) HY.out)
  go_wp2_with fail
  refine (HSM.out _ HY5.out).mono ?_
  rintro _ w6 ⟨rfl, hx6⟩
  have HY6 := Lib.hid (HY5.out.trans hx6)
  clear hx6 k0 k1 k2 k3 k4 k5 k6 k7 k8 k9 d0 d1 y0 y1 y2
  go_wp2_with fail
  refine (PKnown_at _ (HM.out.ext (HX.out.trans (HY6.out)))).mono ?_
  rintro _ wk ⟨rfl, hxk⟩
  have hrk := ((HY6.out).trans hxk).heap HR.out
  obtain ⟨j0, j1⟩ := row1 hrk
  have jr := (row1 (row1_set (.bool true) hrk)).1
  have HXF := Lib.hid ((HX.out.trans ((HY6.out).trans hxk)).setCell (p := ⟨W3.heap.size, 0, none⟩) HW3.out (.bool true))
  clear hxk hrk
  go_wp2_with fail
  refine bodyPost_ret (v := .bool true) (by simp [results, Tryz.results8, go_sem, jr]; try rfl) rfl ?_
  exact ⟨rfl, HXF.out⟩
end Go.Proofs.YtgfjmmdkdhodiaaGreatDoor.policyHolds
