/- Policy: Valid, its cases. (wip/tools/genpo5.py printed this.) -/
import Derived.Test.YtgfjmmdkdhodiaaGreatDoorMg4
namespace Go.Proofs.YtgfjmmdkdhodiaaGreatDoor
open Go Go.RowKit
set_option linter.unusedVariables false

set_option maxRecDepth 100000 in
set_option maxHeartbeats 2000000 in
theorem Valid_c0 (p : Pol) (hs : p.nm.size ≤ 4294967280) (h0 : nmB' p.nm.data.toList = false) (w : World) :
    Calls Tryz.prog 10 #[p.v] w fun e w' => e = .returned (.bool false) ∧ Ext w w' := by
  have hR := heap_alloc_new w (.cells p.cs 23)
  obtain ⟨c0, c1, c2, c3, c4, c5, c6, c7, c8, c9⟩ := PL.cells hR
  have HX := Lib.hid ((Ext.refl w).alloc (.cells p.cs 23))
  have HC0 := Lib.hid (h0 ▸ validName_at p.nm hs)
  clear hR h0
  obtain ⟨wa, hwa⟩ : ∃ wa, w.alloc (.cells p.cs 23) = wa := ⟨_, rfl⟩
  rw [hwa] at c0 c1 c2 c3 c4 c5 c6 c7 c8 c9 HX
  go_enter Tryz.func10, Tryz.ntmps10
  unfold Pol.v
  go_wp2_with fail
  unfold Pol.cs at hwa
  rw [hwa]
  refine (HC0.out _).mono ?_
  rintro _ w1 ⟨rfl, rfl⟩
  go_wp2_with fail
  all_goals first
    | (go_ret; exact ⟨rfl, HX.out⟩)
    | (exfalso; rename_i hz _; revert hz; simp [undef])
set_option maxRecDepth 100000 in
set_option maxHeartbeats 2000000 in
theorem Valid_c1 (p : Pol) (hs : p.nm.size ≤ 4294967280) (h0 : nmB' p.nm.data.toList = true) (h1 : inB p.len 1 64 = false) (w : World) :
    Calls Tryz.prog 10 #[p.v] w fun e w' => e = .returned (.bool false) ∧ Ext w w' := by
  have hR := heap_alloc_new w (.cells p.cs 23)
  obtain ⟨c0, c1, c2, c3, c4, c5, c6, c7, c8, c9⟩ := PL.cells hR
  have HX := Lib.hid ((Ext.refl w).alloc (.cells p.cs 23))
  have HC0 := Lib.hid (h0 ▸ validName_at p.nm hs)
  have HC1 := Lib.hid (h1 ▸ between_at p.len 1 64)
  clear hR h0 h1
  obtain ⟨wa, hwa⟩ : ∃ wa, w.alloc (.cells p.cs 23) = wa := ⟨_, rfl⟩
  rw [hwa] at c0 c1 c2 c3 c4 c5 c6 c7 c8 c9 HX
  go_enter Tryz.func10, Tryz.ntmps10
  unfold Pol.v
  go_wp2_with fail
  unfold Pol.cs at hwa
  rw [hwa]
  refine (HC0.out _).mono ?_
  rintro _ w1 ⟨rfl, rfl⟩
  go_wp2_with fail
  refine (HC1.out _).mono ?_
  rintro _ w1 ⟨rfl, rfl⟩
  go_wp2_with fail
  all_goals first
    | (go_ret; exact ⟨rfl, HX.out⟩)
    | (exfalso; rename_i hz _; revert hz; simp [undef])
set_option maxRecDepth 100000 in
set_option maxHeartbeats 2000000 in
theorem Valid_c2 (p : Pol) (hs : p.nm.size ≤ 4294967280) (h0 : nmB' p.nm.data.toList = true) (h1 : inB p.len 1 64 = true) (h2 : inB p.cla 1 5 = false) (w : World) :
    Calls Tryz.prog 10 #[p.v] w fun e w' => e = .returned (.bool false) ∧ Ext w w' := by
  have hR := heap_alloc_new w (.cells p.cs 23)
  obtain ⟨c0, c1, c2, c3, c4, c5, c6, c7, c8, c9⟩ := PL.cells hR
  have HX := Lib.hid ((Ext.refl w).alloc (.cells p.cs 23))
  have HC0 := Lib.hid (h0 ▸ validName_at p.nm hs)
  have HC1 := Lib.hid (h1 ▸ between_at p.len 1 64)
  have HC2 := Lib.hid (h2 ▸ between_at p.cla 1 5)
  clear hR h0 h1 h2
  obtain ⟨wa, hwa⟩ : ∃ wa, w.alloc (.cells p.cs 23) = wa := ⟨_, rfl⟩
  rw [hwa] at c0 c1 c2 c3 c4 c5 c6 c7 c8 c9 HX
  go_enter Tryz.func10, Tryz.ntmps10
  unfold Pol.v
  go_wp2_with fail
  unfold Pol.cs at hwa
  rw [hwa]
  refine (HC0.out _).mono ?_
  rintro _ w1 ⟨rfl, rfl⟩
  go_wp2_with fail
  refine (HC1.out _).mono ?_
  rintro _ w1 ⟨rfl, rfl⟩
  go_wp2_with fail
  refine (HC2.out _).mono ?_
  rintro _ w1 ⟨rfl, rfl⟩
  go_wp2_with fail
  all_goals first
    | (go_ret; exact ⟨rfl, HX.out⟩)
    | (exfalso; rename_i hz _; revert hz; simp [undef])
set_option maxRecDepth 100000 in
set_option maxHeartbeats 2000000 in
theorem Valid_c3 (p : Pol) (hs : p.nm.size ≤ 4294967280) (h0 : nmB' p.nm.data.toList = true) (h1 : inB p.len 1 64 = true) (h2 : inB p.cla 1 5 = true) (h3 : inB p.dis 0 p.len = false) (w : World) :
    Calls Tryz.prog 10 #[p.v] w fun e w' => e = .returned (.bool false) ∧ Ext w w' := by
  have hR := heap_alloc_new w (.cells p.cs 23)
  obtain ⟨c0, c1, c2, c3, c4, c5, c6, c7, c8, c9⟩ := PL.cells hR
  have HX := Lib.hid ((Ext.refl w).alloc (.cells p.cs 23))
  have HC0 := Lib.hid (h0 ▸ validName_at p.nm hs)
  have HC1 := Lib.hid (h1 ▸ between_at p.len 1 64)
  have HC2 := Lib.hid (h2 ▸ between_at p.cla 1 5)
  have HC3 := Lib.hid (h3 ▸ between_at p.dis 0 p.len)
  clear hR h0 h1 h2 h3
  obtain ⟨wa, hwa⟩ : ∃ wa, w.alloc (.cells p.cs 23) = wa := ⟨_, rfl⟩
  rw [hwa] at c0 c1 c2 c3 c4 c5 c6 c7 c8 c9 HX
  go_enter Tryz.func10, Tryz.ntmps10
  unfold Pol.v
  go_wp2_with fail
  unfold Pol.cs at hwa
  rw [hwa]
  refine (HC0.out _).mono ?_
  rintro _ w1 ⟨rfl, rfl⟩
  go_wp2_with fail
  refine (HC1.out _).mono ?_
  rintro _ w1 ⟨rfl, rfl⟩
  go_wp2_with fail
  refine (HC2.out _).mono ?_
  rintro _ w1 ⟨rfl, rfl⟩
  go_wp2_with fail
  refine (HC3.out _).mono ?_
  rintro _ w1 ⟨rfl, rfl⟩
  go_wp2_with fail
  all_goals first
    | (go_ret; exact ⟨rfl, HX.out⟩)
    | (exfalso; rename_i hz _; revert hz; simp [undef])
set_option maxRecDepth 100000 in
set_option maxHeartbeats 2000000 in
theorem Valid_c4 (p : Pol) (hs : p.nm.size ≤ 4294967280) (h0 : nmB' p.nm.data.toList = true) (h1 : inB p.len 1 64 = true) (h2 : inB p.cla 1 5 = true) (h3 : inB p.dis 0 p.len = true) (h4 : inB p.his 0 16 = false) (w : World) :
    Calls Tryz.prog 10 #[p.v] w fun e w' => e = .returned (.bool false) ∧ Ext w w' := by
  have hR := heap_alloc_new w (.cells p.cs 23)
  obtain ⟨c0, c1, c2, c3, c4, c5, c6, c7, c8, c9⟩ := PL.cells hR
  have HX := Lib.hid ((Ext.refl w).alloc (.cells p.cs 23))
  have HC0 := Lib.hid (h0 ▸ validName_at p.nm hs)
  have HC1 := Lib.hid (h1 ▸ between_at p.len 1 64)
  have HC2 := Lib.hid (h2 ▸ between_at p.cla 1 5)
  have HC3 := Lib.hid (h3 ▸ between_at p.dis 0 p.len)
  have HC4 := Lib.hid (h4 ▸ between_at p.his 0 16)
  clear hR h0 h1 h2 h3 h4
  obtain ⟨wa, hwa⟩ : ∃ wa, w.alloc (.cells p.cs 23) = wa := ⟨_, rfl⟩
  rw [hwa] at c0 c1 c2 c3 c4 c5 c6 c7 c8 c9 HX
  go_enter Tryz.func10, Tryz.ntmps10
  unfold Pol.v
  go_wp2_with fail
  unfold Pol.cs at hwa
  rw [hwa]
  refine (HC0.out _).mono ?_
  rintro _ w1 ⟨rfl, rfl⟩
  go_wp2_with fail
  refine (HC1.out _).mono ?_
  rintro _ w1 ⟨rfl, rfl⟩
  go_wp2_with fail
  refine (HC2.out _).mono ?_
  rintro _ w1 ⟨rfl, rfl⟩
  go_wp2_with fail
  refine (HC3.out _).mono ?_
  rintro _ w1 ⟨rfl, rfl⟩
  go_wp2_with fail
  refine (HC4.out _).mono ?_
  rintro _ w1 ⟨rfl, rfl⟩
  go_wp2_with fail
  all_goals first
    | (go_ret; exact ⟨rfl, HX.out⟩)
    | (exfalso; rename_i hz _; revert hz; simp [undef])
set_option maxRecDepth 100000 in
set_option maxHeartbeats 2000000 in
theorem Valid_c5 (p : Pol) (hs : p.nm.size ≤ 4294967280) (h0 : nmB' p.nm.data.toList = true) (h1 : inB p.len 1 64 = true) (h2 : inB p.cla 1 5 = true) (h3 : inB p.dis 0 p.len = true) (h4 : inB p.his 0 16 = true) (h5 : tmB p.mina = false) (w : World) :
    Calls Tryz.prog 10 #[p.v] w fun e w' => e = .returned (.bool false) ∧ Ext w w' := by
  have hR := heap_alloc_new w (.cells p.cs 23)
  obtain ⟨c0, c1, c2, c3, c4, c5, c6, c7, c8, c9⟩ := PL.cells hR
  have HX := Lib.hid ((Ext.refl w).alloc (.cells p.cs 23))
  have HC0 := Lib.hid (h0 ▸ validName_at p.nm hs)
  have HC1 := Lib.hid (h1 ▸ between_at p.len 1 64)
  have HC2 := Lib.hid (h2 ▸ between_at p.cla 1 5)
  have HC3 := Lib.hid (h3 ▸ between_at p.dis 0 p.len)
  have HC4 := Lib.hid (h4 ▸ between_at p.his 0 16)
  have HC5 := Lib.hid (h5 ▸ time_at p.mina)
  clear hR h0 h1 h2 h3 h4 h5
  obtain ⟨wa, hwa⟩ : ∃ wa, w.alloc (.cells p.cs 23) = wa := ⟨_, rfl⟩
  rw [hwa] at c0 c1 c2 c3 c4 c5 c6 c7 c8 c9 HX
  go_enter Tryz.func10, Tryz.ntmps10
  unfold Pol.v
  go_wp2_with fail
  unfold Pol.cs at hwa
  rw [hwa]
  refine (HC0.out _).mono ?_
  rintro _ w1 ⟨rfl, rfl⟩
  go_wp2_with fail
  refine (HC1.out _).mono ?_
  rintro _ w1 ⟨rfl, rfl⟩
  go_wp2_with fail
  refine (HC2.out _).mono ?_
  rintro _ w1 ⟨rfl, rfl⟩
  go_wp2_with fail
  refine (HC3.out _).mono ?_
  rintro _ w1 ⟨rfl, rfl⟩
  go_wp2_with fail
  refine (HC4.out _).mono ?_
  rintro _ w1 ⟨rfl, rfl⟩
  go_wp2_with fail
  refine (HC5.out _).mono ?_
  rintro _ w1 ⟨rfl, rfl⟩
  go_wp2_with fail
  all_goals first
    | (go_ret; exact ⟨rfl, HX.out⟩)
    | (exfalso; rename_i hz _; revert hz; simp [undef])
set_option maxRecDepth 100000 in
set_option maxHeartbeats 2000000 in
theorem Valid_c6 (p : Pol) (hs : p.nm.size ≤ 4294967280) (h0 : nmB' p.nm.data.toList = true) (h1 : inB p.len 1 64 = true) (h2 : inB p.cla 1 5 = true) (h3 : inB p.dis 0 p.len = true) (h4 : inB p.his 0 16 = true) (h5 : tmB p.mina = true) (h6 : tmB p.maxa = false) (w : World) :
    Calls Tryz.prog 10 #[p.v] w fun e w' => e = .returned (.bool false) ∧ Ext w w' := by
  have hR := heap_alloc_new w (.cells p.cs 23)
  obtain ⟨c0, c1, c2, c3, c4, c5, c6, c7, c8, c9⟩ := PL.cells hR
  have HX := Lib.hid ((Ext.refl w).alloc (.cells p.cs 23))
  have HC0 := Lib.hid (h0 ▸ validName_at p.nm hs)
  have HC1 := Lib.hid (h1 ▸ between_at p.len 1 64)
  have HC2 := Lib.hid (h2 ▸ between_at p.cla 1 5)
  have HC3 := Lib.hid (h3 ▸ between_at p.dis 0 p.len)
  have HC4 := Lib.hid (h4 ▸ between_at p.his 0 16)
  have HC5 := Lib.hid (h5 ▸ time_at p.mina)
  have HC6 := Lib.hid (h6 ▸ time_at p.maxa)
  clear hR h0 h1 h2 h3 h4 h5 h6
  obtain ⟨wa, hwa⟩ : ∃ wa, w.alloc (.cells p.cs 23) = wa := ⟨_, rfl⟩
  rw [hwa] at c0 c1 c2 c3 c4 c5 c6 c7 c8 c9 HX
  go_enter Tryz.func10, Tryz.ntmps10
  unfold Pol.v
  go_wp2_with fail
  unfold Pol.cs at hwa
  rw [hwa]
  refine (HC0.out _).mono ?_
  rintro _ w1 ⟨rfl, rfl⟩
  go_wp2_with fail
  refine (HC1.out _).mono ?_
  rintro _ w1 ⟨rfl, rfl⟩
  go_wp2_with fail
  refine (HC2.out _).mono ?_
  rintro _ w1 ⟨rfl, rfl⟩
  go_wp2_with fail
  refine (HC3.out _).mono ?_
  rintro _ w1 ⟨rfl, rfl⟩
  go_wp2_with fail
  refine (HC4.out _).mono ?_
  rintro _ w1 ⟨rfl, rfl⟩
  go_wp2_with fail
  refine (HC5.out _).mono ?_
  rintro _ w1 ⟨rfl, rfl⟩
  go_wp2_with fail
  refine (HC6.out _).mono ?_
  rintro _ w1 ⟨rfl, rfl⟩
  go_wp2_with fail
  all_goals first
    | (go_ret; exact ⟨rfl, HX.out⟩)
    | (exfalso; rename_i hz _; revert hz; simp [undef])
set_option maxRecDepth 100000 in
set_option maxHeartbeats 2000000 in
theorem Valid_c7 (p : Pol) (hs : p.nm.size ≤ 4294967280) (h0 : nmB' p.nm.data.toList = true) (h1 : inB p.len 1 64 = true) (h2 : inB p.cla 1 5 = true) (h3 : inB p.dis 0 p.len = true) (h4 : inB p.his 0 16 = true) (h5 : tmB p.mina = true) (h6 : tmB p.maxa = true) (h7 : p.maxa ≠ 0) (h7b : ¬ p.mina ≤ p.maxa) (w : World) :
    Calls Tryz.prog 10 #[p.v] w fun e w' => e = .returned (.bool false) ∧ Ext w w' := by
  have hR := heap_alloc_new w (.cells p.cs 23)
  obtain ⟨c0, c1, c2, c3, c4, c5, c6, c7, c8, c9⟩ := PL.cells hR
  have HX := Lib.hid ((Ext.refl w).alloc (.cells p.cs 23))
  have HC0 := Lib.hid (h0 ▸ validName_at p.nm hs)
  have HC1 := Lib.hid (h1 ▸ between_at p.len 1 64)
  have HC2 := Lib.hid (h2 ▸ between_at p.cla 1 5)
  have HC3 := Lib.hid (h3 ▸ between_at p.dis 0 p.len)
  have HC4 := Lib.hid (h4 ▸ between_at p.his 0 16)
  have HC5 := Lib.hid (h5 ▸ time_at p.mina)
  have HC6 := Lib.hid (h6 ▸ time_at p.maxa)
  have qa : (p.maxa == 0) = false := by rw [beq_eq_false_iff_ne]; exact h7
  clear hR h0 h1 h2 h3 h4 h5 h6 h7
  obtain ⟨wa, hwa⟩ : ∃ wa, w.alloc (.cells p.cs 23) = wa := ⟨_, rfl⟩
  rw [hwa] at c0 c1 c2 c3 c4 c5 c6 c7 c8 c9 HX
  go_enter Tryz.func10, Tryz.ntmps10
  unfold Pol.v
  go_wp2_with fail
  unfold Pol.cs at hwa
  rw [hwa]
  refine (HC0.out _).mono ?_
  rintro _ w1 ⟨rfl, rfl⟩
  go_wp2_with fail
  refine (HC1.out _).mono ?_
  rintro _ w1 ⟨rfl, rfl⟩
  go_wp2_with fail
  refine (HC2.out _).mono ?_
  rintro _ w1 ⟨rfl, rfl⟩
  go_wp2_with fail
  refine (HC3.out _).mono ?_
  rintro _ w1 ⟨rfl, rfl⟩
  go_wp2_with fail
  refine (HC4.out _).mono ?_
  rintro _ w1 ⟨rfl, rfl⟩
  go_wp2_with fail
  refine (HC5.out _).mono ?_
  rintro _ w1 ⟨rfl, rfl⟩
  go_wp2_with fail
  refine (HC6.out _).mono ?_
  rintro _ w1 ⟨rfl, rfl⟩
  go_wp2_with fail
  all_goals first
    | (go_ret; exact ⟨rfl, HX.out⟩)
    | (exfalso; rename_i hz _; revert hz; simp [undef])
end Go.Proofs.YtgfjmmdkdhodiaaGreatDoor
