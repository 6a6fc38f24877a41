/- Lifetimes: Initial, Derive, Renew. (wip/tools/genlt5.py printed this.) -/
import Derived.Test.YtfgmmjpejlpdoaaGreatDoorLt2
import Derived.Test.YtfgmmjpejlpdoaaGreatDoorLt4
namespace Go.Proofs.YtfgmmjpejlpdoaaGreatDoor
open Go Go.RowKit

theorem TB.end_ {w : World} {T : Nat} {a s e r : Int} (h : TB w T a s e r) (A S E Q : Int) :
    (w.setCell ⟨T, 0, none⟩ (.int .i64 A)).cell? ⟨T, 0, none⟩ = some (.int .i64 A) ∧ ((w.setCell ⟨T, 0, none⟩ (.int .i64 A)).setCell ⟨T, 1, none⟩ (.int .i64 S)).cell? ⟨T, 1, none⟩ = some (.int .i64 S) ∧
    (((w.setCell ⟨T, 0, none⟩ (.int .i64 A)).setCell ⟨T, 1, none⟩ (.int .i64 S)).setCell ⟨T, 2, none⟩ (.int .i64 E)).cell? ⟨T, 2, none⟩ = some (.int .i64 E) ∧
    ((((w.setCell ⟨T, 0, none⟩ (.int .i64 A)).setCell ⟨T, 1, none⟩ (.int .i64 S)).setCell ⟨T, 2, none⟩ (.int .i64 E)).setCell ⟨T, 3, none⟩ (.int .i64 Q)).cell? ⟨T, 3, none⟩ = some (.int .i64 Q) :=
  ⟨(h.set0 A).cells.1, ((h.set0 A).set1 S).cells.2.1, (((h.set0 A).set1 S).set2 E).cells.2.2.1, ((((h.set0 A).set1 S).set2 E).set3 Q).cells.2.2.2⟩
theorem ext4 {w w' : World} {T : Nat} (h : Ext w w') (hT : w.heap.size ≤ T) (a b c d : Value) : Ext w ((((w'.setCell ⟨T, 0, none⟩ a).setCell ⟨T, 1, none⟩ b).setCell ⟨T, 2, none⟩ c).setCell ⟨T, 3, none⟩ d) :=
  (((h.setCell hT _).setCell hT _).setCell hT _).setCell hT _
/-- A wish, limits in memory. -/
def WB (w : World) (b : Nat) (f t n : Int) : Prop := w.heap[b]? = some (.cells #[.int .i64 f, .int .i64 t, .int .i64 n] 37 (0, 0))
def LB (w : World) (b : Nat) (l m : Int) : Prop := w.heap[b]? = some (.cells #[.int .i64 l, .int .i64 m] 41 (0, 0))
theorem WB.cells {w : World} {b : Nat} {f t n : Int} (h : WB w b f t n) : w.cell? ⟨b, 0, none⟩ = some (.int .i64 f) ∧ w.cell? ⟨b, 1, none⟩ = some (.int .i64 t) ∧ w.cell? ⟨b, 2, none⟩ = some (.int .i64 n) :=
  ⟨by rw [cell_of_row w b 0 _ _ (0, 0) h]; rfl, by rw [cell_of_row w b 1 _ _ (0, 0) h]; rfl, by rw [cell_of_row w b 2 _ _ (0, 0) h]; rfl⟩
theorem LB.cells {w : World} {b : Nat} {l m : Int} (h : LB w b l m) : w.cell? ⟨b, 0, none⟩ = some (.int .i64 l) ∧ w.cell? ⟨b, 1, none⟩ = some (.int .i64 m) :=
  ⟨by rw [cell_of_row w b 0 _ _ (0, 0) h]; rfl, by rw [cell_of_row w b 1 _ _ (0, 0) h]; rfl⟩
theorem WB.ext {w w' : World} {b : Nat} {f t n : Int} (h : WB w b f t n) (hx : Ext w w') : WB w' b f t n := hx.heap h
theorem LB.ext {w w' : World} {b : Nat} {l m : Int} (h : LB w b l m) (hx : Ext w w') : LB w' b l m := hx.heap h

theorem initF_no {f t n l m now skew : Int} (h : [wshB f t n, limB l m, momB now, skwB skew].all id = false) : initF f t n l m now skew = (0, 0, 0, 0, 2) := by
  unfold initF
  rw [if_neg]
  rintro ⟨h1, h2, h3, h4⟩
  simp [h1, h2, h3, h4] at h
theorem initF_yes {f t n l m now skew : Int} (h : [wshB f t n, limB l m, momB now, skwB skew].all id = true) : initF f t n l m now skew = freshF now (if now + skew < f then f else now) t n l m 1099511627776 1099511627776 ∧ (0 ≤ f ∧ f ≤ 1099511627776) ∧ (1 ≤ l ∧ l ≤ 2147483648 ∧ 0 ≤ m ∧ m ≤ 2147483648) ∧ (0 ≤ now ∧ now ≤ 1099511627776) ∧ (0 ≤ skew ∧ skew ≤ 86400) := by
  have h' : wshB f t n = true ∧ limB l m = true ∧ momB now = true ∧ skwB skew = true := by simpa using h
  refine ⟨?_, (wshB_bd h'.1).1, limB_bd h'.2.1, momB_bd h'.2.2.1, skwB_bd h'.2.2.2⟩
  unfold initF
  rw [if_pos h']
theorem deriveF_no {ba bs be br f t n l m now skew : Int} (h : [wshB f t n, limB l m].all id = false) : deriveF ba bs be br f t n l m now skew = (0, 0, 0, 0, 2) := by
  unfold deriveF
  rw [if_neg]
  rintro ⟨h1, h2⟩
  simp [h1, h2] at h
theorem deriveF_yes {ba bs be br f t n l m now skew : Int} (h : [wshB f t n, limB l m].all id = true) : deriveF ba bs be br f t n l m now skew = (if usableF ba bs be br now skew = 0 then freshF ba (if now + skew < f then f else max now ba) t n l m be br else (0, 0, 0, 0, usableF ba bs be br now skew)) ∧ (0 ≤ f ∧ f ≤ 1099511627776) ∧ (1 ≤ l ∧ l ≤ 2147483648 ∧ 0 ≤ m ∧ m ≤ 2147483648) ∧ 0 ≤ n := by
  have h' : wshB f t n = true ∧ limB l m = true := by simpa using h
  refine ⟨?_, (wshB_bd h'.1).1, limB_bd h'.2, (wshB_bd h'.1).2.2.1⟩
  unfold deriveF
  rw [if_pos h']

/-- The world behind Initial's boxes. -/
theorem boxes3 (w : World) (f t n l m : Int) : ∃ wr, ((w.alloc (.cells #[.int .i64 f, .int .i64 t, .int .i64 n] 37)).alloc (.cells #[.int .i64 l, .int .i64 m] 41)).alloc (.cells #[.int .i64 0, .int .i64 0, .int .i64 0, .int .i64 0] 23) = wr ∧ Ext w wr ∧ WB wr w.heap.size f t n ∧ LB wr (w.heap.size + 1) l m ∧ TB wr (w.heap.size + 1 + 1) 0 0 0 0 := by
  refine ⟨_, rfl, (((Ext.refl w).alloc _).alloc _).alloc _, ?_, ?_, ?_⟩
  · exact WB.ext (heap_alloc_new w _) (((Ext.refl _).alloc _).alloc _)
  · have := heap_alloc_new (w.alloc (.cells #[.int .i64 f, .int .i64 t, .int .i64 n] 37)) (.cells #[.int .i64 l, .int .i64 m] 41)
    exact LB.ext (by simpa [LB] using this) ((Ext.refl _).alloc _)
  · have := heap_alloc_new ((w.alloc (.cells #[.int .i64 f, .int .i64 t, .int .i64 n] 37)).alloc (.cells #[.int .i64 l, .int .i64 m] 41)) (.cells #[.int .i64 0, .int .i64 0, .int .i64 0, .int .i64 0] 23)
    simpa [TB] using this
/-- The world behind Derive's. -/
theorem boxes4 (w : World) (a s e r f t n l m : Int) : ∃ wr, (((w.alloc (.cells #[.int .i64 a, .int .i64 s, .int .i64 e, .int .i64 r] 23)).alloc (.cells #[.int .i64 f, .int .i64 t, .int .i64 n] 37)).alloc (.cells #[.int .i64 l, .int .i64 m] 41)).alloc (.cells #[.int .i64 0, .int .i64 0, .int .i64 0, .int .i64 0] 23) = wr ∧ Ext w wr ∧ TB wr w.heap.size a s e r ∧ WB wr (w.heap.size + 1) f t n ∧ LB wr (w.heap.size + 1 + 1) l m ∧ TB wr (w.heap.size + 1 + 1 + 1) 0 0 0 0 := by
  obtain ⟨wr, h, hx, h1, h2, h3⟩ := boxes3 (w.alloc (.cells #[.int .i64 a, .int .i64 s, .int .i64 e, .int .i64 r] 23)) f t n l m
  refine ⟨wr, h, ((Ext.refl w).alloc _).trans hx, TB.ext (heap_alloc_new w _) hx, ?_, ?_, ?_⟩
  · simpa using h1
  · simpa using h2
  · simpa using h3

set_option maxRecDepth 100000 in
theorem Initial_is (f t n l m now skew A S E Q er : Int) (hres : initF f t n l m now skew = (A, S, E, Q, er)) (w : World) :
    Calls Tryz.prog 10 #[.agg #[.int .i64 f, .int .i64 t, .int .i64 n], .agg #[.int .i64 l, .int .i64 m], .int .i64 now, .int .i64 skew] w fun en w' =>
      en = .returned (.tuple #[.agg #[.int .i64 A, .int .i64 S, .int .i64 E, .int .i64 Q], .int .i64 er]) ∧ Ext w w' := by
  obtain ⟨b, hb⟩ : ∃ b, [wshB f t n, limB l m, momB now, skwB skew].all id = b := ⟨_, rfl⟩
  have HB := Lib.hid hb; have HRES := Lib.hid hres
  clear hb hres
  obtain ⟨wr, hwr, hx0, hW, hL, hT⟩ := boxes3 w f t n l m
  go_enter Tryz.func10, Tryz.ntmps10
  go_wp2_with fail
  try rw [hwr]
  clear hwr
  have HX0 := Lib.hid hx0; have HW := Lib.hid hW; have HL := Lib.hid hL; have HT := Lib.hid hT
  clear hx0 hW hL hT
  refine wp_region_ext (fun i v' w' => match i with | 1 => v' = .bool (wshB f t n) | 3 => v' = .bool (limB l m) | 5 => v' = .bool (momB now) | 7 => v' = .bool (skwB skew) | 8 => RS w' v' (blv [wshB f t n, limB l m, momB now, skwB skew]) | 9 => v' = .bool b | _ => False) (by kernel_rfl) (by kernel_rfl) ?_
  refine wpE_op rfl rfl (fun w' hw' K' hK' => ?_)
  have hE := hw'.1
  obtain ⟨q0, q1, q2⟩ := (HW.out.ext ((Ext.drew wr).trans hE)).cells
  go_step
  refine hK' _ ⟨_, rfl⟩ ?_
  clear hK' K' q0 q1 q2  hE hw' w'
  refine wpE_call 11 rfl (by simp) rfl (fun w' hw' K' hK' => ?_) ?_
  · have hE := hw'.1
    go_step
    refine (WishValid_at f t n w').mono ?_
    rintro en w2 ⟨rfl, hx⟩
    exact hK' _ _ ⟨_, rfl, rfl⟩ hx
  rintro _ w7 _ rfl
  simp only [Act.put, List.setIfInBounds_toArray, List.set_cons_succ, List.set_cons_zero]
  refine wpE_op rfl rfl (fun w' hw' K' hK' => ?_)
  have hE := hw'.1
  obtain ⟨q0, q1⟩ := (HL.out.ext ((Ext.drew wr).trans hE)).cells
  go_step
  refine hK' _ ⟨_, rfl⟩ ?_
  clear hK' K' q0 q1  hE hw' w'
  refine wpE_call 13 rfl (by simp) rfl (fun w' hw' K' hK' => ?_) ?_
  · have hE := hw'.1
    go_step
    refine (LimitsValid_at l m w').mono ?_
    rintro en w2 ⟨rfl, hx⟩
    exact hK' _ _ ⟨_, rfl, rfl⟩ hx
  rintro _ w7 _ rfl
  simp only [Act.put, List.setIfInBounds_toArray, List.set_cons_succ, List.set_cons_zero]
  refine wpE_op rfl rfl (fun w' hw' K' hK' => ?_)
  have hE := hw'.1
  go_step
  refine hK' _ ⟨_, rfl⟩ ?_
  clear hK' K'  hE hw' w'
  refine wpE_call 15 rfl (by simp) rfl (fun w' hw' K' hK' => ?_) ?_
  · have hE := hw'.1
    go_step
    refine (moment_at now w').mono ?_
    rintro en w2 ⟨rfl, rfl⟩
    exact hK' _ _ ⟨_, rfl, rfl⟩ (Ext.refl _)
  rintro _ w7 _ rfl
  simp only [Act.put, List.setIfInBounds_toArray, List.set_cons_succ, List.set_cons_zero]
  refine wpE_op rfl rfl (fun w' hw' K' hK' => ?_)
  have hE := hw'.1
  go_step
  refine hK' _ ⟨_, rfl⟩ ?_
  clear hK' K'  hE hw' w'
  refine wpE_call 17 rfl (by simp) rfl (fun w' hw' K' hK' => ?_) ?_
  · have hE := hw'.1
    go_step
    refine (skewed_at skew w').mono ?_
    rintro en w2 ⟨rfl, rfl⟩
    exact hK' _ _ ⟨_, rfl, rfl⟩ (Ext.refl _)
  rintro _ w7 _ rfl
  simp only [Act.put, List.setIfInBounds_toArray, List.set_cons_succ, List.set_cons_zero]
  refine wpE_call 18 rfl (by simp) rfl (fun w' hw' K' hK' => ?_) ?_
  · have hE := hw'.1
    go_step
    exact hK' _ _ ⟨_, rfl, RS.new w' 4 (blv [wshB f t n, limB l m, momB now, skwB skew]) (by simp [blv, maxLen])⟩ ((Ext.refl w').alloc _)
  rintro v8 w8 _ ⟨A8, c8, rfl, hl8, hm8, hc8⟩
  have hR8 : RS w8 (.slice A8 (blv [wshB f t n, limB l m, momB now, skwB skew]).length c8) (blv [wshB f t n, limB l m, momB now, skwB skew]) := ⟨A8, c8, rfl, hl8, hm8, hc8⟩
  clear hl8 hm8 hc8
  simp only [Act.put, List.setIfInBounds_toArray, List.set_cons_succ, List.set_cons_zero]
  refine wpE_call 19 rfl (by simp) rfl (fun w' hw' K' hK' => ?_) ?_
  · have hE := hw'.1
    have hM : Ext w8 w' := hw'.2 18 w8 (by simp [adds]) (by decide)
    go_step
    refine (all_bools A8 c8 [wshB f t n, limB l m, momB now, skwB skew] _ HB.out w' (hR8.ext hM)).mono ?_
    rintro en w2 ⟨rfl, rfl⟩
    exact hK' _ _ ⟨_, rfl, rfl⟩ (Ext.refl _)
  rintro _ w9 _ rfl
  simp only [Act.put, List.setIfInBounds_toArray, List.set_cons_succ, List.set_cons_zero]
  refine wpE_op rfl rfl (fun w' hw' K' hK' => ?_)
  have hE := hw'.1
  go_step
  refine hK' _ ⟨_, rfl⟩ ?_
  clear hK' K'  hE hw' w'
  refine wpE_nil (fun w3 ha => ?_)
  have hx3 : Ext wr w3 := (Ext.drew wr).trans ha.1
  clear ha hR8
  have hT3 := HT.out.ext hx3
  have HX3 := Lib.hid (HX0.out.trans hx3)
  obtain ⟨q0, q1, q2⟩ := (HW.out.ext hx3).cells
  obtain ⟨p0, p1⟩ := (HL.out.ext hx3).cells
  obtain ⟨c0, c1, c2, c3⟩ := hT3.cells
  have f0 := hT3.soft 0; have f1 := hT3.soft 1; have f2 := hT3.soft 2; have f3 := hT3.soft 3
  have HT3 := Lib.hid hT3; clear hT3 hx3
  cases b with
  | false =>
    have h1 := initF_no HB.out
    rw [HRES.out] at h1
    simp only [Prod.mk.injEq] at h1
    obtain ⟨rfl, rfl, rfl, rfl, rfl⟩ := h1
    go_wp2
    obtain ⟨d0, d1, d2, d3⟩ := HT3.out.end_ 0 0 0 0
    refine bodyPost_ret (by simp [results, Tryz.results10, go_sem, d0, d1, d2, d3]; try rfl) rfl ?_
    exact ⟨rfl, ext4 HX3.out (by omega) _ _ _ _⟩
  | true =>
    obtain ⟨h1, b1, b2, b3, b4⟩ := initF_yes HB.out
    rw [HRES.out] at h1
    have hct := times_none f t n l m now skew b1 b2 b3 b4
    rw [← h1] at hct
    simp only [retT] at hct
    have HCT := Lib.hid hct
    clear hct h1 b1 b2 b3 b4
    go_wp2_with fail
    refine (HCT.out _).mono ?_
    rintro en w4 ⟨rfl, hx4⟩
    have hT4 := HT3.out.ext hx4
    obtain ⟨c0', c1', c2', c3'⟩ := hT4.cells
    have f0' := hT4.soft 0; have f1' := hT4.soft 1; have f2' := hT4.soft 2; have f3' := hT4.soft 3
    have HT4 := Lib.hid hT4; have HX4 := Lib.hid (HX3.out.trans hx4); clear hT4 hx4
    go_wp2_with fail
    obtain ⟨d0, d1, d2, d3⟩ := HT4.out.end_ A S E Q
    refine bodyPost_ret (by simp [results, Tryz.results10, go_sem, d0, d1, d2, d3]; try rfl) rfl ?_
    exact ⟨rfl, ext4 HX4.out (by omega) _ _ _ _⟩

set_option maxRecDepth 100000 in
theorem Derive_is (ba bs be br f t n l m now skew A S E Q er : Int) (hres : deriveF ba bs be br f t n l m now skew = (A, S, E, Q, er)) (w : World) :
    Calls Tryz.prog 13 #[.agg #[.int .i64 ba, .int .i64 bs, .int .i64 be, .int .i64 br], .agg #[.int .i64 f, .int .i64 t, .int .i64 n], .agg #[.int .i64 l, .int .i64 m], .int .i64 now, .int .i64 skew] w fun en w' =>
      en = .returned (.tuple #[.agg #[.int .i64 A, .int .i64 S, .int .i64 E, .int .i64 Q], .int .i64 er]) ∧ Ext w w' := by
  obtain ⟨b, hb⟩ : ∃ b, [wshB f t n, limB l m].all id = b := ⟨_, rfl⟩
  have HB := Lib.hid hb; have HRES := Lib.hid hres
  clear hb hres
  obtain ⟨wr, hwr, hx0, hV, hW, hL, hT⟩ := boxes4 w ba bs be br f t n l m
  go_enter Tryz.func13, Tryz.ntmps13
  go_wp2_with fail
  try rw [hwr]
  clear hwr
  have HX0 := Lib.hid hx0; have HW := Lib.hid hW; have HL := Lib.hid hL; have HT := Lib.hid hT; have HV := Lib.hid hV
  clear hx0 hW hL hT hV
  refine wp_region_ext (fun i v' w' => match i with | 1 => v' = .bool (wshB f t n) | 3 => v' = .bool (limB l m) | 4 => RS w' v' (blv [wshB f t n, limB l m]) | 5 => v' = .bool b | _ => False) (by kernel_rfl) (by kernel_rfl) ?_
  refine wpE_op rfl rfl (fun w' hw' K' hK' => ?_)
  have hE := hw'.1
  obtain ⟨q0, q1, q2⟩ := (HW.out.ext ((Ext.drew wr).trans hE)).cells
  go_step
  refine hK' _ ⟨_, rfl⟩ ?_
  clear hK' K' q0 q1 q2  hE hw' w'
  refine wpE_call 14 rfl (by simp) rfl (fun w' hw' K' hK' => ?_) ?_
  · have hE := hw'.1
    go_step
    refine (WishValid_at f t n w').mono ?_
    rintro en w2 ⟨rfl, hx⟩
    exact hK' _ _ ⟨_, rfl, rfl⟩ hx
  rintro _ w7 _ rfl
  simp only [Act.put, List.setIfInBounds_toArray, List.set_cons_succ, List.set_cons_zero]
  refine wpE_op rfl rfl (fun w' hw' K' hK' => ?_)
  have hE := hw'.1
  obtain ⟨q0, q1⟩ := (HL.out.ext ((Ext.drew wr).trans hE)).cells
  go_step
  refine hK' _ ⟨_, rfl⟩ ?_
  clear hK' K' q0 q1  hE hw' w'
  refine wpE_call 16 rfl (by simp) rfl (fun w' hw' K' hK' => ?_) ?_
  · have hE := hw'.1
    go_step
    refine (LimitsValid_at l m w').mono ?_
    rintro en w2 ⟨rfl, hx⟩
    exact hK' _ _ ⟨_, rfl, rfl⟩ hx
  rintro _ w7 _ rfl
  simp only [Act.put, List.setIfInBounds_toArray, List.set_cons_succ, List.set_cons_zero]
  refine wpE_call 17 rfl (by simp) rfl (fun w' hw' K' hK' => ?_) ?_
  · have hE := hw'.1
    go_step
    exact hK' _ _ ⟨_, rfl, RS.new w' 4 (blv [wshB f t n, limB l m]) (by simp [blv, maxLen])⟩ ((Ext.refl w').alloc _)
  rintro v8 w8 _ ⟨A8, c8, rfl, hl8, hm8, hc8⟩
  have hR8 : RS w8 (.slice A8 (blv [wshB f t n, limB l m]).length c8) (blv [wshB f t n, limB l m]) := ⟨A8, c8, rfl, hl8, hm8, hc8⟩
  clear hl8 hm8 hc8
  simp only [Act.put, List.setIfInBounds_toArray, List.set_cons_succ, List.set_cons_zero]
  refine wpE_call 18 rfl (by simp) rfl (fun w' hw' K' hK' => ?_) ?_
  · have hE := hw'.1
    have hM : Ext w8 w' := hw'.2 17 w8 (by simp [adds]) (by decide)
    go_step
    refine (all_bools A8 c8 [wshB f t n, limB l m] _ HB.out w' (hR8.ext hM)).mono ?_
    rintro en w2 ⟨rfl, rfl⟩
    exact hK' _ _ ⟨_, rfl, rfl⟩ (Ext.refl _)
  rintro _ w9 _ rfl
  simp only [Act.put, List.setIfInBounds_toArray, List.set_cons_succ, List.set_cons_zero]
  refine wpE_op rfl rfl (fun w' hw' K' hK' => ?_)
  have hE := hw'.1
  go_step
  refine hK' _ ⟨_, rfl⟩ ?_
  clear hK' K'  hE hw' w'
  refine wpE_nil (fun w3 ha => ?_)
  have hx3 : Ext wr w3 := (Ext.drew wr).trans ha.1
  clear ha hR8
  have hT3 := HT.out.ext hx3
  have hV3 := HV.out.ext hx3
  have HX3 := Lib.hid (HX0.out.trans hx3)
  obtain ⟨q0, q1, q2⟩ := (HW.out.ext hx3).cells
  obtain ⟨p0, p1⟩ := (HL.out.ext hx3).cells
  obtain ⟨c0, c1, c2, c3⟩ := hT3.cells
  obtain ⟨v0, v1, v2, v3⟩ := hV3.cells
  have f0 := hT3.soft 0; have f1 := hT3.soft 1; have f2 := hT3.soft 2; have f3 := hT3.soft 3
  have HT3 := Lib.hid hT3; have HV3 := Lib.hid hV3; have HXR := Lib.hid hx3; clear hT3 hV3 hx3
  cases b with
  | false =>
    have h1 := deriveF_no (ba := ba) (bs := bs) (be := be) (br := br) (now := now) (skew := skew) HB.out
    rw [HRES.out] at h1
    simp only [Prod.mk.injEq] at h1
    obtain ⟨rfl, rfl, rfl, rfl, rfl⟩ := h1
    go_wp2
    obtain ⟨d0, d1, d2, d3⟩ := HT3.out.end_ 0 0 0 0
    refine bodyPost_ret (by simp [results, Tryz.results13, go_sem, d0, d1, d2, d3]; try rfl) rfl ?_
    exact ⟨rfl, ext4 HX3.out (by omega) _ _ _ _⟩
  | true =>
    obtain ⟨h1, b1, b2, b3⟩ := deriveF_yes (ba := ba) (bs := bs) (be := be) (br := br) (now := now) (skew := skew) HB.out
    rw [HRES.out] at h1
    have hus := Usable_at ba bs be br now skew
    have hcs := usableF_cases ba bs be br now skew
    obtain ⟨u, hu⟩ : ∃ u, usableF ba bs be br now skew = u := ⟨_, rfl⟩
    rw [hu] at h1 hus hcs
    have HUS := Lib.hid hus
    clear hus hu
    by_cases hu0 : u = 0
    · subst hu0
      rw [if_pos rfl] at h1
      have hok : validB ba bs be br = true ∧ momB now = true ∧ skwB skew = true := by
        rcases hcs with h | h
        · omega
        · exact h.2
      obtain ⟨v1', v2', v3', v4', _⟩ := validB_bd hok.1
      have hct := times_some f t n l m now skew ba bs be br w.heap.size b1 b2 (momB_bd hok.2.1) (skwB_bd hok.2.2) ⟨v1', by omega⟩ b3
      rw [← h1] at hct
      simp only [retT] at hct
      have HCT := Lib.hid hct
      clear hct h1 b1 b2 b3 hok v1' v2' v3' v4' hcs
      go_wp2_with fail
      refine (HUS.out _).mono ?_
      rintro en w4 ⟨rfl, hx4⟩
      have HT4 := Lib.hid (HT3.out.ext hx4)
      have hV4 := HV3.out.ext hx4
      obtain ⟨q0', q1', q2'⟩ := (HW.out.ext (HXR.out.trans hx4)).cells
      obtain ⟨p0', p1'⟩ := (HL.out.ext (HXR.out.trans hx4)).cells
      have HX4 := Lib.hid (HX3.out.trans hx4)
      have HV4 := Lib.hid hV4
      clear hx4 hV4
      go_wp2_with fail
      refine (HCT.out _ HV4.out).mono ?_
      rintro en w5 ⟨rfl, hx5⟩
      have hT5 := HT4.out.ext hx5
      obtain ⟨c0', c1', c2', c3'⟩ := hT5.cells
      have f0' := hT5.soft 0; have f1' := hT5.soft 1; have f2' := hT5.soft 2; have f3' := hT5.soft 3
      have HT5 := Lib.hid hT5; have HX5 := Lib.hid (HX4.out.trans hx5); clear hT5 hx5
      go_wp2_with fail
      obtain ⟨d0, d1, d2, d3⟩ := HT5.out.end_ A S E Q
      refine bodyPost_ret (by simp [results, Tryz.results13, go_sem, d0, d1, d2, d3]; try rfl) rfl ?_
      exact ⟨rfl, ext4 HX5.out (by omega) _ _ _ _⟩
    · rw [if_neg hu0] at h1
      simp only [Prod.mk.injEq] at h1
      obtain ⟨rfl, rfl, rfl, rfl, rfl⟩ := h1
      have hu1 : (er != 0) = true := by simpa using hu0
      clear b1 b2 b3 hcs hu0
      go_wp2_with fail
      refine (HUS.out _).mono ?_
      rintro en w4 ⟨rfl, hx4⟩
      have hT4 := HT3.out.ext hx4
      obtain ⟨c0', c1', c2', c3'⟩ := hT4.cells
      have f0' := hT4.soft 0; have f1' := hT4.soft 1; have f2' := hT4.soft 2; have f3' := hT4.soft 3
      have HT4 := Lib.hid hT4; have HX4 := Lib.hid (HX3.out.trans hx4); clear hT4 hx4
      go_wp2_with fail
      obtain ⟨d0, d1, d2, d3⟩ := HT4.out.end_ 0 0 0 0
      refine bodyPost_ret (by simp [results, Tryz.results13, go_sem, d0, d1, d2, d3]; try rfl) rfl ?_
      exact ⟨rfl, ext4 HX4.out (by omega) _ _ _ _⟩
end Go.Proofs.YtfgmmjpejlpdoaaGreatDoor
