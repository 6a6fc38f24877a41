/- LifetimeTexts: the law. (wip/tools/genlttx.py printed this.) -/
import Derived.Test.YtfgmmjpejlpdoaaDoorLtK2
import Derived.Test.YtfgmmjpejlpdoaaDoorLtP1
import Derived.Test.YtfgmmjpejlpdoaaDoorLtX3
import Derived.Test.YtfgmmjpejlpdoaaDoorLtX4
namespace Go.Proofs.YtfgmmjpejlpdoaaDoor
theorem PRes.det (l : List UInt8) : ∃ a s e r er, ∀ en, PRes l en → en = .returned (.tuple #[.agg #[.int .i64 a, .int .i64 s, .int .i64 e, .int .i64 r], .int .i64 er]) := by
  by_cases h : ∃ a s e r, validB a s e r = true ∧ textT a s e r = l
  · obtain ⟨a, s, e, r, hv, ht⟩ := h
    exact ⟨a, s, e, r, 0, fun en hen => hen.uniq (.inl ⟨a, s, e, r, hv, ht, rfl⟩)⟩
  · exact ⟨0, 0, 0, 0, 6, fun en hen => hen.uniq (.inr ⟨fun a s e r hv ht => h ⟨a, s, e, r, hv, ht⟩, rfl⟩)⟩
theorem Encode_yes (a s e r : Int) (hv : validB a s e r = true) (w : Go.World) :
    Go.Calls Tryd.prog 35 #[.agg #[.int .i64 a, .int .i64 s, .int .i64 e, .int .i64 r]] w fun en w' => ∃ A c, en = .returned (.tuple #[.slice A (encTimes a s e r).length c, .int .i64 0]) ∧ OB 5 w' w.heap.size (.slice A (encTimes a s e r).length c) (encTimes a s e r) ∧ Ext w w' := by
  by_cases hr : r = 0
  · exact Encode_zero a s e r hv hr w
  · exact Encode_full a s e r hv hr w
theorem VBt.str {L : List UInt8} {A : Option Go.Addr} {c : Nat} {w w' : Go.World} (h : BS w (.slice A L.length c) L) (hx : Ext w w') : (Go.convert 47 9 (.slice A L.length c)).run Tryd.prog w' = .ok (.string ⟨L.toArray⟩) w' :=
  run_str _ _ _ 5 _ _ Tryd.underlying47 Tryd.underlying5 Tryd.underlying9 (h.ext hx)
end Go.Proofs.YtfgmmjpejlpdoaaDoor
namespace Go.Proofs.YtfgmmjpejlpdoaaDoor.lifetimeTexts
open Go Go.RowKit
set_option linter.unusedVariables false

set_option maxRecDepth 100000 in
set_option maxHeartbeats 4000000 in
theorem law_walk (a s e r : Int) (str : ByteArray) (w : World) (hp : Env w) :
    Calls Tryd.prog 10 #[.agg #[.int .i64 a, .int .i64 s, .int .i64 e, .int .i64 r], .string str] w fun en w' => en = .returned (.bool true) ∧ Ext w w' := by
  have HE := Lib.hid hp; clear hp
  have HT0 := Lib.hid (show TB (w.alloc (.cells #[.int .i64 a, .int .i64 s, .int .i64 e, .int .i64 r] 27)) w.heap.size a s e r from heap_alloc_new w _)
  have HX0 := Lib.hid ((Ext.refl w).alloc (.cells #[.int .i64 a, .int .i64 s, .int .i64 e, .int .i64 r] 27))
  by_cases hl : str.size ≤ 100
  · have hgt : ¬ ((100 : Int) < (str.size : Int)) := by omega
    have hgt8 : decide (100 < str.size) = false := decide_eq_false (by omega)
    obtain ⟨a1, s1, e1, r1, er1, hdet⟩ := PRes.det str.data.toList
    have H1 := Lib.hid (fun (W : World) (hE : Env W) => (Parse_at str (by omega) W hE).mono (R' := fun en w' => en = .returned (.tuple #[.agg #[.int .i64 a1, .int .i64 s1, .int .i64 e1, .int .i64 r1], .int .i64 er1]) ∧ Ext W w') (fun en w' h => ⟨hdet en h.1, h.2⟩))
    have H2 := Lib.hid (fun (W : World) => (RParse_at str (by omega) W).mono (R' := fun en w' => en = .returned (.tuple #[.agg #[.int .i64 a1, .int .i64 s1, .int .i64 e1, .int .i64 r1], .int .i64 er1]) ∧ Ext W w') (fun en w' h => ⟨hdet en h.1, h.2⟩))
    clear hdet
    obtain ⟨q0, q1, q2, q3⟩ := HT0.out.cells
    cases hv : validB a s e r with
    | false =>
      have HV := Lib.hid hv; clear hv
      go_enter Tryd.func10, Tryd.ntmps10
      go_wp2_with fail
      refine (Text_bad a s e r HV.out _).mono ?_
      rintro _ w3 ⟨rfl, hx3⟩
      have HT3 := Lib.hid (HT0.out.ext hx3); have HX3 := Lib.hid (HX0.out.trans hx3); clear hx3
      obtain ⟨q0, q1, q2, q3⟩ := HT3.out.cells
      go_wp2_with fail
      refine (Encode_no a s e r HV.out _).mono ?_
      rintro _ w4 ⟨rfl, hx4⟩
      have HT4 := Lib.hid (HT3.out.ext hx4); have HX4 := Lib.hid (HX3.out.trans hx4); clear hx4
      obtain ⟨q0, q1, q2, q3⟩ := HT4.out.cells
      go_wp2_with fail
      refine (LVal_is a s e r false HV.out _).mono ?_
      rintro _ w5 ⟨rfl, hx5⟩
      have HX5 := Lib.hid (HX4.out.trans hx5); clear hx5
      go_wp2_with fail
      refine (H1.out w5 (HE.out.ext HX5.out)).mono ?_
      rintro _ p1 ⟨rfl, hx1⟩
      have HP1 := Lib.hid (HX5.out.trans hx1); clear hx1
      go_wp2_with fail
      have hT1 : TB (p1.alloc (.cells #[.int .i64 a1, .int .i64 s1, .int .i64 e1, .int .i64 r1] 27)) p1.heap.size a1 s1 e1 r1 := heap_alloc_new p1 _
      refine (H2.out (p1.alloc (.cells #[.int .i64 a1, .int .i64 s1, .int .i64 e1, .int .i64 r1] 27))).mono ?_
      rintro _ p2 ⟨rfl, hx2⟩
      have hT2 : TB (p2.alloc (.cells #[.int .i64 a1, .int .i64 s1, .int .i64 e1, .int .i64 r1] 27)) p2.heap.size a1 s1 e1 r1 := heap_alloc_new p2 _
      obtain ⟨k0, k1, k2, k3⟩ := (hT1.ext (hx2.alloc (.cells #[.int .i64 a1, .int .i64 s1, .int .i64 e1, .int .i64 r1] 27))).cells
      have HP2 := Lib.hid (((HP1.out.alloc (.cells #[.int .i64 a1, .int .i64 s1, .int .i64 e1, .int .i64 r1] 27)).trans hx2).alloc (.cells #[.int .i64 a1, .int .i64 s1, .int .i64 e1, .int .i64 r1] 27))
      clear hx2 hT1 hT2
      go_wp2_with fail
      clear k0 k1 k2 k3
      refine (known_at _ (HE.out.ext HP2.out).pow).mono ?_
      rintro _ p3 ⟨rfl, hx3⟩
      have HP3 := Lib.hid (HP2.out.trans hx3); clear hx3
      go_wp2_with fail
      go_ret
      exact ⟨rfl, HP3.out⟩
    | true =>
      have HV := Lib.hid hv; clear hv
      go_enter Tryd.func10, Tryd.ntmps10
      go_wp2_with fail
      refine (Text_at a s e r HV.out _ (HE.out.ext HX0.out).pow).mono ?_
      rintro _ w3 ⟨rfl, hx3⟩
      have HT3 := Lib.hid (HT0.out.ext hx3); have HX3 := Lib.hid (HX0.out.trans hx3); clear hx3
      obtain ⟨q0, q1, q2, q3⟩ := HT3.out.cells
      go_wp2_with fail
      refine (Encode_yes a s e r HV.out _).mono ?_
      rintro _ w4 ⟨A4, c4, rfl, hb4, hx4⟩
      have HT4 := Lib.hid (HT3.out.ext hx4); have HX4 := Lib.hid (HX3.out.trans hx4); have HB4 := Lib.hid hb4.bs; clear hx4 hb4
      obtain ⟨q0, q1, q2, q3⟩ := HT4.out.cells
      go_wp2_with fail
      refine (LVal_is a s e r true HV.out _).mono ?_
      rintro _ w5 ⟨rfl, hx5⟩
      have HT5 := Lib.hid (HT4.out.ext hx5); have HX5 := Lib.hid (HX4.out.trans hx5); have HB5 := Lib.hid (HB4.out.ext hx5); clear hx5
      go_wp2_with fail
      refine wp_region_ext (fun i v' w' => match i with | 2 => v' = .string ⟨(textT a s e r).toArray⟩ | 8 => VBt (encTimes a s e r) v' w' | _ => False) (by kernel_rfl) (by kernel_rfl) ?_
      refine wpE_op rfl rfl (fun w' hw' K' hK' => ?_)
      have hE := hw'.1
      go_step
      refine hK' _ ⟨_, rfl⟩ ?_
      clear hK' K'  hE hw' w'
      refine wpE_op rfl rfl (fun w' hw' K' hK' => ?_)
      have hE := hw'.1
      obtain ⟨u0, u1, u2, u3⟩ := (HT5.out.ext ((Ext.drew w5).trans hE)).cells
      go_step
      refine hK' _ ⟨_, rfl⟩ ?_
      clear hK' K' u0 u1 u2 u3 hE hw' w'
      refine wpE_call 47 rfl (by simp) rfl (fun w' hw' K' hK' => ?_) ?_
      · have hE := hw'.1
        go_step
        refine (RText_at a s e r HV.out _).mono ?_
        rintro _ w2 ⟨rfl, hx⟩
        exact hK' _ _ ⟨_, rfl, rfl⟩ hx
      rintro _ w6 hE6 rfl
      simp only [Act.put, List.setIfInBounds_toArray, List.set_cons_succ, List.set_cons_zero]
      refine wpE_op rfl rfl (fun w' hw' K' hK' => ?_)
      have hE := hw'.1
      go_step
      refine hK' _ ⟨_, rfl⟩ ?_
      clear hK' K'  hE hw' w'
      refine wpE_op rfl rfl (fun w' hw' K' hK' => ?_)
      have hE := hw'.1
      go_step
      refine hK' _ ⟨_, rfl⟩ ?_
      clear hK' K'  hE hw' w'
      refine wpE_op rfl rfl (fun w' hw' K' hK' => ?_)
      have hE := hw'.1
      go_step
      refine hK' _ ⟨_, rfl⟩ ?_
      clear hK' K'  hE hw' w'
      refine wpE_op rfl rfl (fun w' hw' K' hK' => ?_)
      have hE := hw'.1
      have hs := VBt.str HB5.out ((Ext.drew w5).trans hE)
      go_step
      refine hK' _ ⟨_, rfl⟩ ?_
      clear hK' K' hs hE hw' w'
      refine wpE_op rfl rfl (fun w' hw' K' hK' => ?_)
      have hE := hw'.1
      obtain ⟨u0, u1, u2, u3⟩ := (HT5.out.ext ((Ext.drew w5).trans hE)).cells
      go_step
      refine hK' _ ⟨_, rfl⟩ ?_
      clear hK' K' u0 u1 u2 u3 hE hw' w'
      refine wpE_call 53 rfl (by simp) rfl (fun w' hw' K' hK' => ?_) ?_
      · have hE := hw'.1
        go_step
        refine (REncode_at a s e r _).mono ?_
        rintro _ w2 ⟨A2, c2, rfl, hb, hx⟩
        exact hK' _ _ ⟨_, rfl, A2, c2, rfl, hb.bs⟩ hx
      rintro _ w7 hE7 ⟨A7, c7, rfl, hb7⟩
      simp only [Act.put, List.setIfInBounds_toArray, List.set_cons_succ, List.set_cons_zero]
      refine wpE_op rfl rfl (fun w' hw' K' hK' => ?_)
      have hE := hw'.1
      have hM53 : Ext w7 w' := hw'.2 53 w7 (by simp [adds]) (by decide)
      have hs := VBt.str hb7 hM53
      go_step
      refine hK' _ ⟨_, rfl⟩ ?_
      clear hK' K' hs hM53 hE hw' w'
      refine wpE_op rfl rfl (fun w' hw' K' hK' => ?_)
      have hE := hw'.1
      go_step
      refine hK' _ ⟨_, rfl⟩ ?_
      clear hK' K'  hE hw' w'
      refine wpE_op rfl rfl (fun w' hw' K' hK' => ?_)
      have hE := hw'.1
      go_step
      refine hK' _ ⟨_, rfl⟩ ?_
      clear hK' K'  hE hw' w'
      refine wpE_op rfl rfl (fun w' hw' K' hK' => ?_)
      have hE := hw'.1
      go_step
      refine hK' _ ⟨_, rfl⟩ ?_
      clear hK' K'  hE hw' w'
      refine wpE_op rfl rfl (fun w' hw' K' hK' => ?_)
      have hE := hw'.1
      go_step
      refine hK' _ ⟨_, rfl⟩ ?_
      clear hK' K'  hE hw' w'
      refine wpE_op rfl rfl (fun w' hw' K' hK' => ?_)
      have hE := hw'.1
      go_step
      refine hK' _ ⟨_, rfl⟩ ?_
      clear hK' K'  hE hw' w'
      refine wpE_op rfl rfl (fun w' hw' K' hK' => ?_)
      have hE := hw'.1
      go_step
      refine hK' _ ⟨_, rfl⟩ ?_
      clear hK' K'  hE hw' w'
      refine wpE_op rfl rfl (fun w' hw' K' hK' => ?_)
      have hE := hw'.1
      go_step
      refine hK' _ ⟨_, rfl⟩ ?_
      clear hK' K'  hE hw' w'
      refine wpE_op rfl rfl (fun w' hw' K' hK' => ?_)
      have hE := hw'.1
      go_step
      refine hK' _ ⟨_, rfl⟩ ?_
      clear hK' K'  hE hw' w'
      refine wpE_op rfl rfl (fun w' hw' K' hK' => ?_)
      have hE := hw'.1
      go_step
      refine hK' _ ⟨_, rfl⟩ ?_
      clear hK' K'  hE hw' w'
      refine wpE_op rfl rfl (fun w' hw' K' hK' => ?_)
      have hE := hw'.1
      go_step
      refine hK' _ ⟨_, rfl⟩ ?_
      clear hK' K'  hE hw' w'
      refine wpE_nil (fun w8 hw8 => ?_)
      have HX8 := Lib.hid (HX5.out.trans ((Ext.drew w5).trans hw8.1))
      clear hw8 hb7 hE7 hE6
      go_wp2_with fail
      refine (H1.out w8 (HE.out.ext HX8.out)).mono ?_
      rintro _ p1 ⟨rfl, hx1⟩
      have HP1 := Lib.hid (HX8.out.trans hx1); clear hx1
      go_wp2_with fail
      have hT1 : TB (p1.alloc (.cells #[.int .i64 a1, .int .i64 s1, .int .i64 e1, .int .i64 r1] 27)) p1.heap.size a1 s1 e1 r1 := heap_alloc_new p1 _
      refine (H2.out (p1.alloc (.cells #[.int .i64 a1, .int .i64 s1, .int .i64 e1, .int .i64 r1] 27))).mono ?_
      rintro _ p2 ⟨rfl, hx2⟩
      have hT2 : TB (p2.alloc (.cells #[.int .i64 a1, .int .i64 s1, .int .i64 e1, .int .i64 r1] 27)) p2.heap.size a1 s1 e1 r1 := heap_alloc_new p2 _
      obtain ⟨k0, k1, k2, k3⟩ := (hT1.ext (hx2.alloc (.cells #[.int .i64 a1, .int .i64 s1, .int .i64 e1, .int .i64 r1] 27))).cells
      have HP2 := Lib.hid (((HP1.out.alloc (.cells #[.int .i64 a1, .int .i64 s1, .int .i64 e1, .int .i64 r1] 27)).trans hx2).alloc (.cells #[.int .i64 a1, .int .i64 s1, .int .i64 e1, .int .i64 r1] 27))
      clear hx2 hT1 hT2
      go_wp2_with fail
      clear k0 k1 k2 k3
      refine (known_at _ (HE.out.ext HP2.out).pow).mono ?_
      rintro _ p3 ⟨rfl, hx3⟩
      have HP3 := Lib.hid (HP2.out.trans hx3); clear hx3
      go_wp2_with fail
      go_ret
      exact ⟨rfl, HP3.out⟩
  · have hgt : (100 : Int) < (str.size : Int) := by omega
    have hgt8 : decide (100 < str.size) = true := decide_eq_true (by omega)
    clear hl
    go_enter Tryd.func10, Tryd.ntmps10
    go_wp2_with fail
    refine (known_at _ (HE.out.ext HX0.out).pow).mono ?_
    rintro _ w5 ⟨rfl, hx5⟩
    have HX5 := Lib.hid (HX0.out.trans hx5); clear hx5
    go_wp2_with fail
    go_ret
    exact ⟨rfl, HX5.out⟩
end Go.Proofs.YtfgmmjpejlpdoaaDoor.lifetimeTexts
