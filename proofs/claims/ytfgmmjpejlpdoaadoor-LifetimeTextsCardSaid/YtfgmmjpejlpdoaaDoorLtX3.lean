/- The reference's Parse of times. -/
import Derived.Test.YtfgmmjpejlpdoaaDoorLtX1
import Derived.Test.YtfgmmjpejlpdoaaDoorLtX2
import Derived.Test.YtfgmmjpejlpdoaaDoorLt1
import Derived.Test.YtfgmmjpejlpdoaaDoorLtR1
import Derived.Test.YtfgmmjpejlpdoaaDoorExt2
import Derived.Handy
import Derived.RangeFuncBox
import Derived.Deep.RegionLaw
namespace Go.Proofs.YtfgmmjpejlpdoaaDoor
open Go Go.RowKit
set_option linter.unusedVariables false

/-- Integers as values. -/
def iv (l : List Int) : List Value := l.map (Value.int .i64)
theorem iv_length (l : List Int) : (iv l).length = l.length := by simp [iv]
theorem iv_last (pre : List Int) (x : Int) : (iv (pre ++ [x]))[pre.length]? = some (.int .i64 x) := by simp [iv]
theorem iv_set (pre : List Int) (x y : Int) : (iv (pre ++ [x])).set pre.length (.int .i64 y) = iv (pre ++ [y]) := by simp [iv]
theorem intinfo : (Tryd.prog.info? 3).map (fun i => (i.zero, i.size, i.bytes)) = some (some (.int .i64 0), 1, 8) := by kernel_rfl
theorem own_lit (w : World) (B : Nat) (x : Int) (hB : B ≤ w.heap.size) {z : Nat} (hz : z = w.heap.size) : (w.alloc (.cells #[.int .i64 x] 3)).ownsRow B 3 1 (.slice (some ⟨z, 0, none⟩) 1 1) 1 (iv [x]) := by
  subst hz
  exact ⟨by simp [iv], .inr ⟨w.heap.size, 1, #[.int .i64 x], rfl, hB, heap_alloc_new w _, Nat.le_refl _, by simp [maxLen], by simp, by simp [iv]⟩⟩
theorem drop_at (s : ByteArray) (k : Nat) (h : k < s.size) : s.data.toList.drop k = s[k] :: s.data.toList.drop (k + 1) := by
  rw [List.drop_eq_getElem_cons (by rw [Array.length_toList]; exact h)]; rfl

theorem own_snoc {W : World} {B : Nat} {v : Value} {l : List Int} (h : W.ownsRow B 3 1 v (iv l ++ [Value.int .i64 0]).length (iv l ++ [Value.int .i64 0])) : W.ownsRow B 3 1 v (l.length + 1) (iv (l ++ [0])) := by
  have e : iv l ++ [Value.int .i64 0] = iv (l ++ [0]) := by simp [iv]
  rw [e, iv_length, List.length_append, List.length_singleton] at h
  exact h
theorem own_set {W : World} {B m : Nat} {v : Value} {pre : List Int} {x y : Int} (hm : pre.length = m) (h : W.ownsRow B 3 1 v (m + 1) ((iv (pre ++ [x])).set m (.int .i64 y))) : W.ownsRow B 3 1 v (pre.length + 1) (iv (pre ++ [y])) := by
  subst hm
  rw [iv_set] at h
  exact h
theorem putX4 {w0 W : World} {n : Nat} {a s e r : Int} (hx : Ext w0 W) (hn : w0.heap.size ≤ n) (h : TB W n a s e r) (A S E Q : Int) :
    ∃ WF, (((W.setCell ⟨n, 0, none⟩ (.int .i64 A)).setCell ⟨n, 1, none⟩ (.int .i64 S)).setCell ⟨n, 2, none⟩ (.int .i64 E)).setCell ⟨n, 3, none⟩ (.int .i64 Q) = WF ∧ Ext w0 WF ∧
      WF.cell? ⟨n, 0, none⟩ = some (.int .i64 A) ∧ WF.cell? ⟨n, 1, none⟩ = some (.int .i64 S) ∧ WF.cell? ⟨n, 2, none⟩ = some (.int .i64 E) ∧ WF.cell? ⟨n, 3, none⟩ = some (.int .i64 Q) := by
  have ht := ((((h.set0 A).set1 S).set2 E).set3 Q).cells
  exact ⟨_, rfl, (((hx.setCell hn _).setCell hn _).setCell hn _).setCell hn _, ht.1, ht.2.1, ht.2.2.1, ht.2.2.2⟩
set_option maxRecDepth 100000 in
set_option maxHeartbeats 4000000 in
theorem RParse_at (s : ByteArray) (hs : s.size ≤ 1000) (w : World) :
    Calls Tryd.prog 39 #[.string s] w fun en w' => PRes s.data.toList en ∧ Ext w w' := by
  obtain ⟨i0, hi, hz0, hz1, hz2⟩ := info_parts intinfo
  go_enter Tryd.func39, Tryd.ntmps39
  go_wp2_with fail
  have hRa : TB (w.alloc (.cells #[.int .i64 0, .int .i64 0, .int .i64 0, .int .i64 0] 27)) w.heap.size 0 0 0 0 := heap_alloc_new w _
  obtain ⟨wa, hwa⟩ : ∃ wa, wa = w.alloc (.cells #[.int .i64 0, .int .i64 0, .int .i64 0, .int .i64 0] 27) := ⟨_, rfl⟩
  have hxa : Ext w wa := hwa ▸ (Ext.refl w).alloc _
  have hza : wa.heap.size = w.heap.size + 1 := by rw [hwa]; simp
  rw [← hwa] at hRa ⊢
  clear hwa
  have hO := own_lit wa (w.heap.size + 1) 0 (by omega) hza.symm
  have hRb := hRa.ext ((Ext.refl wa).alloc (.cells #[.int .i64 0] 3))
  have hxb := hxa.trans ((Ext.refl wa).alloc (.cells #[.int .i64 0] 3))
  obtain ⟨wb, hwb⟩ : ∃ wb, wb = wa.alloc (.cells #[.int .i64 0] 3) := ⟨_, rfl⟩
  rw [← hwb] at hO hRb hxb ⊢
  clear hwb hxa hza hRa
  have HO := Lib.hid hO; have HR := Lib.hid hRb; have HX := Lib.hid hxb; clear hO hRb hxb
  go_loopw [4, 5] (fun v i wr => ∃ (k : Nat) (pre : List Int) (x : Int), k ≤ s.size ∧ i = .int .i64 k ∧ Hid (rp [] 0 s.data.toList = rp pre x (s.data.toList.drop k)) ∧ 0 ≤ x ∧ x ≤ 10995116277769 ∧ pre.length ≤ k ∧ wr.ownsRow (w.heap.size + 1) 3 1 v (pre.length + 1) (iv (pre ++ [x])) ∧ TB wr w.heap.size 0 0 0 0 ∧ Ext w wr) (fun _ i _ => s.size - (intOf i).toNat)
  case atStart => exact ⟨0, [], 0, by omega, rfl, Lib.hid rfl, by omega, by omega, by simp, HO.out, HR.out, HX.out⟩
  case round =>
    obtain ⟨k, pre, x, hk, rfl, HP, hx0, hx1, hpk, ho, hT, hx⟩ := hrel
    obtain ⟨g, cap, rfl⟩ := ownsRow_succ ho
    have HOR := Lib.hid ho; have HTR := Lib.hid hT; have HXR := Lib.hid hx
    clear ho hT hx HO HR HX
    obtain ⟨m, hm⟩ : ∃ m, pre.length = m := ⟨_, rfl⟩
    rw [hm] at hpk ⊢
    have HM := Lib.hid hm; clear hm
    have HOV : Hid (wr.ownsRow (w.heap.size + 1) 3 1 (.slice (some ⟨g, 0, none⟩) (m + 1) cap) (iv (pre ++ [x])).length (iv (pre ++ [x]))) := by
      refine Lib.hid ?_
      have h := HOR.out
      rw [HM.out] at h
      rw [iv_length, List.length_append, List.length_singleton, HM.out]
      exact h
    have HOM : Hid (wr.ownsRow (w.heap.size + 1) 3 1 (.slice (some ⟨g, 0, none⟩) (m + 1) cap) (m + 1) (iv (pre ++ [x]))) := by
      refine Lib.hid ?_
      have h := HOR.out
      rw [HM.out] at h
      exact h
    have hgl := World.ownsRow.lt HOV.out g rfl
    have HGL := Lib.hid hgl; clear hgl
    have hcm : wr.cell? ⟨g, m, none⟩ = some (.int .i64 x) := by
      have h := HOM.out.cellAt m (by omega)
      rw [h, ← HM.out]; exact iv_last pre x
    have hfm : wr.frozen? ⟨g, m, none⟩ = false := HOM.out.frozenAt m
    have hmm : (m : Int) < (m : Int) + 1 := by omega
    clear HOR
    by_cases hlt : k < s.size
    · have hdr := drop_at s k hlt
      have HDR := Lib.hid hdr; clear hdr
      have HLT := Lib.hid hlt
      by_cases h32 : s[k].toNat = 32
      · have h32b : (((s[k].toNat : Nat) : Int) == 32) = true := by rw [h32]; rfl
        have HB8 := Lib.hid (show (m + 1 + 1) * 8 ≤ 140737488355328 by omega)
        have H32 := Lib.hid h32; clear h32
        go_wp2_with (at_builtin; refine wpList_append_rs _ rfl (.tmp 19) (.tmp 20) 115 rfl (w.heap.size + 1) 3 i0 (.int .i64 0) 8 Tryd.underlying115 hi hz0 hz1 hz2 rfl _ (iv (pre ++ [x])) rfl (ownsRow_ext HOV.out ((Ext.refl wr).alloc _)) _ [.int .i64 0] rfl (RS.one _ _ _) (by simp [Value.oneCell']) (by rw [iv_length, List.length_append, List.length_singleton, HM.out]; exact HB8.out) (by omega) ?hm ?_; rotate_right; intro v4 w4 hown4 hg4 _)
        case hm => exact Nat.le_trans (Nat.succ_le_succ HXR.out.size) (by simp)
        go_roundw
        case rel =>
          refine ⟨k + 1, pre ++ [x], 0, HLT.out, by go_num, ?_, by omega, by omega, by rw [List.length_append, List.length_singleton, HM.out]; omega, own_snoc hown4, ((HTR.out.ext ((Ext.refl wr).alloc _)).but (show w.heap.size ≠ g by have := HGL.out.1; omega) hg4), (HXR.out.alloc _).grown hg4 (fun j hj => by have hj' : g = j := Option.some.inj hj; have := HGL.out.1; omega)⟩
          refine Lib.hid ?_
          rw [HP.out, HDR.out]; exact rp_sep H32.out
        case measure => have := HLT.out; simp [intOf]; omega
      · have h32b : (((s[k].toNat : Nat) : Int) == 32) = false := by rw [beq_eq_false_iff_ne]; omega
        by_cases hlo : (s[k].toNat : Int) < 48
        · have HB := Lib.hid (show rp [] 0 s.data.toList = none by rw [HP.out, HDR.out]; exact rp_bad h32 (by omega))
          clear h32
          clear hmm hcm hfm
          have f0 := HTR.out.soft 0; have f1 := HTR.out.soft 1; have f2 := HTR.out.soft 2; have f3 := HTR.out.soft 3
          obtain ⟨q0, q1, q2, q3⟩ := HTR.out.cells
          obtain ⟨WF, hWF, hxF, d0, d1, d2, d3⟩ := putX4 HXR.out (Nat.le_refl _) HTR.out 0 0 0 0
          have HXF := Lib.hid hxF; clear hxF
          go_wp2_with fail
          refine bodyPost_ret (v := .tuple #[.agg #[.int .i64 0, .int .i64 0, .int .i64 0, .int .i64 0], .int .i64 6]) (by simp [results, Tryd.results39, go_sem, d0, d1, d2, d3]; try rfl) rfl ?_
          exact ⟨.inr ⟨rp_none HB.out, rfl⟩, HXF.out⟩
        by_cases hhi : 57 < (s[k].toNat : Int)
        · have HB := Lib.hid (show rp [] 0 s.data.toList = none by rw [HP.out, HDR.out]; exact rp_bad h32 (by omega))
          have hlo2 : 48 ≤ (s[k].toNat : Int) := by omega
          clear h32 hlo
          clear hmm hcm hfm
          have f0 := HTR.out.soft 0; have f1 := HTR.out.soft 1; have f2 := HTR.out.soft 2; have f3 := HTR.out.soft 3
          obtain ⟨q0, q1, q2, q3⟩ := HTR.out.cells
          obtain ⟨WF, hWF, hxF, d0, d1, d2, d3⟩ := putX4 HXR.out (Nat.le_refl _) HTR.out 0 0 0 0
          have HXF := Lib.hid hxF; clear hxF
          go_wp2_with fail
          refine bodyPost_ret (v := .tuple #[.agg #[.int .i64 0, .int .i64 0, .int .i64 0, .int .i64 0], .int .i64 6]) (by simp [results, Tryd.results39, go_sem, d0, d1, d2, d3]; try rfl) rfl ?_
          exact ⟨.inr ⟨rp_none HB.out, rfl⟩, HXF.out⟩
        have hlo2 : 48 ≤ (s[k].toNat : Int) := by omega
        have hhi2 : (s[k].toNat : Int) ≤ 57 := by omega
        by_cases hbig : 1099511627776 < x
        · have HB := Lib.hid (show rp [] 0 s.data.toList = none by rw [HP.out, HDR.out]; exact rp_bad h32 (by omega))
          clear h32 hlo hhi

          have f0 := HTR.out.soft 0; have f1 := HTR.out.soft 1; have f2 := HTR.out.soft 2; have f3 := HTR.out.soft 3
          obtain ⟨q0, q1, q2, q3⟩ := HTR.out.cells
          obtain ⟨WF, hWF, hxF, d0, d1, d2, d3⟩ := putX4 HXR.out (Nat.le_refl _) HTR.out 0 0 0 0
          have HXF := Lib.hid hxF; clear hxF
          go_wp2_with fail
          refine bodyPost_ret (v := .tuple #[.agg #[.int .i64 0, .int .i64 0, .int .i64 0, .int .i64 0], .int .i64 6]) (by simp [results, Tryd.results39, go_sem, d0, d1, d2, d3]; try rfl) rfl ?_
          exact ⟨.inr ⟨rp_none HB.out, rfl⟩, HXF.out⟩
        have hsm : x ≤ 1099511627776 := by omega
        have HB := Lib.hid (show rp [] 0 s.data.toList = rp pre (10 * x + ((s[k].toNat : Int) - 48)) (s.data.toList.drop (k + 1)) by rw [HP.out, HDR.out]; exact rp_dig h32 (by omega))
        clear h32 hlo hhi hbig
        have hcd : wr.drew.cell? ⟨g, m, none⟩ = some (.int .i64 x) := (Ext.drew wr).cell hcm
        have hfd : wr.drew.frozen? ⟨g, m, none⟩ = false := ((Ext.drew wr).frozen (p := ⟨g, m, none⟩) HGL.out.2).trans hfm
        go_wp2_with fail
        refine still_tail 14 (by kernel_rfl) (by kernel_rfl) ?_
        simp only [List.take_succ_cons, List.take_zero, List.drop_succ_cons, List.drop_zero]
        repeat still_step
        refine wpStill_nil ?_
        go_wp2_with fail
        go_roundw
        case rel =>
          have hst := (ownsRow_ext HOM.out (Ext.drew wr)).stored m (.int .i64 (10 * x + ((s[k].toNat : Int) - 48)))
          refine ⟨k + 1, pre, 10 * x + ((s[k].toNat : Int) - 48), HLT.out, by go_num, HB, by omega, by omega, by rw [HM.out]; omega, ?_, (HTR.out.ext (Ext.drew wr)).but (show w.heap.size ≠ g by have := HGL.out.1; omega) hst.2, (HXR.out.trans (Ext.drew wr)).grown hst.2 (fun j hj => by have hj' : g = j := Option.some.inj hj; have := HGL.out.1; omega)⟩
          exact own_set HM.out hst.1
        case measure => have := HLT.out; simp [intOf]; omega
    · have hke : s.data.toList.drop k = [] := List.drop_eq_nil_of_le (by rw [Array.length_toList]; show s.size ≤ k; omega)
      have hP := HP.out
      rw [hke, rp] at hP
      have HQ := Lib.hid hP; clear hP hke HP
      by_cases h3 : m = 3
      · subst h3
        obtain ⟨a1, s1, e1, hpre⟩ := list_three HM.out
        subst hpre
        have hc0 : wr.cell? ⟨g, 0, none⟩ = some (.int .i64 a1) := HOM.out.cellAt 0 (by omega)
        have hc1 : wr.cell? ⟨g, 1, none⟩ = some (.int .i64 s1) := HOM.out.cellAt 1 (by omega)
        have hc2 : wr.cell? ⟨g, 2, none⟩ = some (.int .i64 e1) := HOM.out.cellAt 2 (by omega)
        have HC0 := Lib.hid hc0; have HC1 := Lib.hid hc1; have HC2 := Lib.hid hc2; have HC3 := Lib.hid hcm
        clear hc0 hc1 hc2 hcm hfm hmm
        go_wp2_with fail
        refine wp_region_ext_tail 14 (fun i v' w' => match i with | 13 => ∃ b, v' = .pointer (some ⟨b, 0, none⟩) ∧ wr.heap.size ≤ b ∧ TB w' b 0 0 0 0 | _ => False) (by kernel_rfl) (by kernel_rfl) ?_
        refine wpE_op rfl rfl (fun w' hw' K' hK' => ?_)
        have hE := hw'.1
        go_step
        refine hK' _ ⟨_, rfl⟩ ?_
        clear hK' K'  hE hw' w'
        refine wpE_op rfl rfl (fun w' hw' K' hK' => ?_)
        have hE := hw'.1
        go_step
        refine hK' _ ⟨_, rfl⟩ ?_
        clear hK' K'  hE hw' w'
        refine wpE_op rfl rfl (fun w' hw' K' hK' => ?_)
        have hE := hw'.1
        have u0 := ((Ext.drew wr).trans hE).cell HC0.out
        go_step
        refine hK' _ ⟨_, rfl⟩ ?_
        clear hK' K' u0 hE hw' w'
        refine wpE_op rfl rfl (fun w' hw' K' hK' => ?_)
        have hE := hw'.1
        go_step
        refine hK' _ ⟨_, rfl⟩ ?_
        clear hK' K'  hE hw' w'
        refine wpE_op rfl rfl (fun w' hw' K' hK' => ?_)
        have hE := hw'.1
        go_step
        refine hK' _ ⟨_, rfl⟩ ?_
        clear hK' K'  hE hw' w'
        refine wpE_op rfl rfl (fun w' hw' K' hK' => ?_)
        have hE := hw'.1
        have u0 := ((Ext.drew wr).trans hE).cell HC1.out
        go_step
        refine hK' _ ⟨_, rfl⟩ ?_
        clear hK' K' u0 hE hw' w'
        refine wpE_op rfl rfl (fun w' hw' K' hK' => ?_)
        have hE := hw'.1
        go_step
        refine hK' _ ⟨_, rfl⟩ ?_
        clear hK' K'  hE hw' w'
        refine wpE_op rfl rfl (fun w' hw' K' hK' => ?_)
        have hE := hw'.1
        go_step
        refine hK' _ ⟨_, rfl⟩ ?_
        clear hK' K'  hE hw' w'
        refine wpE_op rfl rfl (fun w' hw' K' hK' => ?_)
        have hE := hw'.1
        have u0 := ((Ext.drew wr).trans hE).cell HC2.out
        go_step
        refine hK' _ ⟨_, rfl⟩ ?_
        clear hK' K' u0 hE hw' w'
        refine wpE_op rfl rfl (fun w' hw' K' hK' => ?_)
        have hE := hw'.1
        go_step
        refine hK' _ ⟨_, rfl⟩ ?_
        clear hK' K'  hE hw' w'
        refine wpE_op rfl rfl (fun w' hw' K' hK' => ?_)
        have hE := hw'.1
        go_step
        refine hK' _ ⟨_, rfl⟩ ?_
        clear hK' K'  hE hw' w'
        refine wpE_op rfl rfl (fun w' hw' K' hK' => ?_)
        have hE := hw'.1
        have u0 := ((Ext.drew wr).trans hE).cell HC3.out
        go_step
        refine hK' _ ⟨_, rfl⟩ ?_
        clear hK' K' u0 hE hw' w'
        refine wpE_op rfl rfl (fun w' hw' K' hK' => ?_)
        have hE := hw'.1
        go_step
        refine hK' _ ⟨_, rfl⟩ ?_
        clear hK' K'  hE hw' w'
        refine wpE_call 7 rfl (by simp) rfl (fun w' hw' K' hK' => ?_) ?_
        · have hE := hw'.1
          go_step
          exact hK' _ _ ⟨_, rfl, _, rfl, hE.size, heap_alloc_new w' _⟩ ((Ext.refl w').alloc _)
        rintro _ w5 hE5 ⟨b, rfl, hb5, hT5⟩
        simp only [Act.put, List.setIfInBounds_toArray, List.set_cons_succ, List.set_cons_zero]
        refine wpE_nil (fun w7 hw7 => ?_)
        have hx7 := (Ext.drew wr).trans hw7.1
        have hT7 := hT5.ext (hw7.2 7 w5 (by simp [adds]))
        have hb7 : w.heap.size ≤ b := Nat.le_trans HXR.out.size hb5
        have HX7 := Lib.hid (HXR.out.trans hx7); have HT7 := Lib.hid hT7
        have hR7 := (HTR.out.ext hx7)
        have hne : w.heap.size ≠ b := by have := HTR.out.lt; omega
        have HR7 := Lib.hid hR7
        obtain ⟨p0, p1, p2, p3⟩ := hT7.cells
        have f0 := hT7.soft 0; have f1 := hT7.soft 1; have f2 := hT7.soft 2; have f3 := hT7.soft 3
        obtain ⟨WF, hWF, hxF, d0, d1, d2, d3⟩ := putX4 HX7.out hb7 hT7 a1 s1 e1 x
        have hTF : TB WF b a1 s1 e1 x := hWF ▸ ((((hT7.set0 a1).set1 s1).set2 e1).set3 x)
        have hRF : TB WF w.heap.size 0 0 0 0 := hWF ▸ hR7.but hne (grown_set (grown_set (grown_set (grown_set (grown_refl w7 _) 0 _) 1 _) 2 _) 3 _)
        have HTF := Lib.hid hTF; have HRF := Lib.hid hRF; have HXF := Lib.hid hxF
        clear hw7 hT5 hT7 hR7 hx7 hE5 hb5 hTF hRF hxF
        simp only [List.drop_succ_cons, List.drop_zero]
        go_wp2_with fail
        cases hv : validB a1 s1 e1 x with
        | false =>
          have HV := Lib.hid hv; clear hv
          refine (LVal_is a1 s1 e1 x false HV.out _).mono ?_
          rintro _ w8 ⟨rfl, hx8⟩
          have hR8 := HRF.out.ext hx8
          obtain ⟨r0, r1, r2, r3⟩ := hR8.cells
          have g0 := hR8.soft 0; have g1 := hR8.soft 1; have g2 := hR8.soft 2; have g3 := hR8.soft 3
          obtain ⟨WE, hWE, hxE, D0, D1, D2, D3⟩ := putX4 (HXF.out.trans hx8) (Nat.le_refl _) hR8 0 0 0 0
          have HXE := Lib.hid hxE; clear hxE hx8 hR8
          go_wp2_with fail
          refine bodyPost_ret (v := .tuple #[.agg #[.int .i64 0, .int .i64 0, .int .i64 0, .int .i64 0], .int .i64 6]) (by simp [results, Tryd.results39, go_sem, D0, D1, D2, D3]; try rfl) rfl ?_
          exact ⟨.inr ⟨rp_vals HQ.out (fun h => by rw [HV.out] at h; cases h.1), rfl⟩, HXE.out⟩
        | true =>
          have HV := Lib.hid hv; clear hv
          refine (LVal_is a1 s1 e1 x true HV.out _).mono ?_
          rintro _ w8 ⟨rfl, hx8⟩
          have hT8 := HTF.out.ext hx8
          have HT8 := Lib.hid hT8; have HR8 := Lib.hid (HRF.out.ext hx8); have HX8 := Lib.hid (HXF.out.trans hx8)
          obtain ⟨t0, t1, t2, t3⟩ := hT8.cells
          clear hT8 hx8
          by_cases ht : textT a1 s1 e1 x = s.data.toList
          · have htb : (textT a1 s1 e1 x == s.toList) = true := by rw [ByteArray.toList_eq, ht]; exact beq_self_eq_true _
            have HTE := Lib.hid ht; clear ht
            go_wp2_with fail
            refine (RText_at a1 s1 e1 x HV.out _).mono ?_
            rintro _ w9 ⟨rfl, hx9⟩
            have hR9 := HR8.out.ext hx9
            have hT9 := HT8.out.ext hx9
            obtain ⟨r0, r1, r2, r3⟩ := hR9.cells
            obtain ⟨v0, v1, v2, v3⟩ := hT9.cells
            have g0 := hR9.soft 0; have g1 := hR9.soft 1; have g2 := hR9.soft 2; have g3 := hR9.soft 3
            obtain ⟨WE, hWE, hxE, D0, D1, D2, D3⟩ := putX4 (HX8.out.trans hx9) (Nat.le_refl _) hR9 a1 s1 e1 x
            have HXE := Lib.hid hxE; clear hxE hx9 hR9 hT9
            go_wp2_with fail
            refine bodyPost_ret (v := .tuple #[.agg #[.int .i64 a1, .int .i64 s1, .int .i64 e1, .int .i64 x], .int .i64 0]) (by simp [results, Tryd.results39, go_sem, D0, D1, D2, D3]; try rfl) rfl ?_
            exact ⟨.inl ⟨_, _, _, _, HV.out, HTE.out, rfl⟩, HXE.out⟩
          · have htb : (textT a1 s1 e1 x == s.toList) = false := by rw [ByteArray.toList_eq, beq_eq_false_iff_ne]; exact ht
            have HTE := Lib.hid ht; clear ht
            go_wp2_with fail
            refine (RText_at a1 s1 e1 x HV.out _).mono ?_
            rintro _ w9 ⟨rfl, hx9⟩
            have hR9 := HR8.out.ext hx9
            obtain ⟨r0, r1, r2, r3⟩ := hR9.cells
            have g0 := hR9.soft 0; have g1 := hR9.soft 1; have g2 := hR9.soft 2; have g3 := hR9.soft 3
            obtain ⟨WE, hWE, hxE, D0, D1, D2, D3⟩ := putX4 (HX8.out.trans hx9) (Nat.le_refl _) hR9 0 0 0 0
            have HXE := Lib.hid hxE; clear hxE hx9 hR9
            go_wp2_with fail
            refine bodyPost_ret (v := .tuple #[.agg #[.int .i64 0, .int .i64 0, .int .i64 0, .int .i64 0], .int .i64 6]) (by simp [results, Tryd.results39, go_sem, D0, D1, D2, D3]; try rfl) rfl ?_
            exact ⟨.inr ⟨rp_vals HQ.out (fun h => HTE.out h.2), rfl⟩, HXE.out⟩
      · have h3a : ((m : Int) + 1 != 4) = true := by rw [bne_iff_ne]; omega
        have h3b : ((m : Int) + 1 == 4) = false := by rw [beq_eq_false_iff_ne]; omega
        have h3c : ((m : Int) == 3) = false := by rw [beq_eq_false_iff_ne]; omega
        have H3 := Lib.hid h3; clear h3
        clear hmm hcm hfm
        have f0 := HTR.out.soft 0; have f1 := HTR.out.soft 1; have f2 := HTR.out.soft 2; have f3 := HTR.out.soft 3
        obtain ⟨q0, q1, q2, q3⟩ := HTR.out.cells
        obtain ⟨WF, hWF, hxF, d0, d1, d2, d3⟩ := putX4 HXR.out (Nat.le_refl _) HTR.out 0 0 0 0
        have HXF := Lib.hid hxF; clear hxF
        go_wp2_with fail
        refine bodyPost_ret (v := .tuple #[.agg #[.int .i64 0, .int .i64 0, .int .i64 0, .int .i64 0], .int .i64 6]) (by simp [results, Tryd.results39, go_sem, d0, d1, d2, d3]; try rfl) rfl ?_
        exact ⟨.inr ⟨rp_count HQ.out (by rw [HM.out]; exact H3.out), rfl⟩, HXF.out⟩
end Go.Proofs.YtfgmmjpejlpdoaaDoor
