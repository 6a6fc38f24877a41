/- Lifetimes: Parse. (wip/tools/genltparse.py printed this.) -/
import Derived.Test.YtfgmmjpejlpdoaaGreatDoorLtP0
import Derived.Test.YtfgmmjpejlpdoaaGreatDoorLt4
import Derived.Handy
namespace Go.Proofs.YtfgmmjpejlpdoaaGreatDoor
open Go Go.RowKit
set_option linter.unusedVariables false

theorem splitB_size (sep : ByteArray) : ∀ (k : Nat) (s b : ByteArray), b ∈ Lib.splitB sep 0 k s → b.size ≤ s.size
  | 0, s, b, h => by
    rw [Lib.splitB_zero] at h
    simp only [List.mem_singleton] at h
    subst h
    exact Nat.le_refl _
  | k + 1, s, b, h => by
    unfold Lib.splitB at h
    split at h
    · simp only [List.mem_singleton] at h
      subst h
      exact Nat.le_refl _
    · rcases List.mem_cons.1 h with rfl | h
      · rw [ByteArray.size_extract]; omega
      · have := splitB_size sep k _ b h
        rw [ByteArray.size_extract] at this; omega
theorem toList_data (s : ByteArray) : s.toList = s.data.toList := ByteArray.toList_eq s
theorem list_four {α : Type} {l : List α} (h : l.length = 4) : ∃ a b c d, l = [a, b, c, d] := by
  match l, h with
  | [a, b, c, d], _ => exact ⟨a, b, c, d, rfl⟩
theorem putT4 {w0 W : World} {n : Nat} {a s e r : Int} (hx : Ext w0 W) (hn : w0.heap.size ≤ n) (h : TB W n a s e r) (A S E Q : Int) :
    ∃ WF, (((W.setCell ⟨n, 0, none⟩ (.int .i64 A)).setCell ⟨n, 1, none⟩ (.int .i64 S)).setCell ⟨n, 2, none⟩ (.int .i64 E)).setCell ⟨n, 3, none⟩ (.int .i64 Q) = WF ∧ Ext w0 WF ∧
      WF.cell? ⟨n, 0, none⟩ = some (.int .i64 A) ∧ WF.cell? ⟨n, 1, none⟩ = some (.int .i64 S) ∧ WF.cell? ⟨n, 2, none⟩ = some (.int .i64 E) ∧ WF.cell? ⟨n, 3, none⟩ = some (.int .i64 Q) := by
  have ht := ((((h.set0 A).set1 S).set2 E).set3 Q).cells
  exact ⟨_, rfl, (((hx.setCell hn _).setCell hn _).setCell hn _).setCell hn _, ht.1, ht.2.1, ht.2.2.1, ht.2.2.2⟩
/-- The first k words spell numbers. -/
def okU (b0 b1 b2 b3 : ByteArray) (k : Nat) : Prop := (1 ≤ k → ∃ v, Lib.atoiAll b0.data.toList = .ok v) ∧ (2 ≤ k → ∃ v, Lib.atoiAll b1.data.toList = .ok v) ∧ (3 ≤ k → ∃ v, Lib.atoiAll b2.data.toList = .ok v) ∧ (4 ≤ k → ∃ v, Lib.atoiAll b3.data.toList = .ok v)
theorem okU_step0 {b0 b1 b2 b3 : ByteArray} (h : okU b0 b1 b2 b3 0) (hv : ∃ v, Lib.atoiAll b0.data.toList = .ok v) : okU b0 b1 b2 b3 1 := ⟨fun _ => hv, by omega, by omega, by omega⟩
theorem okU_step1 {b0 b1 b2 b3 : ByteArray} (h : okU b0 b1 b2 b3 1) (hv : ∃ v, Lib.atoiAll b1.data.toList = .ok v) : okU b0 b1 b2 b3 2 := ⟨fun _ => h.1 (by omega), fun _ => hv, by omega, by omega⟩
theorem okU_step2 {b0 b1 b2 b3 : ByteArray} (h : okU b0 b1 b2 b3 2) (hv : ∃ v, Lib.atoiAll b2.data.toList = .ok v) : okU b0 b1 b2 b3 3 := ⟨fun _ => h.1 (by omega), fun _ => h.2.1 (by omega), fun _ => hv, by omega⟩
theorem okU_step3 {b0 b1 b2 b3 : ByteArray} (h : okU b0 b1 b2 b3 3) (hv : ∃ v, Lib.atoiAll b3.data.toList = .ok v) : okU b0 b1 b2 b3 4 := ⟨fun _ => h.1 (by omega), fun _ => h.2.1 (by omega), fun _ => h.2.2.1 (by omega), fun _ => hv⟩
theorem pres_count {s : ByteArray} (h : (wordsB s).length ≠ 4) : ∀ a st e r, validB a st e r = true → textT a st e r ≠ s.data.toList := fun a st e r hv ht => by
  obtain ⟨b0, b1, b2, b3, hb, _⟩ := words_nums hv s ht
  exact h (by rw [hb]; rfl)
theorem pres_word {s b0 b1 b2 b3 : ByteArray} (hw : wordsB s = [b0, b1, b2, b3]) {b : ByteArray} (hb : b ∈ [b0, b1, b2, b3]) (h : ¬ ∃ v, Lib.atoiAll b.data.toList = .ok v) : ∀ a st e r, validB a st e r = true → textT a st e r ≠ s.data.toList := fun a st e r hv ht => by
  obtain ⟨c0, c1, c2, c3, hc, k0, k1, k2, k3⟩ := words_nums hv s ht
  rw [hw] at hc
  simp only [List.cons.injEq, and_true] at hc
  obtain ⟨rfl, rfl, rfl, rfl⟩ := hc
  simp only [List.mem_cons, List.not_mem_nil, or_false] at hb
  rcases hb with rfl | rfl | rfl | rfl
  · exact h ⟨_, k0⟩
  · exact h ⟨_, k1⟩
  · exact h ⟨_, k2⟩
  · exact h ⟨_, k3⟩
theorem pres_vals {s b0 b1 b2 b3 : ByteArray} (hw : wordsB s = [b0, b1, b2, b3]) (h : ¬ (validB (av b0) (av b1) (av b2) (av b3) = true ∧ textT (av b0) (av b1) (av b2) (av b3) = s.data.toList)) : ∀ a st e r, validB a st e r = true → textT a st e r ≠ s.data.toList := fun a st e r hv ht => by
  obtain ⟨c0, c1, c2, c3, hc, k0, k1, k2, k3⟩ := words_nums hv s ht
  rw [hw] at hc
  simp only [List.cons.injEq, and_true] at hc
  obtain ⟨rfl, rfl, rfl, rfl⟩ := hc
  rw [av_ok k0, av_ok k1, av_ok k2, av_ok k3] at h
  exact h ⟨hv, ht⟩

set_option maxRecDepth 100000 in
set_option maxHeartbeats 4000000 in
theorem Parse_at (s : ByteArray) (hs : s.size ≤ 1000) (w : World) (hE : Env w) :
    Calls Tryz.prog 7 #[.string s] w fun en w' => PRes s.data.toList en ∧ Ext w w' := by
  have HE := Lib.hid hE; clear hE
  have HS := Lib.hid hs; clear hs
  go_enter Tryz.func7, Tryz.ntmps7
  go_wp2_with fail
  have hRa : TB (w.alloc (.cells #[.int .i64 0, .int .i64 0, .int .i64 0, .int .i64 0] 23)) w.heap.size 0 0 0 0 := heap_alloc_new w _
  obtain ⟨wa, hwa⟩ : ∃ wa, wa = w.alloc (.cells #[.int .i64 0, .int .i64 0, .int .i64 0, .int .i64 0] 23) := ⟨_, rfl⟩
  have hxa : Ext w wa := hwa ▸ (Ext.refl w).alloc _
  have hza : wa.heap.size = w.heap.size + 1 := by rw [hwa]; simp
  rw [← hwa] at hRa ⊢
  clear hwa
  have hTb : TB (wa.alloc (.cells #[.int .i64 0, .int .i64 0, .int .i64 0, .int .i64 0] 23)) wa.heap.size 0 0 0 0 := heap_alloc_new wa _
  rw [hza] at hTb
  obtain ⟨wb, hwb⟩ : ∃ wb, wb = wa.alloc (.cells #[.int .i64 0, .int .i64 0, .int .i64 0, .int .i64 0] 23) := ⟨_, rfl⟩
  have hxb : Ext wa wb := hwb ▸ (Ext.refl wa).alloc _
  have hzb : wb.heap.size = w.heap.size + 1 + 1 := by rw [hwb]; simp [hza]
  rw [← hwb] at hTb ⊢
  clear hwb
  have hF := heap_alloc_new wb (.cells #[.pointer (some ⟨w.heap.size + 1, 0, none⟩), .pointer (some ⟨w.heap.size + 1, 1, none⟩), .pointer (some ⟨w.heap.size + 1, 2, none⟩), .pointer (some ⟨w.heap.size + 1, 3, none⟩)] 57)
  rw [hzb] at hF
  obtain ⟨wc, hwc⟩ : ∃ wc, wc = wb.alloc (.cells #[.pointer (some ⟨w.heap.size + 1, 0, none⟩), .pointer (some ⟨w.heap.size + 1, 1, none⟩), .pointer (some ⟨w.heap.size + 1, 2, none⟩), .pointer (some ⟨w.heap.size + 1, 3, none⟩)] 57) := ⟨_, rfl⟩
  have hxc : Ext wb wc := hwc ▸ (Ext.refl wb).alloc _
  have hzc : wc.heap.size = w.heap.size + 1 + 1 + 1 := by rw [hwc]; simp [hzb]
  rw [← hwc] at hF ⊢
  clear hwc
  have hTc := hTb.ext hxc
  have hRc := (hRa.ext hxb).ext hxc
  have hxw := (hxa.trans hxb).trans hxc
  have HF := Lib.hid hF; have HT := Lib.hid hTc; have HR := Lib.hid hRc; have HX := Lib.hid hxw; have HZ := Lib.hid hzc
  clear hF hTc hRc hxw hTb hRa hxa hxb hxc hza hzb hzc
  refine (SplitN_at s HS.out wc (HE.out.ext HX.out).maxl).mono ?_
  rintro _ wd ⟨n, cap, cs, rfl, hn, hwd, hcs⟩
  have hzc := HZ.out
  have hxd : Ext wc wd := hwd ▸ (Ext.refl wc).alloc _
  have hWd : wd.heap[wc.heap.size]? = some (.cells cs 9) := by rw [hwd]; exact heap_alloc_new wc _
  have hzd : wd.heap.size = w.heap.size + 1 + 1 + 1 + 1 := by rw [hwd]; simp [hzc]
  rw [hzc] at hWd ⊢
  clear hwd hzc
  have hTd := HT.out.ext hxd; have hRd := HR.out.ext hxd; have hFd := hxd.heap HF.out; have hxwd := HX.out.trans hxd
  have HWD := Lib.hid hWd; have HTD := Lib.hid hTd; have HRD := Lib.hid hRd; have HFD := Lib.hid hFd; have HXD := Lib.hid hxwd; have HZD := Lib.hid hzd; have HN := Lib.hid hn; have HCS := Lib.hid hcs
  clear hWd hTd hRd hFd hxwd hzd hn hcs hxd HF HT HR HX HZ
  by_cases h4 : n = 4
  · subst h4
    obtain ⟨b0, b1, b2, b3, hws⟩ := list_four HN.out.symm
    have hsz : ∀ b ∈ [b0, b1, b2, b3], b.size ≤ 1000 := fun b hb => Nat.le_trans (splitB_size _ _ _ _ (by rw [← hws] at hb; exact hb)) HS.out
    have hc : ∀ (j : Nat) b, [b0, b1, b2, b3][j]? = some b → wd.cell? ⟨w.heap.size + 1 + 1 + 1, j, none⟩ = some (.string b) := fun j b hb => by
      rw [cell_of_row _ _ j _ _ (0, 0) HWD.out]
      exact HCS.out j b (by rw [hws]; exact hb)
    have HWS := Lib.hid hws; have HSZ := Lib.hid hsz; have HC := Lib.hid hc
    clear hws hsz hc HCS HWD HN
    go_wp2_with fail
    go_loopw [26] (fun i wr => ∃ k : Nat, k ≤ 4 ∧ i = .int .i64 k ∧ okU b0 b1 b2 b3 k ∧ TB wr (w.heap.size + 1) (stA (av b0) k) (stS (av b1) k) (stE (av b2) k) (stR (av b3) k) ∧ wd.grownBy wr (some (w.heap.size + 1))) (fun i _ => 4 - (intOf i).toNat)
    case atStart => exact ⟨0, by omega, rfl, ⟨by omega, by omega, by omega, by omega⟩, HTD.out, grown_refl _ _⟩
    case round =>
      obtain ⟨k, hk, rfl, hok, hT, hg⟩ := hrel
      have hzd := HZD.out
      have hxr : Ext w wr := HXD.out.grown hg (fun j hj => by injection hj with hj; omega)
      have hRr := HRD.out.but (show w.heap.size ≠ w.heap.size + 1 by omega) hg
      have hFr := (hg.block (w.heap.size + 1 + 1) (by omega) (by intro e; injection e with e; omega)).trans HFD.out
      have hcr : ∀ (j : Nat) b, [b0, b1, b2, b3][j]? = some b → wr.cell? ⟨w.heap.size + 1 + 1 + 1, j, none⟩ = some (.string b) := fun j b hb => hg.cell (HC.out j b hb) (by show some (w.heap.size + 1 + 1 + 1) ≠ some (w.heap.size + 1); intro e; injection e with e; omega)
      clear hzd
      have HXR := Lib.hid hxr; have HRR := Lib.hid hRr; have HTR := Lib.hid hT; have HG := Lib.hid hg; have HFR := Lib.hid hFr; have HCR := Lib.hid hcr; have HOK := Lib.hid hok
      clear hxr hRr hg hFr hcr hok hT
      rcases (show k = 0 ∨ k = 1 ∨ k = 2 ∨ k = 3 ∨ k = 4 by omega) with rfl | rfl | rfl | rfl | rfl
      · have hw : wr.cell? ⟨w.heap.size + 1 + 1 + 1, 0, none⟩ = some (.string b0) := HCR.out 0 b0 rfl
        by_cases hj : ∃ v, Lib.atoiAll b0.data.toList = .ok v
        · obtain ⟨v, hv⟩ := hj
          have HV := Lib.hid hv; clear hv
          go_wp2_with fail
          refine (Atoi_ok b0 (HSZ.out b0 (by simp)) v HV.out _).mono ?_
          rintro _ w2 ⟨rfl, hx2⟩
          have hT2 := HTR.out.ext hx2
          have hF2 := hx2.heap HFR.out
          have hp : w2.cell? ⟨w.heap.size + 1 + 1, 0, none⟩ = some (.pointer (some ⟨w.heap.size + 1, 0, none⟩)) := by rw [cell_of_row _ _ 0 _ _ (0, 0) hF2]; rfl
          obtain ⟨q0, q1, q2, q3⟩ := hT2.cells
          have f0 := hT2.soft 0
          have HT2 := Lib.hid hT2; have HX2 := Lib.hid hx2; clear hT2 hx2 hF2 hw
          go_wp2_with fail
          go_roundw
          case rel => exact ⟨1, by omega, by go_num, okU_step0 HOK.out ⟨_, HV.out⟩, (av_ok HV.out).symm ▸ HT2.out.set0 v, grown_set (grown_trans HG.out (HX2.out.but _)) 0 _⟩
          case measure => simp [intOf]
        · have HJ := Lib.hid (fun v hv => hj ⟨v, hv⟩); clear hj
          go_wp2_with fail
          refine (Atoi_bad b0 (HSZ.out b0 (by simp)) HJ.out _ (HE.out.ext HXR.out)).mono ?_
          rintro _ w2 ⟨x, pv, rfl, hx2⟩
          have hR2 := HRR.out.ext hx2
          have f0 := hR2.soft 0; have f1 := hR2.soft 1; have f2 := hR2.soft 2; have f3 := hR2.soft 3
          obtain ⟨q0, q1, q2, q3⟩ := hR2.cells
          obtain ⟨WF, hWF, hxF, d0, d1, d2, d3⟩ := putT4 (HXR.out.trans hx2) (Nat.le_refl _) hR2 0 0 0 0
          have HXF := Lib.hid hxF; clear hxF hx2 hR2 hw
          go_wp2_with fail
          refine bodyPost_ret (v := .tuple #[.agg #[.int .i64 0, .int .i64 0, .int .i64 0, .int .i64 0], .int .i64 6]) (by simp [results, Tryz.results7, go_sem, d0, d1, d2, d3]; try rfl) rfl ?_
          exact ⟨.inr ⟨pres_word HWS.out (b := b0) (by simp) (fun ⟨v, hv⟩ => HJ.out v hv), rfl⟩, HXF.out⟩
      · have hw : wr.cell? ⟨w.heap.size + 1 + 1 + 1, 1, none⟩ = some (.string b1) := HCR.out 1 b1 rfl
        by_cases hj : ∃ v, Lib.atoiAll b1.data.toList = .ok v
        · obtain ⟨v, hv⟩ := hj
          have HV := Lib.hid hv; clear hv
          go_wp2_with fail
          refine (Atoi_ok b1 (HSZ.out b1 (by simp)) v HV.out _).mono ?_
          rintro _ w2 ⟨rfl, hx2⟩
          have hT2 := HTR.out.ext hx2
          have hF2 := hx2.heap HFR.out
          have hp : w2.cell? ⟨w.heap.size + 1 + 1, 1, none⟩ = some (.pointer (some ⟨w.heap.size + 1, 1, none⟩)) := by rw [cell_of_row _ _ 1 _ _ (0, 0) hF2]; rfl
          obtain ⟨q0, q1, q2, q3⟩ := hT2.cells
          have f0 := hT2.soft 1
          have HT2 := Lib.hid hT2; have HX2 := Lib.hid hx2; clear hT2 hx2 hF2 hw
          go_wp2_with fail
          go_roundw
          case rel => exact ⟨2, by omega, by go_num, okU_step1 HOK.out ⟨_, HV.out⟩, (av_ok HV.out).symm ▸ HT2.out.set1 v, grown_set (grown_trans HG.out (HX2.out.but _)) 1 _⟩
          case measure => simp [intOf]
        · have HJ := Lib.hid (fun v hv => hj ⟨v, hv⟩); clear hj
          go_wp2_with fail
          refine (Atoi_bad b1 (HSZ.out b1 (by simp)) HJ.out _ (HE.out.ext HXR.out)).mono ?_
          rintro _ w2 ⟨x, pv, rfl, hx2⟩
          have hR2 := HRR.out.ext hx2
          have f0 := hR2.soft 0; have f1 := hR2.soft 1; have f2 := hR2.soft 2; have f3 := hR2.soft 3
          obtain ⟨q0, q1, q2, q3⟩ := hR2.cells
          obtain ⟨WF, hWF, hxF, d0, d1, d2, d3⟩ := putT4 (HXR.out.trans hx2) (Nat.le_refl _) hR2 0 0 0 0
          have HXF := Lib.hid hxF; clear hxF hx2 hR2 hw
          go_wp2_with fail
          refine bodyPost_ret (v := .tuple #[.agg #[.int .i64 0, .int .i64 0, .int .i64 0, .int .i64 0], .int .i64 6]) (by simp [results, Tryz.results7, go_sem, d0, d1, d2, d3]; try rfl) rfl ?_
          exact ⟨.inr ⟨pres_word HWS.out (b := b1) (by simp) (fun ⟨v, hv⟩ => HJ.out v hv), rfl⟩, HXF.out⟩
      · have hw : wr.cell? ⟨w.heap.size + 1 + 1 + 1, 2, none⟩ = some (.string b2) := HCR.out 2 b2 rfl
        by_cases hj : ∃ v, Lib.atoiAll b2.data.toList = .ok v
        · obtain ⟨v, hv⟩ := hj
          have HV := Lib.hid hv; clear hv
          go_wp2_with fail
          refine (Atoi_ok b2 (HSZ.out b2 (by simp)) v HV.out _).mono ?_
          rintro _ w2 ⟨rfl, hx2⟩
          have hT2 := HTR.out.ext hx2
          have hF2 := hx2.heap HFR.out
          have hp : w2.cell? ⟨w.heap.size + 1 + 1, 2, none⟩ = some (.pointer (some ⟨w.heap.size + 1, 2, none⟩)) := by rw [cell_of_row _ _ 2 _ _ (0, 0) hF2]; rfl
          obtain ⟨q0, q1, q2, q3⟩ := hT2.cells
          have f0 := hT2.soft 2
          have HT2 := Lib.hid hT2; have HX2 := Lib.hid hx2; clear hT2 hx2 hF2 hw
          go_wp2_with fail
          go_roundw
          case rel => exact ⟨3, by omega, by go_num, okU_step2 HOK.out ⟨_, HV.out⟩, (av_ok HV.out).symm ▸ HT2.out.set2 v, grown_set (grown_trans HG.out (HX2.out.but _)) 2 _⟩
          case measure => simp [intOf]
        · have HJ := Lib.hid (fun v hv => hj ⟨v, hv⟩); clear hj
          go_wp2_with fail
          refine (Atoi_bad b2 (HSZ.out b2 (by simp)) HJ.out _ (HE.out.ext HXR.out)).mono ?_
          rintro _ w2 ⟨x, pv, rfl, hx2⟩
          have hR2 := HRR.out.ext hx2
          have f0 := hR2.soft 0; have f1 := hR2.soft 1; have f2 := hR2.soft 2; have f3 := hR2.soft 3
          obtain ⟨q0, q1, q2, q3⟩ := hR2.cells
          obtain ⟨WF, hWF, hxF, d0, d1, d2, d3⟩ := putT4 (HXR.out.trans hx2) (Nat.le_refl _) hR2 0 0 0 0
          have HXF := Lib.hid hxF; clear hxF hx2 hR2 hw
          go_wp2_with fail
          refine bodyPost_ret (v := .tuple #[.agg #[.int .i64 0, .int .i64 0, .int .i64 0, .int .i64 0], .int .i64 6]) (by simp [results, Tryz.results7, go_sem, d0, d1, d2, d3]; try rfl) rfl ?_
          exact ⟨.inr ⟨pres_word HWS.out (b := b2) (by simp) (fun ⟨v, hv⟩ => HJ.out v hv), rfl⟩, HXF.out⟩
      · have hw : wr.cell? ⟨w.heap.size + 1 + 1 + 1, 3, none⟩ = some (.string b3) := HCR.out 3 b3 rfl
        by_cases hj : ∃ v, Lib.atoiAll b3.data.toList = .ok v
        · obtain ⟨v, hv⟩ := hj
          have HV := Lib.hid hv; clear hv
          go_wp2_with fail
          refine (Atoi_ok b3 (HSZ.out b3 (by simp)) v HV.out _).mono ?_
          rintro _ w2 ⟨rfl, hx2⟩
          have hT2 := HTR.out.ext hx2
          have hF2 := hx2.heap HFR.out
          have hp : w2.cell? ⟨w.heap.size + 1 + 1, 3, none⟩ = some (.pointer (some ⟨w.heap.size + 1, 3, none⟩)) := by rw [cell_of_row _ _ 3 _ _ (0, 0) hF2]; rfl
          obtain ⟨q0, q1, q2, q3⟩ := hT2.cells
          have f0 := hT2.soft 3
          have HT2 := Lib.hid hT2; have HX2 := Lib.hid hx2; clear hT2 hx2 hF2 hw
          go_wp2_with fail
          go_roundw
          case rel => exact ⟨4, by omega, by go_num, okU_step3 HOK.out ⟨_, HV.out⟩, (av_ok HV.out).symm ▸ HT2.out.set3 v, grown_set (grown_trans HG.out (HX2.out.but _)) 3 _⟩
          case measure => simp [intOf]
        · have HJ := Lib.hid (fun v hv => hj ⟨v, hv⟩); clear hj
          go_wp2_with fail
          refine (Atoi_bad b3 (HSZ.out b3 (by simp)) HJ.out _ (HE.out.ext HXR.out)).mono ?_
          rintro _ w2 ⟨x, pv, rfl, hx2⟩
          have hR2 := HRR.out.ext hx2
          have f0 := hR2.soft 0; have f1 := hR2.soft 1; have f2 := hR2.soft 2; have f3 := hR2.soft 3
          obtain ⟨q0, q1, q2, q3⟩ := hR2.cells
          obtain ⟨WF, hWF, hxF, d0, d1, d2, d3⟩ := putT4 (HXR.out.trans hx2) (Nat.le_refl _) hR2 0 0 0 0
          have HXF := Lib.hid hxF; clear hxF hx2 hR2 hw
          go_wp2_with fail
          refine bodyPost_ret (v := .tuple #[.agg #[.int .i64 0, .int .i64 0, .int .i64 0, .int .i64 0], .int .i64 6]) (by simp [results, Tryz.results7, go_sem, d0, d1, d2, d3]; try rfl) rfl ?_
          exact ⟨.inr ⟨pres_word HWS.out (b := b3) (by simp) (fun ⟨v, hv⟩ => HJ.out v hv), rfl⟩, HXF.out⟩
      · have hT4 : TB wr (w.heap.size + 1) (av b0) (av b1) (av b2) (av b3) := HTR.out
        obtain ⟨c0, c1, c2, c3⟩ := hT4.cells
        have HT4 := Lib.hid hT4; clear hT4
        cases hv : validB (av b0) (av b1) (av b2) (av b3) with
        | false =>
          have HV := Lib.hid hv; clear hv
          go_wp2_with fail
          refine (Text_bad (av b0) (av b1) (av b2) (av b3) HV.out _).mono ?_
          rintro _ w2 ⟨rfl, hx2⟩
          have hR2 := HRR.out.ext hx2
          have f0 := hR2.soft 0; have f1 := hR2.soft 1; have f2 := hR2.soft 2; have f3 := hR2.soft 3
          obtain ⟨q0, q1, q2, q3⟩ := hR2.cells
          obtain ⟨WF, hWF, hxF, d0, d1, d2, d3⟩ := putT4 (HXR.out.trans hx2) (Nat.le_refl _) hR2 0 0 0 0
          have HXF := Lib.hid hxF; clear hxF hx2 hR2
          go_wp2_with fail
          refine bodyPost_ret (v := .tuple #[.agg #[.int .i64 0, .int .i64 0, .int .i64 0, .int .i64 0], .int .i64 6]) (by simp [results, Tryz.results7, go_sem, d0, d1, d2, d3]; try rfl) rfl ?_
          exact ⟨.inr ⟨pres_vals HWS.out (fun h => by rw [HV.out] at h; cases h.1), rfl⟩, HXF.out⟩
        | true =>
          have HV := Lib.hid hv; clear hv
          by_cases ht : textT (av b0) (av b1) (av b2) (av b3) = s.data.toList
          · have htb : (textT (av b0) (av b1) (av b2) (av b3) == s.toList) = true := by rw [toList_data, ht]; exact beq_self_eq_true _
            have HTE := Lib.hid ht; clear ht
            go_wp2_with fail
            refine (Text_at (av b0) (av b1) (av b2) (av b3) HV.out _ (HE.out.ext HXR.out).pow).mono ?_
            rintro _ w2 ⟨rfl, hx2⟩
            have hR2 := HRR.out.ext hx2
            have hT2 := HT4.out.ext hx2
            have f0 := hR2.soft 0; have f1 := hR2.soft 1; have f2 := hR2.soft 2; have f3 := hR2.soft 3
            obtain ⟨q0, q1, q2, q3⟩ := hR2.cells
            obtain ⟨p0, p1, p2, p3⟩ := hT2.cells
            obtain ⟨WF, hWF, hxF, d0, d1, d2, d3⟩ := putT4 (HXR.out.trans hx2) (Nat.le_refl _) hR2 (av b0) (av b1) (av b2) (av b3)
            have HXF := Lib.hid hxF; clear hxF hx2 hR2 hT2
            go_wp2_with fail
            refine bodyPost_ret (v := .tuple #[.agg #[.int .i64 (av b0), .int .i64 (av b1), .int .i64 (av b2), .int .i64 (av b3)], .int .i64 0]) (by simp [results, Tryz.results7, go_sem, d0, d1, d2, d3]; try rfl) rfl ?_
            exact ⟨.inl ⟨_, _, _, _, HV.out, HTE.out, rfl⟩, HXF.out⟩
          · have htb : (textT (av b0) (av b1) (av b2) (av b3) == s.toList) = false := by
              rw [toList_data, beq_eq_false_iff_ne]
              exact ht
            have HTE := Lib.hid ht; clear ht
            go_wp2_with fail
            refine (Text_at (av b0) (av b1) (av b2) (av b3) HV.out _ (HE.out.ext HXR.out).pow).mono ?_
            rintro _ w2 ⟨rfl, hx2⟩
            have hR2 := HRR.out.ext hx2
            have f0 := hR2.soft 0; have f1 := hR2.soft 1; have f2 := hR2.soft 2; have f3 := hR2.soft 3
            obtain ⟨q0, q1, q2, q3⟩ := hR2.cells
            obtain ⟨WF, hWF, hxF, d0, d1, d2, d3⟩ := putT4 (HXR.out.trans hx2) (Nat.le_refl _) hR2 0 0 0 0
            have HXF := Lib.hid hxF; clear hxF hx2 hR2
            go_wp2_with fail
            refine bodyPost_ret (v := .tuple #[.agg #[.int .i64 0, .int .i64 0, .int .i64 0, .int .i64 0], .int .i64 6]) (by simp [results, Tryz.results7, go_sem, d0, d1, d2, d3]; try rfl) rfl ?_
            exact ⟨.inr ⟨pres_vals HWS.out (fun h => HTE.out h.2), rfl⟩, HXF.out⟩
  · have h4a : ((n : Int) != 4) = true := by rw [bne_iff_ne]; omega
    have h4b : ((n : Int) == 4) = false := by rw [beq_eq_false_iff_ne]; omega
    have H4 := Lib.hid h4; clear h4
    have hR2 := HRD.out
    have f0 := hR2.soft 0; have f1 := hR2.soft 1; have f2 := hR2.soft 2; have f3 := hR2.soft 3
    obtain ⟨q0, q1, q2, q3⟩ := hR2.cells
    obtain ⟨WF, hWF, hxF, d0, d1, d2, d3⟩ := putT4 HXD.out (Nat.le_refl _) hR2 0 0 0 0
    have HXF := Lib.hid hxF; clear hxF hR2
    go_wp2_with fail
    refine bodyPost_ret (v := .tuple #[.agg #[.int .i64 0, .int .i64 0, .int .i64 0, .int .i64 0], .int .i64 6]) (by simp [results, Tryz.results7, go_sem, d0, d1, d2, d3]; try rfl) rfl ?_
    exact ⟨.inr ⟨pres_count (fun e => H4.out (HN.out.trans e)), rfl⟩, HXF.out⟩
end Go.Proofs.YtfgmmjpejlpdoaaGreatDoor
