/- Policy: known (the law's). -/
import Derived.Test.YtgfjmmdkdhodiaaGreatDoorMg18
import Derived.Test.YtgfjmmdkdhodiaaGreatDoorPo12
import Derived.Test.YtgfjmmdkdhodiaaGreatDoorPo13
import Derived.Lib.SlBytesConst
namespace Go.Proofs.YtgfjmmdkdhodiaaGreatDoor
open Go Go.RowKit
set_option linter.unusedVariables false

theorem text_has (p : Pol) : (32 : UInt8) ∈ p.text := by rw [Pol.text_eq]; simp
theorem kBr (A1 : Option Addr) (A : Option Addr) (c : Nat) (w : World) (hR : RS w (.slice A1 1 1) (svP [alice])) (hB : BS w (.slice A 5 c) [97, 97, 97, 97, 97]) :
    Calls Tryz.prog 18 #[Pol.staff.v, .agg #[.slice A1 1 1, .string ⟨#[]⟩], .slice A 5 c] w (RetSeq [1, 4, 5, 7] w) := by
  have h := Broken_at Pol.staff (by decide) A1 1 [alice] ⟨#[]⟩ (by decide) (by intro p hp; simp only [List.mem_singleton] at hp; subst hp; decide) A c [97, 97, 97, 97, 97] (by decide) w hR hB
  rw [show brkP Pol.staff (datP [alice]) [97, 97, 97, 97, 97] = [1, 4, 5, 7] by kernel_rfl] at h
  exact h
theorem kT1 (w : World) : Calls Tryz.prog 20 #[Pol.staff.v, .int .i64 100] w fun e w' => e = .returned (.tuple #[.int .i64 160, .int .i64 700, .int .i64 0]) ∧ Ext w w' := by
  have h := Times_at Pol.staff (by decide) 100 w
  rw [show timesV Pol.staff 100 = .tuple #[.int .i64 160, .int .i64 700, .int .i64 0] by kernel_rfl] at h
  exact h
theorem kT2 (w : World) : Calls Tryz.prog 20 #[(Pol.staff.set 6 0).v, .int .i64 100] w fun e w' => e = .returned (.tuple #[.int .i64 160, .int .i64 0, .int .i64 0]) ∧ Ext w w' := by
  have h := Times_at (Pol.staff.set 6 0) (by decide) 100 w
  rw [show timesV (Pol.staff.set 6 0) 100 = .tuple #[.int .i64 160, .int .i64 0, .int .i64 0] by kernel_rfl] at h
  exact h
theorem kPa (w : World) (hE : Env w) : Calls Tryz.prog 23 #[.string ⟨#[115, 116, 97, 102, 102]⟩] w fun e w' => e = .returned (.tuple #[Pol.zero.v, .int .i64 6]) ∧ Ext w w' := by
  refine (PoParse_at ⟨#[115, 116, 97, 102, 102]⟩ (by decide) w hE).mono ?_
  rintro e w' ⟨h, hx⟩
  refine ⟨?_, hx⟩
  rcases h with ⟨p, _, ht, _⟩ | ⟨_, rfl⟩
  · have := text_has p
    rw [ht] at this
    exact absurd this (by decide)
  · rfl
theorem ret_boolP {b : Bool} (h : b = true) : Ending.returned (.bool b) = .returned (.bool true) := by rw [h]
def staffT : List UInt8 := [115, 116, 97, 102, 102, 32, 108, 101, 110, 103, 116, 104, 61, 56, 32, 99, 108, 97, 115, 115, 101, 115, 61, 51, 32, 100, 105, 115, 116, 105, 110, 99, 116, 61, 52, 32, 104, 105, 115, 116, 111, 114, 121, 61, 50, 32, 97, 103, 101, 61, 54, 48, 46, 46, 54, 48, 48, 32, 102, 97, 105, 108, 115, 61, 51, 32, 108, 111, 99, 107, 61, 51, 48, 48, 47, 57, 48, 48]
theorem kTx (w : World) (hp : Pow w) : Calls Tryz.prog 22 #[Pol.staff.v] w fun e w' => e = .returned (.tuple #[.string ⟨staffT.toArray⟩, .int .i64 0]) ∧ Ext w w' := by
  have h := PoText_at Pol.staff staff_ok w hp
  rw [show Pol.staff.text = staffT by kernel_rfl] at h
  exact h
theorem rules4 (w : World) : RS (w.alloc (.cells #[.int .i64 1, .int .i64 4, .int .i64 5, .int .i64 7] 33)) (.slice (some ⟨w.heap.size, 0, none⟩) 4 4) (rv [1, 4, 5, 7]) := RS.new w 33 [.int .i64 1, .int .i64 4, .int .i64 5, .int .i64 7] (by show 4 ≤ maxLen; unfold maxLen; omega)
def a5c : Array Value := #[.int .u8 97, .int .u8 97, .int .u8 97, .int .u8 97, .int .u8 97]
theorem a5 (w : World) : BS (w.alloc (.cells a5c 5 (5, 6))) (.slice (some ⟨w.heap.size, 0, none⟩) 5 5) [97, 97, 97, 97, 97] := by
  refine ⟨some ⟨w.heap.size, 0, none⟩, 5, rfl, Nat.le_refl _, (by show 5 ≤ maxLen; unfold maxLen; omega), fun _ => ⟨⟨w.heap.size, 0, none⟩, rfl, by simp, fun j u hu => ?_⟩⟩
  have hg : (w.alloc (.cells a5c 5 (5, 6))).heap[w.heap.size]? = some (.cells a5c 5 (5, 6)) := heap_alloc_new w _
  have hadd : (⟨w.heap.size, 0, none⟩ : Addr).add j = ⟨w.heap.size, j, none⟩ := by unfold Addr.add; split <;> simp_all
  rw [hadd, cell_of_row _ _ j _ _ (5, 6) hg]
  rw [show a5c = (bv [97, 97, 97, 97, 97]).toArray from rfl, List.getElem?_toArray]
  exact hu

set_option maxRecDepth 100000 in
set_option maxHeartbeats 4000000 in
theorem PKnown_at (w : World) (hE : Env w) : Calls Tryz.prog 9 #[] w fun e w' => e = .returned (.bool true) ∧ Ext w w' := by
  have HE := Lib.hid hE; clear hE
  have HX0 := Lib.hid (Ext.refl w)
  obtain ⟨q, hq⟩ : ∃ q, Pol.staff = q := ⟨_, rfl⟩
  obtain ⟨q2, hq2⟩ : ∃ q2, Pol.staff.set 6 0 = q2 := ⟨_, rfl⟩
  obtain ⟨z, hz⟩ : ∃ z, Pol.zero = z := ⟨_, rfl⟩
  obtain ⟨T, hT⟩ : ∃ T, staffT = T := ⟨_, rfl⟩
  have HST := Lib.hid (fun W => hq ▸ staff_at W)
  have HBR := Lib.hid (fun A1 A c W hR hB => hq ▸ kBr A1 A c W hR hB)
  have HT1 := Lib.hid (fun W => hq ▸ kT1 W)
  have HT2 := Lib.hid (fun W => hq2 ▸ kT2 W)
  have HPA := Lib.hid (fun W hW => hz ▸ kPa W hW)
  have HTX := Lib.hid (fun W hW => hT ▸ (hq ▸ kTx W hW : Calls Tryz.prog 22 #[q.v] W _))
  have HQ2 := Lib.hid (show q2 = q.set 6 0 by rw [← hq, ← hq2])
  have HTT := Lib.hid hT
  clear hq hq2 hz hT
  go_enter Tryz.func9, Tryz.ntmps9
  go_wp2_with fail
  refine (kC1 _).mono ?_
  rintro _ w1 ⟨rfl, hx⟩
  have HX1 := Lib.hid (HX0.out.trans hx); clear hx
  go_wp2_with fail
  refine (kC2 _).mono ?_
  rintro _ w2 ⟨rfl, hx⟩
  have HX2 := Lib.hid (HX1.out.trans hx); clear hx
  go_wp2_with fail
  refine (kC3 _).mono ?_
  rintro _ w3 ⟨rfl, hx⟩
  have HX3 := Lib.hid (HX2.out.trans hx); clear hx
  go_wp2_with fail
  refine (kC4 _).mono ?_
  rintro _ w4 ⟨rfl, hx⟩
  have HX4 := Lib.hid (HX3.out.trans hx); clear hx
  go_wp2_with fail
  refine (kC5 _).mono ?_
  rintro _ w5 ⟨rfl, hx⟩
  have HX5 := Lib.hid (HX4.out.trans hx); clear hx
  go_wp2_with fail
  refine (HST.out _).mono ?_
  rintro _ w6 ⟨rfl, hx⟩
  have HX6 := Lib.hid (HX5.out.trans hx); clear hx
  have hr := partsA w6
  have hx2 := (Ext.refl w6).alloc (.cells #[.string ⟨#[97, 108, 105, 99, 101]⟩] 9)
  obtain ⟨W1, hW1⟩ : ∃ W, w6.alloc (.cells #[.string ⟨#[97, 108, 105, 99, 101]⟩] 9) = W := ⟨_, rfl⟩
  rw [hW1] at hr hx2
  have hb := a5 W1
  have hx3 := (Ext.refl W1).alloc (.cells a5c 5 (5, 6))
  have hcv := Lib.run_convert_bytes_const (P := Tryz.prog) W1 31 5 a5c 5 5 Tryz.underlying31 Tryz.underlying5
  rw [show a5c.size = 5 from rfl] at hcv
  obtain ⟨W2, hW2⟩ : ∃ W, W1.alloc (.cells a5c 5 (5, 6)) = W := ⟨_, rfl⟩
  rw [hW2] at hb hx3 hcv
  unfold a5c at hcv
  have HR := Lib.hid (hr.ext hx3); have HB := Lib.hid hb; have HX7 := Lib.hid ((HX6.out.trans hx2).trans hx3)
  clear hr hx2 hb hx3
  go_wp2_with fail
  refine (HBR.out _ _ _ W2 HR.out HB.out).mono ?_
  rintro _ w7 ⟨⟨g, A2, c2, rfl, hit, hg, _⟩, hx⟩
  have hg7 := (Array.getElem?_eq_some_iff.1 hit.1).1
  have HX8 := Lib.hid (HX7.out.trans hx)
  have hr := rules4 w7
  have hx2 := (Ext.refl w7).alloc (.cells #[.int .i64 1, .int .i64 4, .int .i64 5, .int .i64 7] 33)
  obtain ⟨W3, hW3⟩ : ∃ W, w7.alloc (.cells #[.int .i64 1, .int .i64 4, .int .i64 5, .int .i64 7] 33) = W := ⟨_, rfl⟩
  rw [hW3] at hr hx2
  have HX9 := Lib.hid (HX8.out.trans hx2)
  have HOV := Lib.hid (over_at g A2 c2 [1, 4, 5, 7] (by decide) (some ⟨w7.heap.size, 0, none⟩) 4 9 W3 (Nat.lt_of_lt_of_le hg7 hx2.size) (hit.ext hx2) hr)
  clear hr hx2 hx hit hg hg7
  go_wp2_with fail
  refine HOV.out.mono ?_
  rintro _ w8 ⟨rfl, hx⟩
  have HXA := Lib.hid (HX9.out.trans hx); clear hx
  go_wp2_with fail
  refine (HST.out _).mono ?_
  rintro _ w9 ⟨rfl, hx⟩
  have HXB := Lib.hid (HXA.out.trans hx); clear hx
  have hx := (Ext.refl w9).alloc (.cells Pol.zero.cs 23)
  have h0 : PL (w9.alloc (.cells Pol.zero.cs 23)) w9.heap.size Pol.zero := heap_alloc_new w9 _
  obtain ⟨W, hW⟩ : ∃ W, w9.alloc (.cells Pol.zero.cs 23) = W := ⟨_, rfl⟩
  rw [hW] at hx h0
  have f0 := h0.soft 0; have f1 := h0.soft 1; have f2 := h0.soft 2; have f3 := h0.soft 3; have f4 := h0.soft 4; have f5 := h0.soft 5; have f6 := h0.soft 6; have f7 := h0.soft 7; have f8 := h0.soft 8; have f9 := h0.soft 9
  obtain ⟨k0, k1, k2, k3, k4, k5, k6, k7, k8, k9⟩ := h0.cells
  obtain ⟨WF, hWF, hxF, hpF⟩ := putPL (q := q) hx (Nat.le_refl _) h0
  have HXF := Lib.hid (HXB.out.trans hxF); have HPF := Lib.hid hpF
  unfold Pol.cs Pol.zero at hW
  clear hx hxF hpF h0
  obtain ⟨d0, d1, d2, d3, d4, d5, d6, d7, d8, d9⟩ := HPF.out.cells
  unfold Pol.v
  go_wp2_with fail
  refine (HT1.out _).mono ?_
  rintro _ wa ⟨rfl, hx⟩
  clear d0 d1 d2 d3 d4 d5 d6 d7 d8 d9
  have hpa := HPF.out.ext hx
  have e6 := hpa.soft 6
  have hp2 : PL (wa.setCell ⟨w9.heap.size, 6, none⟩ (.int .i64 0)) w9.heap.size q2 := by rw [HQ2.out]; exact hpa.set 6 (by omega) (by omega) 0
  have hxa := (HXF.out.trans hx).setCell (p := ⟨w9.heap.size, 6, none⟩) HXB.out.size (.int .i64 0)
  have c6 := hpa.cells.c6
  obtain ⟨d0, d1, d2, d3, d4, d5, d6, d7, d8, d9⟩ := hp2.cells
  have HXG := Lib.hid hxa
  clear hpa hp2 hxa hx
  go_wp2_with fail
  refine (HT2.out _).mono ?_
  rintro _ wb ⟨rfl, hx⟩
  clear d0 d1 d2 d3 d4 d5 d6 d7 d8 d9 e6 c6 f0 f1 f2 f3 f4 f5 f6 f7 f8 f9 k0 k1 k2 k3 k4 k5 k6 k7 k8 k9 hW hWF
  have HXH := Lib.hid (HXG.out.trans hx); clear hx
  go_wp2_with fail
  refine (HPA.out _ (HE.out.ext HXH.out)).mono ?_
  rintro _ wc ⟨rfl, hx⟩
  have HXI := Lib.hid (HXH.out.trans hx); clear hx
  have hx := (Ext.refl wc).alloc (.cells Pol.zero.cs 23)
  have h0 : PL (wc.alloc (.cells Pol.zero.cs 23)) wc.heap.size Pol.zero := heap_alloc_new wc _
  obtain ⟨Y, hY⟩ : ∃ W, wc.alloc (.cells Pol.zero.cs 23) = W := ⟨_, rfl⟩
  rw [hY] at hx h0
  have f0 := h0.soft 0; have f1 := h0.soft 1; have f2 := h0.soft 2; have f3 := h0.soft 3; have f4 := h0.soft 4; have f5 := h0.soft 5; have f6 := h0.soft 6; have f7 := h0.soft 7; have f8 := h0.soft 8; have f9 := h0.soft 9
  obtain ⟨k0, k1, k2, k3, k4, k5, k6, k7, k8, k9⟩ := h0.cells
  obtain ⟨YF, hYF, hxF, hpF⟩ := putPL (q := z) hx (Nat.le_refl _) h0
  have HXJ := Lib.hid (HXI.out.trans hxF)
  unfold Pol.cs Pol.zero at hY
  clear hx hxF hpF h0
  unfold Pol.v
  go_wp2_with fail
  refine (HST.out _).mono ?_
  rintro _ wd ⟨rfl, hx⟩
  have HXK := Lib.hid (HXJ.out.trans hx)
  clear hx f0 f1 f2 f3 f4 f5 f6 f7 f8 f9 k0 k1 k2 k3 k4 k5 k6 k7 k8 k9 hY hYF
  go_wp2_with fail
  refine (HTX.out _ (HE.out.pow.ext HXK.out)).mono ?_
  rintro _ we ⟨rfl, hx⟩
  have HXL := Lib.hid (HXK.out.trans hx)
  clear hx
  go_wp2_with fail
  refine (num_at' _ _).mono ?_
  rintro _ wz ⟨rfl, rfl⟩
  go_wp2_with fail
  refine (num_at' _ _).mono ?_
  rintro _ wz ⟨rfl, rfl⟩
  go_wp2_with fail
  refine (num_at' _ _).mono ?_
  rintro _ wz ⟨rfl, rfl⟩
  go_wp2_with fail
  refine (num_at' _ _).mono ?_
  rintro _ wz ⟨rfl, rfl⟩
  go_wp2_with fail
  go_ret
  exact ⟨ret_boolP (by rw [← HTT.out]; rfl), HXL.out⟩
#print axioms PKnown_at
end Go.Proofs.YtgfjmmdkdhodiaaGreatDoor
