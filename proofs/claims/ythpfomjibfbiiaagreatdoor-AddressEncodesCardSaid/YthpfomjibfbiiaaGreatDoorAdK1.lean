/- Address: known. -/
import Derived.Test.YthpfomjibfbiiaaGreatDoorMg25
import Derived.Test.YthpfomjibfbiiaaGreatDoorApZ
import Derived.Lib.SlBytesConst
namespace Go.Proofs.YthpfomjibfbiiaaGreatDoor
open Go Go.RowKit
set_option linter.unusedVariables false

theorem kT1 (A : Option Addr) (c : Nat) (W : World) (hb : BS W (.slice A 4 c) [10, 0, 0, 255]) (hE : EnvA W) : Calls Tryz.prog 28 #[.int .i64 2, .slice A 4 c, .string ⟨#[49, 48, 46, 48, 46, 48, 46, 50, 53, 53]⟩] W fun e w' => e = .returned (.bool true) ∧ Ext W w' :=
  ltext_at 2 [10, 0, 0, 255] A c _ W hb hE (by decide) t255
theorem kT2 (A : Option Addr) (c : Nat) (W : World) (hb : BS W (.slice A 16 c) six) (hE : EnvA W) : Calls Tryz.prog 28 #[.int .i64 24, .slice A 16 c, .string ⟨#[91, 102, 101, 56, 48, 58, 58, 49, 93]⟩] W fun e w' => e = .returned (.bool true) ∧ Ext W w' :=
  ltext_at 24 six A c _ W hb hE (by decide) tsix
theorem kT3 (A : Option Addr) (c : Nat) (W : World) (hb : BS W (.slice A 16 c) zer) (hE : EnvA W) : Calls Tryz.prog 28 #[.int .i64 24, .slice A 16 c, .string ⟨#[91, 58, 58, 93]⟩] W fun e w' => e = .returned (.bool true) ∧ Ext W w' :=
  ltext_at 24 zer A c _ W hb hE (by decide) tzer
theorem kT4 (A : Option Addr) (c : Nat) (W : World) (hb : BS W (.slice A 3 c) [97, 58, 98]) (hE : EnvA W) : Calls Tryz.prog 28 #[.int .i64 20, .slice A 3 c, .string ⟨#[104, 111, 115, 116, 47, 97, 58, 98]⟩] W fun e w' => e = .returned (.bool true) ∧ Ext W w' :=
  ltext_at 20 [97, 58, 98] A c _ W hb hE (by decide) th
theorem kR1 (W : World) (hE : EnvA W) : Calls Tryz.prog 29 #[.string ⟨#[49, 48, 46, 48, 46, 48, 46, 50, 53, 54]⟩] W fun e w' => e = .returned (.bool true) ∧ Ext W w' := refuses_at _ (by decide) W hE n256
theorem kR2 (W : World) (hE : EnvA W) : Calls Tryz.prog 29 #[.string ⟨#[48, 49, 48, 46, 48, 46, 48, 46, 49]⟩] W fun e w' => e = .returned (.bool true) ∧ Ext W w' := refuses_at _ (by decide) W hE n010
theorem kR3 (W : World) (hE : EnvA W) : Calls Tryz.prog 29 #[.string ⟨#[91, 70, 69, 56, 48, 58, 58, 49, 93]⟩] W fun e w' => e = .returned (.bool true) ∧ Ext W w' := refuses_at _ (by decide) W hE nFE
theorem kR4 (W : World) (hE : EnvA W) : Calls Tryz.prog 29 #[.string ⟨#[91, 48, 58, 48, 58, 58, 49, 93]⟩] W fun e w' => e = .returned (.bool true) ∧ Ext W w' := refuses_at _ (by decide) W hE n00
theorem kR5 (W : World) (hE : EnvA W) : Calls Tryz.prog 29 #[.string ⟨#[104, 111, 115, 116, 47]⟩] W fun e w' => e = .returned (.bool true) ∧ Ext W w' := refuses_at _ (by decide) W hE nhost
theorem kP (W : World) (hE : EnvA W) : Calls Tryz.prog 25 #[.string ⟨#[49, 48, 46, 48, 46, 48, 46, 50, 53, 53]⟩] W fun e w' => (∃ A c, e = .returned (.tuple #[.agg #[.int .i64 2, .slice A 4 c], .int .i64 0]) ∧ BS w' (.slice A 4 c) [10, 0, 0, 255]) ∧ Ext W w' :=
  (AParse_at _ (by decide) W hE).mono fun e w' h => ⟨PAr_yes h.1 p255, h.2⟩
theorem kN (A : Option Addr) (c : Nat) (W : World) (hb : BS W (.slice A 4 c) [10, 0, 0, 255]) (hE : EnvA W) : Calls Tryz.prog 27 #[.agg #[.int .i64 2, .slice A 4 c], .int .i64 33, .agg #[.int .i64 2, .slice A 4 c]] W fun e w' => e = .returned (.tuple #[.bool false, .int .i64 3]) ∧ Ext W w' := by
  have h := Network_at 2 [10, 0, 0, 255] A c 33 2 [10, 0, 0, 255] A c W hb hb hE
  have e : netP 2 [10, 0, 0, 255] 33 2 [10, 0, 0, 255] = (false, 3) := by decide
  rw [e] at h
  exact h
theorem kW1 (W : World) (hE : EnvA W) : Calls Tryz.prog 30 #[.string ⟨#[49, 48, 46, 48, 46, 48, 46, 49]⟩, .bool true] W fun e w' => e = .returned (.bool true) ∧ Ext W w' := withinA_at _ (by decide) true W hE 2 [10, 0, 0, 1] p1 (by decide)
theorem kW2 (W : World) (hE : EnvA W) : Calls Tryz.prog 30 #[.string ⟨#[49, 48, 46, 48, 46, 49, 46, 48]⟩, .bool false] W fun e w' => e = .returned (.bool true) ∧ Ext W w' := withinA_at _ (by decide) false W hE 2 [10, 0, 1, 0] p10 (by decide)
theorem kW3 (W : World) (hE : EnvA W) : Calls Tryz.prog 30 #[.string ⟨#[104, 111, 115, 116, 47, 97]⟩, .bool false] W fun e w' => e = .returned (.bool true) ∧ Ext W w' := withinA_at _ (by decide) false W hE 20 [97] pa (by decide)
theorem BS.mark (w : World) (e : TypeId) (l : List UInt8) (fr : Nat × Nat) (hl : l.length ≤ maxLen) : BS (w.alloc (.cells (bv l).toArray e fr)) (.slice (some ⟨w.heap.size, 0, none⟩) l.length l.length) l := by
  refine ⟨some ⟨w.heap.size, 0, none⟩, l.length, by simp, by simp, hl, fun _ => ⟨⟨w.heap.size, 0, none⟩, rfl, by simp, fun j u hu => ?_⟩⟩
  have hg : (w.alloc (.cells (bv l).toArray e fr)).heap[w.heap.size]? = some (.cells (bv l).toArray e fr) := heap_alloc_new w _
  have hadd : (⟨w.heap.size, 0, none⟩ : Addr).add j = ⟨w.heap.size, j, none⟩ := by unfold Addr.add; split <;> simp_all
  rw [hadd, cell_of_row _ _ j _ e fr hg]
  simpa using hu
theorem mk16 (w : World) : (Instr.makeSlice 23 (.int .i64 16) (.int .i64 16)).run Tryz.prog w = .ok (.slice (some ⟨w.heap.size, 0, none⟩) 16 16) (w.alloc (.cells #[.int .u8 0, .int .u8 0, .int .u8 0, .int .u8 0, .int .u8 0, .int .u8 0, .int .u8 0, .int .u8 0, .int .u8 0, .int .u8 0, .int .u8 0, .int .u8 0, .int .u8 0, .int .u8 0, .int .u8 0, .int .u8 0] 5)) := by kernel_rfl
set_option maxRecDepth 100000 in
set_option maxHeartbeats 2000000 in
theorem AKnown_at (w : World) (hE : EnvA w) : Calls Tryz.prog 7 #[] w fun e w' => e = .returned (.bool true) ∧ Ext w w' := by
  obtain ⟨i0, hi, hz0, hz1, hz2⟩ := info_parts u8inf
  have HE := Lib.hid hE
  clear hE
  have HX0 := Lib.hid ((Ext.refl w).alloc (.cells #[.int .u8 254, .int .u8 128] 5))
  have HL0 := Lib.hid (OB.lit w 5 w.heap.size [.int .u8 254, .int .u8 128] [254, 128] rfl 2 rfl (by simp [maxLen]) (Nat.le_refl _))
  go_enter Tryz.func7, Tryz.ntmps7
  go_wp2_with (first
    | (at_builtin; refine wpList_append_zeros _ rfl (.tmp 6) (.const (.int .i64 12)) 23 3 9 rfl w.heap.size 5 i0 Tryz.underlying23 Tryz.underlying3 Tryz.underlying9 hi hz0 hz1 hz2 _ [254, 128] rfl HL0.out 12 rfl (by omega) (by decide) ?hm ?_; rotate_right; intro v4 w4 hown4 hg4; have HO4 := Lib.hid hown4; have HG4 := Lib.hid hg4; have HL4 := Lib.hid (OB.lit w4 5 0 [.int .u8 0, .int .u8 1] [0, 1] rfl 2 rfl (by simp [maxLen]) (by omega)); have HX4 := Lib.hid ((Ext.refl w4).alloc (.cells #[.int .u8 0, .int .u8 1] 5)); clear hown4 hg4)
    | (at_builtin; refine wpList_append_bs _ rfl (.tmp 7) (.tmp 8) 23 rfl w.heap.size 5 i0 (.int .u8 0) Tryz.underlying23 hi hz0 hz1 hz2 rfl _ ([254, 128] ++ List.replicate 12 0) rfl (HO4.out.ext HX4.out) _ [0, 1] rfl HL4.out.bs (by decide) ?hm2 ?_; rotate_right; intro v5 w5 hown5 hg5 _; have HO5 := Lib.hid hown5; have HG5 := Lib.hid hg5; clear hown5 hg5))
  case hm => simp
  case hm2 => have := HG4.out.size; simp at this ⊢; omega
  obtain ⟨A5, c5, hv5⟩ : ∃ A c, v5 = .slice A 16 c := HO5.out.shape
  subst hv5
  have HS := Lib.hid (show BS w5 (.slice A5 16 c5) six from HO5.out.bs)
  have HX5 := Lib.hid (((HX0.out.grown HG4.out (fun j hj => OB.lt HL0.out j hj)).trans HX4.out).grown HG5.out (fun j hj => OB.lt HO4.out j hj))
  have HL5 := Lib.hid (OB.lit w5 5 0 [.int .u8 10, .int .u8 0, .int .u8 0, .int .u8 255] [10, 0, 0, 255] rfl 4 rfl (by simp [maxLen]) (by omega))
  have HXa := Lib.hid ((Ext.refl w5).alloc (.cells #[.int .u8 10, .int .u8 0, .int .u8 0, .int .u8 255] 5))
  clear HO5 HG5 HO4 HG4 HL4 HX4 HL0 HX0
  refine (kT1 _ 4 _ HL5.out.bs (HE.out.ext (HX5.out.trans HXa.out))).mono ?_
  rintro _ w6 ⟨rfl, hx⟩
  have HX6 := Lib.hid ((HX5.out.trans HXa.out).trans hx)
  have HS6 := Lib.hid (HS.out.ext (HXa.out.trans hx))
  clear hx HX5 HXa HS HL5
  go_wp2_with fail
  refine (kT2 A5 c5 _ HS6.out (HE.out.ext HX6.out)).mono ?_
  rintro _ w7 ⟨rfl, hx⟩
  have HX7 := Lib.hid (HX6.out.trans hx)
  clear hx HX6 HS6
  have hmk := mk16
  have HL7 := Lib.hid (OB.lit w7 5 0 [.int .u8 0, .int .u8 0, .int .u8 0, .int .u8 0, .int .u8 0, .int .u8 0, .int .u8 0, .int .u8 0, .int .u8 0, .int .u8 0, .int .u8 0, .int .u8 0, .int .u8 0, .int .u8 0, .int .u8 0, .int .u8 0] zer rfl 16 rfl (by simp [maxLen, zer]) (by omega))
  have HXb := Lib.hid ((Ext.refl w7).alloc (.cells #[.int .u8 0, .int .u8 0, .int .u8 0, .int .u8 0, .int .u8 0, .int .u8 0, .int .u8 0, .int .u8 0, .int .u8 0, .int .u8 0, .int .u8 0, .int .u8 0, .int .u8 0, .int .u8 0, .int .u8 0, .int .u8 0] 5))
  go_wp2_with fail
  refine (kT3 _ 16 _ HL7.out.bs (HE.out.ext (HX7.out.trans HXb.out))).mono ?_
  rintro _ w8 ⟨rfl, hx⟩
  have HX8 := Lib.hid ((HX7.out.trans HXb.out).trans hx)
  clear hx HX7 HXb HL7 hmk
  have hcv := Lib.run_convert_bytes_const (P := Tryz.prog) w8 23 5 #[.int .u8 97, .int .u8 58, .int .u8 98] 3 3 Tryz.underlying23 Tryz.underlying5
  have HL8 := Lib.hid (show BS (w8.alloc (.cells #[.int .u8 97, .int .u8 58, .int .u8 98] 5 (3, 3 + 1))) (.slice (some ⟨w8.heap.size, 0, none⟩) 3 3) [97, 58, 98] from BS.mark w8 5 [97, 58, 98] (3, 3 + 1) (by simp [maxLen]))
  have HXc := Lib.hid ((Ext.refl w8).alloc (.cells #[.int .u8 97, .int .u8 58, .int .u8 98] 5 (3, 3 + 1)))
  go_wp2_with fail
  refine (kT4 _ 3 _ HL8.out (HE.out.ext (HX8.out.trans HXc.out))).mono ?_
  rintro _ w9 ⟨rfl, hx⟩
  have HX9 := Lib.hid ((HX8.out.trans HXc.out).trans hx)
  clear hx HX8 HXc HL8 hcv
  go_wp2_with fail
  refine (kR1 _ (HE.out.ext HX9.out)).mono ?_
  rintro _ w10 ⟨rfl, hx⟩
  have HX10 := Lib.hid (HX9.out.trans hx)
  clear hx HX9
  go_wp2_with fail
  refine (kR2 _ (HE.out.ext HX10.out)).mono ?_
  rintro _ w11 ⟨rfl, hx⟩
  have HX11 := Lib.hid (HX10.out.trans hx)
  clear hx HX10
  go_wp2_with fail
  refine (kR3 _ (HE.out.ext HX11.out)).mono ?_
  rintro _ w12 ⟨rfl, hx⟩
  have HX12 := Lib.hid (HX11.out.trans hx)
  clear hx HX11
  go_wp2_with fail
  refine (kR4 _ (HE.out.ext HX12.out)).mono ?_
  rintro _ w13 ⟨rfl, hx⟩
  have HX13 := Lib.hid (HX12.out.trans hx)
  clear hx HX12
  go_wp2_with fail
  refine (kR5 _ (HE.out.ext HX13.out)).mono ?_
  rintro _ w14 ⟨rfl, hx⟩
  have HX14 := Lib.hid (HX13.out.trans hx)
  clear hx HX13
  go_wp2_with fail
  refine (kP _ (HE.out.ext HX14.out)).mono ?_
  rintro _ w15 ⟨⟨A, c, rfl, hb⟩, hx⟩
  obtain ⟨Y, Z, hY, hZ, h0, hz, hxz⟩ := boxA w15 2 A 4 c
  have f0 := h0.soft 0; have f1 := h0.soft 1
  obtain ⟨b0, b1⟩ := h0.cells
  obtain ⟨d0, d1⟩ := hz.cells
  have HX15 := Lib.hid ((HX14.out.trans hx).trans hxz)
  have HNN := Lib.hid (kN A c Z (hb.ext hxz) (HE.out.ext ((HX14.out.trans hx).trans hxz)))
  clear hx hb h0 hz hxz HX14
  go_wp2_with fail
  refine HNN.out.mono ?_
  rintro _ w16 ⟨rfl, hx⟩
  have HX16 := Lib.hid (HX15.out.trans hx)
  clear hx HX15 hY hZ f0 f1 b0 b1 d0 d1
  go_wp2_with fail
  refine (numA_at _ _).mono ?_
  rintro _ w17 ⟨rfl, rfl⟩
  go_wp2_with fail
  refine (numA_at _ _).mono ?_
  rintro _ w17 ⟨rfl, rfl⟩
  go_wp2_with fail
  refine (kW1 _ (HE.out.ext HX16.out)).mono ?_
  rintro _ w17 ⟨rfl, hx⟩
  have HX17 := Lib.hid (HX16.out.trans hx)
  clear hx HX16
  go_wp2_with fail
  refine (kW2 _ (HE.out.ext HX17.out)).mono ?_
  rintro _ w18 ⟨rfl, hx⟩
  have HX18 := Lib.hid (HX17.out.trans hx)
  clear hx HX17
  go_wp2_with fail
  refine (kW3 _ (HE.out.ext HX18.out)).mono ?_
  rintro _ w19 ⟨rfl, hx⟩
  have HX19 := Lib.hid (HX18.out.trans hx)
  clear hx HX18
  go_wp2_with fail
  go_ret
  exact ⟨rfl, HX19.out⟩
end Go.Proofs.YthpfomjibfbiiaaGreatDoor
