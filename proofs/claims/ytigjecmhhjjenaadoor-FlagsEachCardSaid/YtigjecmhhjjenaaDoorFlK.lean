/- Flags: the law's is and known. (wip/tools/genflk.py printed this.) -/
import Derived.Test.YtigjecmhhjjenaaDoorFlR3
import Derived.Test.YtigjecmhhjjenaaDoorFl10
namespace Go.Proofs.YtigjecmhhjjenaaDoor
open Go Go.RowKit
set_option linter.unusedVariables false

theorem is_yes (f : W32) (s : ByteArray) (hv : nmB f = true) (he : textF f = s.data.toList) (w : World) :
    Calls Tryd.prog 36 #[.int .u32 (f.toNat : Int), .int .i64 0, .string s, .int .i64 0] w fun e w' => e = .returned (.bool true) ∧ Ext w w' := by
  have HT := Lib.hid (Text_ok f hv w)
  obtain ⟨T, hT⟩ : ∃ T, textF f = T := ⟨_, rfl⟩
  rw [hT] at HT he
  have q : (T == s.toList) = true := by rw [ByteArray.toList_eq, he]; exact beq_self_eq_true _
  clear hT he hv
  go_enter Tryd.func36, Tryd.ntmps36
  go_wp2_with fail
  refine HT.out.mono ?_
  rintro _ w1 ⟨rfl, hx⟩
  have HX := Lib.hid hx
  clear hx
  go_wp2_with fail
  go_ret
  exact ⟨rfl, HX.out⟩
theorem is_err (s : ByteArray) (no : Int) (hn : no ≠ 0) (w : World) :
    Calls Tryd.prog 36 #[.int .u32 0, .int .i64 no, .string s, .int .i64 no] w fun e w' => e = .returned (.bool true) ∧ w = w' := by
  have h1 : (no == 0) = false := by rw [beq_eq_false_iff_ne]; exact hn
  have h2 : (no != 0) = true := by rw [bne, h1]; rfl
  have h3 : (no == no) = true := beq_self_eq_true _
  clear hn
  go_enter Tryd.func36, Tryd.ntmps36
  go_wp2_with fail
  go_ret
  exact ⟨rfl, rfl⟩
theorem PFl_yes {l : List UInt8} {e : Ending} {f : W32} (h : PFl l e) (hv : nmB f = true) (ht : textF f = l) : e = .returned (.tuple #[.int .u32 (f.toNat : Int), .int .i64 0]) := by
  rcases h with ⟨g, hg, hl, rfl⟩ | ⟨hno, rfl⟩
  · rw [textF_inj hg hv (hl.trans ht.symm)]
  · exact absurd ht (hno f hv)
theorem PFl_no {l : List UInt8} {e : Ending} (h : PFl l e) (hn : ∀ f : W32, nmB f = true → textF f ≠ l) : e = .returned (.tuple #[.int .u32 0, .int .i64 6]) := by
  rcases h with ⟨g, hg, hl, rfl⟩ | ⟨hno, rfl⟩
  · exact absurd hl (hn g hg)
  · rfl
theorem kP1 (W : World) : Calls Tryd.prog 20 #[.string ⟨#[102, 111, 114, 119, 97, 114, 100, 97, 98, 108, 101, 44, 114, 101, 110, 101, 119, 97, 98, 108, 101]⟩] W fun e w' => e = .returned (.tuple #[.int .u32 129, .int .i64 0]) ∧ Ext W w' :=
  (FParse_at _ (by decide) W).mono fun e w' h => ⟨PFl_yes (f := 129#32) h.1 (by decide) (by kernel_rfl), h.2⟩
theorem kP2 (W : World) : Calls Tryd.prog 20 #[.string ⟨#[114, 101, 110, 101, 119, 97, 98, 108, 101, 44, 102, 111, 114, 119, 97, 114, 100, 97, 98, 108, 101]⟩] W fun e w' => e = .returned (.tuple #[.int .u32 0, .int .i64 6]) ∧ Ext W w' :=
  (FParse_at _ (by decide) W).mono fun e w' h => ⟨PFl_no h.1 (no_text (f := 128#32) (by kernel_rfl) (fun _ hh => by
    have h1 : textF 128#32 = [114, 101, 110, 101, 119, 97, 98, 108, 101] := by kernel_rfl
    rw [h1] at hh
    exact absurd hh (by decide))), h.2⟩
theorem kT (W : World) : Calls Tryd.prog 17 #[.int .u32 4096] W fun e w' => e = .returned (.tuple #[.string ⟨#[]⟩, .int .i64 2]) ∧ Ext W w' := Text_no 4096#32 (by decide) W
theorem kI1 (W : World) : Calls Tryd.prog 36 #[.int .u32 0, .int .i64 0, .string ⟨#[45]⟩, .int .i64 0] W fun e w' => e = .returned (.bool true) ∧ Ext W w' := is_yes 0#32 ⟨#[45]⟩ (by decide) (by kernel_rfl) W
theorem kI2 (W : World) : Calls Tryd.prog 36 #[.int .u32 129, .int .i64 0, .string ⟨#[102, 111, 114, 119, 97, 114, 100, 97, 98, 108, 101, 44, 114, 101, 110, 101, 119, 97, 98, 108, 101]⟩, .int .i64 0] W fun e w' => e = .returned (.bool true) ∧ Ext W w' := is_yes 129#32 ⟨#[102, 111, 114, 119, 97, 114, 100, 97, 98, 108, 101, 44, 114, 101, 110, 101, 119, 97, 98, 108, 101]⟩ (by decide) (by kernel_rfl) W
theorem kI3 (W : World) : Calls Tryd.prog 36 #[.int .u32 769, .int .i64 0, .string ⟨#[102, 111, 114, 119, 97, 114, 100, 97, 98, 108, 101, 44, 105, 110, 105, 116, 105, 97, 108, 44, 112, 114, 101, 45, 97, 117, 116, 104]⟩, .int .i64 0] W fun e w' => e = .returned (.bool true) ∧ Ext W w' := is_yes 769#32 ⟨#[102, 111, 114, 119, 97, 114, 100, 97, 98, 108, 101, 44, 105, 110, 105, 116, 105, 97, 108, 44, 112, 114, 101, 45, 97, 117, 116, 104]⟩ (by decide) (by kernel_rfl) W
theorem kI5 (W : World) : Calls Tryd.prog 36 #[.int .u32 515, .int .i64 0, .string ⟨#[102, 111, 114, 119, 97, 114, 100, 97, 98, 108, 101, 44, 102, 111, 114, 119, 97, 114, 100, 101, 100, 44, 112, 114, 101, 45, 97, 117, 116, 104]⟩, .int .i64 0] W fun e w' => e = .returned (.bool true) ∧ Ext W w' := is_yes 515#32 ⟨#[102, 111, 114, 119, 97, 114, 100, 97, 98, 108, 101, 44, 102, 111, 114, 119, 97, 114, 100, 101, 100, 44, 112, 114, 101, 45, 97, 117, 116, 104]⟩ (by decide) (by kernel_rfl) W
theorem kI7 (W : World) : Calls Tryd.prog 36 #[.int .u32 128, .int .i64 0, .string ⟨#[114, 101, 110, 101, 119, 97, 98, 108, 101]⟩, .int .i64 0] W fun e w' => e = .returned (.bool true) ∧ Ext W w' := is_yes 128#32 ⟨#[114, 101, 110, 101, 119, 97, 98, 108, 101]⟩ (by decide) (by kernel_rfl) W
theorem kA1 (W : World) : Calls Tryd.prog 25 #[.int .u32 5, .int .u32 1, .bool true] W fun e w' => e = .returned (.tuple #[.int .u32 769, .int .i64 0]) ∧ Ext W w' := by
  have h := Initial_at 5#32 1#32 true W
  have e1 : initE 5#32 1#32 = 0 := by decide
  have e2 : initW 5#32 1#32 true = 769#32 := by decide
  rw [e1, if_pos rfl, e2] at h
  exact h
theorem kA2 (W : World) : Calls Tryd.prog 25 #[.int .u32 65536, .int .u32 0, .bool false] W fun e w' => e = .returned (.tuple #[.int .u32 0, .int .i64 150]) ∧ Ext W w' := by
  have h := Initial_at 65536#32 0#32 false W
  have e1 : initE 65536#32 0#32 = 150 := by decide
  rw [e1, if_neg (by decide)] at h
  exact h
theorem kG1 (W : World) : Calls Tryd.prog 27 #[.int .u32 3, .int .u32 769, .int .u32 1] W fun e w' => e = .returned (.tuple #[.int .u32 515, .int .i64 0]) ∧ Ext W w' := by
  have h := Grant_at 3#32 769#32 1#32 W
  have e1 : grantE 3#32 769#32 1#32 = 0 := by decide
  have e2 : grantW 3#32 769#32 1#32 = 515#32 := by decide
  rw [e1, if_pos rfl, e2] at h
  exact h
theorem kG2 (W : World) : Calls Tryd.prog 27 #[.int .u32 3, .int .u32 256, .int .u32 1] W fun e w' => e = .returned (.tuple #[.int .u32 0, .int .i64 151]) ∧ Ext W w' := by
  have h := Grant_at 3#32 256#32 1#32 W
  have e1 : grantE 3#32 256#32 1#32 = 151 := by decide
  rw [e1, if_neg (by decide)] at h
  exact h
theorem kG3 (W : World) : Calls Tryd.prog 27 #[.int .u32 131072, .int .u32 192, .int .u32 0] W fun e w' => e = .returned (.tuple #[.int .u32 128, .int .i64 0]) ∧ Ext W w' := by
  have h := Grant_at 131072#32 192#32 0#32 W
  have e1 : grantE 131072#32 192#32 0#32 = 0 := by decide
  have e2 : grantW 131072#32 192#32 0#32 = 128#32 := by decide
  rw [e1, if_pos rfl, e2] at h
  exact h
set_option maxRecDepth 100000 in
set_option maxHeartbeats 1000000 in
theorem FKnown_at (w : World) : Calls Tryd.prog 16 #[] w fun e w' => e = .returned (.bool true) ∧ Ext w w' := by
  go_enter Tryd.func16, Tryd.ntmps16
  have HX0 := Lib.hid (Ext.refl w)
  go_wp2_with fail
  refine (kP1 _).mono ?_
  rintro _ w1 ⟨rfl, hx⟩
  have HX1 := Lib.hid (HX0.out.trans hx)
  clear hx HX0
  go_wp2_with fail
  refine (kP2 _).mono ?_
  rintro _ w2 ⟨rfl, hx⟩
  have HX2 := Lib.hid (HX1.out.trans hx)
  clear hx HX1
  go_wp2_with fail
  refine (kT _).mono ?_
  rintro _ w3 ⟨rfl, hx⟩
  have HX3 := Lib.hid (HX2.out.trans hx)
  clear hx HX2
  go_wp2_with fail
  refine (kI1 _).mono ?_
  rintro _ w4 ⟨rfl, hx⟩
  have HX4 := Lib.hid (HX3.out.trans hx)
  clear hx HX3
  go_wp2_with fail
  refine (kI2 _).mono ?_
  rintro _ w5 ⟨rfl, hx⟩
  have HX5 := Lib.hid (HX4.out.trans hx)
  clear hx HX4
  go_wp2_with fail
  refine (kA1 _).mono ?_
  rintro _ w6 ⟨rfl, hx⟩
  have HX6 := Lib.hid (HX5.out.trans hx)
  clear hx HX5
  go_wp2_with fail
  refine (kA2 _).mono ?_
  rintro _ w7 ⟨rfl, hx⟩
  have HX7 := Lib.hid (HX6.out.trans hx)
  clear hx HX6
  go_wp2_with fail
  refine (kI3 _).mono ?_
  rintro _ w8 ⟨rfl, hx⟩
  have HX8 := Lib.hid (HX7.out.trans hx)
  clear hx HX7
  go_wp2_with fail
  refine (is_err ⟨#[]⟩ 150 (by decide) _).mono ?_
  rintro _ w9 ⟨rfl, rfl⟩
  go_wp2_with fail
  refine (kG1 _).mono ?_
  rintro _ w9 ⟨rfl, hx⟩
  have HX9 := Lib.hid (HX8.out.trans hx)
  clear hx HX8
  go_wp2_with fail
  refine (kG2 _).mono ?_
  rintro _ w10 ⟨rfl, hx⟩
  have HX10 := Lib.hid (HX9.out.trans hx)
  clear hx HX9
  go_wp2_with fail
  refine (kG3 _).mono ?_
  rintro _ w11 ⟨rfl, hx⟩
  have HX11 := Lib.hid (HX10.out.trans hx)
  clear hx HX10
  go_wp2_with fail
  refine (kI5 _).mono ?_
  rintro _ w12 ⟨rfl, hx⟩
  have HX12 := Lib.hid (HX11.out.trans hx)
  clear hx HX11
  go_wp2_with fail
  refine (is_err ⟨#[]⟩ 151 (by decide) _).mono ?_
  rintro _ w13 ⟨rfl, rfl⟩
  go_wp2_with fail
  refine (kI7 _).mono ?_
  rintro _ w13 ⟨rfl, hx⟩
  have HX13 := Lib.hid (HX12.out.trans hx)
  clear hx HX12
  go_wp2_with fail
  go_ret
  exact ⟨rfl, HX13.out⟩
end Go.Proofs.YtigjecmhhjjenaaDoor
