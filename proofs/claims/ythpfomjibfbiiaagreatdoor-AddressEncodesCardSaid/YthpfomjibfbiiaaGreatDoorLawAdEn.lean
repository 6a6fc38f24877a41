/- AddressEncodes: the law. (wip/tools/genaden.py printed this.) -/
import Derived.Test.YthpfomjibfbiiaaGreatDoorMg49
import Derived.Test.YthpfomjibfbiiaaGreatDoorAdD1
import Derived.Test.YthpfomjibfbiiaaGreatDoorAdK1
import Derived.Deep.DeepCutAuto
namespace Go.Proofs.YthpfomjibfbiiaaGreatDoor
open Go Go.RowKit
set_option linter.unusedVariables false

/-- What Encode answers. -/
def EncS (xs : List (Int × List UInt8)) (X : List UInt8) (ev : Int) : Prop := (vlA xs = true ∧ X = dataF xs ∧ ev = 0) ∨ (vlA xs = false ∧ X = [] ∧ ev = 2)
/-- What Decode answers. -/
def DecS (b : List UInt8) (R : List (Int × List UInt8)) (ev : Int) : Prop := (vlA R = true ∧ ev = 0 ∧ b = dataF R) ∨ (R = [] ∧ ev = 6 ∧ ∀ L, vlA L = true → b ≠ dataF L)
/-- What Read answers. -/
def ReadS (M : List UInt8) (R : List (Int × List UInt8)) (ev : Int) (k : Nat) : Prop := (vlA R = true ∧ ev = 0 ∧ (∃ rest, M = dataF R ++ rest) ∧ k = (dataF R).length) ∨ (R = [] ∧ ev = 6 ∧ k = 0 ∧ ∀ L rest, vlA L = true → M ≠ dataF L ++ rest)
theorem EncS_ex (xs : List (Int × List UInt8)) : ∃ X ev, EncS xs X ev := by
  cases h : vlA xs with
  | true => exact ⟨_, _, .inl ⟨h, rfl, rfl⟩⟩
  | false => exact ⟨_, _, .inr ⟨h, rfl, rfl⟩⟩
theorem DecS_ex (b : List UInt8) : ∃ R ev, DecS b R ev := by
  by_cases h : ∃ L, vlA L = true ∧ b = dataF L
  · obtain ⟨L, h1, h2⟩ := h
    exact ⟨L, 0, .inl ⟨h1, rfl, h2⟩⟩
  · exact ⟨[], 6, .inr ⟨rfl, rfl, fun L hv e => h ⟨L, hv, e⟩⟩⟩
theorem ReadS_ex (M : List UInt8) : ∃ R ev k, ReadS M R ev k := by
  by_cases h : ∃ L rest, vlA L = true ∧ M = dataF L ++ rest
  · obtain ⟨L, rest, h1, h2⟩ := h
    exact ⟨L, 0, _, .inl ⟨h1, rfl, ⟨rest, h2⟩, rfl⟩⟩
  · exact ⟨[], 6, 0, .inr ⟨rfl, rfl, rfl, fun L rest hv e => h ⟨L, rest, hv, e⟩⟩⟩
theorem ds_nilE (w : World) : DS w (.slice none 0 0) [] := ⟨none, 0, rfl, Nat.le_refl _, by unfold maxLen; decide, fun i hi => absurd hi (by simp)⟩
theorem AEncode_S {xs : List (Int × List UInt8)} {X : List UInt8} {ev : Int} (h : EncS xs X ev) (A : Option Addr) (c : Nat) (w : World) (hD : DS w (.slice A xs.length c) xs) (hn : xs.length ≤ 1000) (hE : EnvA w) :
    Calls Tryz.prog 15 #[.slice A xs.length c] w fun e w' => ∃ A' c', e = .returned (.tuple #[.slice A' X.length c', .int .i64 ev]) ∧ BS w' (.slice A' X.length c') X ∧ Ext w w' := by
  rcases h with ⟨hv, rfl, rfl⟩ | ⟨hv, rfl, rfl⟩
  · exact AEncode_yes A c xs w hD hE hv
  · exact (AEncode_no A c xs w hD hn hE hv).mono fun e w' ⟨he, hx⟩ => ⟨none, 0, he, BS.nil _, hx⟩
theorem ADecode_S {b : List UInt8} {R : List (Int × List UInt8)} {ev : Int} (h : DecS b R ev) (A : Option Addr) (c : Nat) (hl : b.length ≤ 900) (w : World) (hB : BS w (.slice A b.length c) b) (hE : EnvA w) :
    Calls Tryz.prog 18 #[.slice A b.length c] w fun e w' => ∃ A' c', e = .returned (.tuple #[.slice A' R.length c', .int .i64 ev]) ∧ DS w' (.slice A' R.length c') R ∧ Ext w w' := by
  rcases h with ⟨hv, rfl, hb⟩ | ⟨rfl, rfl, hno⟩
  · exact ADecode_yes A c b hl R hv hb w hB hE
  · exact (ADecode_no A c b hl hno w hB hE).mono fun e w' ⟨he, hx⟩ => ⟨none, 0, he, ds_nilE _, hx⟩
theorem RDecode_S {b : List UInt8} {R : List (Int × List UInt8)} {ev : Int} (h : DecS b R ev) (A : Option Addr) (c : Nat) (hl : b.length ≤ 900) (w : World) (hB : BS w (.slice A b.length c) b) :
    Calls Tryz.prog 19 #[.slice A b.length c] w fun e w' => ∃ A' c', e = .returned (.tuple #[.slice A' R.length c', .int .i64 ev]) ∧ DS w' (.slice A' R.length c') R ∧ Ext w w' := by
  rcases h with ⟨hv, rfl, hb⟩ | ⟨rfl, rfl, hno⟩
  · exact RDecode15_yes A c b (by omega) R hv hb w hB
  · exact (RDecode15_no A c b (by omega) hno w hB).mono fun e w' ⟨he, hx⟩ => ⟨none, 0, he, ds_nilE _, hx⟩
theorem ARead_S {M : List UInt8} {R : List (Int × List UInt8)} {ev : Int} {k : Nat} (h : ReadS M R ev k) (g : Nat) (hl : M.length ≤ 900) (w0 w : World) (hx0 : Ext w0 w) (hg0 : w0.heap.size ≤ g) (hE : EnvA w0) (hr : RD 72 w g M 0) :
    Calls Tryz.prog 21 #[.pointer (some ⟨g, 0, none⟩)] w fun e w' => ∃ A' c', e = .returned (.tuple #[.slice A' R.length c', .int .i64 ev]) ∧ DS w' (.slice A' R.length c') R ∧ RD 72 w' g M k ∧ w.grownBy w' (some g) := by
  rcases h with ⟨hv, rfl, ⟨rest, hM⟩, rfl⟩ | ⟨rfl, rfl, rfl, hno⟩
  · refine (ARead_yes g M 0 M rfl hl R rest hv hM w0 w hx0 hg0 hE hr).mono fun e w' ⟨hg, A', c', he, hd, hr'⟩ => ⟨A', c', he, hd, ?_, hg⟩
    rwa [Nat.zero_add] at hr'
  · exact (ARead_no g M 0 M rfl hl (fun L rest hv => hno L rest hv) w0 w hx0 hg0 hE hr).mono fun e w' ⟨he, hr', hg⟩ => ⟨none, 0, he, ds_nilE _, hr', hg⟩
theorem ReadS_els {M : List UInt8} {R : List (Int × List UInt8)} {ev : Int} {k : Nat} (h : ReadS M R ev k) :
    (els M = [] → R = [] ∧ ev = 6 ∧ k = 0) ∧ (∀ x r, els M = x :: r → DecS x R ev ∧ k = (if ev = 0 then x.length else 0)) := by
  rcases h with ⟨hv, rfl, ⟨rest, hM⟩, rfl⟩ | ⟨rfl, rfl, rfl, hno⟩
  · obtain ⟨h1, h2⟩ := vlA_iff.1 hv
    have h3 := flat_len h1
    have e := (dataF_ne h2 (fun q hq => (pair_ok (h1 q hq)).1) (by omega)).1
    have he : els M = dataF R :: els rest := by rw [hM, e, els_elem _ _ _ (by omega)]
    refine ⟨fun h0 => ?_, fun x r hx => ?_⟩
    · rw [he] at h0; cases h0
    · rw [he] at hx
      injection hx with hx _
      exact ⟨.inl ⟨hv, rfl, hx.symm⟩, by rw [if_pos rfl, hx]⟩
  · refine ⟨fun _ => ⟨rfl, rfl, rfl⟩, fun x r hx => ⟨.inr ⟨rfl, rfl, fun L hv e => ?_⟩, by rw [if_neg (by decide)]⟩⟩
    obtain ⟨rest, hr⟩ := els_prefix hx
    exact hno L rest hv (by rw [hr, e])
theorem ReadS_k {M : List UInt8} {R : List (Int × List UInt8)} {ev : Int} {k : Nat} (h : ReadS M R ev k) : k ≤ M.length := by
  rcases h with ⟨_, _, ⟨rest, hM⟩, rfl⟩ | ⟨_, _, rfl, _⟩
  · rw [hM, List.length_append]; omega
  · omega
theorem ReadS_len {M : List UInt8} {R : List (Int × List UInt8)} {ev : Int} {k : Nat} (h : ReadS M R ev k) : R.length ≤ 16 := by
  rcases h with ⟨hv, _⟩ | ⟨rfl, _⟩
  · exact (vlA_iff.1 hv).2
  · simp
theorem DecS_len {M : List UInt8} {R : List (Int × List UInt8)} {ev : Int} (h : DecS M R ev) : R.length ≤ 16 := by
  rcases h with ⟨hv, _⟩ | ⟨rfl, _⟩
  · exact (vlA_iff.1 hv).2
  · simp
theorem RCopy_nil (w : World) : Calls Tryz.prog 42 #[.pointer none] w fun e w' => e = .returned (.pointer none) ∧ Ext w w' := by
  go_enter Tryz.func42, Tryz.ntmps42
  go_wp2
  go_ret
  exact ⟨rfl, Ext.refl _⟩
theorem ARead_nil (w : World) : Calls Tryz.prog 21 #[.pointer none] w fun e w' => e = .returned (.tuple #[.slice none 0 0, .int .i64 1]) ∧ Ext w w' := by
  go_enter Tryz.func21, Tryz.ntmps21
  go_wp2_with fail
  refine (RCopy_nil _).mono ?_
  rintro _ w1 ⟨rfl, hx1⟩
  have HX1 := Lib.hid hx1
  clear hx1
  go_wp2_with fail
  go_ret2
  exact ⟨rfl, HX1.out⟩
set_option maxRecDepth 100000 in
set_option maxHeartbeats 8000000 in
theorem lawEn (A : Option Addr) (c : Nat) (xs : List (Int × List UInt8)) (B : Option Addr) (d : Nat) (b : List UInt8) (w : World) (hD : DS w (.slice A xs.length c) xs) (hB : BS w (.slice B b.length d) b) (hE : EnvA w) :
    Calls Tryz.prog 4 #[.slice A xs.length c, .slice B b.length d] w fun e w' => e = .returned (.bool true) ∧ Ext w w' := by
  obtain ⟨i0, hi, hz0, hz1, hz2⟩ := info_parts u8inf
  have HS := Lib.hid (small_at A c xs w hD)
  have HD := Lib.hid hD; have HB := Lib.hid hB; have HE := Lib.hid hE
  clear hD hB hE
  obtain ⟨sm, hsm⟩ : ∃ v, smA xs = v := ⟨_, rfl⟩
  rw [hsm] at HS
  cases sm with
  | false =>
    clear hsm
    go_enter Tryz.func4, Tryz.ntmps4
    go_wp2_with fail
    refine HS.out.mono ?_
    rintro _ w1 ⟨rfl, hx1⟩
    have HX1 := Lib.hid hx1
    clear hx1
    go_wp2_with fail
    refine (AKnown_at _ (HE.out.ext HX1.out)).mono ?_
    rintro _ wk ⟨rfl, hxk⟩
    have HXK := Lib.hid (HX1.out.trans hxk)
    clear hxk
    go_wp2_with fail
    go_ret
    exact ⟨rfl, HXK.out⟩
  | true =>
  unfold smA at hsm
  rw [Bool.and_eq_true, List.all_eq_true, decide_eq_true_eq] at hsm
  have HXS := Lib.hid (show xs.length ≤ 30 from hsm.2)
  clear hsm
  go_enter Tryz.func4, Tryz.ntmps4
  go_wp2_with fail
  refine HS.out.mono ?_
  rintro _ w1 ⟨rfl, hx1⟩
  have HX1 := Lib.hid hx1
  clear hx1 HS
  by_cases hc6 : 600 < b.length
  · have hc6' : 600 < (b.length : Int) := by omega
    clear hc6
    go_wp2_with fail
    refine (AKnown_at _ (HE.out.ext HX1.out)).mono ?_
    rintro _ wk ⟨rfl, hxk⟩
    have HXK := Lib.hid (HX1.out.trans hxk)
    clear hxk
    go_wp2_with fail
    go_ret
    exact ⟨rfl, HXK.out⟩
  have hc6' : (b.length : Int) ≤ 600 := by omega
  have HB6 := Lib.hid (show b.length ≤ 600 by omega)
  clear hc6
  obtain ⟨X, ev, hes⟩ := EncS_ex xs
  have HEN := Lib.hid (AEncode_S hes A c w1 (HD.out.ext HX1.out) (by have := HXS.out; omega) (HE.out.ext HX1.out))
  have HES := Lib.hid hes
  clear hes
  go_wp2_with fail
  refine HEN.out.mono ?_
  rintro _ w2 ⟨A2, c2, rfl, hb2, hx2⟩
  have HX2 := Lib.hid (HX1.out.trans hx2); have HB2 := Lib.hid hb2
  have HVL := Lib.hid (RAValidList_at A c xs w2 (HD.out.ext HX2.out) (by have := HXS.out; omega))
  obtain ⟨vv, hvv⟩ : ∃ v, vlA xs = v := ⟨_, rfl⟩
  rw [hvv] at HVL
  have HVV := Lib.hid hvv
  clear hb2 hx2 hvv
  go_wp2_with fail
  refine HVL.out.mono ?_
  rintro _ w3 ⟨rfl, hx3⟩
  have HX3 := Lib.hid (HX2.out.trans hx3); have HB3 := Lib.hid (HB2.out.ext hx3)
  clear hx3
  go_upto_if 36 with fail
  go_cut [4] (fun _ wc => Hid (Ext w3 wc))
  case first =>
    rcases HES.out with ⟨hv, rfl, rfl⟩ | ⟨hv, rfl, rfl⟩
    · obtain rfl : true = vv := hv.symm.trans HVV.out
      have HEN15 := Lib.hid (fun (W : World) (h : DS W (.slice A xs.length c) xs) => REncode15_at A c xs W h hv)
      generalize dataF xs = dd at *
      clear hv
      go_upto_region 7 with fail
      refine wp_region_ext (fun i v' w' => match i with | 3 => ∃ A c, v' = .slice A dd.length c ∧ BS w' (.slice A dd.length c) dd | 8 => v' = .int .i64 0 | _ => False) (by kernel_rfl) (by kernel_rfl) ?_
      refine wpE_op rfl rfl (fun w' hw' K' hK' => ?_)
      have hE := hw'.1
      go_step
      refine hK' _ ⟨_, rfl⟩ ?_
      clear hK' K' hE hw' w'
      refine wpE_op rfl rfl (fun w' hw' K' hK' => ?_)
      have hE := hw'.1
      have hcv := run_str (P := Tryz.prog) w' 23 9 5 _ _ Tryz.underlying23 Tryz.underlying5 Tryz.underlying9 (HB3.out.ext ((Ext.drew _).trans hE))
      go_step
      refine hK' _ ⟨_, rfl⟩ ?_
      clear hK' K' hcv hE hw' w'
      refine wpE_op rfl rfl (fun w' hw' K' hK' => ?_)
      have hE := hw'.1
      go_step
      refine hK' _ ⟨_, rfl⟩ ?_
      clear hK' K' hE hw' w'
      refine wpE_call 48 rfl (by simp) rfl (fun w' hw' K' hK' => ?_) ?_
      · have hE := hw'.1
        go_step
        refine (HEN15.out w' (HD.out.ext (HX3.out.trans ((Ext.drew _).trans hE)))).mono ?_
        rintro _ w2 ⟨A2, c2, rfl, ho, hx⟩
        exact hK' _ _ ⟨_, rfl, A2, c2, rfl, ho.bs⟩ hx
      rintro _ w48x hE48 ⟨A48, c48, rfl, hb48⟩
      simp only [Act.put, List.setIfInBounds_toArray, List.set_cons_succ, List.set_cons_zero]
      refine wpE_op rfl rfl (fun w' hw' K' hK' => ?_)
      have hE := hw'.1
      have hM : Ext w48x w' := hw'.2 48 w48x (by simp [adds]) (by decide)
      have hcv := run_str (P := Tryz.prog) w' 23 9 5 _ _ Tryz.underlying23 Tryz.underlying5 Tryz.underlying9 (hb48.ext hM)
      go_step
      refine hK' _ ⟨_, rfl⟩ ?_
      clear hK' K' hcv hM hE hw' w'
      refine wpE_op rfl rfl (fun w' hw' K' hK' => ?_)
      have hE := hw'.1
      go_step
      refine hK' _ ⟨_, rfl⟩ ?_
      clear hK' K' hE hw' w'
      refine wpE_op rfl rfl (fun w' hw' K' hK' => ?_)
      have hE := hw'.1
      go_step
      refine hK' _ ⟨_, rfl⟩ ?_
      clear hK' K' hE hw' w'
      refine wpE_op (by kernel_rfl) rfl (fun w' hw' K' hK' => ?_)
      have hE := hw'.1
      go_step
      refine hK' _ ⟨_, rfl⟩ ?_
      clear hK' K' hE hw' w'
      refine wpE_call 53 rfl (by simp) (by kernel_rfl) (fun w' hw' K' hK' => ?_) ?_
      · have hE := hw'.1
        go_step
        refine (numA_at _ _).mono ?_
        rintro _ w2 ⟨rfl, rfl⟩
        exact hK' _ _ ⟨_, rfl, rfl⟩ (Ext.refl _)
      rintro _ w53x hE53 rfl
      simp only [Act.put, List.setIfInBounds_toArray, List.set_cons_succ, List.set_cons_zero]
      refine wpE_op (by kernel_rfl) rfl (fun w' hw' K' hK' => ?_)
      have hE := hw'.1
      go_step
      refine hK' _ ⟨_, rfl⟩ ?_
      clear hK' K' hE hw' w'
      refine wpE_op rfl rfl (fun w' hw' K' hK' => ?_)
      have hE := hw'.1
      go_step
      refine hK' _ ⟨_, rfl⟩ ?_
      clear hK' K' hE hw' w'
      refine wpE_nil (fun W hW => ?_)
      have HXW := Lib.hid ((Ext.drew w3).trans hW.1)
      clear hW
      go_wp2_with fail
      go_meet
      case rel => exact HXW
    · obtain rfl : false = vv := hv.symm.trans HVV.out
      clear hv
      go_wp2_with fail
      refine (numA_at _ _).mono ?_
      rintro _ w4 ⟨rfl, rfl⟩
      go_wp2_with fail
      go_meet
      case rel => exact Lib.hid (Ext.refl _)
  case rest =>
  obtain ⟨w4, rfl⟩ : ∃ wo : World, wo = wc := ⟨_, rfl⟩
  have HX4 := Lib.hid (HX3.out.trans hcut.out)
  clear hcut HEN HES HVL HVV HB2 HB3
  obtain ⟨DR, de, hds⟩ := DecS_ex b
  have hdl := DecS_len hds
  have HAD := Lib.hid (ADecode_S hds B d (by have := HB6.out; omega) w4 (HB.out.ext HX4.out) (HE.out.ext HX4.out))
  have HRDC := Lib.hid (fun (W : World) (hx : Ext w4 W) => RDecode_S hds B d (by have := HB6.out; omega) W (HB.out.ext (HX4.out.trans hx)))
  have q1 : (de != de) = false := by simp
  have HDL := Lib.hid hdl
  clear hds hdl
  go_wp2_with fail
  refine HAD.out.mono ?_
  rintro _ w5 ⟨A5, c5, rfl, hd5, hx5⟩
  have HX5 := Lib.hid hx5; have HD5 := Lib.hid hd5
  clear hx5 hd5
  go_wp2_with fail
  refine (HRDC.out w5 HX5.out).mono ?_
  rintro _ w6 ⟨A6, c6, rfl, hd6, hx6⟩
  have hsl := SameList_at A5 c5 DR A6 c6 DR w6 (HD5.out.ext hx6) hd6 (by have := HDL.out; omega) (by have := HDL.out; omega)
  rw [show decide (DR = DR) = true from decide_eq_true rfl] at hsl
  have HX6 := Lib.hid (HX4.out.trans (HX5.out.trans hx6)); have HSL := Lib.hid hsl
  clear hx6 hd6 hsl
  go_wp2_with fail
  refine HSL.out.mono ?_
  rintro _ w7 ⟨rfl, hx7⟩
  have HX7 := Lib.hid (HX6.out.trans hx7)
  clear hx7
  go_wp2_with fail
  refine (numA_at _ _).mono ?_
  rintro _ w7' ⟨rfl, rfl⟩
  clear HAD HRDC HD5 HSL
  obtain ⟨M, hM⟩ : ∃ M, b ++ [5] = M := ⟨_, rfl⟩
  have HM := Lib.hid hM
  have HML := Lib.hid (show M.length = b.length + 1 by rw [← hM]; simp)
  have HB7 := Lib.hid (HB.out.ext HX7.out)
  clear hM
  go_upto_region 13 with fail
  have hxa := (Ext.refl w7).alloc (.cells #[] 5)
  have hob := OB.lit w7 5 w7.heap.size [] [] rfl 0 rfl (by simp [maxLen]) (Nat.le_refl _) (z := w7.heap.size) rfl
  obtain ⟨Wax, eax⟩ : ∃ W, w7.alloc (.cells #[] 5) = W := ⟨_, rfl⟩
  have hob' : OB 5 Wax w7.heap.size (.slice (some ⟨w7.heap.size, 0, none⟩) 0 0) [] := by rw [← eax]; exact hob
  rw [eax] at hxa
  have HOax := Lib.hid hob'; have HXax := Lib.hid hxa; have HBax := Lib.hid (HB7.out.ext hxa)
  clear hob hob' hxa
  have HHD1x := Lib.hid (show ([] : List UInt8).length + b.length ≤ 140737488355328 by have := HB6.out; simp; omega)
  have HHD2x := Lib.hid (show b.length + ([5] : List UInt8).length ≤ 140737488355328 by have := HB6.out; simp; omega)
  go_wp2_with (at_builtin; first
    | (refine wpList_append_bs _ rfl (.tmp 76) (.tmp 77) 23 rfl w7.heap.size 5 i0 (.int .u8 0) Tryz.underlying23 hi hz0 hz1 hz2 rfl _ [] rfl HOax.out _ b rfl HBax.out HHD1x.out HXax.out.size ?_; intro vbx wbx ho3 hg3 _; rw [List.nil_append] at ho3; have HO3 := Lib.hid ho3; have HG3 := Lib.hid (show Ext w7 wbx from HXax.out.grown hg3 (fun j hj => by injection hj with hj; exact Nat.le_of_eq hj)); clear ho3 hg3)
    | (refine wpList_append_bs _ rfl (.tmp 78) (.tmp 79) 23 rfl w7.heap.size 5 i0 (.int .u8 0) Tryz.underlying23 hi hz0 hz1 hz2 rfl _ b rfl (HO3.out.ext ((Ext.refl _).alloc _)) _ [5] rfl (BS.new' _ 5 [.int .u8 5] [5] rfl 1 rfl (by simp [maxLen])) HHD2x.out (HG3.out.alloc _).size ?_; intro vcx wcx ho4 hg4 _))
  have HXdx := Lib.hid (show Ext w7 wcx from (HG3.out.alloc _).grown hg4 (fun j hj => OB.lt HO3.out j hj))
  rw [HM.out] at ho4
  obtain ⟨MAx, mcx, rfl⟩ := OB.shape ho4
  have HMBx := Lib.hid ho4.bs
  clear ho4 hg4 eax HO3 HG3
  have HX8 := Lib.hid (HX7.out.trans HXdx.out)
  have HN := Lib.hid (New_at MAx mcx M wcx HMBx.out (by have := HML.out; have := HB6.out; omega))
  obtain ⟨R, re, k, hrs⟩ := ReadS_ex M
  have HRS := Lib.hid hrs
  have HRD := Lib.hid (fun g W hx hg hW => ARead_S hrs g (by have := HML.out; have := HB6.out; omega) wcx W hx hg (HE.out.ext HX8.out) hW)
  clear hrs
  go_wp2_with fail
  refine HN.out.mono ?_
  rintro _ w9 ⟨g, rfl, hg9, hr9, hx9⟩
  have HX9 := Lib.hid hx9; have HG9 := Lib.hid hg9; have HR9 := Lib.hid hr9
  clear hx9 hg9 hr9
  go_wp2_with fail
  refine (HRD.out g w9 HX9.out HG9.out HR9.out).mono ?_
  rintro _ w10 ⟨AG, cg, rfl, hd10, hr10, hg10⟩
  have HX10 := Lib.hid (HX8.out.trans (show Ext wcx w10 from HX9.out.of_grown hg10 HG9.out)); have HD10 := Lib.hid hd10; have HR10 := Lib.hid hr10
  clear hd10 hr10 hg10 HN HRD HR9
  go_wp2_with fail
  refine (ARead_nil _).mono ?_
  rintro _ w11 ⟨rfl, hx11⟩
  have HX11 := Lib.hid (HX10.out.trans hx11); have HD11 := Lib.hid (HD10.out.ext hx11); have HR11 := Lib.hid (HR10.out.ext hx11); have HB11 := Lib.hid (HB.out.ext (HX10.out.trans hx11))
  clear hx11 HD10 HR10
  go_upto_region 20 with fail
  have hxa := (Ext.refl w11).alloc (.cells #[] 5)
  have hob := OB.lit w11 5 w11.heap.size [] [] rfl 0 rfl (by simp [maxLen]) (Nat.le_refl _) (z := w11.heap.size) rfl
  obtain ⟨Way, eay⟩ : ∃ W, w11.alloc (.cells #[] 5) = W := ⟨_, rfl⟩
  have hob' : OB 5 Way w11.heap.size (.slice (some ⟨w11.heap.size, 0, none⟩) 0 0) [] := by rw [← eay]; exact hob
  rw [eay] at hxa
  have HOay := Lib.hid hob'; have HXay := Lib.hid hxa; have HBay := Lib.hid (HB11.out.ext hxa)
  clear hob hob' hxa
  have HHD1y := Lib.hid (show ([] : List UInt8).length + b.length ≤ 140737488355328 by have := HB6.out; simp; omega)
  have HHD2y := Lib.hid (show b.length + ([5] : List UInt8).length ≤ 140737488355328 by have := HB6.out; simp; omega)
  go_wp2_with (at_builtin; first
    | (refine wpList_append_bs _ rfl (.tmp 96) (.tmp 97) 23 rfl w11.heap.size 5 i0 (.int .u8 0) Tryz.underlying23 hi hz0 hz1 hz2 rfl _ [] rfl HOay.out _ b rfl HBay.out HHD1y.out HXay.out.size ?_; intro vby wby ho3 hg3 _; rw [List.nil_append] at ho3; have HO3 := Lib.hid ho3; have HG3 := Lib.hid (show Ext w11 wby from HXay.out.grown hg3 (fun j hj => by injection hj with hj; exact Nat.le_of_eq hj)); clear ho3 hg3)
    | (refine wpList_append_bs _ rfl (.tmp 98) (.tmp 99) 23 rfl w11.heap.size 5 i0 (.int .u8 0) Tryz.underlying23 hi hz0 hz1 hz2 rfl _ b rfl (HO3.out.ext ((Ext.refl _).alloc _)) _ [5] rfl (BS.new' _ 5 [.int .u8 5] [5] rfl 1 rfl (by simp [maxLen])) HHD2y.out (HG3.out.alloc _).size ?_; intro vcy wcy ho4 hg4 _))
  have HXdy := Lib.hid (show Ext w11 wcy from (HG3.out.alloc _).grown hg4 (fun j hj => OB.lt HO3.out j hj))
  rw [HM.out] at ho4
  obtain ⟨MAy, mcy, rfl⟩ := OB.shape ho4
  have HMBy := Lib.hid ho4.bs
  clear ho4 hg4 eay HO3 HG3
  have HX12 := Lib.hid (HX11.out.trans HXdy.out); have HD12 := Lib.hid (HD11.out.ext HXdy.out); have HR12 := Lib.hid (HR11.out.ext HXdy.out)
  have HEL := Lib.hid (Elements_at MAy mcy M wcy HMBy.out (by have := HML.out; have := HB6.out; omega))
  clear HD11 HR11
  obtain ⟨he0, he1⟩ := ReadS_els HRS.out
  have hal := els_all M
  generalize els M = E at *
  obtain ⟨n, hn⟩ : ∃ n, E.length = n := ⟨_, rfl⟩
  rw [hn] at HEL
  have HNN := Lib.hid hn
  clear hn
  go_wp2_with fail
  refine HEL.out.mono ?_
  rintro _ w13 ⟨A13, c13, rfl, hv13, hx13⟩
  have HX13 := Lib.hid (HX12.out.trans hx13); have HD13 := Lib.hid (HD12.out.ext hx13); have HR13 := Lib.hid (HR12.out.ext hx13); have HV13 := Lib.hid hv13.bss
  have HE0 := Lib.hid he0; have HE1 := Lib.hid he1; have HAL := Lib.hid hal
  clear hx13 hv13 HD12 HR12 HEL he0 he1 hal
  go_upto_if 104 with fail
  go_cut [16, 17, 18] (fun v16 v17 v18 wc => ∃ AB cb, v16 = .slice AB R.length cb ∧ v17 = .int .i64 re ∧ v18 = .int .i64 ((M.length - k : Nat) : Int) ∧ Hid (DS wc (.slice AB R.length cb) R) ∧ Hid (Ext w13 wc))
  case first =>
    cases hE' : E with
    | nil =>
      obtain ⟨rfl, rfl, rfl⟩ := HE0.out hE'
      obtain rfl : 0 = n := by rw [← HNN.out, hE']; rfl
      have hml := HML.out
      clear hE'
      go_wp2_with fail
      go_meet
      case rel => exact ⟨none, 0, rfl, rfl, by rw [hml]; simp, Lib.hid (ds_nilE _), Lib.hid (Ext.refl _)⟩
    | cons x r =>
      obtain ⟨hds, hk⟩ := HE1.out x r hE'
      have hx := HAL.out x (by rw [hE']; simp)
      rw [hE'] at HV13
      have hnn : (x :: r).length = n := by rw [← hE']; exact HNN.out
      obtain ⟨ad, B0, d0, rfl, hc0, hbk⟩ := bss_at HV13.out hnn 0 (by simp)
      rw [show ad.add 0 = ad by simp [Addr.add]] at hc0
      rw [show (x :: r)[0] = x from rfl] at hc0 hbk
      have hml := HML.out; have hb6 := HB6.out
      have HDX := Lib.hid (RDecode_S hds B0 d0 (by omega) w13 hbk)
      have hn0 : (0 : Int) < (n : Int) := by rw [← hnn]; simp
      obtain ⟨xl, hxl⟩ : ∃ xl, x.length = xl := ⟨_, rfl⟩
      rw [hxl] at hk hx hc0 HDX
      have HXL := Lib.hid hx
      have HK := Lib.hid hk
      have hxl9 : (xl : Int) ≤ 900 := by omega
      clear hbk hds hk hx hnn hxl hE'
      go_wp2_with fail
      refine HDX.out.mono ?_
      rintro _ w14 ⟨A14, c14, rfl, hd14, hx14⟩
      have HD14 := Lib.hid hd14; have HX14 := Lib.hid hx14
      have hc1 := hx14.cell hc0
      clear hd14 hx14
      by_cases hr0 : re = 0
      · subst hr0
        have hk := HK.out
        rw [if_pos rfl] at hk
        have hxx := HXL.out
        go_wp2_with fail
        go_meet
        case rel => exact ⟨A14, c14, rfl, rfl, by congr 1; omega, HD14, HX14⟩
      · have hrq : (re == 0) = false := by rw [beq_eq_false_iff_ne]; exact hr0
        have hk := HK.out
        rw [if_neg hr0] at hk
        clear hr0
        go_wp2_with fail
        go_meet
        case rel => exact ⟨A14, c14, rfl, rfl, by rw [hk, hml]; simp, HD14, HX14⟩
  case rest =>
  obtain ⟨AB, cb, rfl, rfl, rfl, hdc, hxc⟩ := hcut
  obtain ⟨w14, rfl⟩ : ∃ wo : World, wo = wc := ⟨_, rfl⟩
  have hrl := ReadS_len HRS.out
  have hsl := SameList_at AG cg R AB cb R w14 (HD13.out.ext hxc.out) hdc.out (by omega) (by omega)
  rw [show decide (R = R) = true from decide_eq_true rfl] at hsl
  have HSL := Lib.hid hsl; have HX14 := Lib.hid (HX13.out.trans hxc.out); have HR14 := Lib.hid (HR13.out.ext hxc.out)
  have q1 : (re == re) = true := by simp
  have q2 : (((M.length - k : Nat) : Int) == ((M.length - k : Nat) : Int)) = true := by simp
  obtain ⟨ml, hml⟩ : ∃ ml, M.length - k = ml := ⟨_, rfl⟩
  have HLF := Lib.hid (fun (W : World) (h : RD 72 W g M k) => Left_at g M k W h)
  rw [hml] at HLF q2
  rw [hml]
  clear hsl hrl hdc hxc hml
  go_wp2_with fail
  refine HSL.out.mono ?_
  rintro _ w15 ⟨rfl, hx15⟩
  have HX15 := Lib.hid (HX14.out.trans hx15); have HR15 := Lib.hid (HR14.out.ext hx15)
  clear hx15
  go_wp2_with fail
  refine (numA_at _ _).mono ?_
  rintro _ w15' ⟨rfl, rfl⟩
  go_wp2_with fail
  refine (HLF.out _ HR15.out).mono ?_
  rintro _ w16 ⟨rfl, hx16⟩
  have HX16 := Lib.hid (HX15.out.trans hx16)
  clear hx16
  go_wp2_with fail
  refine (numA_at _ _).mono ?_
  rintro _ w16' ⟨rfl, rfl⟩
  go_wp2_with fail
  refine (AKnown_at _ (HE.out.ext HX16.out)).mono ?_
  rintro _ wk ⟨rfl, hxk⟩
  have HXK := Lib.hid (HX16.out.trans hxk)
  clear hxk
  go_wp2_with fail
  go_ret
  exact ⟨rfl, HXK.out⟩
end Go.Proofs.YthpfomjibfbiiaaGreatDoor
