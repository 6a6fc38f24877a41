/- The reference's GetData, Get, Data, Encode on lists of addresses. (wip/tools/gengt4.py printed this.) -/
import Derived.Test.YthpfomjibfbiiaaGreatDoorGt3
import Derived.Test.YthpfomjibfbiiaaGreatDoorAdE1
namespace Go.Proofs.YthpfomjibfbiiaaGreatDoor
open Go Go.RowKit
set_option linter.unusedVariables false

theorem itemF_le (b : List UInt8) (n : Nat) : (itemF b n).length ≤ b.length := by
  unfold itemF
  cases hf : (els (contF b)).find? (fun x => (x[0]?.getD 0).toNat == 160 + n) with
  | none => simp
  | some x =>
    dsimp only
    have h4 := (els_all (contF b) x (List.mem_of_find?_eq_some hf)).1
    have h5 := contF_le x
    have h6 := contF_le b
    omega
theorem rowp {w : World} {b : Nat} {k : Int} {A : Option Addr} {n c : Nat} {T : TypeId} (h : w.heap[b]? = some (.cells #[.int .i64 k, .slice A n c] T (0, 0))) : w.cell? ((⟨b, 0, none⟩ : Addr).add 0) = some (.int .i64 k) ∧ w.cell? ((⟨b, 0, none⟩ : Addr).add 1) = some (.slice A n c) := by
  refine ⟨?_, ?_⟩
  · rw [show ((⟨b, 0, none⟩ : Addr).add 0) = ⟨b, 0, none⟩ from rfl, cell_of_row _ _ 0 _ _ (0, 0) h]; rfl
  · rw [show ((⟨b, 0, none⟩ : Addr).add 1) = ⟨b, 1, none⟩ from rfl, cell_of_row _ _ 1 _ _ (0, 0) h]; rfl
set_option maxRecDepth 100000 in
set_option maxHeartbeats 4000000 in
theorem GetData_at (A : Option Addr) (c : Nat) (b : List UInt8) (w : World) (hb : BS w (.slice A b.length c) b) (hl : b.length ≤ 1000) :
    Calls Tryz.prog 62 #[.slice A b.length c] w fun e w' => ∃ A' c', e = .returned (.slice A' (getF b).length c') ∧ DOV 62 w' w.heap.size (.slice A' (getF b).length c') (getF b) ∧ Ext w w' := by
  obtain ⟨i0, hi, hz0, hz1, hz2⟩ := info_parts datinfo
  have HC := Lib.hid (Contents_at A c b w hb hl)
  have hcl := contF_le b
  clear hb
  obtain ⟨g, hgd⟩ : ∃ g : List UInt8 → Int × List UInt8, g = fun e => ((gint (itemF e 0) : Int), contF (itemF e 1)) := ⟨_, rfl⟩
  have hg : getF b = (els (contF b)).map g := by rw [hgd]; rfl
  have HGD := Lib.hid (show ∀ e, g e = ((gint (itemF e 0) : Int), contF (itemF e 1)) from fun e => by rw [hgd])
  have hall := els_all (contF b)
  have hEL := fun (A : Option Addr) (c : Nat) (W : World) (h : BS W (.slice A (contF b).length c) (contF b)) => Elements_at A c (contF b) W h (by omega)
  have hlen := els_len (contF b)
  rw [hg]
  generalize contF b = cb at *
  generalize els cb = E at *
  have HALL := Lib.hid hall
  have HE := Lib.hid hEL
  obtain ⟨n, hn⟩ : ∃ n, E.length = n := ⟨_, rfl⟩
  have hn5 : n ≤ 1000 := by omega
  rw [hn] at HE
  have HN := Lib.hid hn
  have HCB := Lib.hid (show cb.length ≤ 1000 by omega)
  obtain ⟨RR, hRR⟩ : ∃ RR, E.map g = RR := ⟨_, rfl⟩
  rw [hRR]
  have HRR := Lib.hid hRR
  clear hall hEL hlen hn hcl hg hgd hRR
  go_enter Tryz.func62, Tryz.ntmps62
  go_wp2_with fail
  refine HC.out.mono ?_
  rintro _ w1 ⟨A1, c1, rfl, hb1, hx1⟩
  have HB1 := Lib.hid hb1; have HX1 := Lib.hid hx1
  clear hb1 hx1
  go_wp2_with fail
  refine (HE.out A1 c1 w1 HB1.out).mono ?_
  rintro _ w2 ⟨A2, c2, rfl, hv2, hx2⟩
  have HV2 := Lib.hid hv2.bss; have HX2 := Lib.hid (HX1.out.trans hx2)
  clear hv2 hx2
  go_wp2_with fail
  go_loopw [3, 5] (fun v i wr => ∃ q : Nat, i = .int .i64 (q : Int) ∧ q ≤ n ∧ Hid (DOV 62 wr w2.heap.size v ((E.take q).map g)) ∧ Hid (Ext w2 wr)) (fun _ i _ => n - (intOf i).toNat)
  case atStart => exact ⟨0, rfl, by omega, Lib.hid (DOV.nil _ _ _), Lib.hid (Ext.refl _)⟩
  case round =>
    obtain ⟨q, rfl, hq, HV, HX⟩ := hrel
    by_cases hlt : q < n
    · have hle : q < E.length := by rw [HN.out]; exact hlt
      obtain ⟨ad, B, d, rfl, hc0, hbk⟩ := bss_at HV2.out HN.out q hle
      have hx2 := (HALL.out E[q] (List.getElem_mem hle)).1
      have HTK := Lib.hid (show (E.take (q + 1)).map g = (E.take q).map g ++ [g E[q]] by rw [List.take_succ_eq_append_getElem hle, List.map_append]; rfl)
      have HTL := Lib.hid (show (((E.take q).map g).length + 1) * 32 ≤ 140737488355328 by rw [List.length_map, List.length_take]; omega)
      rw [HGD.out] at HTK
      have hi0 := itemF_le E[q] 0; have hi1 := itemF_le E[q] 1
      have hcb := HCB.out
      have HI0 := Lib.hid (fun (W : World) (h : BS W (.slice B E[q].length d) E[q]) => Item_at B d E[q] 0 (by decide) W h (by omega))
      have HI1 := Lib.hid (fun (W : World) (h : BS W (.slice B E[q].length d) E[q]) => Item_at B d E[q] 1 (by decide) W h (by omega))
      have HG0 := Lib.hid (fun (A : Option Addr) (c : Nat) (W : World) (h : BS W (.slice A (itemF E[q] 0).length c) (itemF E[q] 0)) => GetInt_at A c (itemF E[q] 0) W h (by omega))
      have HG1 := Lib.hid (fun (A : Option Addr) (c : Nat) (W : World) (h : BS W (.slice A (itemF E[q] 1).length c) (itemF E[q] 1)) => GetBytes_at A c (itemF E[q] 1) W h (by omega))
      clear hi0 hi1 hcb hx2
      generalize itemF E[q] 0 = I0 at *
      generalize itemF E[q] 1 = I1 at *
      generalize E[q] = x at *
      generalize gint I0 = kk at *
      generalize contF I1 = bb at *
      obtain ⟨xl, hxl⟩ : ∃ xl, x.length = xl := ⟨_, rfl⟩
      rw [hxl] at hc0 hbk HI0 HI1
      have HC0 := Lib.hid (HX.out.cell hc0); have HBX := Lib.hid (hbk.ext HX.out)
      clear hc0 hbk hle hxl
      go_upto_region 6 with fail
      refine wp_region_ext_tail 15 (fun i v' w' => match i with | 5 => ∃ A c, v' = .slice A (I0).length c ∧ BS w' (.slice A (I0).length c) (I0) | 6 => v' = .int .i64 (kk : Int) | 11 => ∃ A c, v' = .slice A (I1).length c ∧ BS w' (.slice A (I1).length c) (I1) | 12 => ∃ A c, v' = .slice A (bb).length c ∧ OB 5 w' wr.heap.size (.slice A (bb).length c) (bb) | 13 => ∃ A c, v' = .agg #[.int .i64 (kk : Int), .slice A bb.length c] ∧ OB 5 w' wr.heap.size (.slice A bb.length c) bb | 14 => ∃ b A c, v' = .slice (some ⟨b, 0, none⟩) 1 1 ∧ w'.heap[b]? = some (.cells #[.int .i64 (kk : Int), .slice A bb.length c] 62 (0, 0)) ∧ OB 5 w' wr.heap.size (.slice A bb.length c) bb | _ => False) (by kernel_rfl) (by kernel_rfl) ?_
      refine wpE_op rfl rfl (fun w' hw' K' hK' => ?_)
      have hE := hw'.1
      go_step
      refine hK' _ ⟨_, rfl⟩ ?_
      clear hK' K' hE hw' w'
      refine wpE_op rfl rfl (fun w' hw' K' hK' => ?_)
      have hE := hw'.1
      go_step
      refine hK' _ ⟨_, rfl⟩ ?_
      clear hK' K' hE hw' w'
      refine wpE_op rfl rfl (fun w' hw' K' hK' => ?_)
      have hE := hw'.1
      go_step
      refine hK' _ ⟨_, rfl⟩ ?_
      clear hK' K' hE hw' w'
      refine wpE_op rfl rfl (fun w' hw' K' hK' => ?_)
      have hE := hw'.1
      go_step
      refine hK' _ ⟨_, rfl⟩ ?_
      clear hK' K' hE hw' w'
      refine wpE_op rfl rfl (fun w' hw' K' hK' => ?_)
      have hE := hw'.1
      have u0 := ((Ext.drew _).trans hE).cell HC0.out
      go_step
      refine hK' _ ⟨_, rfl⟩ ?_
      clear hK' K' u0 hE hw' w'
      refine wpE_call 20 rfl (by simp) rfl (fun w' hw' K' hK' => ?_) ?_
      · have hE := hw'.1
        go_step
        refine (HI0.out w' (HBX.out.ext ((Ext.drew _).trans hE))).mono ?_
        rintro _ w2 ⟨A2, c2, rfl, hb, hx⟩
        exact hK' _ _ ⟨_, rfl, A2, c2, rfl, hb⟩ hx
      rintro _ w20x hE20 ⟨A20, c20, rfl, hb20⟩
      simp only [Act.put, List.setIfInBounds_toArray, List.set_cons_succ, List.set_cons_zero]
      refine wpE_call 21 rfl (by simp) rfl (fun w' hw' K' hK' => ?_) ?_
      · have hE := hw'.1
        have hM20 : Ext w20x w' := hw'.2 20 w20x (by simp [adds]) (by decide)
        go_step
        refine (HG0.out A20 c20 w' (hb20.ext hM20)).mono ?_
        rintro _ w2 ⟨rfl, hx⟩
        exact hK' _ _ ⟨_, rfl, rfl⟩ hx
      rintro _ w21x hE21 rfl
      simp only [Act.put, List.setIfInBounds_toArray, List.set_cons_succ, List.set_cons_zero]
      refine wpE_op rfl rfl (fun w' hw' K' hK' => ?_)
      have hE := hw'.1
      go_step
      refine hK' _ ⟨_, rfl⟩ ?_
      clear hK' K' hE hw' w'
      refine wpE_op rfl rfl (fun w' hw' K' hK' => ?_)
      have hE := hw'.1
      go_step
      refine hK' _ ⟨_, rfl⟩ ?_
      clear hK' K' hE hw' w'
      refine wpE_op rfl rfl (fun w' hw' K' hK' => ?_)
      have hE := hw'.1
      go_step
      refine hK' _ ⟨_, rfl⟩ ?_
      clear hK' K' hE hw' w'
      refine wpE_op rfl rfl (fun w' hw' K' hK' => ?_)
      have hE := hw'.1
      have u0 := ((Ext.drew _).trans hE).cell HC0.out
      go_step
      refine hK' _ ⟨_, rfl⟩ ?_
      clear hK' K' u0 hE hw' w'
      refine wpE_call 26 rfl (by simp) rfl (fun w' hw' K' hK' => ?_) ?_
      · have hE := hw'.1
        go_step
        refine (HI1.out w' (HBX.out.ext ((Ext.drew _).trans hE))).mono ?_
        rintro _ w2 ⟨A2, c2, rfl, hb, hx⟩
        exact hK' _ _ ⟨_, rfl, A2, c2, rfl, hb⟩ hx
      rintro _ w26x hE26 ⟨A26, c26, rfl, hb26⟩
      simp only [Act.put, List.setIfInBounds_toArray, List.set_cons_succ, List.set_cons_zero]
      refine wpE_call 27 rfl (by simp) rfl (fun w' hw' K' hK' => ?_) ?_
      · have hE := hw'.1
        have hM26 : Ext w26x w' := hw'.2 26 w26x (by simp [adds]) (by decide)
        have hsz : wr.heap.size ≤ w'.heap.size := ((Ext.drew _).trans hE).size
        go_step
        refine (HG1.out A26 c26 w' (hb26.ext hM26)).mono ?_
        rintro _ w2 ⟨A2, c2, rfl, ho, hx⟩
        exact hK' _ _ ⟨_, rfl, A2, c2, rfl, ho.mono hsz⟩ hx
      rintro _ w27x hE27 ⟨A27, c27, rfl, hb27⟩
      simp only [Act.put, List.setIfInBounds_toArray, List.set_cons_succ, List.set_cons_zero]
      refine wpE_call 28 rfl (by simp) rfl (fun w' hw' K' hK' => ?_) ?_
      · have hE := hw'.1
        have hM27 : Ext w27x w' := hw'.2 27 w27x (by simp [adds]) (by decide)
        go_step
        exact hK' _ _ ⟨_, rfl, A27, c27, rfl, hb27.ext hM27⟩ (Ext.refl w')
      rintro _ w28x hE28 ⟨A28, c28, rfl, hb28⟩
      simp only [Act.put, List.setIfInBounds_toArray, List.set_cons_succ, List.set_cons_zero]
      refine wpE_call 29 rfl (by simp) rfl (fun w' hw' K' hK' => ?_) ?_
      · have hE := hw'.1
        have hM28 : Ext w28x w' := hw'.2 28 w28x (by simp [adds]) (by decide)
        go_step
        exact hK' _ _ ⟨_, rfl, w'.heap.size, A28, c28, rfl, heap_alloc_new w' _, (hb28.ext hM28).ext ((Ext.refl w').alloc _)⟩ ((Ext.refl w').alloc _)
      rintro _ w29x hE29 ⟨b29, A29, c29, rfl, hr29, hb29⟩
      simp only [Act.put, List.setIfInBounds_toArray, List.set_cons_succ, List.set_cons_zero]
      refine wpE_nil (fun W hW => ?_)
      have hxW : Ext wr W := (Ext.drew wr).trans hW.1
      have hM29 : Ext w29x W := hW.2 29 w29x (by simp [adds])
      have h1 := rowp (hM29.heap hr29)
      have HD0 := Lib.hid h1.1; have HD1 := Lib.hid h1.2
      have HB7 := Lib.hid (hb29.ext hM29)
      have HV7 := Lib.hid (HV.out.ext hxW)
      have HX7 := Lib.hid (HX.out.trans hxW)
      obtain ⟨VA, vc, rfl⟩ := HV.out.shape
      have HAP := Lib.hid (show bb ≠ [] → ∀ b', (Value.slice A29 bb.length c29).ownBlock = some b' → (Value.slice VA ((E.take q).map g).length vc).ownBlock ≠ some b' from fun hne b' hb' e => by
        have h1 := HB7.out.lt b' hb'
        have h2 := (HV.out.lt b' e).2
        omega)
      clear hW hxW hM29 h1 hr29 hb29
      simp only [List.drop_succ_cons, List.drop_zero]
      go_wp2_with (at_builtin; refine wpList_append_dov _ rfl (.tmp 15) (.tmp 29) 61 rfl w2.heap.size 62 i0 (.agg #[.int .i64 0, .slice none 0 0]) 32 Tryz.underlying61 hi hz0 hz1 hz2 rfl dat_zero _ ((E.take q).map g) rfl HV7.out ⟨b29, 0, none⟩ 1 (kk : Int) A29 bb.length c29 bb rfl HD0.out HD1.out HB7.out.bs HAP.out HTL.out (by decide) HX7.out.size ?_; intro v7 w7 hd7 hg7 ho7)
      have HD7 := Lib.hid (show DOV 62 w7 w2.heap.size v7 ((E.take (q + 1)).map g) by rw [HTK.out]; exact hd7)
      have HX8 := Lib.hid (show Ext w2 w7 from HX7.out.grown hg7 (fun j hj => (HV.out.lt j hj).1))
      clear hd7 hg7 ho7
      go_wp2_with fail
      go_roundw
      case rel => exact ⟨q + 1, by go_num, by omega, HD7, HX8⟩
      case measure => simp [intOf]; omega
    · obtain rfl : q = n := by omega
      have hdv : DOV 62 wr w.heap.size u3 RR := by
        have h := HV.out.down HX2.out.size
        rwa [List.take_of_length_le (by rw [HN.out]; exact Nat.le_refl _), HRR.out] at h
      obtain ⟨VA, vc, rfl⟩ := hdv.shape
      have HDV := Lib.hid hdv; have HXX := Lib.hid (HX2.out.trans HX.out)
      clear hdv hlt
      go_wp2_with fail
      go_ret
      exact ⟨VA, vc, rfl, HDV.out, HXX.out⟩
set_option maxRecDepth 100000 in
set_option maxHeartbeats 4000000 in
theorem Get_at (A : Option Addr) (c : Nat) (b : List UInt8) (w : World) (hb : BS w (.slice A b.length c) b) (hl : b.length ≤ 1000) :
    Calls Tryz.prog 39 #[.slice A b.length c] w fun e w' => ∃ A' c', e = .returned (.slice A' (getF b).length c') ∧ DS w' (.slice A' (getF b).length c') (getF b) ∧ Ext w w' := by
  obtain ⟨i0, hi, hz0, hz1, hz2⟩ := info_parts adrinfo
  have HG := Lib.hid (GetData_at A c b w hb hl)
  have hxs := (getF_le b).1
  generalize getF b = xs at *
  obtain ⟨n, hn⟩ : ∃ n, xs.length = n := ⟨_, rfl⟩
  have hn5 : n ≤ 1000 := by omega
  have HN := Lib.hid hn
  rw [hn]
  rw [hn] at HG
  clear hb hl hn hxs
  go_enter Tryz.func39, Tryz.ntmps39
  go_wp2_with fail
  refine HG.out.mono ?_
  rintro _ w1 ⟨A1, c1, rfl, hd1, hx1⟩
  have hds := hd1.ds
  have HX1 := Lib.hid hx1
  obtain ⟨A', c', he, hc1, hc2, hcell⟩ := hds
  injection he with e1' e2 e3
  subst e1'; subst e3
  unfold maxLen at hc2
  have HC := Lib.hid hcell
  rw [HN.out] at hc1
  clear hcell e2 hd1 hx1
  go_wp2_with fail
  go_loopw [3, 5] (fun v i wr => ∃ q : Nat, i = .int .i64 (q : Int) ∧ q ≤ n ∧ Hid (DOV 25 wr w1.heap.size v (xs.take q)) ∧ Hid (Ext w1 wr)) (fun _ i _ => n - (intOf i).toNat)
  case atStart => exact ⟨0, rfl, by omega, Lib.hid (DOV.nil _ _ _), Lib.hid (Ext.refl _)⟩
  case round =>
    obtain ⟨q, rfl, hq, HV, HX⟩ := hrel
    by_cases hlt : q < n
    · have hlx : q < xs.length := by rw [HN.out]; exact hlt
      obtain ⟨ad, B, d, rfl, hc0, hc3, hbk⟩ := HC.out q hlx
      have hc3' : w1.cell? ⟨(ad.add (q * 2)).block, (ad.add (q * 2)).off + 1, none⟩ = some (.slice B xs[q].2.length d) := by rw [cell_add1, add_of_add]; exact hc3
      have HTK := Lib.hid (show xs.take (q + 1) = xs.take q ++ [(xs[q].1, xs[q].2)] from List.take_succ_eq_append_getElem hlx)
      have HTL := Lib.hid (show ((xs.take q).length + 1) * 32 ≤ 140737488355328 by rw [List.length_take]; omega)
      generalize xs[q].1 = kk at *
      generalize xs[q].2 = bb at *
      have HC0 := Lib.hid (HX.out.cell hc0); have HC3 := Lib.hid (HX.out.cell hc3')
      have HBK := Lib.hid hbk
      clear hc0 hc3 hc3' hbk hlx
      go_upto_region 6 with fail
      refine wp_region_ext_tail 13 (fun i v' w' => match i with | 12 => ∃ b, v' = .slice (some ⟨b, 0, none⟩) 1 1 ∧ w'.heap[b]? = some (.cells #[.int .i64 kk, .slice B bb.length d] 25 (0, 0)) | _ => False) (by kernel_rfl) (by kernel_rfl) ?_
      refine wpE_op rfl rfl (fun w' hw' K' hK' => ?_)
      have hE := hw'.1
      go_step
      refine hK' _ ⟨_, rfl⟩ ?_
      clear hK' K' hE hw' w'
      refine wpE_op rfl rfl (fun w' hw' K' hK' => ?_)
      have hE := hw'.1
      go_step
      refine hK' _ ⟨_, rfl⟩ ?_
      clear hK' K' hE hw' w'
      refine wpE_op rfl rfl (fun w' hw' K' hK' => ?_)
      have hE := hw'.1
      go_step
      refine hK' _ ⟨_, rfl⟩ ?_
      clear hK' K' hE hw' w'
      refine wpE_op rfl rfl (fun w' hw' K' hK' => ?_)
      have hE := hw'.1
      go_step
      refine hK' _ ⟨_, rfl⟩ ?_
      clear hK' K' hE hw' w'
      refine wpE_op rfl rfl (fun w' hw' K' hK' => ?_)
      have hE := hw'.1
      go_step
      refine hK' _ ⟨_, rfl⟩ ?_
      clear hK' K' hE hw' w'
      refine wpE_op rfl rfl (fun w' hw' K' hK' => ?_)
      have hE := hw'.1
      have u0 := ((Ext.drew _).trans hE).cell HC0.out
      go_step
      refine hK' _ ⟨_, rfl⟩ ?_
      clear hK' K' u0 hE hw' w'
      refine wpE_op rfl rfl (fun w' hw' K' hK' => ?_)
      have hE := hw'.1
      go_step
      refine hK' _ ⟨_, rfl⟩ ?_
      clear hK' K' hE hw' w'
      refine wpE_op rfl rfl (fun w' hw' K' hK' => ?_)
      have hE := hw'.1
      go_step
      refine hK' _ ⟨_, rfl⟩ ?_
      clear hK' K' hE hw' w'
      refine wpE_op rfl rfl (fun w' hw' K' hK' => ?_)
      have hE := hw'.1
      go_step
      refine hK' _ ⟨_, rfl⟩ ?_
      clear hK' K' hE hw' w'
      refine wpE_op rfl rfl (fun w' hw' K' hK' => ?_)
      have hE := hw'.1
      go_step
      refine hK' _ ⟨_, rfl⟩ ?_
      clear hK' K' hE hw' w'
      refine wpE_op rfl rfl (fun w' hw' K' hK' => ?_)
      have hE := hw'.1
      have u0 := ((Ext.drew _).trans hE).cell HC3.out
      go_step
      refine hK' _ ⟨_, rfl⟩ ?_
      clear hK' K' u0 hE hw' w'
      refine wpE_op rfl rfl (fun w' hw' K' hK' => ?_)
      have hE := hw'.1
      go_step
      refine hK' _ ⟨_, rfl⟩ ?_
      clear hK' K' hE hw' w'
      refine wpE_call 26 rfl (by simp) rfl (fun w' hw' K' hK' => ?_) ?_
      · have hE := hw'.1
        go_step
        exact hK' _ _ ⟨_, rfl, w'.heap.size, rfl, heap_alloc_new w' _⟩ ((Ext.refl w').alloc _)
      rintro _ wbx hEb ⟨bb0, rfl, hrb⟩
      simp only [Act.put, List.setIfInBounds_toArray, List.set_cons_succ, List.set_cons_zero]
      refine wpE_nil (fun W hW => ?_)
      have hxW : Ext wr W := (Ext.drew wr).trans hW.1
      have hMb : Ext wbx W := hW.2 26 wbx (by simp [adds])
      have h1 := rowp (hMb.heap hrb)
      have HD0 := Lib.hid h1.1; have HD1 := Lib.hid h1.2
      have HV7 := Lib.hid (HV.out.ext hxW)
      have HX7 := Lib.hid (HX.out.trans hxW)
      have HB7 := Lib.hid (HBK.out.ext HX7.out)
      obtain ⟨VA, vc, rfl⟩ := HV.out.shape
      have HAP := Lib.hid (show bb ≠ [] → ∀ b', (Value.slice B bb.length d).ownBlock = some b' → (Value.slice VA (xs.take q).length vc).ownBlock ≠ some b' from fun hne b' hb' e => by
        have h1 := HBK.out.blockLt hne b' hb'
        have h2 := (HV.out.lt b' e).1
        omega)
      clear hW hxW hMb h1 hrb
      simp only [List.drop_succ_cons, List.drop_zero]
      go_wp2_with (at_builtin; refine wpList_append_dov _ rfl (.tmp 14) (.tmp 26) 22 rfl w1.heap.size 25 i0 (.agg #[.int .i64 0, .slice none 0 0]) 32 Tryz.underlying22 hi hz0 hz1 hz2 rfl dat_zero _ (xs.take q) rfl HV7.out ⟨bb0, 0, none⟩ 1 kk B bb.length d bb rfl HD0.out HD1.out HB7.out HAP.out HTL.out (by decide) HX7.out.size ?_; intro v7 w7 hd7 hg7 ho7)
      have HD7 := Lib.hid (show DOV 25 w7 w1.heap.size v7 (xs.take (q + 1)) by rw [HTK.out]; exact hd7)
      have HX8 := Lib.hid (show Ext w1 w7 from HX7.out.grown hg7 (fun j hj => (HV.out.lt j hj).1))
      clear hd7 hg7 ho7
      go_wp2_with fail
      go_roundw
      case rel => exact ⟨q + 1, by go_num, by omega, HD7, HX8⟩
      case measure => simp [intOf]; omega
    · obtain rfl : q = n := by omega
      have hdv : DOV 25 wr w1.heap.size u3 xs := by
        have h := HV.out
        rwa [List.take_of_length_le (by rw [HN.out]; exact Nat.le_refl _)] at h
      obtain ⟨VA, vc, rfl⟩ := hdv.shape
      have HDV := Lib.hid hdv.ds; have HXX := Lib.hid (HX1.out.trans HX.out)
      rw [HN.out] at HDV
      clear hdv hlt
      go_wp2_with fail
      go_ret
      exact ⟨VA, vc, by rw [HN.out]; rfl, HDV.out, HXX.out⟩
theorem RIntA_at {k : Int} {b : List UInt8} (h : okA k b = true) (w : World) : Calls Tryz.prog 60 #[.int .i64 k] w (RetB w (encInt k)) := by
  rcases okA_kinds h with ⟨rfl, _⟩ | ⟨rfl, _⟩ | ⟨rfl, _⟩
  · rw [show encInt 2 = elem 2 [UInt8.ofNat 2] by decide]; exact RInt15_at 2 (by decide) w
  · rw [show encInt 24 = elem 2 [UInt8.ofNat 24] by decide]; exact RInt15_at 24 (by decide) w
  · rw [show encInt 20 = elem 2 [UInt8.ofNat 20] by decide]; exact RInt15_at 20 (by decide) w
theorem pair_seq {k : Int} {b : List UInt8} (h : okA k b = true) : encSeq [encTag 0 (encInt k), encTag 1 (encOctets b)] = pairF k b := by
  obtain ⟨hb, hr⟩ := okA_len h
  have li := intSize_enc k
  have hk : encInt k ≠ [] := by
    unfold encInt
    rw [if_pos hr]
    exact elem_ne _ _ (by rw [beBytes_length]; have := intSize_le k; omega)
  have e := pairF_eq k b (by omega) (by omega)
  rw [if_neg hk] at e
  rw [e]; rfl
set_option maxRecDepth 100000 in
set_option maxHeartbeats 4000000 in
theorem RData15_at (A : Option Addr) (c : Nat) (xs : List (Int × List UInt8)) (w : World) (hD : DS w (.slice A xs.length c) xs) (hv : vlA xs = true) :
    Calls Tryz.prog 38 #[.slice A xs.length c] w (RetB w (dataF xs)) := by
  obtain ⟨i0, hi, hz0, hz1, hz2⟩ := info_parts bsinfo
  obtain ⟨h1, h2⟩ := vlA_iff.1 hv
  have hfl := flat_len h1
  have hdf := (dataF_ne h2 (fun q hq => (pair_ok (h1 q hq)).1) (by omega)).1
  have HOK := Lib.hid h1
  obtain ⟨F, hF⟩ : ∃ F : List (List UInt8), xs.map (fun q => pairF q.1 q.2) = F := ⟨_, rfl⟩
  have hFl : F.length = xs.length := by rw [← hF, List.length_map]
  have hff : F.flatten = flatP xs := by rw [← hF]; rfl
  have hdd : dataF xs = encSeq F := by rw [hdf]; unfold encSeq; rw [hff]
  have HS := Lib.hid (fun (A : Option Addr) (c : Nat) (W : World) (h : BSS W (.slice A F.length c) F) => RSeq15_at A c F W h (by omega) (by rw [hff]; omega))
  rw [hdd]
  generalize encSeq F = dd at *
  have HF := Lib.hid hF
  obtain ⟨A', c', he, hc1, hc2, hcell⟩ := hD
  injection he with e1' e2 e3
  subst e1'; subst e3
  unfold maxLen at hc2
  have HC := Lib.hid hcell
  clear hcell e2 hv h1 hfl hdf hff hdd hF
  obtain ⟨n, hn⟩ : ∃ n, xs.length = n := ⟨_, rfl⟩
  rw [hn] at hc1 h2 hFl ⊢
  rw [hFl] at HS
  have HN := Lib.hid hn; have HFN := Lib.hid hFl
  clear hn hFl
  go_enter Tryz.func38, Tryz.ntmps38
  go_wp2_with fail
  go_loopw [3, 4] (fun v i wr => ∃ q : Nat, i = .int .i64 (q : Int) ∧ q ≤ n ∧ Hid (OV 23 wr w.heap.size v (F.take q)) ∧ Hid (Ext w wr)) (fun _ i _ => n - (intOf i).toNat)
  case atStart => exact ⟨0, rfl, by omega, Lib.hid (OV.nil _ _ _), Lib.hid (Ext.refl _)⟩
  case round =>
    obtain ⟨q, rfl, hq, HV, HX⟩ := hrel
    by_cases hlt : q < n
    · have hlx : q < xs.length := by rw [HN.out]; exact hlt
      obtain ⟨ad, B, d, rfl, hc0, hc3, hbk⟩ := HC.out q hlx
      have hc3' : w.cell? ⟨(ad.add (q * 2)).block, (ad.add (q * 2)).off + 1, none⟩ = some (.slice B xs[q].2.length d) := by rw [cell_add1, add_of_add]; exact hc3
      have hok := HOK.out xs[q] (List.getElem_mem hlx)
      have hFq : q < F.length := by rw [HFN.out]; exact hlt
      have HTK := Lib.hid (show F.take (q + 1) = F.take q ++ [pairF xs[q].1 xs[q].2] by
        rw [List.take_succ_eq_append_getElem hFq]
        congr 2
        have := HF.out
        subst this
        rw [List.getElem_map])
      have HTL := Lib.hid (show ((F.take q).length + 1) * 24 ≤ 140737488355328 by rw [List.length_take]; omega)
      generalize xs[q].1 = kk at *
      generalize xs[q].2 = bb at *
      have hps := pair_seq hok
      obtain ⟨hbl, hr⟩ := okA_len hok
      have li := intSize_enc kk
      have lo : (encOctets bb).length ≤ bb.length + 5 := elem_le 4 bb
      have no : encOctets bb ≠ [] := elem_ne 4 bb (by omega)
      have hk : encInt kk ≠ [] := by
        unfold encInt
        rw [if_pos hr]
        exact elem_ne _ _ (by rw [beBytes_length]; have := intSize_le kk; omega)
      have t0 := encTag_le 0 (encInt kk); have t1 := encTag_le 1 (encOctets bb)
      have HIN := Lib.hid (fun W => RIntA_at hok W)
      have HT0 := Lib.hid (fun (A : Option Addr) (c : Nat) (W : World) (h : BS W (.slice A (encInt kk).length c) (encInt kk)) => RTag_at 0 (by decide) A c (encInt kk) W h (by omega) hk)
      have HOC := Lib.hid (fun (W : World) (h : BS W (.slice B bb.length d) bb) => ROct_at B d bb W h (by omega))
      have HT1 := Lib.hid (fun (A : Option Addr) (c : Nat) (W : World) (h : BS W (.slice A (encOctets bb).length c) (encOctets bb)) => RTag_at 1 (by decide) A c (encOctets bb) W h (by omega) no)
      have HSQ := Lib.hid (fun (b : Nat) (W : World) (h : BSS W (.slice (some ⟨b, 0, none⟩) 2 2) [encTag 0 (encInt kk), encTag 1 (encOctets bb)]) => RSeq15_at (some ⟨b, 0, none⟩) 2 [encTag 0 (encInt kk), encTag 1 (encOctets bb)] W h (by simp) (by simp; omega))
      simp only [hps, List.length_cons, List.length_nil, Nat.zero_add, Nat.reduceAdd] at HSQ
      generalize pairF kk bb = PP at *
      generalize encTag 0 (encInt kk) = T0 at *
      generalize encTag 1 (encOctets bb) = T1 at *
      generalize encInt kk = EI at *
      generalize encOctets bb = EO at *
      have HC0 := Lib.hid (HX.out.cell hc0); have HC3 := Lib.hid (HX.out.cell hc3')
      have HBK := Lib.hid (hbk.ext HX.out)
      generalize bb.length = bl at *
      clear hc0 hc3 hc3' hbk hlx hok hFq hps hbl hr li lo no hk t0 t1
      go_upto_region 5 with fail
      refine wp_region_ext_tail 18 (fun i v' w' => match i with | 6 => ∃ A c, v' = .slice A (EI).length c ∧ OB 5 w' wr.heap.size (.slice A (EI).length c) (EI) | 7 => ∃ A c, v' = .slice A (T0).length c ∧ OB 5 w' wr.heap.size (.slice A (T0).length c) (T0) | 13 => ∃ A c, v' = .slice A (EO).length c ∧ OB 5 w' wr.heap.size (.slice A (EO).length c) (EO) | 14 => ∃ A c, v' = .slice A (T1).length c ∧ OB 5 w' wr.heap.size (.slice A (T1).length c) (T1) | 15 => ∃ b, v' = .slice (some ⟨b, 0, none⟩) 2 2 ∧ BSS w' (.slice (some ⟨b, 0, none⟩) 2 2) [T0, T1] | 16 => ∃ A c, v' = .slice A (PP).length c ∧ OB 5 w' wr.heap.size (.slice A (PP).length c) (PP) | 17 => ∃ b A c, v' = .slice (some ⟨b, 0, none⟩) 1 1 ∧ RS w' (.slice (some ⟨b, 0, none⟩) 1 1) [.slice A PP.length c] ∧ OB 5 w' wr.heap.size (.slice A PP.length c) PP | _ => False) (by kernel_rfl) (by kernel_rfl) ?_
      refine wpE_op rfl rfl (fun w' hw' K' hK' => ?_)
      have hE := hw'.1
      go_step
      refine hK' _ ⟨_, rfl⟩ ?_
      clear hK' K' hE hw' w'
      refine wpE_op rfl rfl (fun w' hw' K' hK' => ?_)
      have hE := hw'.1
      go_step
      refine hK' _ ⟨_, rfl⟩ ?_
      clear hK' K' hE hw' w'
      refine wpE_op rfl rfl (fun w' hw' K' hK' => ?_)
      have hE := hw'.1
      go_step
      refine hK' _ ⟨_, rfl⟩ ?_
      clear hK' K' hE hw' w'
      refine wpE_op rfl rfl (fun w' hw' K' hK' => ?_)
      have hE := hw'.1
      go_step
      refine hK' _ ⟨_, rfl⟩ ?_
      clear hK' K' hE hw' w'
      refine wpE_op rfl rfl (fun w' hw' K' hK' => ?_)
      have hE := hw'.1
      go_step
      refine hK' _ ⟨_, rfl⟩ ?_
      clear hK' K' hE hw' w'
      refine wpE_op rfl rfl (fun w' hw' K' hK' => ?_)
      have hE := hw'.1
      have u0 := ((Ext.drew _).trans hE).cell HC0.out
      go_step
      refine hK' _ ⟨_, rfl⟩ ?_
      clear hK' K' u0 hE hw' w'
      refine wpE_call 17 rfl (by simp) rfl (fun w' hw' K' hK' => ?_) ?_
      · have hE := hw'.1
        have hsz : wr.heap.size ≤ w'.heap.size := ((Ext.drew _).trans hE).size
        go_step
        refine (HIN.out w').mono ?_
        rintro _ w2 ⟨A2, c2, rfl, ho, hx⟩
        exact hK' _ _ ⟨_, rfl, A2, c2, rfl, ho.mono hsz⟩ hx
      rintro _ w17x hE17 ⟨A17, c17, rfl, hb17⟩
      simp only [Act.put, List.setIfInBounds_toArray, List.set_cons_succ, List.set_cons_zero]
      refine wpE_call 18 rfl (by simp) rfl (fun w' hw' K' hK' => ?_) ?_
      · have hE := hw'.1
        have hM17 : Ext w17x w' := hw'.2 17 w17x (by simp [adds]) (by decide)
        have hsz : wr.heap.size ≤ w'.heap.size := ((Ext.drew _).trans hE).size
        go_step
        refine (HT0.out A17 c17 w' (hb17.bs.ext hM17)).mono ?_
        rintro _ w2 ⟨A2, c2, rfl, ho, hx⟩
        exact hK' _ _ ⟨_, rfl, A2, c2, rfl, ho.mono hsz⟩ hx
      rintro _ w18x hE18 ⟨A18, c18, rfl, hb18⟩
      simp only [Act.put, List.setIfInBounds_toArray, List.set_cons_succ, List.set_cons_zero]
      refine wpE_op rfl rfl (fun w' hw' K' hK' => ?_)
      have hE := hw'.1
      go_step
      refine hK' _ ⟨_, rfl⟩ ?_
      clear hK' K' hE hw' w'
      refine wpE_op rfl rfl (fun w' hw' K' hK' => ?_)
      have hE := hw'.1
      go_step
      refine hK' _ ⟨_, rfl⟩ ?_
      clear hK' K' hE hw' w'
      refine wpE_op rfl rfl (fun w' hw' K' hK' => ?_)
      have hE := hw'.1
      go_step
      refine hK' _ ⟨_, rfl⟩ ?_
      clear hK' K' hE hw' w'
      refine wpE_op rfl rfl (fun w' hw' K' hK' => ?_)
      have hE := hw'.1
      go_step
      refine hK' _ ⟨_, rfl⟩ ?_
      clear hK' K' hE hw' w'
      refine wpE_op rfl rfl (fun w' hw' K' hK' => ?_)
      have hE := hw'.1
      have u0 := ((Ext.drew _).trans hE).cell HC3.out
      go_step
      refine hK' _ ⟨_, rfl⟩ ?_
      clear hK' K' u0 hE hw' w'
      refine wpE_call 24 rfl (by simp) rfl (fun w' hw' K' hK' => ?_) ?_
      · have hE := hw'.1
        have hsz : wr.heap.size ≤ w'.heap.size := ((Ext.drew _).trans hE).size
        go_step
        refine (HOC.out w' (HBK.out.ext ((Ext.drew _).trans hE))).mono ?_
        rintro _ w2 ⟨A2, c2, rfl, ho, hx⟩
        exact hK' _ _ ⟨_, rfl, A2, c2, rfl, ho.mono hsz⟩ hx
      rintro _ w24x hE24 ⟨A24, c24, rfl, hb24⟩
      simp only [Act.put, List.setIfInBounds_toArray, List.set_cons_succ, List.set_cons_zero]
      refine wpE_call 25 rfl (by simp) rfl (fun w' hw' K' hK' => ?_) ?_
      · have hE := hw'.1
        have hM24 : Ext w24x w' := hw'.2 24 w24x (by simp [adds]) (by decide)
        have hsz : wr.heap.size ≤ w'.heap.size := ((Ext.drew _).trans hE).size
        go_step
        refine (HT1.out A24 c24 w' (hb24.bs.ext hM24)).mono ?_
        rintro _ w2 ⟨A2, c2, rfl, ho, hx⟩
        exact hK' _ _ ⟨_, rfl, A2, c2, rfl, ho.mono hsz⟩ hx
      rintro _ w25x hE25 ⟨A25, c25, rfl, hb25⟩
      simp only [Act.put, List.setIfInBounds_toArray, List.set_cons_succ, List.set_cons_zero]
      refine wpE_call 26 rfl (by simp) rfl (fun w' hw' K' hK' => ?_) ?_
      · have hE := hw'.1
        have hM18 : Ext w18x w' := hw'.2 18 w18x (by simp [adds]) (by decide)
        have hM25 : Ext w25x w' := hw'.2 25 w25x (by simp [adds]) (by decide)
        go_step
        exact hK' _ _ ⟨_, rfl, w'.heap.size, rfl, BSS.new2 w' 23 _ _ _ _ (hb18.bs.ext hM18) (hb25.bs.ext hM25)⟩ ((Ext.refl w').alloc _)
      rintro _ w26x hE26 ⟨b26, rfl, hb26⟩
      simp only [Act.put, List.setIfInBounds_toArray, List.set_cons_succ, List.set_cons_zero]
      refine wpE_call 27 rfl (by simp) rfl (fun w' hw' K' hK' => ?_) ?_
      · have hE := hw'.1
        have hM26 : Ext w26x w' := hw'.2 26 w26x (by simp [adds]) (by decide)
        have hsz : wr.heap.size ≤ w'.heap.size := ((Ext.drew _).trans hE).size
        go_step
        refine (HSQ.out b26 w' (hb26.ext hM26)).mono ?_
        rintro _ w2 ⟨A2, c2, rfl, ho, hx⟩
        exact hK' _ _ ⟨_, rfl, A2, c2, rfl, ho.mono hsz⟩ hx
      rintro _ w27x hE27 ⟨A27, c27, rfl, hb27⟩
      simp only [Act.put, List.setIfInBounds_toArray, List.set_cons_succ, List.set_cons_zero]
      refine wpE_call 28 rfl (by simp) rfl (fun w' hw' K' hK' => ?_) ?_
      · have hE := hw'.1
        have hM27 : Ext w27x w' := hw'.2 27 w27x (by simp [adds]) (by decide)
        go_step
        exact hK' _ _ ⟨_, rfl, w'.heap.size, A27, c27, rfl, RS.one w' 23 _, (hb27.ext hM27).ext ((Ext.refl w').alloc _)⟩ ((Ext.refl w').alloc _)
      rintro _ w28x hE28 ⟨b28, A28, c28, rfl, hr28, hb28⟩
      simp only [Act.put, List.setIfInBounds_toArray, List.set_cons_succ, List.set_cons_zero]
      refine wpE_nil (fun W hW => ?_)
      have hxW : Ext wr W := (Ext.drew wr).trans hW.1
      have hM28 : Ext w28x W := hW.2 28 w28x (by simp [adds])
      have HRS := Lib.hid (hr28.ext hM28)
      have HB7 := Lib.hid (hb28.ext hM28)
      have HV7 := Lib.hid (HV.out.ext hxW)
      have HX7 := Lib.hid (HX.out.trans hxW)
      have HAP := Lib.hid (show PP ≠ [] → ∀ b', (Value.slice A28 PP.length c28).ownBlock = some b' → u3.ownBlock ≠ some b' from fun hne b' hb' e => by
        have h1 := HB7.out.lt b' hb'
        have h2 := (HV.out.lt b' e).2
        omega)
      clear hW hxW hM28 hr28 hb28
      simp only [List.drop_succ_cons, List.drop_zero]
      go_wp2_with (at_builtin; refine wpList_append_ov _ rfl (.tmp 11) (.tmp 28) 43 rfl w.heap.size 23 i0 (.slice none 0 0) 24 Tryz.underlying43 hi hz0 hz1 hz2 rfl _ (F.take q) rfl HV7.out _ (.slice A28 PP.length c28) PP rfl HRS.out HB7.out.bs HAP.out HTL.out (by decide) HX7.out.size ?_; intro v7 w7 hv7 hg7)
      have HV8 := Lib.hid (show OV 23 w7 w.heap.size v7 (F.take (q + 1)) by rw [HTK.out]; exact hv7)
      have HX8 := Lib.hid (show Ext w w7 from HX7.out.grown hg7 (fun j hj => (HV.out.lt j hj).1))
      clear hv7 hg7
      go_wp2_with fail
      go_roundw
      case rel => exact ⟨q + 1, by go_num, by omega, HV8, HX8⟩
      case measure => simp [intOf]; omega
    · obtain rfl : q = n := by omega
      have hov : OV 23 wr w.heap.size u3 F := by
        have h := HV.out
        rwa [List.take_of_length_le (by rw [HFN.out]; exact Nat.le_refl _)] at h
      obtain ⟨VA, vc, rfl⟩ := hov.shape
      have hbss := hov.bss
      rw [HFN.out] at hbss
      have HSF := Lib.hid (HS.out VA vc wr hbss)
      rw [HFN.out]
      clear hov hbss hlt
      go_wp2_with fail
      refine HSF.out.mono ?_
      rintro _ w1 ⟨A1, c1, rfl, ho, hx⟩
      have HO := Lib.hid (ho.mono HX.out.size); have HX2 := Lib.hid (HX.out.trans hx)
      clear ho hx
      go_wp2_with fail
      go_ret
      exact ⟨A1, c1, rfl, HO.out, HX2.out⟩
set_option maxRecDepth 100000 in
set_option maxHeartbeats 4000000 in
theorem REncode15_at (A : Option Addr) (c : Nat) (xs : List (Int × List UInt8)) (w : World) (hD : DS w (.slice A xs.length c) xs) (hv : vlA xs = true) :
    Calls Tryz.prog 17 #[.slice A xs.length c] w (RetB w (dataF xs)) := by
  obtain ⟨i0, hi, hz0, hz1, hz2⟩ := info_parts datinfo
  have hn5 : xs.length ≤ 16 := (vlA_iff.1 hv).2
  have HDA := Lib.hid (fun (A : Option Addr) (c : Nat) (W : World) (h : DS W (.slice A xs.length c) xs) => RData15_at A c xs W h hv)
  generalize dataF xs = dd at *
  obtain ⟨A', c', he, hc1, hc2, hcell⟩ := hD
  injection he with e1' e2 e3
  subst e1'; subst e3
  unfold maxLen at hc2
  have HC := Lib.hid hcell
  clear hcell e2 hv
  obtain ⟨n, hn⟩ : ∃ n, xs.length = n := ⟨_, rfl⟩
  rw [hn] at hc1 hn5 HDA ⊢
  have HN := Lib.hid hn
  clear hn
  go_enter Tryz.func17, Tryz.ntmps17
  go_wp2_with fail
  go_loopw [3, 4] (fun v i wr => ∃ q : Nat, i = .int .i64 (q : Int) ∧ q ≤ n ∧ Hid (DOV 62 wr w.heap.size v (xs.take q)) ∧ Hid (Ext w wr)) (fun _ i _ => n - (intOf i).toNat)
  case atStart => exact ⟨0, rfl, by omega, Lib.hid (DOV.nil _ _ _), Lib.hid (Ext.refl _)⟩
  case round =>
    obtain ⟨q, rfl, hq, HV, HX⟩ := hrel
    by_cases hlt : q < n
    · have hlx : q < xs.length := by rw [HN.out]; exact hlt
      obtain ⟨ad, B, d, rfl, hc0, hc3, hbk⟩ := HC.out q hlx
      have hc3' : w.cell? ⟨(ad.add (q * 2)).block, (ad.add (q * 2)).off + 1, none⟩ = some (.slice B xs[q].2.length d) := by rw [cell_add1, add_of_add]; exact hc3
      have HTK := Lib.hid (show xs.take (q + 1) = xs.take q ++ [(xs[q].1, xs[q].2)] from List.take_succ_eq_append_getElem hlx)
      have HTL := Lib.hid (show ((xs.take q).length + 1) * 32 ≤ 140737488355328 by rw [List.length_take]; omega)
      generalize xs[q].1 = kk at *
      generalize xs[q].2 = bb at *
      have HC0 := Lib.hid (HX.out.cell hc0); have HC3 := Lib.hid (HX.out.cell hc3')
      have HBK := Lib.hid hbk
      clear hc0 hc3 hc3' hbk hlx
      go_upto_region 5 with fail
      refine wp_region_ext_tail 13 (fun i v' w' => match i with | 12 => ∃ b, v' = .slice (some ⟨b, 0, none⟩) 1 1 ∧ w'.heap[b]? = some (.cells #[.int .i64 kk, .slice B bb.length d] 62 (0, 0)) | _ => False) (by kernel_rfl) (by kernel_rfl) ?_
      refine wpE_op rfl rfl (fun w' hw' K' hK' => ?_)
      have hE := hw'.1
      go_step
      refine hK' _ ⟨_, rfl⟩ ?_
      clear hK' K' hE hw' w'
      refine wpE_op rfl rfl (fun w' hw' K' hK' => ?_)
      have hE := hw'.1
      go_step
      refine hK' _ ⟨_, rfl⟩ ?_
      clear hK' K' hE hw' w'
      refine wpE_op rfl rfl (fun w' hw' K' hK' => ?_)
      have hE := hw'.1
      go_step
      refine hK' _ ⟨_, rfl⟩ ?_
      clear hK' K' hE hw' w'
      refine wpE_op rfl rfl (fun w' hw' K' hK' => ?_)
      have hE := hw'.1
      go_step
      refine hK' _ ⟨_, rfl⟩ ?_
      clear hK' K' hE hw' w'
      refine wpE_op rfl rfl (fun w' hw' K' hK' => ?_)
      have hE := hw'.1
      go_step
      refine hK' _ ⟨_, rfl⟩ ?_
      clear hK' K' hE hw' w'
      refine wpE_op rfl rfl (fun w' hw' K' hK' => ?_)
      have hE := hw'.1
      have u0 := ((Ext.drew _).trans hE).cell HC0.out
      go_step
      refine hK' _ ⟨_, rfl⟩ ?_
      clear hK' K' u0 hE hw' w'
      refine wpE_op rfl rfl (fun w' hw' K' hK' => ?_)
      have hE := hw'.1
      go_step
      refine hK' _ ⟨_, rfl⟩ ?_
      clear hK' K' hE hw' w'
      refine wpE_op rfl rfl (fun w' hw' K' hK' => ?_)
      have hE := hw'.1
      go_step
      refine hK' _ ⟨_, rfl⟩ ?_
      clear hK' K' hE hw' w'
      refine wpE_op rfl rfl (fun w' hw' K' hK' => ?_)
      have hE := hw'.1
      go_step
      refine hK' _ ⟨_, rfl⟩ ?_
      clear hK' K' hE hw' w'
      refine wpE_op rfl rfl (fun w' hw' K' hK' => ?_)
      have hE := hw'.1
      go_step
      refine hK' _ ⟨_, rfl⟩ ?_
      clear hK' K' hE hw' w'
      refine wpE_op rfl rfl (fun w' hw' K' hK' => ?_)
      have hE := hw'.1
      have u0 := ((Ext.drew _).trans hE).cell HC3.out
      go_step
      refine hK' _ ⟨_, rfl⟩ ?_
      clear hK' K' u0 hE hw' w'
      refine wpE_op rfl rfl (fun w' hw' K' hK' => ?_)
      have hE := hw'.1
      go_step
      refine hK' _ ⟨_, rfl⟩ ?_
      clear hK' K' hE hw' w'
      refine wpE_call 23 rfl (by simp) rfl (fun w' hw' K' hK' => ?_) ?_
      · have hE := hw'.1
        go_step
        exact hK' _ _ ⟨_, rfl, w'.heap.size, rfl, heap_alloc_new w' _⟩ ((Ext.refl w').alloc _)
      rintro _ wbx hEb ⟨bb0, rfl, hrb⟩
      simp only [Act.put, List.setIfInBounds_toArray, List.set_cons_succ, List.set_cons_zero]
      refine wpE_nil (fun W hW => ?_)
      have hxW : Ext wr W := (Ext.drew wr).trans hW.1
      have hMb : Ext wbx W := hW.2 23 wbx (by simp [adds])
      have h1 := rowp (hMb.heap hrb)
      have HD0 := Lib.hid h1.1; have HD1 := Lib.hid h1.2
      have HV7 := Lib.hid (HV.out.ext hxW)
      have HX7 := Lib.hid (HX.out.trans hxW)
      have HB7 := Lib.hid (HBK.out.ext HX7.out)
      obtain ⟨VA, vc, rfl⟩ := HV.out.shape
      have HAP := Lib.hid (show bb ≠ [] → ∀ b', (Value.slice B bb.length d).ownBlock = some b' → (Value.slice VA (xs.take q).length vc).ownBlock ≠ some b' from fun hne b' hb' e => by
        have h1 := HBK.out.blockLt hne b' hb'
        have h2 := (HV.out.lt b' e).1
        omega)
      clear hW hxW hMb h1 hrb
      simp only [List.drop_succ_cons, List.drop_zero]
      go_wp2_with (at_builtin; refine wpList_append_dov _ rfl (.tmp 11) (.tmp 23) 61 rfl w.heap.size 62 i0 (.agg #[.int .i64 0, .slice none 0 0]) 32 Tryz.underlying61 hi hz0 hz1 hz2 rfl dat_zero _ (xs.take q) rfl HV7.out ⟨bb0, 0, none⟩ 1 kk B bb.length d bb rfl HD0.out HD1.out HB7.out HAP.out HTL.out (by decide) HX7.out.size ?_; intro v7 w7 hd7 hg7 ho7)
      have HD7 := Lib.hid (show DOV 62 w7 w.heap.size v7 (xs.take (q + 1)) by rw [HTK.out]; exact hd7)
      have HX8 := Lib.hid (show Ext w w7 from HX7.out.grown hg7 (fun j hj => (HV.out.lt j hj).1))
      clear hd7 hg7 ho7
      go_wp2_with fail
      go_roundw
      case rel => exact ⟨q + 1, by go_num, by omega, HD7, HX8⟩
      case measure => simp [intOf]; omega
    · obtain rfl : q = n := by omega
      have hdv : DOV 62 wr w.heap.size u3 xs := by
        have h := HV.out
        rwa [List.take_of_length_le (by rw [HN.out]; exact Nat.le_refl _)] at h
      obtain ⟨VA, vc, rfl⟩ := hdv.shape
      have hds := hdv.ds
      rw [HN.out] at hds
      have HDV := Lib.hid (HDA.out VA vc wr hds)
      rw [HN.out]
      clear hdv hds hlt
      go_wp2_with fail
      refine HDV.out.mono ?_
      rintro _ w1 ⟨A1, c1, rfl, ho, hx⟩
      have HO := Lib.hid (ho.mono HX.out.size); have HX2 := Lib.hid (HX.out.trans hx)
      clear ho hx
      go_wp2_with fail
      go_ret
      exact ⟨A1, c1, rfl, HO.out, HX2.out⟩
end Go.Proofs.YthpfomjibfbiiaaGreatDoor
