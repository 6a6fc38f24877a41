/- Address: Encode, Read, Decode of lists. (wip/tools/genadd1.py printed this.) -/
import Derived.Test.YthpfomjibfbiiaaGreatDoorAdE1
import Derived.Test.YthpfomjibfbiiaaGreatDoorMg44
import Derived.Test.YthpfomjibfbiiaaGreatDoorMg30
import Derived.Test.YthpfomjibfbiiaaGreatDoorDer15
import Derived.Test.YthpfomjibfbiiaaGreatDoorMg38
namespace Go.Proofs.YthpfomjibfbiiaaGreatDoor
open Go Go.RowKit
set_option linter.unusedVariables false

/-- A box of a struct of a number and bytes. -/
theorem boxT (w : World) (T : TypeId) (k : Int) (A : Option Addr) (n c : Nat) : ∃ Y Z, w.alloc (.cells #[.int .i64 0, .slice none 0 0] T) = Y ∧ (Y.setCell ⟨w.heap.size, 0, none⟩ (.int .i64 k)).setCell ⟨w.heap.size, 1, none⟩ (.slice A n c) = Z ∧ Y.cell? ⟨w.heap.size, 0, none⟩ = some (.int .i64 0) ∧ Y.cell? ⟨w.heap.size, 1, none⟩ = some (.slice none 0 0) ∧ Y.frozen? ⟨w.heap.size, 0, none⟩ = false ∧ Y.frozen? ⟨w.heap.size, 1, none⟩ = false ∧
    Z.cell? ⟨w.heap.size, 0, none⟩ = some (.int .i64 k) ∧ Z.cell? ⟨w.heap.size, 1, none⟩ = some (.slice A n c) ∧ Ext w Z := by
  have h0 := heap_alloc_new w (.cells #[.int .i64 0, .slice none 0 0] T)
  have h1 := heap_setCell_same _ w.heap.size 0 _ _ (.int .i64 k) h0
  have h2 := heap_setCell_same _ w.heap.size 1 _ _ (.slice A n c) h1
  exact ⟨_, _, rfl, rfl, by rw [cell_of_row _ _ 0 _ _ (0, 0) h0]; rfl, by rw [cell_of_row _ _ 1 _ _ (0, 0) h0]; rfl, frozen_of_row _ _ 0 _ _ h0, frozen_of_row _ _ 1 _ _ h0,
    by rw [cell_of_row _ _ 0 _ _ (0, 0) h2]; rfl, by rw [cell_of_row _ _ 1 _ _ (0, 0) h2]; rfl, ((Ext.refl w).alloc _).set2 (Nat.le_refl _) _ _⟩
set_option maxRecDepth 100000 in
set_option maxHeartbeats 2000000 in
theorem AEncode_yes (A : Option Addr) (c : Nat) (xs : List (Int × List UInt8)) (w : World) (hD : DS w (.slice A xs.length c) xs) (hE : EnvA w) (hv : vlA xs = true) :
    Calls Tryz.prog 15 #[.slice A xs.length c] w fun e w' => ∃ A' c', e = .returned (.tuple #[.slice A' (dataF xs).length c', .int .i64 0]) ∧ BS w' (.slice A' (dataF xs).length c') (dataF xs) ∧ Ext w w' := by
  obtain ⟨i0, hi, hz0, hz1, hz2⟩ := info_parts datinfo
  have h16 := (vlA_iff.1 hv).2
  have hva := AValidList_at A c xs w hD (by omega) hE
  rw [hv] at hva
  have HVA := Lib.hid hva
  have HDA := Lib.hid (fun pv W h => Data_at pv xs W h)
  generalize dataF xs = dd at *
  clear hva hE hv
  obtain ⟨A', c', he, hc1, hc2, hcell⟩ := hD
  injection he with e1' e2 e3
  subst e1'; subst e3
  unfold maxLen at hc2
  have HC := Lib.hid hcell
  clear hcell e2
  obtain ⟨n, hn'⟩ : ∃ n, xs.length = n := ⟨_, rfl⟩
  rw [hn'] at hc1 h16 HVA ⊢
  have HN := Lib.hid hn'
  clear hn'
  go_enter Tryz.func15, Tryz.ntmps15
  go_wp2_with fail
  refine HVA.out.mono ?_
  rintro _ w1 ⟨rfl, hx1⟩
  have HX1 := Lib.hid hx1
  clear hx1
  go_wp2_with fail
  go_loopw [4, 12] (fun v i wr => ∃ k : Nat, i = .int .i64 (k : Int) ∧ k ≤ n ∧ Hid (DOV 62 wr w.heap.size v (xs.take k)) ∧ Hid (Ext w wr)) (fun _ i _ => n - (intOf i).toNat)
  case atStart => exact ⟨0, rfl, by omega, Lib.hid (DOV.nil _ _ _), HX1⟩
  case round =>
    obtain ⟨k, rfl, hk, HV, HX⟩ := hrel
    by_cases hlt : k < n
    · have hlx : k < xs.length := by rw [HN.out]; exact hlt
      obtain ⟨ad, B, d, rfl, hc0, hc3, hbk⟩ := HC.out k hlx
      have hc3' : w.cell? ⟨(ad.add (k * 2)).block, (ad.add (k * 2)).off + 1, none⟩ = some (.slice B xs[k].2.length d) := by rw [cell_add1, add_of_add]; exact hc3
      have HTK := Lib.hid (show xs.take (k + 1) = xs.take k ++ [(xs[k].1, xs[k].2)] from List.take_succ_eq_append_getElem hlx)
      generalize xs[k].1 = kk at *
      generalize xs[k].2 = bb at *
      have g0 := HX.out.cell hc0; have g1 := HX.out.cell hc3'
      obtain ⟨Y, Z, hY, hZ, q0, q1, f0, f1, p0, p1, hxz⟩ := boxT wr 25 kk B bb.length d
      obtain ⟨W7, hW7⟩ : ∃ W7, Z.alloc (.cells #[.int .i64 kk, .slice B bb.length d] 62) = W7 := ⟨_, rfl⟩
      have hx7 : Ext Z W7 := by rw [← hW7]; exact (Ext.refl _).alloc _
      have hcells := heap_alloc_new Z (.cells #[.int .i64 kk, .slice B bb.length d] 62)
      rw [hW7] at hcells
      have hd0 : W7.cell? ((⟨Z.heap.size, 0, none⟩ : Addr).add 0) = some (.int .i64 kk) := by
        rw [show ((⟨Z.heap.size, 0, none⟩ : Addr).add 0) = ⟨Z.heap.size, 0, none⟩ from rfl, cell_of_row _ _ 0 _ _ (0, 0) hcells]; rfl
      have hd1 : W7.cell? ((⟨Z.heap.size, 0, none⟩ : Addr).add 1) = some (.slice B bb.length d) := by
        rw [show ((⟨Z.heap.size, 0, none⟩ : Addr).add 1) = ⟨Z.heap.size, 1, none⟩ from rfl, cell_of_row _ _ 1 _ _ (0, 0) hcells]; rfl
      obtain ⟨VA, vc, rfl⟩ := HV.out.shape
      have hap : bb ≠ [] → ∀ b', (Value.slice B bb.length d).ownBlock = some b' → (Value.slice VA (xs.take k).length vc).ownBlock ≠ some b' := by
        intro hne b' hb' e
        have h1 := hbk.blockLt hne b' hb'
        have h2 := (HV.out.lt b' e).1
        omega
      have HXX := Lib.hid (hxz.trans hx7)
      have HV7 := Lib.hid (HV.out.ext HXX.out); have HD0 := Lib.hid hd0; have HD1 := Lib.hid hd1; have HAP := Lib.hid hap; have HB7 := Lib.hid (hbk.ext (HX.out.trans HXX.out))
      have HTL := Lib.hid (show ((xs.take k).length + 1) * 32 ≤ 140737488355328 by rw [List.length_take]; have := HN.out; omega)
      have HBS := Lib.hid (HX.out.trans HXX.out).size
      clear hc0 hc3 hc3' hbk hlx hxz hx7 hcells hd0 hd1 hap
      go_wp2_with (at_builtin; refine wpList_append_dov _ rfl (.tmp 16) (.tmp 18) 61 rfl w.heap.size 62 i0 (.agg #[.int .i64 0, .slice none 0 0]) 32 Tryz.underlying61 hi hz0 hz1 hz2 rfl dat_zero _ (xs.take k) rfl HV7.out ⟨Z.heap.size, 0, none⟩ 1 kk B bb.length d bb rfl HD0.out HD1.out HB7.out HAP.out HTL.out (by decide) HBS.out ?_; intro v7 w7 hd7 hg7 ho7)
      have HD7 := Lib.hid (show DOV 62 w7 w.heap.size v7 (xs.take (k + 1)) by rw [HTK.out]; exact hd7)
      have HX7 := Lib.hid (show Ext w w7 from (HX.out.trans HXX.out).grown hg7 (fun j hj => (HV.out.lt j hj).1))
      clear hd7 hg7 ho7
      go_wp2_with fail
      go_roundw
      case rel => exact ⟨k + 1, by go_num, by omega, HD7, HX7⟩
      case measure => simp [intOf]; omega
    · obtain rfl : k = n := by omega
      have hdv : DOV 62 wr w.heap.size u4 xs := by
        have h := HV.out
        rwa [List.take_of_length_le (by rw [HN.out]; exact Nat.le_refl _)] at h
      have HDV := Lib.hid (HDA.out _ wr hdv.ds)
      clear hdv hlt
      go_wp2_with fail
      refine HDV.out.mono ?_
      rintro _ w2 ⟨A2, c2, rfl, hob, hx2⟩
      have HOB := Lib.hid hob.bs; have HX2 := Lib.hid (HX.out.trans hx2)
      clear hob hx2
      go_wp2_with fail
      go_ret2
      exact ⟨A2, c2, rfl, HOB.out, HX2.out⟩
set_option maxRecDepth 100000 in
theorem AEncode_no (A : Option Addr) (c : Nat) (xs : List (Int × List UInt8)) (w : World) (hD : DS w (.slice A xs.length c) xs) (hn : xs.length ≤ 1000) (hE : EnvA w) (hv : vlA xs = false) :
    Calls Tryz.prog 15 #[.slice A xs.length c] w fun e w' => e = .returned (.tuple #[.slice none 0 0, .int .i64 2]) ∧ Ext w w' := by
  have hva := AValidList_at A c xs w hD hn hE
  rw [hv] at hva
  have HVA := Lib.hid hva
  clear hva hE hv hD
  go_enter Tryz.func15, Tryz.ntmps15
  go_wp2_with fail
  refine HVA.out.mono ?_
  rintro _ w1 ⟨rfl, hx1⟩
  have HX1 := Lib.hid hx1
  clear hx1
  go_wp2_with fail
  go_ret2
  exact ⟨rfl, HX1.out⟩
set_option maxRecDepth 100000 in
theorem RCopy_at (g : Nat) (l : List UInt8) (k : Nat) (w : World) (h : RD 72 w g l k) :
    Calls Tryz.prog 42 #[.pointer (some ⟨g, 0, none⟩)] w fun e w' => ∃ g', e = .returned (.pointer (some ⟨g', 0, none⟩)) ∧ w.heap.size ≤ g' ∧ RD 72 w' g' l k ∧ Ext w w' := by
  obtain ⟨hk, A, c, hg, hb⟩ := h
  have c0 : w.cell? ⟨g, 0, none⟩ = some (.slice A l.length c) := by rw [cell_of_row w g 0 _ _ (0, 0) hg]; rfl
  have c1 : w.cell? ⟨g, 1, none⟩ = some (.int .i64 (k : Int)) := by rw [cell_of_row w g 1 _ _ (0, 0) hg]; rfl
  have c2 : w.cell? ⟨g, 2, none⟩ = some (.bool true) := by rw [cell_of_row w g 2 _ _ (0, 0) hg]; rfl
  have HG := Lib.hid hg; clear hg
  go_enter Tryz.func42, Tryz.ntmps42
  go_wp2
  go_ret
  exact ⟨w.heap.size, rfl, Nat.le_refl _, ⟨hk, A, c, heap_alloc_new w _, hb.ext ((Ext.refl w).alloc _)⟩, (Ext.refl w).alloc _⟩
/-- A reader is set back to what another one holds. -/
theorem RD.setbackA {w : World} {g : Nat} {l : List UInt8} {k' k : Nat} {A : Option Addr} {c : Nat} (h : RD 72 w g l k') (hk : k ≤ l.length) (hb : BS w (.slice A l.length c) l) :
    RD 72 (((w.setCell ⟨g, 0, none⟩ (.slice A l.length c)).setCell ⟨g, 1, none⟩ (.int .i64 (k : Int))).setCell ⟨g, 2, none⟩ (.bool true)) g l k ∧
    w.grownBy (((w.setCell ⟨g, 0, none⟩ (.slice A l.length c)).setCell ⟨g, 1, none⟩ (.int .i64 (k : Int))).setCell ⟨g, 2, none⟩ (.bool true)) (some g) := by
  have hn := h.noU8
  obtain ⟨_, Ax, cx, hg0, _⟩ := h
  have hB3 : B3 72 w g (.slice Ax l.length cx) (.int .i64 (k' : Int)) (.bool true) := hg0
  have g1 : w.grownBy (((w.setCell ⟨g, 0, none⟩ (.slice A l.length c)).setCell ⟨g, 1, none⟩ (.int .i64 (k : Int))).setCell ⟨g, 2, none⟩ (.bool true)) (some g) := grown_set (grown_set (grown_set (grown_refl _ _) 0 _) 1 _) 2 _
  exact ⟨⟨hk, A, c, ((hB3.set0 _).set1 _).set2 _, hb.but hn g1⟩, g1⟩
set_option maxRecDepth 100000 in
set_option maxHeartbeats 2000000 in
theorem ARead_yes (g : Nat) (l : List UInt8) (k : Nat) (m : List UInt8) (hm : l.drop k = m) (hl0 : m.length ≤ 900) (L : List (Int × List UInt8)) (rest : List UInt8) (hv : vlA L = true) (hmm : m = dataF L ++ rest) (w0 w : World) (hx0 : Ext w0 w) (hg0 : w0.heap.size ≤ g) (hE : EnvA w0) (h : RD 72 w g l k) :
    Calls Tryz.prog 21 #[.pointer (some ⟨g, 0, none⟩)] w fun e w' => w.grownBy w' (some g) ∧ ∃ A c, e = .returned (.tuple #[.slice A L.length c, .int .i64 0]) ∧ DS w' (.slice A L.length c) L ∧ RD 72 w' g l (k + (dataF L).length) := by
  have hgl := h.lt
  have hkl := h.le
  have HCP := Lib.hid (RCopy_at g l k w h)
  have HRD := Lib.hid h; have HG0 := Lib.hid hg0; have HX0 := Lib.hid hx0; have HE := Lib.hid hE
  have HB := Lib.hid (fun W hW => RdData_ok g l k m hm hl0 L rest (vl_data hv).1 hmm W hW)
  have HL16 := Lib.hid (vlA_iff.1 hv).2
  have HVV := Lib.hid hv
  generalize k + (dataF L).length = kk at *
  clear hm hmm h hx0 hg0 hE hv
  go_enter Tryz.func21, Tryz.ntmps21
  go_wp2_with fail
  refine HCP.out.mono ?_
  rintro _ w1 ⟨g', rfl, hg', hr1, hx1⟩
  have HX1 := Lib.hid hx1
  clear hx1 hr1 hg'
  go_wp2_with fail
  refine (HB.out _ (HRD.out.ext HX1.out)).mono ?_
  rintro _ w2 ⟨hg2, A0, c0, rfl, hd2, hr2⟩
  have HG2 := Lib.hid (grown_trans (HX1.out.but g) hg2); have HR2 := Lib.hid hr2; have HD2 := Lib.hid hd2
  have HX2 := Lib.hid (show Ext w0 w2 from (HX0.out.trans HX1.out).of_grown hg2 HG0.out)
  clear hg2 hd2 hr2
  obtain ⟨i0, hi, hz0, hz1, hz2⟩ := info_parts adrinfo
  obtain ⟨A', c', he, hc1, hc2, hcell⟩ := HD2.out.ds
  injection he with e1' e2 e3
  subst e1'; subst e3
  unfold maxLen at hc2
  have HC := Lib.hid hcell
  clear hcell e2
  have hl16 : L.length ≤ 16 := HL16.out
  obtain ⟨n, hn'⟩ : ∃ n, L.length = n := ⟨_, rfl⟩
  rw [hn'] at hc1 hl16
  try rw [hn']
  have HN := Lib.hid hn'
  clear hn'
  have HVAL := Lib.hid (fun (W : World) (hx : Ext w2 W) (VA : Option Addr) (vc : Nat) (hd : DS W (.slice VA L.length vc) L) => AValidList_at VA vc L W hd (by rw [HN.out]; omega) (HE.out.ext (HX2.out.trans hx)))
  go_wp2_with fail
  go_loopw [7, 23] (fun v i wr => ∃ k : Nat, i = .int .i64 (k : Int) ∧ k ≤ n ∧ Hid (DOV 25 wr w2.heap.size v (L.take k)) ∧ Hid (Ext w2 wr)) (fun _ i _ => n - (intOf i).toNat)
  case atStart => exact ⟨0, rfl, by omega, Lib.hid (DOV.nil _ _ _), Lib.hid (Ext.refl _)⟩
  case round =>
    obtain ⟨k, rfl, hk, HV, HX⟩ := hrel
    by_cases hlt : k < n
    · have hlx : k < L.length := by rw [HN.out]; exact hlt
      obtain ⟨ad, B, d, rfl, hc0, hc3, hbk⟩ := HC.out k hlx
      have hc3' : w2.cell? ⟨(ad.add (k * 2)).block, (ad.add (k * 2)).off + 1, none⟩ = some (.slice B L[k].2.length d) := by rw [cell_add1, add_of_add]; exact hc3
      have HTK := Lib.hid (show L.take (k + 1) = L.take k ++ [(L[k].1, L[k].2)] from List.take_succ_eq_append_getElem hlx)
      generalize L[k].1 = kk at *
      generalize L[k].2 = bb at *
      have g0 := HX.out.cell hc0; have g1 := HX.out.cell hc3'
      obtain ⟨Y, Z, hY, hZ, q0, q1, f0, f1, p0, p1, hxz⟩ := boxT wr 62 kk B bb.length d
      obtain ⟨W7, hW7⟩ : ∃ W7, Z.alloc (.cells #[.int .i64 kk, .slice B bb.length d] 25) = W7 := ⟨_, rfl⟩
      have hx7 : Ext Z W7 := by rw [← hW7]; exact (Ext.refl _).alloc _
      have hcells := heap_alloc_new Z (.cells #[.int .i64 kk, .slice B bb.length d] 25)
      rw [hW7] at hcells
      have hd0 : W7.cell? ((⟨Z.heap.size, 0, none⟩ : Addr).add 0) = some (.int .i64 kk) := by
        rw [show ((⟨Z.heap.size, 0, none⟩ : Addr).add 0) = ⟨Z.heap.size, 0, none⟩ from rfl, cell_of_row _ _ 0 _ _ (0, 0) hcells]; rfl
      have hd1 : W7.cell? ((⟨Z.heap.size, 0, none⟩ : Addr).add 1) = some (.slice B bb.length d) := by
        rw [show ((⟨Z.heap.size, 0, none⟩ : Addr).add 1) = ⟨Z.heap.size, 1, none⟩ from rfl, cell_of_row _ _ 1 _ _ (0, 0) hcells]; rfl
      obtain ⟨VA, vc, rfl⟩ := HV.out.shape
      have hap : bb ≠ [] → ∀ b', (Value.slice B bb.length d).ownBlock = some b' → (Value.slice VA (L.take k).length vc).ownBlock ≠ some b' := by
        intro hne b' hb' e
        have h1 := hbk.blockLt hne b' hb'
        have h2 := (HV.out.lt b' e).1
        omega
      have HXX := Lib.hid (hxz.trans hx7)
      have HV7 := Lib.hid (HV.out.ext HXX.out); have HD0 := Lib.hid hd0; have HD1 := Lib.hid hd1; have HAP := Lib.hid hap; have HB7 := Lib.hid (hbk.ext (HX.out.trans HXX.out))
      have HTL := Lib.hid (show ((L.take k).length + 1) * 32 ≤ 140737488355328 by rw [List.length_take]; have := HN.out; omega)
      have HBS := Lib.hid (HX.out.trans HXX.out).size
      clear hc0 hc3 hc3' hbk hlx hxz hx7 hcells hd0 hd1 hap
      go_wp2_with (at_builtin; refine wpList_append_dov _ rfl (.tmp 27) (.tmp 29) 22 rfl w2.heap.size 25 i0 (.agg #[.int .i64 0, .slice none 0 0]) 32 Tryz.underlying22 hi hz0 hz1 hz2 rfl dat_zero' _ (L.take k) rfl HV7.out ⟨Z.heap.size, 0, none⟩ 1 kk B bb.length d bb rfl HD0.out HD1.out HB7.out HAP.out HTL.out (by decide) HBS.out ?_; intro v7 w7 hd7 hg7 ho7)
      have HD7 := Lib.hid (show DOV 25 w7 w2.heap.size v7 (L.take (k + 1)) by rw [HTK.out]; exact hd7)
      have HX7 := Lib.hid (show Ext w2 w7 from (HX.out.trans HXX.out).grown hg7 (fun j hj => (HV.out.lt j hj).1))
      clear hd7 hg7 ho7
      go_wp2_with fail
      go_roundw
      case rel => exact ⟨k + 1, by go_num, by omega, HD7, HX7⟩
      case measure => simp [intOf]; omega
    · obtain rfl : k = n := by omega
      obtain ⟨w3, rfl⟩ : ∃ wo : World, wo = wr := ⟨_, rfl⟩
      have hdv : DOV 25 w3 w2.heap.size u7 L := by
        have h := HV.out
        rwa [List.take_of_length_le (by rw [HN.out]; exact Nat.le_refl _)] at h
      obtain ⟨VA, vc, rfl⟩ := hdv.shape
      have HDV := Lib.hid hdv
      have HVL := Lib.hid (HVAL.out w3 HX.out VA vc hdv.ds)
      rw [HN.out, HVV.out] at HVL
      rw [HN.out]
      clear hdv hlt HV
      go_wp2_with fail
      refine HVL.out.mono ?_
      rintro _ w4 ⟨rfl, hx4⟩
      have HX4 := Lib.hid (HX.out.trans hx4); have HD4 := Lib.hid ((HDV.out.ext hx4).ds)
      rw [HN.out] at HD4
      clear hx4
      go_wp2_with fail
      go_ret2
      exact ⟨grown_ext HG2.out HX4.out, VA, vc, by rw [HN.out]; rfl, by rw [HN.out]; exact HD4.out, HR2.out.ext HX4.out⟩
set_option maxRecDepth 100000 in
set_option maxHeartbeats 2000000 in
theorem ARead_no (g : Nat) (l : List UInt8) (k : Nat) (m : List UInt8) (hm : l.drop k = m) (hl0 : m.length ≤ 900) (hno : ∀ L rest, vlA L = true → m ≠ dataF L ++ rest) (w0 w : World) (hx0 : Ext w0 w) (hg0 : w0.heap.size ≤ g) (hE : EnvA w0) (h : RD 72 w g l k) :
    Calls Tryz.prog 21 #[.pointer (some ⟨g, 0, none⟩)] w fun e w' => e = .returned (.tuple #[.slice none 0 0, .int .i64 6]) ∧ RD 72 w' g l k ∧ w.grownBy w' (some g) := by
  have hgl := h.lt
  have hkl := h.le
  have HCP := Lib.hid (RCopy_at g l k w h)
  have HRD := Lib.hid h; have HG0 := Lib.hid hg0; have HX0 := Lib.hid hx0; have HE := Lib.hid hE
  have HB := Lib.hid (fun W hW => RdData_at g l k m hm hl0 W hW)
  have HNO := Lib.hid hno
  clear hm h hx0 hg0 hE hno
  go_enter Tryz.func21, Tryz.ntmps21
  go_wp2_with fail
  refine HCP.out.mono ?_
  rintro _ w1 ⟨g', rfl, hg', hr1, hx1⟩
  have HX1 := Lib.hid hx1; have HG1 := Lib.hid hg'; have HR1 := Lib.hid hr1
  clear hx1 hr1 hg'
  go_wp2_with fail
  refine (HB.out _ (HRD.out.ext HX1.out)).mono ?_
  rintro _ w2 ⟨hg2, ⟨L, used, A0, c0, rfl, hu, ht, hne, hd2, hr2⟩ | ⟨er, her, rfl, hr2⟩⟩
  · have HVV := Lib.hid (show vlA L = false by
      cases hv : vlA L with
      | false => rfl
      | true => exact absurd (by rw [← ht, List.take_append_drop]) (HNO.out L (m.drop used) hv))
    have HL16 := Lib.hid (dataF_some hne).1
    have HG12 := Lib.hid hg2
    have HG2 := Lib.hid (grown_trans (HX1.out.but g) hg2); have HR2 := Lib.hid hr2; have HD2 := Lib.hid hd2
    have HX2 := Lib.hid (show Ext w0 w2 from (HX0.out.trans HX1.out).of_grown hg2 HG0.out)
    clear hg2 hd2 hr2 hu ht hne HNO
    obtain ⟨i0, hi, hz0, hz1, hz2⟩ := info_parts adrinfo
    obtain ⟨A', c', he, hc1, hc2, hcell⟩ := HD2.out.ds
    injection he with e1' e2 e3
    subst e1'; subst e3
    unfold maxLen at hc2
    have HC := Lib.hid hcell
    clear hcell e2
    have hl16 : L.length ≤ 16 := HL16.out
    obtain ⟨n, hn'⟩ : ∃ n, L.length = n := ⟨_, rfl⟩
    rw [hn'] at hc1 hl16
    try rw [hn']
    have HN := Lib.hid hn'
    clear hn'
    have HVAL := Lib.hid (fun (W : World) (hx : Ext w2 W) (VA : Option Addr) (vc : Nat) (hd : DS W (.slice VA L.length vc) L) => AValidList_at VA vc L W hd (by rw [HN.out]; omega) (HE.out.ext (HX2.out.trans hx)))
    go_wp2_with fail
    go_loopw [7, 23] (fun v i wr => ∃ k : Nat, i = .int .i64 (k : Int) ∧ k ≤ n ∧ Hid (DOV 25 wr w2.heap.size v (L.take k)) ∧ Hid (Ext w2 wr)) (fun _ i _ => n - (intOf i).toNat)
    case atStart => exact ⟨0, rfl, by omega, Lib.hid (DOV.nil _ _ _), Lib.hid (Ext.refl _)⟩
    case round =>
      obtain ⟨k, rfl, hk, HV, HX⟩ := hrel
      by_cases hlt : k < n
      · have hlx : k < L.length := by rw [HN.out]; exact hlt
        obtain ⟨ad, B, d, rfl, hc0, hc3, hbk⟩ := HC.out k hlx
        have hc3' : w2.cell? ⟨(ad.add (k * 2)).block, (ad.add (k * 2)).off + 1, none⟩ = some (.slice B L[k].2.length d) := by rw [cell_add1, add_of_add]; exact hc3
        have HTK := Lib.hid (show L.take (k + 1) = L.take k ++ [(L[k].1, L[k].2)] from List.take_succ_eq_append_getElem hlx)
        generalize L[k].1 = kk at *
        generalize L[k].2 = bb at *
        have g0 := HX.out.cell hc0; have g1 := HX.out.cell hc3'
        obtain ⟨Y, Z, hY, hZ, q0, q1, f0, f1, p0, p1, hxz⟩ := boxT wr 62 kk B bb.length d
        obtain ⟨W7, hW7⟩ : ∃ W7, Z.alloc (.cells #[.int .i64 kk, .slice B bb.length d] 25) = W7 := ⟨_, rfl⟩
        have hx7 : Ext Z W7 := by rw [← hW7]; exact (Ext.refl _).alloc _
        have hcells := heap_alloc_new Z (.cells #[.int .i64 kk, .slice B bb.length d] 25)
        rw [hW7] at hcells
        have hd0 : W7.cell? ((⟨Z.heap.size, 0, none⟩ : Addr).add 0) = some (.int .i64 kk) := by
          rw [show ((⟨Z.heap.size, 0, none⟩ : Addr).add 0) = ⟨Z.heap.size, 0, none⟩ from rfl, cell_of_row _ _ 0 _ _ (0, 0) hcells]; rfl
        have hd1 : W7.cell? ((⟨Z.heap.size, 0, none⟩ : Addr).add 1) = some (.slice B bb.length d) := by
          rw [show ((⟨Z.heap.size, 0, none⟩ : Addr).add 1) = ⟨Z.heap.size, 1, none⟩ from rfl, cell_of_row _ _ 1 _ _ (0, 0) hcells]; rfl
        obtain ⟨VA, vc, rfl⟩ := HV.out.shape
        have hap : bb ≠ [] → ∀ b', (Value.slice B bb.length d).ownBlock = some b' → (Value.slice VA (L.take k).length vc).ownBlock ≠ some b' := by
          intro hne b' hb' e
          have h1 := hbk.blockLt hne b' hb'
          have h2 := (HV.out.lt b' e).1
          omega
        have HXX := Lib.hid (hxz.trans hx7)
        have HV7 := Lib.hid (HV.out.ext HXX.out); have HD0 := Lib.hid hd0; have HD1 := Lib.hid hd1; have HAP := Lib.hid hap; have HB7 := Lib.hid (hbk.ext (HX.out.trans HXX.out))
        have HTL := Lib.hid (show ((L.take k).length + 1) * 32 ≤ 140737488355328 by rw [List.length_take]; have := HN.out; omega)
        have HBS := Lib.hid (HX.out.trans HXX.out).size
        clear hc0 hc3 hc3' hbk hlx hxz hx7 hcells hd0 hd1 hap
        go_wp2_with (at_builtin; refine wpList_append_dov _ rfl (.tmp 27) (.tmp 29) 22 rfl w2.heap.size 25 i0 (.agg #[.int .i64 0, .slice none 0 0]) 32 Tryz.underlying22 hi hz0 hz1 hz2 rfl dat_zero' _ (L.take k) rfl HV7.out ⟨Z.heap.size, 0, none⟩ 1 kk B bb.length d bb rfl HD0.out HD1.out HB7.out HAP.out HTL.out (by decide) HBS.out ?_; intro v7 w7 hd7 hg7 ho7)
        have HD7 := Lib.hid (show DOV 25 w7 w2.heap.size v7 (L.take (k + 1)) by rw [HTK.out]; exact hd7)
        have HX7 := Lib.hid (show Ext w2 w7 from (HX.out.trans HXX.out).grown hg7 (fun j hj => (HV.out.lt j hj).1))
        clear hd7 hg7 ho7
        go_wp2_with fail
        go_roundw
        case rel => exact ⟨k + 1, by go_num, by omega, HD7, HX7⟩
        case measure => simp [intOf]; omega
      · obtain rfl : k = n := by omega
        obtain ⟨w3, rfl⟩ : ∃ wo : World, wo = wr := ⟨_, rfl⟩
        have hdv : DOV 25 w3 w2.heap.size u7 L := by
          have h := HV.out
          rwa [List.take_of_length_le (by rw [HN.out]; exact Nat.le_refl _)] at h
        obtain ⟨VA, vc, rfl⟩ := hdv.shape
        have HDV := Lib.hid hdv
        have HVL := Lib.hid (HVAL.out w3 HX.out VA vc hdv.ds)
        rw [HN.out, HVV.out] at HVL
        rw [HN.out]
        clear hdv hlt HV
        go_wp2_with fail
        refine HVL.out.mono ?_
        rintro _ w4 ⟨rfl, hx4⟩
        have HX4 := Lib.hid (HX.out.trans hx4)
        have hne : g' ≠ g := by have := HG1.out; omega
        have hrb := (HR1.out.but (HRD.out.ext HX1.out) hne HG12.out).ext HX4.out
        obtain ⟨Ab, cb, hbs, q0, q1, q2, _⟩ := hrb.cells
        have HR3 := Lib.hid (HR2.out.ext HX4.out)
        obtain ⟨Ay, cy, _, p0, p1, p2, _⟩ := HR3.out.cells
        have f0 : w4.frozen? ⟨g, 0, none⟩ = false := by obtain ⟨_, A', c', hg0, _⟩ := HR3.out; exact frozen_of_row w4 g 0 _ _ hg0
        have f1 : w4.frozen? ⟨g, 1, none⟩ = false := by obtain ⟨_, A', c', hg0, _⟩ := HR3.out; exact frozen_of_row w4 g 1 _ _ hg0
        have f2 : w4.frozen? ⟨g, 2, none⟩ = false := by obtain ⟨_, A', c', hg0, _⟩ := HR3.out; exact frozen_of_row w4 g 2 _ _ hg0
        have HSB := Lib.hid (RD.setbackA HR3.out hkl hbs)
        clear hrb hbs hx4
        go_wp2_with fail
        go_ret2
        exact ⟨rfl, HSB.out.1, grown_trans (grown_ext HG2.out HX4.out) HSB.out.2⟩
  · have hne2 : ((er : Int) != 0) = true := by rw [bne_iff_ne]; omega
    have HR2 := Lib.hid hr2; have HG2 := Lib.hid (grown_trans (HX1.out.but g) hg2)
    clear hg2 hr2 her
    go_wp2_with fail
    go_ret2
    exact ⟨rfl, HR2.out, HG2.out⟩
set_option maxRecDepth 100000 in
set_option maxHeartbeats 2000000 in
theorem ADecode_yes (A : Option Addr) (c : Nat) (b : List UInt8) (hl : b.length ≤ 900) (L : List (Int × List UInt8)) (hv : vlA L = true) (hbL : b = dataF L) (w : World) (hB : BS w (.slice A b.length c) b) (hE : EnvA w) :
    Calls Tryz.prog 18 #[.slice A b.length c] w fun e w' => ∃ A' c', e = .returned (.tuple #[.slice A' L.length c', .int .i64 0]) ∧ DS w' (.slice A' L.length c') L ∧ Ext w w' := by
  have HN := Lib.hid (New_at A c b w hB (by omega))
  have HRD := Lib.hid (fun g W (hx : Ext w W) (hg : w.heap.size ≤ g) hW => ARead_yes g b 0 b rfl hl L [] hv (by rw [List.append_nil]; exact hbL) w W hx hg hE hW)
  have HBL := Lib.hid hbL
  rw [← hbL] at HRD
  clear hB hE hbL
  go_enter Tryz.func18, Tryz.ntmps18
  go_wp2_with fail
  refine HN.out.mono ?_
  rintro _ w1 ⟨g, rfl, hg, hr1, hx1⟩
  have HX1 := Lib.hid hx1; have HG := Lib.hid hg; have HR1 := Lib.hid hr1
  clear hx1 hg hr1
  go_wp2_with fail
  refine (HRD.out g w1 HX1.out HG.out HR1.out).mono ?_
  rintro _ w2 ⟨hg2, A2, c2, rfl, hd2, hr2⟩
  have hlf := Left_at g b (0 + b.length) w2 hr2
  rw [Nat.zero_add, Nat.sub_self] at hlf
  have HLF := Lib.hid hlf
  have HX2 := Lib.hid (show Ext w w2 from HX1.out.of_grown hg2 HG.out); have HD2 := Lib.hid hd2
  clear hg2 hd2 hr2 hlf
  go_wp2_with fail
  refine HLF.out.mono ?_
  rintro _ w3 ⟨rfl, hx3⟩
  have HX3 := Lib.hid (HX2.out.trans hx3); have HD3 := Lib.hid (HD2.out.ext hx3)
  clear hx3
  go_wp2_with fail
  go_ret2
  exact ⟨A2, c2, rfl, HD3.out, HX3.out⟩
set_option maxRecDepth 100000 in
set_option maxHeartbeats 2000000 in
theorem ADecode_no (A : Option Addr) (c : Nat) (b : List UInt8) (hl : b.length ≤ 900) (hno : ∀ L, vlA L = true → b ≠ dataF L) (w : World) (hB : BS w (.slice A b.length c) b) (hE : EnvA w) :
    Calls Tryz.prog 18 #[.slice A b.length c] w fun e w' => e = .returned (.tuple #[.slice none 0 0, .int .i64 6]) ∧ Ext w w' := by
  have HN := Lib.hid (New_at A c b w hB (by omega))
  by_cases hy : ∃ L rest, vlA L = true ∧ b = dataF L ++ rest
  · obtain ⟨L, rest, hv, hbL⟩ := hy
    have hrest : rest ≠ [] := fun e => hno L hv (by rw [hbL, e, List.append_nil])
    have HRD := Lib.hid (fun g W (hx : Ext w W) (hg : w.heap.size ≤ g) hW => ARead_yes g b 0 b rfl hl L rest hv hbL w W hx hg hE hW)
    have HLT := Lib.hid (show 0 < b.length - (dataF L).length by
      rw [hbL, List.length_append]
      have := List.length_pos_iff.2 hrest
      omega)
    clear hB hE hno hbL hrest
    go_enter Tryz.func18, Tryz.ntmps18
    go_wp2_with fail
    refine HN.out.mono ?_
    rintro _ w1 ⟨g, rfl, hg, hr1, hx1⟩
    have HX1 := Lib.hid hx1; have HG := Lib.hid hg; have HR1 := Lib.hid hr1
    clear hx1 hg hr1
    go_wp2_with fail
    refine (HRD.out g w1 HX1.out HG.out HR1.out).mono ?_
    rintro _ w2 ⟨hg2, A2, c2, rfl, hd2, hr2⟩
    have hlf := Left_at g b (0 + (dataF L).length) w2 hr2
    rw [Nat.zero_add] at hlf
    obtain ⟨z, hz⟩ : ∃ z, b.length - (dataF L).length = z := ⟨_, rfl⟩
    rw [hz] at hlf
    have hz0 : (0 : Int) < (z : Int) := by have := HLT.out; omega
    have HLF := Lib.hid hlf
    have HX2 := Lib.hid (show Ext w w2 from HX1.out.of_grown hg2 HG.out)
    clear hg2 hd2 hr2 hlf hz
    go_wp2_with fail
    refine HLF.out.mono ?_
    rintro _ w3 ⟨rfl, hx3⟩
    have HX3 := Lib.hid (HX2.out.trans hx3)
    clear hx3
    go_wp2_with fail
    go_ret2
    exact ⟨rfl, HX3.out⟩
  · have HRD := Lib.hid (fun g W (hx : Ext w W) (hg : w.heap.size ≤ g) hW => ARead_no g b 0 b rfl hl (fun L rest hv e => hy ⟨L, rest, hv, e⟩) w W hx hg hE hW)
    clear hB hE hno hy
    go_enter Tryz.func18, Tryz.ntmps18
    go_wp2_with fail
    refine HN.out.mono ?_
    rintro _ w1 ⟨g, rfl, hg, hr1, hx1⟩
    have HX1 := Lib.hid hx1; have HG := Lib.hid hg; have HR1 := Lib.hid hr1
    clear hx1 hg hr1
    go_wp2_with fail
    refine (HRD.out g w1 HX1.out HG.out HR1.out).mono ?_
    rintro _ w2 ⟨rfl, hr2, hg2⟩
    have HX2 := Lib.hid (show Ext w w2 from HX1.out.of_grown hg2 HG.out)
    clear hg2 hr2
    go_wp2_with fail
    go_ret2
    exact ⟨rfl, HX2.out⟩
end Go.Proofs.YthpfomjibfbiiaaGreatDoor
