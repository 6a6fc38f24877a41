/- Policy: Text. (wip/tools/genpo13.py printed this.) -/
import Derived.Test.YtgfjmmdkdhodiaaGreatDoorMg13
import Derived.Test.YtgfjmmdkdhodiaaGreatDoorMg0
import Derived.Test.YtgfjmmdkdhodiaaGreatDoorMg4
import Derived.Test.YtgfjmmdkdhodiaaGreatDoorMg1
namespace Go.Proofs.YtgfjmmdkdhodiaaGreatDoor
open Go Go.RowKit
set_option linter.unusedVariables false

def DVq (x : Int) (v : Value) (_ : World) : Prop := v = .string ⟨(Lib.itoa x).toArray⟩
theorem Itoa_at (x : Int) (h0 : 0 ≤ x) (h1 : x ≤ 1099511627776) (w : World) (hp : Pow w) :
    Calls Tryz.prog 41 #[.int .i64 x] w fun e w' => e = .returned (.string ⟨(Lib.itoa x).toArray⟩) ∧ Ext w w' :=
  (Tryz.strconv_Itoa x (by omega) (by omega) w hp).mono fun _ _ ⟨h, nn, os, hw⟩ => ⟨h, hw ▸ ext_grow (Ext.refl w) nn os⟩
set_option maxRecDepth 100000 in
theorem join_at (ws : List (List UInt8)) (vs : Array Value) (g n : Nat) (w : World) (hg : w.heap[g]? = some (.cells vs 9 (0, 0))) (hv : vs = (stv ws).toArray) (hn : n = ws.length) (hl : (Lib.join ws [32]).length ≤ 1000) (hn1 : n ≤ 1000) :
    Calls Tryz.prog 40 #[.slice (some ⟨g, 0, none⟩) n n] w fun e w' => e = .returned (.string ⟨(Lib.join ws [32]).toArray⟩) ∧ Ext w w' := by
  have hlt : g < w.heap.size := (Array.getElem?_eq_some_iff.1 hg).1
  have e1 : (ws.map fun l => (⟨l.toArray⟩ : ByteArray)).length = n := by rw [List.length_map, hn]
  have e2 : (ws.map fun l => (⟨l.toArray⟩ : ByteArray)).map (·.data.toList) = ws := by rw [List.map_map]; exact List.map_id' _
  have hcell : ∀ (j : Nat) x, (ws.map fun l => (⟨l.toArray⟩ : ByteArray))[j]? = some x → w.cell? ⟨g, 0 + j, none⟩ = some (.string x) := by
    intro j x hx
    rw [Nat.zero_add, cell_of_row _ _ j _ _ (0, 0) hg, hv]
    rw [List.getElem?_map] at hx
    show (stv ws).toArray[j]? = _
    rw [List.getElem?_toArray, stv, List.getElem?_map]
    cases hw : ws[j]? with
    | none => rw [hw] at hx; cases hx
    | some y => rw [hw] at hx; injection hx with hx; subst hx; rfl
  have hj : Calls Tryz.prog 69 #[.slice (some ⟨g, 0, none⟩) n n, .string ⟨#[32]⟩] w fun e w' => e = .returned (.string ⟨(Lib.join ws [32]).toArray⟩) ∧ Ext w w' := by
    have h := Tryz.strings_Join g 0 n (ws.map fun l => ⟨l.toArray⟩) ⟨#[32]⟩ w hcell hlt (by rw [e1]; omega) (by rw [e1]; exact Nat.le_refl _) (by rw [e2]; show (Lib.join ws [32]).length ≤ _; omega)
    rw [e1, e2] at h
    exact h
  have HJ := Lib.hid hj
  clear hj hg hv hl e1 e2 hlt hcell hn
  go_enter Tryz.func40, Tryz.ntmps40
  go_wp2_with fail
  refine HJ.out.mono ?_
  rintro _ w2 ⟨rfl, hx2⟩
  have HX2 := Lib.hid (show Ext w w2 from hx2)
  clear hx2
  go_wp2_with fail
  go_ret
  exact ⟨rfl, HX2.out⟩
theorem PoText_no (p : Pol) (hs : p.nm.size ≤ 4294967280) (hok : p.ok = false) (w : World) :
    Calls Tryz.prog 22 #[p.v] w fun e w' => e = .returned (.tuple #[.string ⟨#[]⟩, .int .i64 2]) ∧ Ext w w' := by
  have HV := Lib.hid (hok ▸ PoValid_at p hs)
  have h0 := heap_alloc_new w (.cells p.cs 23)
  obtain ⟨W1, e1⟩ : ∃ W, w.alloc (.cells p.cs 23) = W := ⟨_, rfl⟩
  have x1 : Ext w W1 := e1 ▸ (Ext.refl w).alloc _
  rw [e1] at h0
  obtain ⟨c0, c1, c2, c3, c4, c5, c6, c7, c8, c9⟩ := PL.cells h0
  have HX := Lib.hid x1
  clear h0 x1 hok
  go_enter Tryz.func22, Tryz.ntmps22
  unfold Pol.v
  unfold Pol.cs at e1
  go_wp2_with fail
  refine (HV.out W1).mono ?_
  rintro _ w1 ⟨rfl, hx1⟩
  have HX1 := Lib.hid (HX.out.trans hx1)
  clear hx1
  go_wp2_with fail
  go_ret2
  exact ⟨rfl, HX1.out⟩
set_option maxRecDepth 100000 in
set_option maxHeartbeats 8000000 in
theorem PoText_at (p : Pol) (hok : p.ok = true) (w : World) (hpw : Pow w) :
    Calls Tryz.prog 22 #[p.v] w fun e w' => e = .returned (.tuple #[.string ⟨p.text.toArray⟩, .int .i64 0]) ∧ Ext w w' := by
  have hb := (Pol.ok_iff p).1 hok
  have l0 : p.nm.size ≤ 32 := by rw [← size_list]; exact (nmB_len hb.nm).2
  have z1 : 0 ≤ p.len ∧ p.len ≤ 1099511627776 := by have := hb.len; omega
  have l1 := itoa_len' z1.1 z1.2
  have z2 : 0 ≤ p.cla ∧ p.cla ≤ 1099511627776 := by have := hb.cla; omega
  have l2 := itoa_len' z2.1 z2.2
  have z3 : 0 ≤ p.dis ∧ p.dis ≤ 1099511627776 := by have := hb.dis; have := hb.len; omega
  have l3 := itoa_len' z3.1 z3.2
  have z4 : 0 ≤ p.his ∧ p.his ≤ 1099511627776 := by have := hb.his; omega
  have l4 := itoa_len' z4.1 z4.2
  have z5 : 0 ≤ p.mina ∧ p.mina ≤ 1099511627776 := by have := hb.mina; omega
  have l5 := itoa_len' z5.1 z5.2
  have z6 : 0 ≤ p.maxa ∧ p.maxa ≤ 1099511627776 := by have := hb.maxa; omega
  have l6 := itoa_len' z6.1 z6.2
  have z7 : 0 ≤ p.fai ∧ p.fai ≤ 1099511627776 := by have := hb.fai; omega
  have l7 := itoa_len' z7.1 z7.2
  have z8 : 0 ≤ p.win ∧ p.win ≤ 1099511627776 := by have := hb.win; omega
  have l8 := itoa_len' z8.1 z8.2
  have z9 : 0 ≤ p.loc ∧ p.loc ≤ 1099511627776 := by have := hb.loc; omega
  have l9 := itoa_len' z9.1 z9.2
  clear hb
  have htl := Pol.text_len hok
  have HV := Lib.hid (hok ▸ PoValid_at p (by omega))
  have h0 := heap_alloc_new w (.cells p.cs 23)
  obtain ⟨W1, e1⟩ : ∃ W, w.alloc (.cells p.cs 23) = W := ⟨_, rfl⟩
  have x1 : Ext w W1 := e1 ▸ (Ext.refl w).alloc _
  rw [e1] at h0
  obtain ⟨c0, c1, c2, c3, c4, c5, c6, c7, c8, c9⟩ := PL.cells h0
  have HP := Lib.hid (show PL W1 w.heap.size p from h0); have HX := Lib.hid x1; have HPW1 := Lib.hid hpw
  have HT := Lib.hid (show p.text = Lib.join p.words [32] from rfl)
  have HTL := Lib.hid htl
  have HWD := Lib.hid (show p.words = [p.nm.data.toList, hLen ++ Lib.itoa p.len, hCla ++ Lib.itoa p.cla, hDis ++ Lib.itoa p.dis, hHis ++ Lib.itoa p.his, hAge ++ (Lib.itoa p.mina ++ ([46, 46] ++ Lib.itoa p.maxa)), hFai ++ Lib.itoa p.fai, hLoc ++ (Lib.itoa p.win ++ ([47] ++ Lib.itoa p.loc))] from rfl)
  clear h0 x1 hok hpw htl
  obtain ⟨L, hL⟩ : ∃ L, p.text = L := ⟨_, rfl⟩
  rw [hL] at HT HTL ⊢
  clear hL
  obtain ⟨WS, hWS⟩ : ∃ WS, p.words = WS := ⟨_, rfl⟩
  rw [hWS] at HT HWD
  clear hWS
  go_enter Tryz.func22, Tryz.ntmps22
  unfold Pol.v
  unfold Pol.cs at e1
  go_wp2_with fail
  refine (HV.out W1).mono ?_
  rintro _ w1 ⟨rfl, hx1⟩
  have HX1 := Lib.hid (HX.out.trans hx1); have HP1 := Lib.hid (HP.out.ext hx1); have HPW := Lib.hid (HPW1.out.ext (HX.out.trans hx1))
  clear hx1 c0 c1 c2 c3 c4 c5 c6 c7 c8 c9 HP HX HPW1
  go_wp2_with fail
  refine wp_region_ext (fun i v' w' => match i with | 4 => DVq p.len v' w' | 8 => DVq p.cla v' w' | 12 => DVq p.dis v' w' | 16 => DVq p.his v' w' | 20 => DVq p.mina v' w' | 25 => DVq p.maxa v' w' | 29 => DVq p.fai v' w' | 33 => DVq p.win v' w' | 38 => DVq p.loc v' w' | 40 => ∃ g, v' = .slice (some ⟨g, 0, none⟩) 8 8 ∧ w'.heap[g]? = some (.cells (stv WS).toArray 9 (0, 0)) | 41 => v' = .string ⟨L.toArray⟩ | _ => False) (by kernel_rfl) (by kernel_rfl) ?_
  refine wpE_op rfl rfl (fun w' hw' K' hK' => ?_)
  have hE := hw'.1
  go_step
  refine hK' _ ⟨_, rfl⟩ ?_
  clear hK' K' hE hw' w'
  refine wpE_op rfl rfl (fun w' hw' K' hK' => ?_)
  have hE := hw'.1
  obtain ⟨u0, u1, u2, u3, u4, u5, u6, u7, u8, u9⟩ := (HP1.out.ext ((Ext.drew _).trans hE)).cells
  go_step
  refine hK' _ ⟨_, rfl⟩ ?_
  clear hK' K' u0 u1 u2 u3 u4 u5 u6 u7 u8 u9 hE hw' w'
  refine wpE_op rfl rfl (fun w' hw' K' hK' => ?_)
  have hE := hw'.1
  go_step
  refine hK' _ ⟨_, rfl⟩ ?_
  clear hK' K' hE hw' w'
  refine wpE_op rfl rfl (fun w' hw' K' hK' => ?_)
  have hE := hw'.1
  obtain ⟨u0, u1, u2, u3, u4, u5, u6, u7, u8, u9⟩ := (HP1.out.ext ((Ext.drew _).trans hE)).cells
  go_step
  refine hK' _ ⟨_, rfl⟩ ?_
  clear hK' K' u0 u1 u2 u3 u4 u5 u6 u7 u8 u9 hE hw' w'
  refine wpE_call 11 rfl (by simp) rfl (fun w' hw' K' hK' => ?_) ?_
  · have hE := hw'.1
    go_step
    refine (Itoa_at p.len z1.1 z1.2 _ (HPW.out.ext ((Ext.drew _).trans hE))).mono ?_
    rintro _ w2 ⟨rfl, hx⟩
    exact hK' _ _ ⟨_, rfl, rfl⟩ hx
  rintro _ w11x _ rfl
  simp only [Act.put, List.setIfInBounds_toArray, List.set_cons_succ, List.set_cons_zero]
  refine wpE_op rfl rfl (fun w' hw' K' hK' => ?_)
  have hE := hw'.1
  go_step
  refine hK' _ ⟨_, rfl⟩ ?_
  clear hK' K' hE hw' w'
  refine wpE_op rfl rfl (fun w' hw' K' hK' => ?_)
  have hE := hw'.1
  go_step
  refine hK' _ ⟨_, rfl⟩ ?_
  clear hK' K' hE hw' w'
  refine wpE_op rfl rfl (fun w' hw' K' hK' => ?_)
  have hE := hw'.1
  obtain ⟨u0, u1, u2, u3, u4, u5, u6, u7, u8, u9⟩ := (HP1.out.ext ((Ext.drew _).trans hE)).cells
  go_step
  refine hK' _ ⟨_, rfl⟩ ?_
  clear hK' K' u0 u1 u2 u3 u4 u5 u6 u7 u8 u9 hE hw' w'
  refine wpE_call 15 rfl (by simp) rfl (fun w' hw' K' hK' => ?_) ?_
  · have hE := hw'.1
    go_step
    refine (Itoa_at p.cla z2.1 z2.2 _ (HPW.out.ext ((Ext.drew _).trans hE))).mono ?_
    rintro _ w2 ⟨rfl, hx⟩
    exact hK' _ _ ⟨_, rfl, rfl⟩ hx
  rintro _ w15x _ rfl
  simp only [Act.put, List.setIfInBounds_toArray, List.set_cons_succ, List.set_cons_zero]
  refine wpE_op rfl rfl (fun w' hw' K' hK' => ?_)
  have hE := hw'.1
  go_step
  refine hK' _ ⟨_, rfl⟩ ?_
  clear hK' K' hE hw' w'
  refine wpE_op rfl rfl (fun w' hw' K' hK' => ?_)
  have hE := hw'.1
  go_step
  refine hK' _ ⟨_, rfl⟩ ?_
  clear hK' K' hE hw' w'
  refine wpE_op rfl rfl (fun w' hw' K' hK' => ?_)
  have hE := hw'.1
  obtain ⟨u0, u1, u2, u3, u4, u5, u6, u7, u8, u9⟩ := (HP1.out.ext ((Ext.drew _).trans hE)).cells
  go_step
  refine hK' _ ⟨_, rfl⟩ ?_
  clear hK' K' u0 u1 u2 u3 u4 u5 u6 u7 u8 u9 hE hw' w'
  refine wpE_call 19 rfl (by simp) rfl (fun w' hw' K' hK' => ?_) ?_
  · have hE := hw'.1
    go_step
    refine (Itoa_at p.dis z3.1 z3.2 _ (HPW.out.ext ((Ext.drew _).trans hE))).mono ?_
    rintro _ w2 ⟨rfl, hx⟩
    exact hK' _ _ ⟨_, rfl, rfl⟩ hx
  rintro _ w19x _ rfl
  simp only [Act.put, List.setIfInBounds_toArray, List.set_cons_succ, List.set_cons_zero]
  refine wpE_op rfl rfl (fun w' hw' K' hK' => ?_)
  have hE := hw'.1
  go_step
  refine hK' _ ⟨_, rfl⟩ ?_
  clear hK' K' hE hw' w'
  refine wpE_op rfl rfl (fun w' hw' K' hK' => ?_)
  have hE := hw'.1
  go_step
  refine hK' _ ⟨_, rfl⟩ ?_
  clear hK' K' hE hw' w'
  refine wpE_op rfl rfl (fun w' hw' K' hK' => ?_)
  have hE := hw'.1
  obtain ⟨u0, u1, u2, u3, u4, u5, u6, u7, u8, u9⟩ := (HP1.out.ext ((Ext.drew _).trans hE)).cells
  go_step
  refine hK' _ ⟨_, rfl⟩ ?_
  clear hK' K' u0 u1 u2 u3 u4 u5 u6 u7 u8 u9 hE hw' w'
  refine wpE_call 23 rfl (by simp) rfl (fun w' hw' K' hK' => ?_) ?_
  · have hE := hw'.1
    go_step
    refine (Itoa_at p.his z4.1 z4.2 _ (HPW.out.ext ((Ext.drew _).trans hE))).mono ?_
    rintro _ w2 ⟨rfl, hx⟩
    exact hK' _ _ ⟨_, rfl, rfl⟩ hx
  rintro _ w23x _ rfl
  simp only [Act.put, List.setIfInBounds_toArray, List.set_cons_succ, List.set_cons_zero]
  refine wpE_op rfl rfl (fun w' hw' K' hK' => ?_)
  have hE := hw'.1
  go_step
  refine hK' _ ⟨_, rfl⟩ ?_
  clear hK' K' hE hw' w'
  refine wpE_op rfl rfl (fun w' hw' K' hK' => ?_)
  have hE := hw'.1
  go_step
  refine hK' _ ⟨_, rfl⟩ ?_
  clear hK' K' hE hw' w'
  refine wpE_op rfl rfl (fun w' hw' K' hK' => ?_)
  have hE := hw'.1
  obtain ⟨u0, u1, u2, u3, u4, u5, u6, u7, u8, u9⟩ := (HP1.out.ext ((Ext.drew _).trans hE)).cells
  go_step
  refine hK' _ ⟨_, rfl⟩ ?_
  clear hK' K' u0 u1 u2 u3 u4 u5 u6 u7 u8 u9 hE hw' w'
  refine wpE_call 27 rfl (by simp) rfl (fun w' hw' K' hK' => ?_) ?_
  · have hE := hw'.1
    go_step
    refine (Itoa_at p.mina z5.1 z5.2 _ (HPW.out.ext ((Ext.drew _).trans hE))).mono ?_
    rintro _ w2 ⟨rfl, hx⟩
    exact hK' _ _ ⟨_, rfl, rfl⟩ hx
  rintro _ w27x _ rfl
  simp only [Act.put, List.setIfInBounds_toArray, List.set_cons_succ, List.set_cons_zero]
  refine wpE_op rfl rfl (fun w' hw' K' hK' => ?_)
  have hE := hw'.1
  go_step
  refine hK' _ ⟨_, rfl⟩ ?_
  clear hK' K' hE hw' w'
  refine wpE_op rfl rfl (fun w' hw' K' hK' => ?_)
  have hE := hw'.1
  go_step
  refine hK' _ ⟨_, rfl⟩ ?_
  clear hK' K' hE hw' w'
  refine wpE_op rfl rfl (fun w' hw' K' hK' => ?_)
  have hE := hw'.1
  go_step
  refine hK' _ ⟨_, rfl⟩ ?_
  clear hK' K' hE hw' w'
  refine wpE_op rfl rfl (fun w' hw' K' hK' => ?_)
  have hE := hw'.1
  obtain ⟨u0, u1, u2, u3, u4, u5, u6, u7, u8, u9⟩ := (HP1.out.ext ((Ext.drew _).trans hE)).cells
  go_step
  refine hK' _ ⟨_, rfl⟩ ?_
  clear hK' K' u0 u1 u2 u3 u4 u5 u6 u7 u8 u9 hE hw' w'
  refine wpE_call 32 rfl (by simp) rfl (fun w' hw' K' hK' => ?_) ?_
  · have hE := hw'.1
    go_step
    refine (Itoa_at p.maxa z6.1 z6.2 _ (HPW.out.ext ((Ext.drew _).trans hE))).mono ?_
    rintro _ w2 ⟨rfl, hx⟩
    exact hK' _ _ ⟨_, rfl, rfl⟩ hx
  rintro _ w32x _ rfl
  simp only [Act.put, List.setIfInBounds_toArray, List.set_cons_succ, List.set_cons_zero]
  refine wpE_op rfl rfl (fun w' hw' K' hK' => ?_)
  have hE := hw'.1
  go_step
  refine hK' _ ⟨_, rfl⟩ ?_
  clear hK' K' hE hw' w'
  refine wpE_op rfl rfl (fun w' hw' K' hK' => ?_)
  have hE := hw'.1
  go_step
  refine hK' _ ⟨_, rfl⟩ ?_
  clear hK' K' hE hw' w'
  refine wpE_op rfl rfl (fun w' hw' K' hK' => ?_)
  have hE := hw'.1
  obtain ⟨u0, u1, u2, u3, u4, u5, u6, u7, u8, u9⟩ := (HP1.out.ext ((Ext.drew _).trans hE)).cells
  go_step
  refine hK' _ ⟨_, rfl⟩ ?_
  clear hK' K' u0 u1 u2 u3 u4 u5 u6 u7 u8 u9 hE hw' w'
  refine wpE_call 36 rfl (by simp) rfl (fun w' hw' K' hK' => ?_) ?_
  · have hE := hw'.1
    go_step
    refine (Itoa_at p.fai z7.1 z7.2 _ (HPW.out.ext ((Ext.drew _).trans hE))).mono ?_
    rintro _ w2 ⟨rfl, hx⟩
    exact hK' _ _ ⟨_, rfl, rfl⟩ hx
  rintro _ w36x _ rfl
  simp only [Act.put, List.setIfInBounds_toArray, List.set_cons_succ, List.set_cons_zero]
  refine wpE_op rfl rfl (fun w' hw' K' hK' => ?_)
  have hE := hw'.1
  go_step
  refine hK' _ ⟨_, rfl⟩ ?_
  clear hK' K' hE hw' w'
  refine wpE_op rfl rfl (fun w' hw' K' hK' => ?_)
  have hE := hw'.1
  go_step
  refine hK' _ ⟨_, rfl⟩ ?_
  clear hK' K' hE hw' w'
  refine wpE_op rfl rfl (fun w' hw' K' hK' => ?_)
  have hE := hw'.1
  obtain ⟨u0, u1, u2, u3, u4, u5, u6, u7, u8, u9⟩ := (HP1.out.ext ((Ext.drew _).trans hE)).cells
  go_step
  refine hK' _ ⟨_, rfl⟩ ?_
  clear hK' K' u0 u1 u2 u3 u4 u5 u6 u7 u8 u9 hE hw' w'
  refine wpE_call 40 rfl (by simp) rfl (fun w' hw' K' hK' => ?_) ?_
  · have hE := hw'.1
    go_step
    refine (Itoa_at p.win z8.1 z8.2 _ (HPW.out.ext ((Ext.drew _).trans hE))).mono ?_
    rintro _ w2 ⟨rfl, hx⟩
    exact hK' _ _ ⟨_, rfl, rfl⟩ hx
  rintro _ w40x _ rfl
  simp only [Act.put, List.setIfInBounds_toArray, List.set_cons_succ, List.set_cons_zero]
  refine wpE_op rfl rfl (fun w' hw' K' hK' => ?_)
  have hE := hw'.1
  go_step
  refine hK' _ ⟨_, rfl⟩ ?_
  clear hK' K' hE hw' w'
  refine wpE_op rfl rfl (fun w' hw' K' hK' => ?_)
  have hE := hw'.1
  go_step
  refine hK' _ ⟨_, rfl⟩ ?_
  clear hK' K' hE hw' w'
  refine wpE_op rfl rfl (fun w' hw' K' hK' => ?_)
  have hE := hw'.1
  go_step
  refine hK' _ ⟨_, rfl⟩ ?_
  clear hK' K' hE hw' w'
  refine wpE_op rfl rfl (fun w' hw' K' hK' => ?_)
  have hE := hw'.1
  obtain ⟨u0, u1, u2, u3, u4, u5, u6, u7, u8, u9⟩ := (HP1.out.ext ((Ext.drew _).trans hE)).cells
  go_step
  refine hK' _ ⟨_, rfl⟩ ?_
  clear hK' K' u0 u1 u2 u3 u4 u5 u6 u7 u8 u9 hE hw' w'
  refine wpE_call 45 rfl (by simp) rfl (fun w' hw' K' hK' => ?_) ?_
  · have hE := hw'.1
    go_step
    refine (Itoa_at p.loc z9.1 z9.2 _ (HPW.out.ext ((Ext.drew _).trans hE))).mono ?_
    rintro _ w2 ⟨rfl, hx⟩
    exact hK' _ _ ⟨_, rfl, rfl⟩ hx
  rintro _ w45x _ rfl
  simp only [Act.put, List.setIfInBounds_toArray, List.set_cons_succ, List.set_cons_zero]
  refine wpE_op rfl rfl (fun w' hw' K' hK' => ?_)
  have hE := hw'.1
  go_step
  refine hK' _ ⟨_, rfl⟩ ?_
  clear hK' K' hE hw' w'
  refine wpE_call 47 rfl (by simp) rfl (fun w' hw' K' hK' => ?_) ?_
  · have hE := hw'.1
    have hrow := heap_alloc_new w' (.cells (stv WS).toArray 9)
    have hst : (stv WS).toArray = #[.string p.nm, .string ((⟨#[108, 101, 110, 103, 116, 104, 61]⟩ : ByteArray) ++ ⟨(Lib.itoa p.len).toArray⟩), .string ((⟨#[99, 108, 97, 115, 115, 101, 115, 61]⟩ : ByteArray) ++ ⟨(Lib.itoa p.cla).toArray⟩), .string ((⟨#[100, 105, 115, 116, 105, 110, 99, 116, 61]⟩ : ByteArray) ++ ⟨(Lib.itoa p.dis).toArray⟩),
        .string ((⟨#[104, 105, 115, 116, 111, 114, 121, 61]⟩ : ByteArray) ++ ⟨(Lib.itoa p.his).toArray⟩), .string ((((⟨#[97, 103, 101, 61]⟩ : ByteArray) ++ ⟨(Lib.itoa p.mina).toArray⟩) ++ ⟨#[46, 46]⟩) ++ ⟨(Lib.itoa p.maxa).toArray⟩), .string ((⟨#[102, 97, 105, 108, 115, 61]⟩ : ByteArray) ++ ⟨(Lib.itoa p.fai).toArray⟩),
        .string ((((⟨#[108, 111, 99, 107, 61]⟩ : ByteArray) ++ ⟨(Lib.itoa p.win).toArray⟩) ++ ⟨#[47]⟩) ++ ⟨(Lib.itoa p.loc).toArray⟩)] := by
      rw [HWD.out]
      simp only [stv, List.map_cons, List.map_nil]
      have ba (a b : ByteArray) (h : a.data.toList = b.data.toList) : Value.string a = Value.string b := by
        congr 1; apply ByteArray.ext; exact Array.toList_inj.1 h
      apply Array.toList_inj.1
      refine List.cons_eq_cons.2 ⟨ba _ _ (by simp), List.cons_eq_cons.2 ⟨ba _ _ (by simp [ByteArray.data_append, hLen]), List.cons_eq_cons.2 ⟨ba _ _ (by simp [ByteArray.data_append, hCla]), List.cons_eq_cons.2 ⟨ba _ _ (by simp [ByteArray.data_append, hDis]),
        List.cons_eq_cons.2 ⟨ba _ _ (by simp [ByteArray.data_append, hHis]), List.cons_eq_cons.2 ⟨ba _ _ (by simp [ByteArray.data_append, hAge]), List.cons_eq_cons.2 ⟨ba _ _ (by simp [ByteArray.data_append, hFai]), List.cons_eq_cons.2 ⟨ba _ _ (by simp [ByteArray.data_append, hLoc]), rfl⟩⟩⟩⟩⟩⟩⟩⟩
    have HROW := Lib.hid hrow; have HST := Lib.hid hst
    clear hrow hst
    go_step
    rw [← HST.out]
    exact hK' _ _ ⟨_, rfl, _, rfl, HROW.out⟩ ((Ext.refl _).alloc _)
  rintro v47 w47 hE47 ⟨g, rfl, hg⟩
  have HG := Lib.hid hg
  clear hg
  simp only [Act.put, List.setIfInBounds_toArray, List.set_cons_succ, List.set_cons_zero]
  refine wpE_call 48 rfl (by simp) rfl (fun w' hw' K' hK' => ?_) ?_
  · have hE := hw'.1
    have hM : Ext w47 w' := hw'.2 47 w47 (by simp [adds]) (by decide)
    have HJ := Lib.hid (join_at WS (stv WS).toArray g 8 w' (hM.heap HG.out) rfl (by rw [HWD.out]; rfl) (by rw [← HT.out]; have := HTL.out; omega) (by omega))
    go_step
    refine HJ.out.mono ?_
    rintro e w2 ⟨rfl, hx⟩
    exact hK' _ _ ⟨_, rfl, by rw [HT.out]; rfl⟩ hx
  rintro v48 w48 hE48 rfl
  simp only [Act.put, List.setIfInBounds_toArray, List.set_cons_succ, List.set_cons_zero]
  refine wpE_op rfl rfl (fun w' hw' K' hK' => ?_)
  have hE := hw'.1
  go_step
  refine hK' _ ⟨_, rfl⟩ ?_
  clear hK' K' hE hw' w'
  refine wpE_op rfl rfl (fun w' hw' K' hK' => ?_)
  have hE := hw'.1
  go_step
  refine hK' _ ⟨_, rfl⟩ ?_
  clear hK' K' hE hw' w'
  refine wpE_nil (fun W hW => ?_)
  have HXW := Lib.hid ((HX1.out.trans (Ext.drew _)).trans hW.1)
  clear hW
  go_wp2_with fail
  go_ret2
  exact ⟨rfl, HXW.out⟩
end Go.Proofs.YtgfjmmdkdhodiaaGreatDoor
