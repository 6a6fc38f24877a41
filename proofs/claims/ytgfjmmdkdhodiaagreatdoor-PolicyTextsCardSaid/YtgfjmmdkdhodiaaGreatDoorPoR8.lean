/- Policy: the reference's Decimal and Text. (wip/tools/genpo13.py printed this.) -/
import Derived.Test.YtgfjmmdkdhodiaaGreatDoorMg13
import Derived.Test.YtgfjmmdkdhodiaaGreatDoorMg0
import Derived.Test.YtgfjmmdkdhodiaaGreatDoorMg4
namespace Go.Proofs.YtgfjmmdkdhodiaaGreatDoor
open Go Go.RowKit
set_option linter.unusedVariables false

theorem baP_append (a b : List UInt8) : (⟨a.toArray⟩ : ByteArray) ++ ⟨b.toArray⟩ = ⟨(a ++ b).toArray⟩ := by
  apply ByteArray.ext
  simp [ByteArray.data_append]
theorem RDecimal_at (v : Int) (h0 : 0 ≤ v) (h1 : v ≤ 1099511627776) (w : World) :
    Calls Tryz.prog 53 #[.int .i64 v] w fun e w' => e = .returned (.string ⟨(Lib.itoa v).toArray⟩) ∧ Ext w w' := by
  obtain ⟨n, hn⟩ : ∃ n : Nat, v.toNat ≤ n := ⟨_, Nat.le_refl _⟩
  induction n using Nat.strongRecOn generalizing v w with
  | _ n ih =>
    have HN := Lib.hid hn; clear hn
    by_cases hlt : v < 10
    · obtain ⟨d, hd⟩ : ∃ d, UInt8.ofNat (48 + v.toNat) = d := ⟨_, rfl⟩
      have hdn : (d.toNat : Int) = 48 + v := by rw [← hd, u8_dig _ (by omega)]; omega
      have hcv : (convert 31 9 (.slice (some ⟨w.heap.size, 0, none⟩) 1 1)).run Tryz.prog (w.alloc (.cells #[.int .u8 (48 + v)] 5)) = .ok (.string ⟨#[d]⟩) (w.alloc (.cells #[.int .u8 (48 + v)] 5)) :=
        run_str _ _ _ 5 _ [d] Tryz.underlying31 Tryz.underlying5 Tryz.underlying9 (OB.lit w 5 0 [.int .u8 (48 + v)] [d] (by simp [bv, hdn]) 1 rfl (by simp [maxLen]) (by omega)).bs
      have hm : (48 + v) % 256 = 48 + v := by omega
      have HD := Lib.hid (show Lib.itoa v = [d] by rw [itoaP h0, dec_lo _ (by omega), hd])
      clear hd hdn ih
      go_enter Tryz.func53, Tryz.ntmps53
      go_wp2_with fail
      go_ret
      refine ⟨?_, (Ext.refl w).alloc _⟩
      rw [HD.out]; rfl
    · have I1 := Lib.hid (ih (v / 10).toNat (by have := HN.out; omega) (v / 10) (by omega) (by omega) w (Nat.le_refl _))
      have I2 := Lib.hid (fun (W : World) => ih (v % 10).toNat (by have := HN.out; omega) (v % 10) (by omega) (by omega) W (Nat.le_refl _))
      have HD := Lib.hid (show Lib.itoa v = Lib.itoa (v / 10) ++ Lib.itoa (v % 10) by
        rw [itoaP h0, itoaP (by omega : 0 ≤ v / 10), itoaP (by omega : 0 ≤ v % 10), dec_hi _ (by omega), dec_lo (v % 10).toNat (by omega)]
        congr 2
        · congr 1; omega
        · congr 2; omega)
      have l1 : (Lib.itoa (v / 10)).length ≤ 21 := itoa_len' (by omega) (by omega)
      have l2 : (Lib.itoa (v % 10)).length ≤ 21 := itoa_len' (by omega) (by omega)
      clear ih
      go_enter Tryz.func53, Tryz.ntmps53
      go_wp2_with fail
      refine I1.out.mono ?_
      rintro e w2 ⟨rfl, hx2⟩
      have HX2 := Lib.hid hx2; clear hx2
      go_wp2_with fail
      refine (I2.out w2).mono ?_
      rintro e w3 ⟨rfl, hx3⟩
      have HX3 := Lib.hid (HX2.out.trans hx3); clear hx3
      go_wp2_with fail
      go_ret
      refine ⟨?_, HX3.out⟩
      rw [HD.out, ← baP_append]; rfl
def DVp (x : Int) (v : Value) (_ : World) : Prop := v = .string ⟨(Lib.itoa x).toArray⟩
set_option maxRecDepth 100000 in
set_option maxHeartbeats 8000000 in
theorem RPoText_at (p : Pol) (hok : p.ok = true) (w : World) :
    Calls Tryz.prog 25 #[p.v] w fun e w' => e = .returned (.string ⟨p.text.toArray⟩) ∧ Ext w w' := by
  have hb := (Pol.ok_iff p).1 hok
  have l0 : p.nm.size ≤ 32 := by rw [← size_list]; exact (nmB_len hb.nm).2
  have z1 : 0 ≤ p.len ∧ p.len ≤ 1099511627776 := by have := hb.len; omega
  have l1 := itoa_len' z1.1 z1.2
  have z2 : 0 ≤ p.cla ∧ p.cla ≤ 1099511627776 := by have := hb.cla; omega
  have l2 := itoa_len' z2.1 z2.2
  have z3 : 0 ≤ p.dis ∧ p.dis ≤ 1099511627776 := by have := hb.dis; have := hb.len; omega
  have l3 := itoa_len' z3.1 z3.2
  have z4 : 0 ≤ p.his ∧ p.his ≤ 1099511627776 := by have := hb.his; omega
  have l4 := itoa_len' z4.1 z4.2
  have z5 : 0 ≤ p.mina ∧ p.mina ≤ 1099511627776 := by have := hb.mina; omega
  have l5 := itoa_len' z5.1 z5.2
  have z6 : 0 ≤ p.maxa ∧ p.maxa ≤ 1099511627776 := by have := hb.maxa; omega
  have l6 := itoa_len' z6.1 z6.2
  have z7 : 0 ≤ p.fai ∧ p.fai ≤ 1099511627776 := by have := hb.fai; omega
  have l7 := itoa_len' z7.1 z7.2
  have z8 : 0 ≤ p.win ∧ p.win ≤ 1099511627776 := by have := hb.win; omega
  have l8 := itoa_len' z8.1 z8.2
  have z9 : 0 ≤ p.loc ∧ p.loc ≤ 1099511627776 := by have := hb.loc; omega
  have l9 := itoa_len' z9.1 z9.2
  clear hb
  have h0 := heap_alloc_new w (.cells p.cs 23)
  obtain ⟨W1, e1⟩ : ∃ W, w.alloc (.cells p.cs 23) = W := ⟨_, rfl⟩
  have x1 : Ext w W1 := e1 ▸ (Ext.refl w).alloc _
  rw [e1] at h0
  have HP := Lib.hid (show PL W1 w.heap.size p from h0); have HX := Lib.hid x1
  have HT := Lib.hid (Pol.text_eq p)
  clear h0 x1 hok
  obtain ⟨L, hL⟩ : ∃ L, p.text = L := ⟨_, rfl⟩
  rw [hL] at HT ⊢
  clear hL
  go_enter Tryz.func25, Tryz.ntmps25
  unfold Pol.v
  unfold Pol.cs at e1
  go_wp2_with fail
  refine wp_region_ext (fun i v' w' => match i with | 5 => DVp p.len v' w' | 10 => DVp p.cla v' w' | 15 => DVp p.dis v' w' | 20 => DVp p.his v' w' | 25 => DVp p.mina v' w' | 30 => DVp p.maxa v' w' | 35 => DVp p.fai v' w' | 40 => DVp p.win v' w' | 45 => DVp p.loc v' w' | _ => False) (by kernel_rfl) (by kernel_rfl) ?_
  refine wpE_op rfl rfl (fun w' hw' K' hK' => ?_)
  have hE := hw'.1
  go_step
  refine hK' _ ⟨_, rfl⟩ ?_
  clear hK' K' hE hw' w'
  refine wpE_op rfl rfl (fun w' hw' K' hK' => ?_)
  have hE := hw'.1
  obtain ⟨u0, u1, u2, u3, u4, u5, u6, u7, u8, u9⟩ := (HP.out.ext ((Ext.drew _).trans hE)).cells
  go_step
  refine hK' _ ⟨_, rfl⟩ ?_
  clear hK' K' u0 u1 u2 u3 u4 u5 u6 u7 u8 u9 hE hw' w'
  refine wpE_op rfl rfl (fun w' hw' K' hK' => ?_)
  have hE := hw'.1
  go_step
  refine hK' _ ⟨_, rfl⟩ ?_
  clear hK' K' hE hw' w'
  refine wpE_op rfl rfl (fun w' hw' K' hK' => ?_)
  have hE := hw'.1
  go_step
  refine hK' _ ⟨_, rfl⟩ ?_
  clear hK' K' hE hw' w'
  refine wpE_op rfl rfl (fun w' hw' K' hK' => ?_)
  have hE := hw'.1
  obtain ⟨u0, u1, u2, u3, u4, u5, u6, u7, u8, u9⟩ := (HP.out.ext ((Ext.drew _).trans hE)).cells
  go_step
  refine hK' _ ⟨_, rfl⟩ ?_
  clear hK' K' u0 u1 u2 u3 u4 u5 u6 u7 u8 u9 hE hw' w'
  refine wpE_call 8 rfl (by simp) rfl (fun w' hw' K' hK' => ?_) ?_
  · have hE := hw'.1
    go_step
    refine (RDecimal_at p.len z1.1 z1.2 _).mono ?_
    rintro _ w2 ⟨rfl, hx⟩
    exact hK' _ _ ⟨_, rfl, rfl⟩ hx
  rintro _ w8x _ rfl
  simp only [Act.put, List.setIfInBounds_toArray, List.set_cons_succ, List.set_cons_zero]
  refine wpE_op rfl rfl (fun w' hw' K' hK' => ?_)
  have hE := hw'.1
  go_step
  refine hK' _ ⟨_, rfl⟩ ?_
  clear hK' K' hE hw' w'
  refine wpE_op rfl rfl (fun w' hw' K' hK' => ?_)
  have hE := hw'.1
  go_step
  refine hK' _ ⟨_, rfl⟩ ?_
  clear hK' K' hE hw' w'
  refine wpE_op rfl rfl (fun w' hw' K' hK' => ?_)
  have hE := hw'.1
  go_step
  refine hK' _ ⟨_, rfl⟩ ?_
  clear hK' K' hE hw' w'
  refine wpE_op rfl rfl (fun w' hw' K' hK' => ?_)
  have hE := hw'.1
  obtain ⟨u0, u1, u2, u3, u4, u5, u6, u7, u8, u9⟩ := (HP.out.ext ((Ext.drew _).trans hE)).cells
  go_step
  refine hK' _ ⟨_, rfl⟩ ?_
  clear hK' K' u0 u1 u2 u3 u4 u5 u6 u7 u8 u9 hE hw' w'
  refine wpE_call 13 rfl (by simp) rfl (fun w' hw' K' hK' => ?_) ?_
  · have hE := hw'.1
    go_step
    refine (RDecimal_at p.cla z2.1 z2.2 _).mono ?_
    rintro _ w2 ⟨rfl, hx⟩
    exact hK' _ _ ⟨_, rfl, rfl⟩ hx
  rintro _ w13x _ rfl
  simp only [Act.put, List.setIfInBounds_toArray, List.set_cons_succ, List.set_cons_zero]
  refine wpE_op rfl rfl (fun w' hw' K' hK' => ?_)
  have hE := hw'.1
  go_step
  refine hK' _ ⟨_, rfl⟩ ?_
  clear hK' K' hE hw' w'
  refine wpE_op rfl rfl (fun w' hw' K' hK' => ?_)
  have hE := hw'.1
  go_step
  refine hK' _ ⟨_, rfl⟩ ?_
  clear hK' K' hE hw' w'
  refine wpE_op rfl rfl (fun w' hw' K' hK' => ?_)
  have hE := hw'.1
  go_step
  refine hK' _ ⟨_, rfl⟩ ?_
  clear hK' K' hE hw' w'
  refine wpE_op rfl rfl (fun w' hw' K' hK' => ?_)
  have hE := hw'.1
  obtain ⟨u0, u1, u2, u3, u4, u5, u6, u7, u8, u9⟩ := (HP.out.ext ((Ext.drew _).trans hE)).cells
  go_step
  refine hK' _ ⟨_, rfl⟩ ?_
  clear hK' K' u0 u1 u2 u3 u4 u5 u6 u7 u8 u9 hE hw' w'
  refine wpE_call 18 rfl (by simp) rfl (fun w' hw' K' hK' => ?_) ?_
  · have hE := hw'.1
    go_step
    refine (RDecimal_at p.dis z3.1 z3.2 _).mono ?_
    rintro _ w2 ⟨rfl, hx⟩
    exact hK' _ _ ⟨_, rfl, rfl⟩ hx
  rintro _ w18x _ rfl
  simp only [Act.put, List.setIfInBounds_toArray, List.set_cons_succ, List.set_cons_zero]
  refine wpE_op rfl rfl (fun w' hw' K' hK' => ?_)
  have hE := hw'.1
  go_step
  refine hK' _ ⟨_, rfl⟩ ?_
  clear hK' K' hE hw' w'
  refine wpE_op rfl rfl (fun w' hw' K' hK' => ?_)
  have hE := hw'.1
  go_step
  refine hK' _ ⟨_, rfl⟩ ?_
  clear hK' K' hE hw' w'
  refine wpE_op rfl rfl (fun w' hw' K' hK' => ?_)
  have hE := hw'.1
  go_step
  refine hK' _ ⟨_, rfl⟩ ?_
  clear hK' K' hE hw' w'
  refine wpE_op rfl rfl (fun w' hw' K' hK' => ?_)
  have hE := hw'.1
  obtain ⟨u0, u1, u2, u3, u4, u5, u6, u7, u8, u9⟩ := (HP.out.ext ((Ext.drew _).trans hE)).cells
  go_step
  refine hK' _ ⟨_, rfl⟩ ?_
  clear hK' K' u0 u1 u2 u3 u4 u5 u6 u7 u8 u9 hE hw' w'
  refine wpE_call 23 rfl (by simp) rfl (fun w' hw' K' hK' => ?_) ?_
  · have hE := hw'.1
    go_step
    refine (RDecimal_at p.his z4.1 z4.2 _).mono ?_
    rintro _ w2 ⟨rfl, hx⟩
    exact hK' _ _ ⟨_, rfl, rfl⟩ hx
  rintro _ w23x _ rfl
  simp only [Act.put, List.setIfInBounds_toArray, List.set_cons_succ, List.set_cons_zero]
  refine wpE_op rfl rfl (fun w' hw' K' hK' => ?_)
  have hE := hw'.1
  go_step
  refine hK' _ ⟨_, rfl⟩ ?_
  clear hK' K' hE hw' w'
  refine wpE_op rfl rfl (fun w' hw' K' hK' => ?_)
  have hE := hw'.1
  go_step
  refine hK' _ ⟨_, rfl⟩ ?_
  clear hK' K' hE hw' w'
  refine wpE_op rfl rfl (fun w' hw' K' hK' => ?_)
  have hE := hw'.1
  go_step
  refine hK' _ ⟨_, rfl⟩ ?_
  clear hK' K' hE hw' w'
  refine wpE_op rfl rfl (fun w' hw' K' hK' => ?_)
  have hE := hw'.1
  obtain ⟨u0, u1, u2, u3, u4, u5, u6, u7, u8, u9⟩ := (HP.out.ext ((Ext.drew _).trans hE)).cells
  go_step
  refine hK' _ ⟨_, rfl⟩ ?_
  clear hK' K' u0 u1 u2 u3 u4 u5 u6 u7 u8 u9 hE hw' w'
  refine wpE_call 28 rfl (by simp) rfl (fun w' hw' K' hK' => ?_) ?_
  · have hE := hw'.1
    go_step
    refine (RDecimal_at p.mina z5.1 z5.2 _).mono ?_
    rintro _ w2 ⟨rfl, hx⟩
    exact hK' _ _ ⟨_, rfl, rfl⟩ hx
  rintro _ w28x _ rfl
  simp only [Act.put, List.setIfInBounds_toArray, List.set_cons_succ, List.set_cons_zero]
  refine wpE_op rfl rfl (fun w' hw' K' hK' => ?_)
  have hE := hw'.1
  go_step
  refine hK' _ ⟨_, rfl⟩ ?_
  clear hK' K' hE hw' w'
  refine wpE_op rfl rfl (fun w' hw' K' hK' => ?_)
  have hE := hw'.1
  go_step
  refine hK' _ ⟨_, rfl⟩ ?_
  clear hK' K' hE hw' w'
  refine wpE_op rfl rfl (fun w' hw' K' hK' => ?_)
  have hE := hw'.1
  go_step
  refine hK' _ ⟨_, rfl⟩ ?_
  clear hK' K' hE hw' w'
  refine wpE_op rfl rfl (fun w' hw' K' hK' => ?_)
  have hE := hw'.1
  obtain ⟨u0, u1, u2, u3, u4, u5, u6, u7, u8, u9⟩ := (HP.out.ext ((Ext.drew _).trans hE)).cells
  go_step
  refine hK' _ ⟨_, rfl⟩ ?_
  clear hK' K' u0 u1 u2 u3 u4 u5 u6 u7 u8 u9 hE hw' w'
  refine wpE_call 33 rfl (by simp) rfl (fun w' hw' K' hK' => ?_) ?_
  · have hE := hw'.1
    go_step
    refine (RDecimal_at p.maxa z6.1 z6.2 _).mono ?_
    rintro _ w2 ⟨rfl, hx⟩
    exact hK' _ _ ⟨_, rfl, rfl⟩ hx
  rintro _ w33x _ rfl
  simp only [Act.put, List.setIfInBounds_toArray, List.set_cons_succ, List.set_cons_zero]
  refine wpE_op rfl rfl (fun w' hw' K' hK' => ?_)
  have hE := hw'.1
  go_step
  refine hK' _ ⟨_, rfl⟩ ?_
  clear hK' K' hE hw' w'
  refine wpE_op rfl rfl (fun w' hw' K' hK' => ?_)
  have hE := hw'.1
  go_step
  refine hK' _ ⟨_, rfl⟩ ?_
  clear hK' K' hE hw' w'
  refine wpE_op rfl rfl (fun w' hw' K' hK' => ?_)
  have hE := hw'.1
  go_step
  refine hK' _ ⟨_, rfl⟩ ?_
  clear hK' K' hE hw' w'
  refine wpE_op rfl rfl (fun w' hw' K' hK' => ?_)
  have hE := hw'.1
  obtain ⟨u0, u1, u2, u3, u4, u5, u6, u7, u8, u9⟩ := (HP.out.ext ((Ext.drew _).trans hE)).cells
  go_step
  refine hK' _ ⟨_, rfl⟩ ?_
  clear hK' K' u0 u1 u2 u3 u4 u5 u6 u7 u8 u9 hE hw' w'
  refine wpE_call 38 rfl (by simp) rfl (fun w' hw' K' hK' => ?_) ?_
  · have hE := hw'.1
    go_step
    refine (RDecimal_at p.fai z7.1 z7.2 _).mono ?_
    rintro _ w2 ⟨rfl, hx⟩
    exact hK' _ _ ⟨_, rfl, rfl⟩ hx
  rintro _ w38x _ rfl
  simp only [Act.put, List.setIfInBounds_toArray, List.set_cons_succ, List.set_cons_zero]
  refine wpE_op rfl rfl (fun w' hw' K' hK' => ?_)
  have hE := hw'.1
  go_step
  refine hK' _ ⟨_, rfl⟩ ?_
  clear hK' K' hE hw' w'
  refine wpE_op rfl rfl (fun w' hw' K' hK' => ?_)
  have hE := hw'.1
  go_step
  refine hK' _ ⟨_, rfl⟩ ?_
  clear hK' K' hE hw' w'
  refine wpE_op rfl rfl (fun w' hw' K' hK' => ?_)
  have hE := hw'.1
  go_step
  refine hK' _ ⟨_, rfl⟩ ?_
  clear hK' K' hE hw' w'
  refine wpE_op rfl rfl (fun w' hw' K' hK' => ?_)
  have hE := hw'.1
  obtain ⟨u0, u1, u2, u3, u4, u5, u6, u7, u8, u9⟩ := (HP.out.ext ((Ext.drew _).trans hE)).cells
  go_step
  refine hK' _ ⟨_, rfl⟩ ?_
  clear hK' K' u0 u1 u2 u3 u4 u5 u6 u7 u8 u9 hE hw' w'
  refine wpE_call 43 rfl (by simp) rfl (fun w' hw' K' hK' => ?_) ?_
  · have hE := hw'.1
    go_step
    refine (RDecimal_at p.win z8.1 z8.2 _).mono ?_
    rintro _ w2 ⟨rfl, hx⟩
    exact hK' _ _ ⟨_, rfl, rfl⟩ hx
  rintro _ w43x _ rfl
  simp only [Act.put, List.setIfInBounds_toArray, List.set_cons_succ, List.set_cons_zero]
  refine wpE_op rfl rfl (fun w' hw' K' hK' => ?_)
  have hE := hw'.1
  go_step
  refine hK' _ ⟨_, rfl⟩ ?_
  clear hK' K' hE hw' w'
  refine wpE_op rfl rfl (fun w' hw' K' hK' => ?_)
  have hE := hw'.1
  go_step
  refine hK' _ ⟨_, rfl⟩ ?_
  clear hK' K' hE hw' w'
  refine wpE_op rfl rfl (fun w' hw' K' hK' => ?_)
  have hE := hw'.1
  go_step
  refine hK' _ ⟨_, rfl⟩ ?_
  clear hK' K' hE hw' w'
  refine wpE_op rfl rfl (fun w' hw' K' hK' => ?_)
  have hE := hw'.1
  obtain ⟨u0, u1, u2, u3, u4, u5, u6, u7, u8, u9⟩ := (HP.out.ext ((Ext.drew _).trans hE)).cells
  go_step
  refine hK' _ ⟨_, rfl⟩ ?_
  clear hK' K' u0 u1 u2 u3 u4 u5 u6 u7 u8 u9 hE hw' w'
  refine wpE_call 48 rfl (by simp) rfl (fun w' hw' K' hK' => ?_) ?_
  · have hE := hw'.1
    go_step
    refine (RDecimal_at p.loc z9.1 z9.2 _).mono ?_
    rintro _ w2 ⟨rfl, hx⟩
    exact hK' _ _ ⟨_, rfl, rfl⟩ hx
  rintro _ w48x _ rfl
  simp only [Act.put, List.setIfInBounds_toArray, List.set_cons_succ, List.set_cons_zero]
  refine wpE_op rfl rfl (fun w' hw' K' hK' => ?_)
  have hE := hw'.1
  go_step
  refine hK' _ ⟨_, rfl⟩ ?_
  clear hK' K' hE hw' w'
  refine wpE_op rfl rfl (fun w' hw' K' hK' => ?_)
  have hE := hw'.1
  go_step
  refine hK' _ ⟨_, rfl⟩ ?_
  clear hK' K' hE hw' w'
  refine wpE_nil (fun W hW => ?_)
  have HXW := Lib.hid ((HX.out.trans (Ext.drew _)).trans hW.1)
  clear hW
  go_wp2_with fail
  go_ret
  refine ⟨?_, HXW.out⟩
  rw [HT.out]
  refine congrArg (fun b => Ending.returned (.string b)) ?_
  apply ByteArray.ext
  apply Array.toList_inj.1
  simp [ByteArray.data_append, hLen, hCla, hDis, hHis, hAge, hFai, hLoc]
end Go.Proofs.YtgfjmmdkdhodiaaGreatDoor
