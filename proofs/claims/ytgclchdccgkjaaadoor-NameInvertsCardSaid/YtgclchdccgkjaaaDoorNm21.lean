/- Names: the program's Target. (wip/tools/gennm21.py printed this.) -/
import Derived.Test.YtgclchdccgkjaaaDoorMg33
namespace Go.Proofs.YtgclchdccgkjaaaDoor
open Go Go.RowKit
set_option linter.unusedVariables false

/-- The realm of which a name is the ticket-granting service. -/
def tgB (ls : List (List UInt8)) (r : List UInt8) : Bool := nameB ls r && (match ls with | [p, q] => (p == krb.data.toList) && realmB q | _ => false)
def tgV (ls : List (List UInt8)) : List UInt8 := match ls with | [_, q] => q | _ => []

set_option maxRecDepth 100000 in
set_option maxHeartbeats 1000000 in
theorem Target_few (A : Option Addr) (c : Nat) (ps : List ByteArray) (r : ByteArray) (hps : ∀ p ∈ ps, p.size ≤ 4294967280) (hr : r.size ≤ 4294967280) (w : World) (hR : RS w (.slice A ps.length c) (sv ps)) (hn : (nameB (dat ps) r.data.toList && ((ps.length : Int) == 2)) = false) :
    Calls Tryd.prog 26 #[.agg #[.slice A ps.length c, .string r]] w fun e w' => e = .returned (.tuple #[.string ⟨#[]⟩, .bool false]) ∧ Ext w w' := by
  have hT := heap_alloc_new w (.cells #[.slice A ps.length c, .string r] 24)
  have hX := (Ext.refl w).alloc (.cells #[.slice A ps.length c, .string r] 24)
  obtain ⟨wb, hwb⟩ : ∃ wb, wb = w.alloc (.cells #[.slice A ps.length c, .string r] 24) := ⟨_, rfl⟩
  rw [← hwb] at hT hX
  have HT : Hid (PB wb w.heap.size (.slice A ps.length c) r) := Lib.hid hT
  have HX := Lib.hid hX
  have HV := Lib.hid (fun W hW => NValid_at A c ps r hps hr W (hR.ext (hX.trans hW)))
  obtain ⟨q0, q1⟩ := HT.out.cells
  obtain ⟨b1, hb1⟩ : ∃ b, nameB (dat ps) r.data.toList = b := ⟨_, rfl⟩
  obtain ⟨b2, hb2⟩ : ∃ b, ((ps.length : Int) == 2) = b := ⟨_, rfl⟩
  rw [hb1, hb2] at hn
  have HB1 := Lib.hid hb1
  have HB3 := Lib.hid (show [b1, b2].all id = false by simpa using hn)
  clear hT hX hR hb1 hn hps hr
  go_enter Tryd.func26, Tryd.ntmps26
  go_wp2_with fail
  rw [← hwb]
  clear hwb
  clear q0 q1
  refine wp_region_ext (fun i v' w' => match i with | 1 => v' = .bool b1 | 6 => RS w' v' [.bool b1, .bool b2] | 7 => v' = .bool false | _ => False) (by kernel_rfl) (by kernel_rfl) ?_
  refine wpE_op rfl rfl (fun w' hw' K' hK' => ?_)
  have hE := hw'.1
  obtain ⟨u0, u1⟩ := (HT.out.ext ((Ext.drew wb).trans hE)).cells
  go_step
  refine hK' _ ⟨_, rfl⟩ ?_
  clear hK' K' u0 u1 hE hw' w'
  refine wpE_call 5 rfl (by simp) rfl (fun w' hw' K' hK' => ?_) ?_
  · have hE := hw'.1
    go_step
    refine (HV.out w' ((Ext.drew wb).trans hE)).mono ?_
    rintro _ w2 ⟨rfl, hx⟩
    exact hK' _ _ ⟨_, rfl, by rw [HB1.out]; exact Eq.refl (Value.bool b1)⟩ hx
  rintro _ w6 _ rfl
  simp only [Act.put, List.setIfInBounds_toArray, List.set_cons_succ, List.set_cons_zero]
  refine wpE_op rfl rfl (fun w' hw' K' hK' => ?_)
  have hE := hw'.1
  go_step
  refine hK' _ ⟨_, rfl⟩ ?_
  clear hK' K' hE hw' w'
  refine wpE_op rfl rfl (fun w' hw' K' hK' => ?_)
  have hE := hw'.1
  obtain ⟨u0, u1⟩ := (HT.out.ext ((Ext.drew wb).trans hE)).cells
  go_step
  refine hK' _ ⟨_, rfl⟩ ?_
  clear hK' K' u0 u1 hE hw' w'
  refine wpE_op rfl rfl (fun w' hw' K' hK' => ?_)
  have hE := hw'.1
  go_step
  refine hK' _ ⟨_, rfl⟩ ?_
  clear hK' K' hE hw' w'
  refine wpE_op rfl rfl (fun w' hw' K' hK' => ?_)
  have hE := hw'.1
  go_step
  refine hK' _ ⟨_, rfl⟩ ?_
  clear hK' K' hE hw' w'
  refine wpE_call 10 rfl (by simp) rfl (fun w' hw' K' hK' => ?_) ?_
  · have hE := hw'.1
    go_step
    exact hK' _ _ ⟨_, rfl, RS.new w' 4 [.bool b1, .bool b2] (by simp [maxLen])⟩ ((Ext.refl w').alloc _)
  rintro v8 w8 _ ⟨A8, c8, rfl, hl8, hm8, hc8⟩
  have hR8 : RS w8 (.slice A8 2 c8) [.bool b1, .bool b2] := ⟨A8, c8, rfl, hl8, hm8, hc8⟩
  clear hl8 hm8 hc8
  simp only [Act.put, List.setIfInBounds_toArray, List.set_cons_succ, List.set_cons_zero]
  refine wpE_call 11 rfl (by simp) rfl (fun w' hw' K' hK' => ?_) ?_
  · have hE := hw'.1
    have hM : Ext w8 w' := hw'.2 10 w8 (by simp [adds]) (by decide)
    go_step
    refine (all_at A8 c8 [b1, b2] w' (hR8.ext hM)).mono ?_
    rintro _ w2 ⟨rfl, rfl⟩
    exact hK' _ _ ⟨_, rfl, by rw [HB3.out]; exact Eq.refl (Value.bool false)⟩ (Ext.refl _)
  rintro _ w9 _ rfl
  simp only [Act.put, List.setIfInBounds_toArray, List.set_cons_succ, List.set_cons_zero]
  refine wpE_op rfl rfl (fun w' hw' K' hK' => ?_)
  have hE := hw'.1
  go_step
  refine hK' _ ⟨_, rfl⟩ ?_
  clear hK' K' hE hw' w'
  refine wpE_op rfl rfl (fun w' hw' K' hK' => ?_)
  have hE := hw'.1
  go_step
  refine hK' _ ⟨_, rfl⟩ ?_
  clear hK' K' hE hw' w'
  try simp only [Act.put, List.setIfInBounds_toArray, List.set_cons_succ, List.set_cons_zero]
  refine wpE_no (k := _) (o := _) (rest := _) (a := _) (Ws := _) ?hn ?_
  case hn => rfl
  simp only [Act.put, List.setIfInBounds_toArray, List.set_cons_succ, List.set_cons_zero]
  try simp only [Act.put, List.setIfInBounds_toArray, List.set_cons_succ, List.set_cons_zero]
  refine wpE_no (k := _) (o := _) (rest := _) (a := _) (Ws := _) ?hn ?_
  case hn => rfl
  simp only [Act.put, List.setIfInBounds_toArray, List.set_cons_succ, List.set_cons_zero]
  try simp only [Act.put, List.setIfInBounds_toArray, List.set_cons_succ, List.set_cons_zero]
  refine wpE_no (k := _) (o := _) (rest := _) (a := _) (Ws := _) ?hn ?_
  case hn => rfl
  simp only [Act.put, List.setIfInBounds_toArray, List.set_cons_succ, List.set_cons_zero]
  try simp only [Act.put, List.setIfInBounds_toArray, List.set_cons_succ, List.set_cons_zero]
  refine wpE_no (k := _) (o := _) (rest := _) (a := _) (Ws := _) ?hn ?_
  case hn => rfl
  simp only [Act.put, List.setIfInBounds_toArray, List.set_cons_succ, List.set_cons_zero]
  try simp only [Act.put, List.setIfInBounds_toArray, List.set_cons_succ, List.set_cons_zero]
  refine wpE_no (k := _) (o := _) (rest := _) (a := _) (Ws := _) ?hn ?_
  case hn => rfl
  simp only [Act.put, List.setIfInBounds_toArray, List.set_cons_succ, List.set_cons_zero]
  refine wpE_op rfl rfl (fun w' hw' K' hK' => ?_)
  have hE := hw'.1
  go_step
  refine hK' _ ⟨_, rfl⟩ ?_
  clear hK' K' hE hw' w'
  refine wpE_op rfl rfl (fun w' hw' K' hK' => ?_)
  have hE := hw'.1
  go_step
  refine hK' _ ⟨_, rfl⟩ ?_
  clear hK' K' hE hw' w'
  try simp only [Act.put, List.setIfInBounds_toArray, List.set_cons_succ, List.set_cons_zero]
  refine wpE_no (k := _) (o := _) (rest := _) (a := _) (Ws := _) ?hn ?_
  case hn => rfl
  simp only [Act.put, List.setIfInBounds_toArray, List.set_cons_succ, List.set_cons_zero]
  try simp only [Act.put, List.setIfInBounds_toArray, List.set_cons_succ, List.set_cons_zero]
  refine wpE_no (k := _) (o := _) (rest := _) (a := _) (Ws := _) ?hn ?_
  case hn => rfl
  simp only [Act.put, List.setIfInBounds_toArray, List.set_cons_succ, List.set_cons_zero]
  try simp only [Act.put, List.setIfInBounds_toArray, List.set_cons_succ, List.set_cons_zero]
  refine wpE_no (k := _) (o := _) (rest := _) (a := _) (Ws := _) ?hn ?_
  case hn => rfl
  simp only [Act.put, List.setIfInBounds_toArray, List.set_cons_succ, List.set_cons_zero]
  try simp only [Act.put, List.setIfInBounds_toArray, List.set_cons_succ, List.set_cons_zero]
  refine wpE_no (k := _) (o := _) (rest := _) (a := _) (Ws := _) ?hn ?_
  case hn => rfl
  simp only [Act.put, List.setIfInBounds_toArray, List.set_cons_succ, List.set_cons_zero]
  try simp only [Act.put, List.setIfInBounds_toArray, List.set_cons_succ, List.set_cons_zero]
  refine wpE_no (k := _) (o := _) (rest := _) (a := _) (Ws := _) ?hn ?_
  case hn => rfl
  simp only [Act.put, List.setIfInBounds_toArray, List.set_cons_succ, List.set_cons_zero]
  try simp only [Act.put, List.setIfInBounds_toArray, List.set_cons_succ, List.set_cons_zero]
  refine wpE_no (k := _) (o := _) (rest := _) (a := _) (Ws := _) ?hn ?_
  case hn => rfl
  simp only [Act.put, List.setIfInBounds_toArray, List.set_cons_succ, List.set_cons_zero]
  refine wpE_op rfl rfl (fun w' hw' K' hK' => ?_)
  have hE := hw'.1
  go_step
  refine hK' _ ⟨_, rfl⟩ ?_
  clear hK' K' hE hw' w'
  refine wpE_nil (fun w' hw' => ?_)
  have hE := hw'.1
  go_wp2_with fail
  go_ret2
  exact ⟨rfl, HX.out.trans ((Ext.drew wb).trans hE)⟩

set_option maxRecDepth 100000 in
set_option maxHeartbeats 1000000 in
theorem Target_other (A : Option Addr) (c : Nat) (p q r : ByteArray) (hps : ∀ x ∈ [p, q], x.size ≤ 4294967280) (hr : r.size ≤ 4294967280) (w : World) (hR : RS w (.slice A 2 c) (sv [p, q])) (hv : nameB (dat [p, q]) r.data.toList = true) (hk : p.data.toList ≠ krb.data.toList) :
    Calls Tryd.prog 26 #[.agg #[.slice A 2 c, .string r]] w fun e w' => e = .returned (.tuple #[.string ⟨#[]⟩, .bool false]) ∧ Ext w w' := by
  obtain ⟨ad, hadA, hblt, hcell⟩ : ∃ ad, A = some ad ∧ ad.block < w.heap.size ∧ ∀ j u, (sv [p, q])[j]? = some u → w.cell? (ad.add j) = some u := by
    obtain ⟨A', c', he, _, _, e3⟩ := hR
    injection he with z1 _ _
    subst z1
    exact e3 (by simp [sv])
  subst hadA
  have HC0 := Lib.hid (show w.cell? ad = some (.string p) by have h := hcell 0 _ rfl; rwa [show ad.add 0 = ad by unfold Addr.add; simp] at h); have HC1 := Lib.hid (show w.cell? ⟨ad.block, ad.off + 1, none⟩ = some (.string q) by have h := hcell 1 _ rfl; rwa [show ad.add 1 = ⟨ad.block, ad.off + 1, none⟩ by unfold Addr.add; simp] at h)
  have hq : q.size ≤ 4294967280 := hps q (by simp)
  have HQ := Lib.hid hv
  have hT := heap_alloc_new w (.cells #[.slice (some ad) 2 c, .string r] 24)
  have hX := (Ext.refl w).alloc (.cells #[.slice (some ad) 2 c, .string r] 24)
  obtain ⟨wb, hwb⟩ : ∃ wb, wb = w.alloc (.cells #[.slice (some ad) 2 c, .string r] 24) := ⟨_, rfl⟩
  rw [← hwb] at hT hX
  have HT : Hid (PB wb w.heap.size (.slice (some ad) 2 c) r) := Lib.hid hT
  have HX := Lib.hid hX
  have HV := Lib.hid (fun W hW => NValid_at (some ad) c [p, q] r hps hr W (hR.ext (hX.trans hW)))
  obtain ⟨q0, q1⟩ := HT.out.cells
  obtain ⟨b1, hb1⟩ : ∃ b, nameB (dat [p, q]) r.data.toList = b := ⟨_, rfl⟩
  have hbt : b1 = true := hb1.symm.trans hv
  subst hbt
  obtain ⟨b2, hb2⟩ : ∃ b, true = b := ⟨_, rfl⟩
  subst hb2
  have HB1 := Lib.hid hb1
  have HB3 := Lib.hid (show [true, true].all id = true from rfl)
  clear hT hX hR hb1 hv hps hr hcell hblt
  have e1 : (p.toList == [107, 114, 98, 116, 103, 116]) = false := by rw [ByteArray.toList_eq, beq_eq_false_iff_ne]; exact hk
  clear hk
  go_enter Tryd.func26, Tryd.ntmps26
  go_wp2_with fail
  rw [← hwb]
  clear hwb
  clear q0 q1
  refine wp_region_ext (fun i v' w' => match i with | 1 => v' = .bool true | 6 => RS w' v' [.bool true, .bool true] | 7 => v' = .bool true | _ => False) (by kernel_rfl) (by kernel_rfl) ?_
  refine wpE_op rfl rfl (fun w' hw' K' hK' => ?_)
  have hE := hw'.1
  obtain ⟨u0, u1⟩ := (HT.out.ext ((Ext.drew wb).trans hE)).cells
  go_step
  refine hK' _ ⟨_, rfl⟩ ?_
  clear hK' K' u0 u1 hE hw' w'
  refine wpE_call 5 rfl (by simp) rfl (fun w' hw' K' hK' => ?_) ?_
  · have hE := hw'.1
    go_step
    refine (HV.out w' ((Ext.drew wb).trans hE)).mono ?_
    rintro _ w2 ⟨rfl, hx⟩
    exact hK' _ _ ⟨_, rfl, by rw [HB1.out]; exact Eq.refl (Value.bool true)⟩ hx
  rintro _ w6 _ rfl
  simp only [Act.put, List.setIfInBounds_toArray, List.set_cons_succ, List.set_cons_zero]
  refine wpE_op rfl rfl (fun w' hw' K' hK' => ?_)
  have hE := hw'.1
  go_step
  refine hK' _ ⟨_, rfl⟩ ?_
  clear hK' K' hE hw' w'
  refine wpE_op rfl rfl (fun w' hw' K' hK' => ?_)
  have hE := hw'.1
  obtain ⟨u0, u1⟩ := (HT.out.ext ((Ext.drew wb).trans hE)).cells
  go_step
  refine hK' _ ⟨_, rfl⟩ ?_
  clear hK' K' u0 u1 hE hw' w'
  refine wpE_op rfl rfl (fun w' hw' K' hK' => ?_)
  have hE := hw'.1
  go_step
  refine hK' _ ⟨_, rfl⟩ ?_
  clear hK' K' hE hw' w'
  refine wpE_op rfl rfl (fun w' hw' K' hK' => ?_)
  have hE := hw'.1
  go_step
  refine hK' _ ⟨_, rfl⟩ ?_
  clear hK' K' hE hw' w'
  refine wpE_call 10 rfl (by simp) rfl (fun w' hw' K' hK' => ?_) ?_
  · have hE := hw'.1
    go_step
    exact hK' _ _ ⟨_, rfl, RS.new w' 4 [.bool true, .bool true] (by simp [maxLen])⟩ ((Ext.refl w').alloc _)
  rintro v8 w8 _ ⟨A8, c8, rfl, hl8, hm8, hc8⟩
  have hR8 : RS w8 (.slice A8 2 c8) [.bool true, .bool true] := ⟨A8, c8, rfl, hl8, hm8, hc8⟩
  clear hl8 hm8 hc8
  simp only [Act.put, List.setIfInBounds_toArray, List.set_cons_succ, List.set_cons_zero]
  refine wpE_call 11 rfl (by simp) rfl (fun w' hw' K' hK' => ?_) ?_
  · have hE := hw'.1
    have hM : Ext w8 w' := hw'.2 10 w8 (by simp [adds]) (by decide)
    go_step
    refine (all_at A8 c8 [true, true] w' (hR8.ext hM)).mono ?_
    rintro _ w2 ⟨rfl, rfl⟩
    exact hK' _ _ ⟨_, rfl, by rw [HB3.out]; exact Eq.refl (Value.bool true)⟩ (Ext.refl _)
  rintro _ w9 _ rfl
  simp only [Act.put, List.setIfInBounds_toArray, List.set_cons_succ, List.set_cons_zero]
  refine wpE_op rfl rfl (fun w' hw' K' hK' => ?_)
  have hE := hw'.1
  go_step
  refine hK' _ ⟨_, rfl⟩ ?_
  clear hK' K' hE hw' w'
  refine wpE_op rfl rfl (fun w' hw' K' hK' => ?_)
  have hE := hw'.1
  go_step
  refine hK' _ ⟨_, rfl⟩ ?_
  clear hK' K' hE hw' w'
  refine wpE_op (by kernel_rfl) rfl (fun w' hw' K' hK' => ?_)
  have hE := hw'.1
  go_step
  refine hK' _ ⟨_, rfl⟩ ?_
  clear hK' K' hE hw' w'
  refine wpE_op (by kernel_rfl) rfl (fun w' hw' K' hK' => ?_)
  have hE := hw'.1
  obtain ⟨u0, u1⟩ := (HT.out.ext ((Ext.drew wb).trans hE)).cells
  go_step
  refine hK' _ ⟨_, rfl⟩ ?_
  clear hK' K' u0 u1 hE hw' w'
  refine wpE_op (by kernel_rfl) rfl (fun w' hw' K' hK' => ?_)
  have hE := hw'.1
  have g0 := ((HX.out.trans (Ext.drew wb)).trans hE).cell HC0.out
  go_step
  refine hK' _ ⟨_, rfl⟩ ?_
  clear hK' K' g0 hE hw' w'
  refine wpE_op (by kernel_rfl) rfl (fun w' hw' K' hK' => ?_)
  have hE := hw'.1
  have g0 := ((HX.out.trans (Ext.drew wb)).trans hE).cell HC0.out
  go_step
  refine hK' _ ⟨_, rfl⟩ ?_
  clear hK' K' g0 hE hw' w'
  refine wpE_op (by kernel_rfl) rfl (fun w' hw' K' hK' => ?_)
  have hE := hw'.1
  go_step
  refine hK' _ ⟨_, rfl⟩ ?_
  clear hK' K' hE hw' w'
  refine wpE_op rfl rfl (fun w' hw' K' hK' => ?_)
  have hE := hw'.1
  go_step
  refine hK' _ ⟨_, rfl⟩ ?_
  clear hK' K' hE hw' w'
  refine wpE_op rfl rfl (fun w' hw' K' hK' => ?_)
  have hE := hw'.1
  go_step
  refine hK' _ ⟨_, rfl⟩ ?_
  clear hK' K' hE hw' w'
  try simp only [Act.put, List.setIfInBounds_toArray, List.set_cons_succ, List.set_cons_zero]
  refine wpE_no (k := _) (o := _) (rest := _) (a := _) (Ws := _) ?hn ?_
  case hn => rfl
  simp only [Act.put, List.setIfInBounds_toArray, List.set_cons_succ, List.set_cons_zero]
  try simp only [Act.put, List.setIfInBounds_toArray, List.set_cons_succ, List.set_cons_zero]
  refine wpE_no (k := _) (o := _) (rest := _) (a := _) (Ws := _) ?hn ?_
  case hn => rfl
  simp only [Act.put, List.setIfInBounds_toArray, List.set_cons_succ, List.set_cons_zero]
  try simp only [Act.put, List.setIfInBounds_toArray, List.set_cons_succ, List.set_cons_zero]
  refine wpE_no (k := _) (o := _) (rest := _) (a := _) (Ws := _) ?hn ?_
  case hn => rfl
  simp only [Act.put, List.setIfInBounds_toArray, List.set_cons_succ, List.set_cons_zero]
  try simp only [Act.put, List.setIfInBounds_toArray, List.set_cons_succ, List.set_cons_zero]
  refine wpE_no (k := _) (o := _) (rest := _) (a := _) (Ws := _) ?hn ?_
  case hn => rfl
  simp only [Act.put, List.setIfInBounds_toArray, List.set_cons_succ, List.set_cons_zero]
  try simp only [Act.put, List.setIfInBounds_toArray, List.set_cons_succ, List.set_cons_zero]
  refine wpE_no (k := _) (o := _) (rest := _) (a := _) (Ws := _) ?hn ?_
  case hn => rfl
  simp only [Act.put, List.setIfInBounds_toArray, List.set_cons_succ, List.set_cons_zero]
  try simp only [Act.put, List.setIfInBounds_toArray, List.set_cons_succ, List.set_cons_zero]
  refine wpE_no (k := _) (o := _) (rest := _) (a := _) (Ws := _) ?hn ?_
  case hn => rfl
  simp only [Act.put, List.setIfInBounds_toArray, List.set_cons_succ, List.set_cons_zero]
  refine wpE_op rfl rfl (fun w' hw' K' hK' => ?_)
  have hE := hw'.1
  go_step
  refine hK' _ ⟨_, rfl⟩ ?_
  clear hK' K' hE hw' w'
  refine wpE_nil (fun w' hw' => ?_)
  have hE := hw'.1
  go_wp2_with fail
  go_ret2
  exact ⟨rfl, HX.out.trans ((Ext.drew wb).trans hE)⟩

set_option maxRecDepth 100000 in
set_option maxHeartbeats 1000000 in
theorem Target_bad (A : Option Addr) (c : Nat) (p q r : ByteArray) (hps : ∀ x ∈ [p, q], x.size ≤ 4294967280) (hr : r.size ≤ 4294967280) (w : World) (hR : RS w (.slice A 2 c) (sv [p, q])) (hv : nameB (dat [p, q]) r.data.toList = true) (hk : p.data.toList = krb.data.toList) (hq2 : realmB q.data.toList = false) :
    Calls Tryd.prog 26 #[.agg #[.slice A 2 c, .string r]] w fun e w' => e = .returned (.tuple #[.string ⟨#[]⟩, .bool false]) ∧ Ext w w' := by
  obtain ⟨ad, hadA, hblt, hcell⟩ : ∃ ad, A = some ad ∧ ad.block < w.heap.size ∧ ∀ j u, (sv [p, q])[j]? = some u → w.cell? (ad.add j) = some u := by
    obtain ⟨A', c', he, _, _, e3⟩ := hR
    injection he with z1 _ _
    subst z1
    exact e3 (by simp [sv])
  subst hadA
  have HC0 := Lib.hid (show w.cell? ad = some (.string p) by have h := hcell 0 _ rfl; rwa [show ad.add 0 = ad by unfold Addr.add; simp] at h); have HC1 := Lib.hid (show w.cell? ⟨ad.block, ad.off + 1, none⟩ = some (.string q) by have h := hcell 1 _ rfl; rwa [show ad.add 1 = ⟨ad.block, ad.off + 1, none⟩ by unfold Addr.add; simp] at h)
  have hq : q.size ≤ 4294967280 := hps q (by simp)
  have HQ := Lib.hid hv
  have hT := heap_alloc_new w (.cells #[.slice (some ad) 2 c, .string r] 24)
  have hX := (Ext.refl w).alloc (.cells #[.slice (some ad) 2 c, .string r] 24)
  obtain ⟨wb, hwb⟩ : ∃ wb, wb = w.alloc (.cells #[.slice (some ad) 2 c, .string r] 24) := ⟨_, rfl⟩
  rw [← hwb] at hT hX
  have HT : Hid (PB wb w.heap.size (.slice (some ad) 2 c) r) := Lib.hid hT
  have HX := Lib.hid hX
  have HV := Lib.hid (fun W hW => NValid_at (some ad) c [p, q] r hps hr W (hR.ext (hX.trans hW)))
  obtain ⟨q0, q1⟩ := HT.out.cells
  obtain ⟨b1, hb1⟩ : ∃ b, nameB (dat [p, q]) r.data.toList = b := ⟨_, rfl⟩
  have hbt : b1 = true := hb1.symm.trans hv
  subst hbt
  obtain ⟨b2, hb2⟩ : ∃ b, true = b := ⟨_, rfl⟩
  subst hb2
  have HB1 := Lib.hid hb1
  have HB3 := Lib.hid (show [true, true].all id = true from rfl)
  clear hT hX hR hb1 hv hps hr hcell hblt
  have e1 : (p.toList == [107, 114, 98, 116, 103, 116]) = true := by rw [ByteArray.toList_eq, hk]; rfl
  have HRB := Lib.hid hq2
  clear hk hq2
  go_enter Tryd.func26, Tryd.ntmps26
  go_wp2_with fail
  rw [← hwb]
  clear hwb
  clear q0 q1
  refine wp_region_ext (fun i v' w' => match i with | 1 => v' = .bool true | 6 => RS w' v' [.bool true, .bool true] | 7 => v' = .bool true | 21 => v' = .bool false | _ => False) (by kernel_rfl) (by kernel_rfl) ?_
  refine wpE_op rfl rfl (fun w' hw' K' hK' => ?_)
  have hE := hw'.1
  obtain ⟨u0, u1⟩ := (HT.out.ext ((Ext.drew wb).trans hE)).cells
  go_step
  refine hK' _ ⟨_, rfl⟩ ?_
  clear hK' K' u0 u1 hE hw' w'
  refine wpE_call 5 rfl (by simp) rfl (fun w' hw' K' hK' => ?_) ?_
  · have hE := hw'.1
    go_step
    refine (HV.out w' ((Ext.drew wb).trans hE)).mono ?_
    rintro _ w2 ⟨rfl, hx⟩
    exact hK' _ _ ⟨_, rfl, by rw [HB1.out]; exact Eq.refl (Value.bool true)⟩ hx
  rintro _ w6 _ rfl
  simp only [Act.put, List.setIfInBounds_toArray, List.set_cons_succ, List.set_cons_zero]
  refine wpE_op rfl rfl (fun w' hw' K' hK' => ?_)
  have hE := hw'.1
  go_step
  refine hK' _ ⟨_, rfl⟩ ?_
  clear hK' K' hE hw' w'
  refine wpE_op rfl rfl (fun w' hw' K' hK' => ?_)
  have hE := hw'.1
  obtain ⟨u0, u1⟩ := (HT.out.ext ((Ext.drew wb).trans hE)).cells
  go_step
  refine hK' _ ⟨_, rfl⟩ ?_
  clear hK' K' u0 u1 hE hw' w'
  refine wpE_op rfl rfl (fun w' hw' K' hK' => ?_)
  have hE := hw'.1
  go_step
  refine hK' _ ⟨_, rfl⟩ ?_
  clear hK' K' hE hw' w'
  refine wpE_op rfl rfl (fun w' hw' K' hK' => ?_)
  have hE := hw'.1
  go_step
  refine hK' _ ⟨_, rfl⟩ ?_
  clear hK' K' hE hw' w'
  refine wpE_call 10 rfl (by simp) rfl (fun w' hw' K' hK' => ?_) ?_
  · have hE := hw'.1
    go_step
    exact hK' _ _ ⟨_, rfl, RS.new w' 4 [.bool true, .bool true] (by simp [maxLen])⟩ ((Ext.refl w').alloc _)
  rintro v8 w8 _ ⟨A8, c8, rfl, hl8, hm8, hc8⟩
  have hR8 : RS w8 (.slice A8 2 c8) [.bool true, .bool true] := ⟨A8, c8, rfl, hl8, hm8, hc8⟩
  clear hl8 hm8 hc8
  simp only [Act.put, List.setIfInBounds_toArray, List.set_cons_succ, List.set_cons_zero]
  refine wpE_call 11 rfl (by simp) rfl (fun w' hw' K' hK' => ?_) ?_
  · have hE := hw'.1
    have hM : Ext w8 w' := hw'.2 10 w8 (by simp [adds]) (by decide)
    go_step
    refine (all_at A8 c8 [true, true] w' (hR8.ext hM)).mono ?_
    rintro _ w2 ⟨rfl, rfl⟩
    exact hK' _ _ ⟨_, rfl, by rw [HB3.out]; exact Eq.refl (Value.bool true)⟩ (Ext.refl _)
  rintro _ w9 _ rfl
  simp only [Act.put, List.setIfInBounds_toArray, List.set_cons_succ, List.set_cons_zero]
  refine wpE_op rfl rfl (fun w' hw' K' hK' => ?_)
  have hE := hw'.1
  go_step
  refine hK' _ ⟨_, rfl⟩ ?_
  clear hK' K' hE hw' w'
  refine wpE_op rfl rfl (fun w' hw' K' hK' => ?_)
  have hE := hw'.1
  go_step
  refine hK' _ ⟨_, rfl⟩ ?_
  clear hK' K' hE hw' w'
  refine wpE_op (by kernel_rfl) rfl (fun w' hw' K' hK' => ?_)
  have hE := hw'.1
  go_step
  refine hK' _ ⟨_, rfl⟩ ?_
  clear hK' K' hE hw' w'
  refine wpE_op (by kernel_rfl) rfl (fun w' hw' K' hK' => ?_)
  have hE := hw'.1
  obtain ⟨u0, u1⟩ := (HT.out.ext ((Ext.drew wb).trans hE)).cells
  go_step
  refine hK' _ ⟨_, rfl⟩ ?_
  clear hK' K' u0 u1 hE hw' w'
  refine wpE_op (by kernel_rfl) rfl (fun w' hw' K' hK' => ?_)
  have hE := hw'.1
  have g0 := ((HX.out.trans (Ext.drew wb)).trans hE).cell HC0.out
  go_step
  refine hK' _ ⟨_, rfl⟩ ?_
  clear hK' K' g0 hE hw' w'
  refine wpE_op (by kernel_rfl) rfl (fun w' hw' K' hK' => ?_)
  have hE := hw'.1
  have g0 := ((HX.out.trans (Ext.drew wb)).trans hE).cell HC0.out
  go_step
  refine hK' _ ⟨_, rfl⟩ ?_
  clear hK' K' g0 hE hw' w'
  refine wpE_op (by kernel_rfl) rfl (fun w' hw' K' hK' => ?_)
  have hE := hw'.1
  go_step
  refine hK' _ ⟨_, rfl⟩ ?_
  clear hK' K' hE hw' w'
  refine wpE_op rfl rfl (fun w' hw' K' hK' => ?_)
  have hE := hw'.1
  go_step
  refine hK' _ ⟨_, rfl⟩ ?_
  clear hK' K' hE hw' w'
  refine wpE_op rfl rfl (fun w' hw' K' hK' => ?_)
  have hE := hw'.1
  go_step
  refine hK' _ ⟨_, rfl⟩ ?_
  clear hK' K' hE hw' w'
  refine wpE_op (by kernel_rfl) rfl (fun w' hw' K' hK' => ?_)
  have hE := hw'.1
  go_step
  refine hK' _ ⟨_, rfl⟩ ?_
  clear hK' K' hE hw' w'
  refine wpE_op (by kernel_rfl) rfl (fun w' hw' K' hK' => ?_)
  have hE := hw'.1
  obtain ⟨u0, u1⟩ := (HT.out.ext ((Ext.drew wb).trans hE)).cells
  go_step
  refine hK' _ ⟨_, rfl⟩ ?_
  clear hK' K' u0 u1 hE hw' w'
  refine wpE_op (by kernel_rfl) rfl (fun w' hw' K' hK' => ?_)
  have hE := hw'.1
  have g1 := ((HX.out.trans (Ext.drew wb)).trans hE).cell HC1.out
  go_step
  refine hK' _ ⟨_, rfl⟩ ?_
  clear hK' K' g1 hE hw' w'
  refine wpE_op (by kernel_rfl) rfl (fun w' hw' K' hK' => ?_)
  have hE := hw'.1
  have g1 := ((HX.out.trans (Ext.drew wb)).trans hE).cell HC1.out
  go_step
  refine hK' _ ⟨_, rfl⟩ ?_
  clear hK' K' g1 hE hw' w'
  refine wpE_call 25 rfl (by simp) (by kernel_rfl) (fun w' hw' K' hK' => ?_) ?_
  · have hE := hw'.1
    go_step
    refine (Realm_at q hq w').mono ?_
    rintro _ w2 ⟨rfl, hx⟩
    exact hK' _ _ ⟨_, rfl, by rw [HRB.out]; exact Eq.refl (Value.bool false)⟩ hx
  rintro _ w10 _ rfl
  simp only [Act.put, List.setIfInBounds_toArray, List.set_cons_succ, List.set_cons_zero]
  refine wpE_op (by kernel_rfl) rfl (fun w' hw' K' hK' => ?_)
  have hE := hw'.1
  go_step
  refine hK' _ ⟨_, rfl⟩ ?_
  clear hK' K' hE hw' w'
  refine wpE_op rfl rfl (fun w' hw' K' hK' => ?_)
  have hE := hw'.1
  go_step
  refine hK' _ ⟨_, rfl⟩ ?_
  clear hK' K' hE hw' w'
  refine wpE_nil (fun w' hw' => ?_)
  have hE := hw'.1
  go_wp2_with fail
  go_ret2
  exact ⟨rfl, HX.out.trans ((Ext.drew wb).trans hE)⟩

set_option maxRecDepth 100000 in
set_option maxHeartbeats 1000000 in
theorem Target_good (A : Option Addr) (c : Nat) (p q r : ByteArray) (hps : ∀ x ∈ [p, q], x.size ≤ 4294967280) (hr : r.size ≤ 4294967280) (w : World) (hR : RS w (.slice A 2 c) (sv [p, q])) (hv : nameB (dat [p, q]) r.data.toList = true) (hk : p.data.toList = krb.data.toList) (hq2 : realmB q.data.toList = true) :
    Calls Tryd.prog 26 #[.agg #[.slice A 2 c, .string r]] w fun e w' => e = .returned (.tuple #[.string q, .bool true]) ∧ Ext w w' := by
  obtain ⟨ad, hadA, hblt, hcell⟩ : ∃ ad, A = some ad ∧ ad.block < w.heap.size ∧ ∀ j u, (sv [p, q])[j]? = some u → w.cell? (ad.add j) = some u := by
    obtain ⟨A', c', he, _, _, e3⟩ := hR
    injection he with z1 _ _
    subst z1
    exact e3 (by simp [sv])
  subst hadA
  have HC0 := Lib.hid (show w.cell? ad = some (.string p) by have h := hcell 0 _ rfl; rwa [show ad.add 0 = ad by unfold Addr.add; simp] at h); have HC1 := Lib.hid (show w.cell? ⟨ad.block, ad.off + 1, none⟩ = some (.string q) by have h := hcell 1 _ rfl; rwa [show ad.add 1 = ⟨ad.block, ad.off + 1, none⟩ by unfold Addr.add; simp] at h)
  have hq : q.size ≤ 4294967280 := hps q (by simp)
  have HQ := Lib.hid hv
  have hT := heap_alloc_new w (.cells #[.slice (some ad) 2 c, .string r] 24)
  have hX := (Ext.refl w).alloc (.cells #[.slice (some ad) 2 c, .string r] 24)
  obtain ⟨wb, hwb⟩ : ∃ wb, wb = w.alloc (.cells #[.slice (some ad) 2 c, .string r] 24) := ⟨_, rfl⟩
  rw [← hwb] at hT hX
  have HT : Hid (PB wb w.heap.size (.slice (some ad) 2 c) r) := Lib.hid hT
  have HX := Lib.hid hX
  have HV := Lib.hid (fun W hW => NValid_at (some ad) c [p, q] r hps hr W (hR.ext (hX.trans hW)))
  obtain ⟨q0, q1⟩ := HT.out.cells
  obtain ⟨b1, hb1⟩ : ∃ b, nameB (dat [p, q]) r.data.toList = b := ⟨_, rfl⟩
  have hbt : b1 = true := hb1.symm.trans hv
  subst hbt
  obtain ⟨b2, hb2⟩ : ∃ b, true = b := ⟨_, rfl⟩
  subst hb2
  have HB1 := Lib.hid hb1
  have HB3 := Lib.hid (show [true, true].all id = true from rfl)
  clear hT hX hR hb1 hv hps hr hcell hblt
  have e1 : (p.toList == [107, 114, 98, 116, 103, 116]) = true := by rw [ByteArray.toList_eq, hk]; rfl
  have HRB := Lib.hid hq2
  clear hk hq2
  go_enter Tryd.func26, Tryd.ntmps26
  go_wp2_with fail
  rw [← hwb]
  clear hwb
  clear q0 q1
  refine wp_region_ext (fun i v' w' => match i with | 1 => v' = .bool true | 6 => RS w' v' [.bool true, .bool true] | 7 => v' = .bool true | 21 => v' = .bool true | _ => False) (by kernel_rfl) (by kernel_rfl) ?_
  refine wpE_op rfl rfl (fun w' hw' K' hK' => ?_)
  have hE := hw'.1
  obtain ⟨u0, u1⟩ := (HT.out.ext ((Ext.drew wb).trans hE)).cells
  go_step
  refine hK' _ ⟨_, rfl⟩ ?_
  clear hK' K' u0 u1 hE hw' w'
  refine wpE_call 5 rfl (by simp) rfl (fun w' hw' K' hK' => ?_) ?_
  · have hE := hw'.1
    go_step
    refine (HV.out w' ((Ext.drew wb).trans hE)).mono ?_
    rintro _ w2 ⟨rfl, hx⟩
    exact hK' _ _ ⟨_, rfl, by rw [HB1.out]; exact Eq.refl (Value.bool true)⟩ hx
  rintro _ w6 _ rfl
  simp only [Act.put, List.setIfInBounds_toArray, List.set_cons_succ, List.set_cons_zero]
  refine wpE_op rfl rfl (fun w' hw' K' hK' => ?_)
  have hE := hw'.1
  go_step
  refine hK' _ ⟨_, rfl⟩ ?_
  clear hK' K' hE hw' w'
  refine wpE_op rfl rfl (fun w' hw' K' hK' => ?_)
  have hE := hw'.1
  obtain ⟨u0, u1⟩ := (HT.out.ext ((Ext.drew wb).trans hE)).cells
  go_step
  refine hK' _ ⟨_, rfl⟩ ?_
  clear hK' K' u0 u1 hE hw' w'
  refine wpE_op rfl rfl (fun w' hw' K' hK' => ?_)
  have hE := hw'.1
  go_step
  refine hK' _ ⟨_, rfl⟩ ?_
  clear hK' K' hE hw' w'
  refine wpE_op rfl rfl (fun w' hw' K' hK' => ?_)
  have hE := hw'.1
  go_step
  refine hK' _ ⟨_, rfl⟩ ?_
  clear hK' K' hE hw' w'
  refine wpE_call 10 rfl (by simp) rfl (fun w' hw' K' hK' => ?_) ?_
  · have hE := hw'.1
    go_step
    exact hK' _ _ ⟨_, rfl, RS.new w' 4 [.bool true, .bool true] (by simp [maxLen])⟩ ((Ext.refl w').alloc _)
  rintro v8 w8 _ ⟨A8, c8, rfl, hl8, hm8, hc8⟩
  have hR8 : RS w8 (.slice A8 2 c8) [.bool true, .bool true] := ⟨A8, c8, rfl, hl8, hm8, hc8⟩
  clear hl8 hm8 hc8
  simp only [Act.put, List.setIfInBounds_toArray, List.set_cons_succ, List.set_cons_zero]
  refine wpE_call 11 rfl (by simp) rfl (fun w' hw' K' hK' => ?_) ?_
  · have hE := hw'.1
    have hM : Ext w8 w' := hw'.2 10 w8 (by simp [adds]) (by decide)
    go_step
    refine (all_at A8 c8 [true, true] w' (hR8.ext hM)).mono ?_
    rintro _ w2 ⟨rfl, rfl⟩
    exact hK' _ _ ⟨_, rfl, by rw [HB3.out]; exact Eq.refl (Value.bool true)⟩ (Ext.refl _)
  rintro _ w9 _ rfl
  simp only [Act.put, List.setIfInBounds_toArray, List.set_cons_succ, List.set_cons_zero]
  refine wpE_op rfl rfl (fun w' hw' K' hK' => ?_)
  have hE := hw'.1
  go_step
  refine hK' _ ⟨_, rfl⟩ ?_
  clear hK' K' hE hw' w'
  refine wpE_op rfl rfl (fun w' hw' K' hK' => ?_)
  have hE := hw'.1
  go_step
  refine hK' _ ⟨_, rfl⟩ ?_
  clear hK' K' hE hw' w'
  refine wpE_op (by kernel_rfl) rfl (fun w' hw' K' hK' => ?_)
  have hE := hw'.1
  go_step
  refine hK' _ ⟨_, rfl⟩ ?_
  clear hK' K' hE hw' w'
  refine wpE_op (by kernel_rfl) rfl (fun w' hw' K' hK' => ?_)
  have hE := hw'.1
  obtain ⟨u0, u1⟩ := (HT.out.ext ((Ext.drew wb).trans hE)).cells
  go_step
  refine hK' _ ⟨_, rfl⟩ ?_
  clear hK' K' u0 u1 hE hw' w'
  refine wpE_op (by kernel_rfl) rfl (fun w' hw' K' hK' => ?_)
  have hE := hw'.1
  have g0 := ((HX.out.trans (Ext.drew wb)).trans hE).cell HC0.out
  go_step
  refine hK' _ ⟨_, rfl⟩ ?_
  clear hK' K' g0 hE hw' w'
  refine wpE_op (by kernel_rfl) rfl (fun w' hw' K' hK' => ?_)
  have hE := hw'.1
  have g0 := ((HX.out.trans (Ext.drew wb)).trans hE).cell HC0.out
  go_step
  refine hK' _ ⟨_, rfl⟩ ?_
  clear hK' K' g0 hE hw' w'
  refine wpE_op (by kernel_rfl) rfl (fun w' hw' K' hK' => ?_)
  have hE := hw'.1
  go_step
  refine hK' _ ⟨_, rfl⟩ ?_
  clear hK' K' hE hw' w'
  refine wpE_op rfl rfl (fun w' hw' K' hK' => ?_)
  have hE := hw'.1
  go_step
  refine hK' _ ⟨_, rfl⟩ ?_
  clear hK' K' hE hw' w'
  refine wpE_op rfl rfl (fun w' hw' K' hK' => ?_)
  have hE := hw'.1
  go_step
  refine hK' _ ⟨_, rfl⟩ ?_
  clear hK' K' hE hw' w'
  refine wpE_op (by kernel_rfl) rfl (fun w' hw' K' hK' => ?_)
  have hE := hw'.1
  go_step
  refine hK' _ ⟨_, rfl⟩ ?_
  clear hK' K' hE hw' w'
  refine wpE_op (by kernel_rfl) rfl (fun w' hw' K' hK' => ?_)
  have hE := hw'.1
  obtain ⟨u0, u1⟩ := (HT.out.ext ((Ext.drew wb).trans hE)).cells
  go_step
  refine hK' _ ⟨_, rfl⟩ ?_
  clear hK' K' u0 u1 hE hw' w'
  refine wpE_op (by kernel_rfl) rfl (fun w' hw' K' hK' => ?_)
  have hE := hw'.1
  have g1 := ((HX.out.trans (Ext.drew wb)).trans hE).cell HC1.out
  go_step
  refine hK' _ ⟨_, rfl⟩ ?_
  clear hK' K' g1 hE hw' w'
  refine wpE_op (by kernel_rfl) rfl (fun w' hw' K' hK' => ?_)
  have hE := hw'.1
  have g1 := ((HX.out.trans (Ext.drew wb)).trans hE).cell HC1.out
  go_step
  refine hK' _ ⟨_, rfl⟩ ?_
  clear hK' K' g1 hE hw' w'
  refine wpE_call 25 rfl (by simp) (by kernel_rfl) (fun w' hw' K' hK' => ?_) ?_
  · have hE := hw'.1
    go_step
    refine (Realm_at q hq w').mono ?_
    rintro _ w2 ⟨rfl, hx⟩
    exact hK' _ _ ⟨_, rfl, by rw [HRB.out]; exact Eq.refl (Value.bool true)⟩ hx
  rintro _ w10 _ rfl
  simp only [Act.put, List.setIfInBounds_toArray, List.set_cons_succ, List.set_cons_zero]
  refine wpE_op (by kernel_rfl) rfl (fun w' hw' K' hK' => ?_)
  have hE := hw'.1
  go_step
  refine hK' _ ⟨_, rfl⟩ ?_
  clear hK' K' hE hw' w'
  refine wpE_op rfl rfl (fun w' hw' K' hK' => ?_)
  have hE := hw'.1
  go_step
  refine hK' _ ⟨_, rfl⟩ ?_
  clear hK' K' hE hw' w'
  refine wpE_nil (fun w' hw' => ?_)
  have hE := hw'.1
  obtain ⟨u0, u1⟩ := (HT.out.ext ((Ext.drew wb).trans hE)).cells
  have g1 := ((HX.out.trans (Ext.drew wb)).trans hE).cell HC1.out
  go_wp2_with fail
  go_ret2
  exact ⟨rfl, HX.out.trans ((Ext.drew wb).trans hE)⟩
end Go.Proofs.YtgclchdccgkjaaaDoor
