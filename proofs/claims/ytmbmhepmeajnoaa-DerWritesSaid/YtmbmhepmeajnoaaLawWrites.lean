/- DerWrites: the walk of the law. -/
import Derived.Test.YtmbmhepmeajnoaaKnown
import Derived.Test.YtmbmhepmeajnoaaRef3
namespace Go.Proofs.Ytmbmhepmeajnoaa.derWrites
open Go Go.RowKit

def VB (L : List UInt8) (v : Value) (w : World) : Prop := ∃ A c, v = .slice A L.length c ∧ BS w (.slice A L.length c) L
theorem VB.str {L : List UInt8} {A : Option Addr} {c : Nat} {w w' : World} (h : BS w (.slice A L.length c) L) (hx : Ext w w') : (convert 24 9 (.slice A L.length c)).run Try.prog w' = .ok (.string ⟨L.toArray⟩) w' :=
  run_str w' _ _ 5 _ _ Try.underlying24 Try.underlying5 Try.underlying9 (h.ext hx)

set_option maxRecDepth 100000 in
set_option maxHeartbeats 4000000 in
theorem law_walk (v t f : Int) (A : Option Addr) (c : Nat) (l : List UInt8) (w : World) (hB : BS w (.slice A l.length c) l) (hf0 : 0 ≤ f) (hf1 : f ≤ 4294967295) :
    Calls Try.prog 4 #[.int .i64 v, .int .i64 t, .int .u32 f, .slice A l.length c] w fun e w' => e = .returned (.bool true) ∧ Ext w w' := by
  obtain ⟨i0, hi, hz0, hz1, hz2⟩ := info_parts u8info
  by_cases h6 : (300 : Int) < l.length
  · go_enter Try.func4, Try.ntmps4
    go_wp2_with (go_at_call 10; refine (known_at _).mono ?_; rintro e w1 ⟨rfl, hx1⟩)
    go_ret
    exact ⟨rfl, hx1⟩
  have hl6 : l.length ≤ 300 := by omega
  have HL := Lib.hid hl6; clear hl6
  have HO := Lib.hid (OB.lit w 5 w.heap.size [] [] rfl 0 rfl (by simp [maxLen]) (Nat.le_refl _) (z := w.heap.size) rfl)
  go_enter Try.func4, Try.ntmps4
  go_upto_region 4 with (at_builtin; refine wpList_append_bs _ rfl (.tmp 14) (.tmp 15) 24 rfl w.heap.size 5 i0 (.int .u8 0) Try.underlying24 hi hz0 hz1 hz2 rfl _ [] rfl HO.out _ l rfl (hB.ext ((Ext.refl w).alloc _)) ?hd ?he ?_; rotate_right; intro v3 wr hown3 hg3 hat3)
  try (case hd => have := HL.out; simp; omega)
  try (case he => simp)
  have hbo : OB 5 wr w.heap.size v3 l := by simpa using hown3
  have hxr : Ext w wr := ((Ext.refl w).alloc _).grown hg3 (fun j hj => OB.lt HO.out j hj)
  obtain ⟨A3, c3, rfl⟩ := hbo.shape
  have hO := hbo.bs
  have hBr := hB.ext hxr
  have HML : Hid (l.length ≤ maxLen) := by have := HL.out; show _ ≤ _; unfold maxLen; omega
  clear hown3 hg3 hat3 hbo
  refine wp_region_ext (fun i v' w' => match i with | 3 | 8 => VB (encBool (v.tmod 2 == 0)) v' w' | 13 | 16 => VB (encInt v) v' w' | 22 | 25 => VB (encTime t) v' w' | 31 | 34 => VB (encBits f) v' w' | 40 | 43 => VB (encOctets l) v' w' | 50 | 54 => VB (encString l) v' w' | 66 => v' = .bool true | _ => False) (by kernel_rfl) (by kernel_rfl) ?_
  refine wpE_op rfl rfl (fun w' hw' K' hK' => ?_)
  have hE := hw'.1
  go_step
  refine hK' _ ⟨_, rfl⟩ ?_
  clear hK' K'  hE hw' w'
  refine wpE_op rfl rfl (fun w' hw' K' hK' => ?_)
  have hE := hw'.1
  go_step
  refine hK' _ ⟨_, rfl⟩ ?_
  clear hK' K'  hE hw' w'
  refine wpE_op rfl rfl (fun w' hw' K' hK' => ?_)
  have hE := hw'.1
  go_step
  refine hK' _ ⟨_, rfl⟩ ?_
  clear hK' K'  hE hw' w'
  refine wpE_call 20 rfl (by simp) rfl (fun w' hw' K' hK' => ?_) ?_
  · have hE := hw'.1
    go_step
    refine (Bool_at _ _).mono ?_
    rintro e w2 ⟨A2, c2, rfl, hb, hx⟩
    exact hK' _ _ ⟨_, rfl, A2, c2, rfl, hb.bs⟩ hx
  rintro _ w1 hE1 ⟨A1, c1, rfl, hb1⟩
  simp only [Act.put, List.setIfInBounds_toArray, List.set_cons_succ, List.set_cons_zero]
  refine wpE_op rfl rfl (fun w' hw' K' hK' => ?_)
  have hE := hw'.1
  have hM20 : Ext w1 w' := hw'.2 20 w1 (by simp [adds]) (by decide)
  have hs := VB.str hb1 hM20
  go_step
  refine hK' _ ⟨_, rfl⟩ ?_
  clear hK' K' hs hM20 hE hw' w'
  refine wpE_op rfl rfl (fun w' hw' K' hK' => ?_)
  have hE := hw'.1
  go_step
  refine hK' _ ⟨_, rfl⟩ ?_
  clear hK' K'  hE hw' w'
  refine wpE_op rfl rfl (fun w' hw' K' hK' => ?_)
  have hE := hw'.1
  go_step
  refine hK' _ ⟨_, rfl⟩ ?_
  clear hK' K'  hE hw' w'
  refine wpE_op rfl rfl (fun w' hw' K' hK' => ?_)
  have hE := hw'.1
  go_step
  refine hK' _ ⟨_, rfl⟩ ?_
  clear hK' K'  hE hw' w'
  refine wpE_call 25 rfl (by simp) rfl (fun w' hw' K' hK' => ?_) ?_
  · have hE := hw'.1
    go_step
    refine (RBool_at _ _).mono ?_
    rintro e w2 ⟨A2, c2, rfl, hb, hx⟩
    exact hK' _ _ ⟨_, rfl, A2, c2, rfl, hb.bs⟩ hx
  rintro _ w2 hE2 ⟨A2, c2, rfl, hb2⟩
  simp only [Act.put, List.setIfInBounds_toArray, List.set_cons_succ, List.set_cons_zero]
  refine wpE_op rfl rfl (fun w' hw' K' hK' => ?_)
  have hE := hw'.1
  have hM25 : Ext w2 w' := hw'.2 25 w2 (by simp [adds]) (by decide)
  have hs := VB.str hb2 hM25
  go_step
  refine hK' _ ⟨_, rfl⟩ ?_
  clear hK' K' hs hM25 hE hw' w'
  refine wpE_op rfl rfl (fun w' hw' K' hK' => ?_)
  have hE := hw'.1
  go_step
  refine hK' _ ⟨_, rfl⟩ ?_
  clear hK' K'  hE hw' w'
  refine wpE_op rfl rfl (fun w' hw' K' hK' => ?_)
  have hE := hw'.1
  go_step
  refine hK' _ ⟨_, rfl⟩ ?_
  clear hK' K'  hE hw' w'
  refine wpE_op rfl rfl (fun w' hw' K' hK' => ?_)
  have hE := hw'.1
  go_step
  refine hK' _ ⟨_, rfl⟩ ?_
  clear hK' K'  hE hw' w'
  refine wpE_call 30 rfl (by simp) rfl (fun w' hw' K' hK' => ?_) ?_
  · have hE := hw'.1
    go_step
    refine (Integer_at v _).mono ?_
    rintro e w2 ⟨A2, c2, rfl, hb, hx⟩
    exact hK' _ _ ⟨_, rfl, A2, c2, rfl, hb.bs⟩ hx
  rintro _ w4 hE4 ⟨A4, c4, rfl, hb4⟩
  simp only [Act.put, List.setIfInBounds_toArray, List.set_cons_succ, List.set_cons_zero]
  refine wpE_op rfl rfl (fun w' hw' K' hK' => ?_)
  have hE := hw'.1
  have hM30 : Ext w4 w' := hw'.2 30 w4 (by simp [adds]) (by decide)
  have hs := VB.str hb4 hM30
  go_step
  refine hK' _ ⟨_, rfl⟩ ?_
  clear hK' K' hs hM30 hE hw' w'
  refine wpE_op rfl rfl (fun w' hw' K' hK' => ?_)
  have hE := hw'.1
  go_step
  refine hK' _ ⟨_, rfl⟩ ?_
  clear hK' K'  hE hw' w'
  refine wpE_call 33 rfl (by simp) rfl (fun w' hw' K' hK' => ?_) ?_
  · have hE := hw'.1
    go_step
    refine (RInteger_at v _).mono ?_
    rintro e w2 ⟨A2, c2, rfl, hb, hx⟩
    exact hK' _ _ ⟨_, rfl, A2, c2, rfl, hb.bs⟩ hx
  rintro _ w5 hE5 ⟨A5, c5, rfl, hb5⟩
  simp only [Act.put, List.setIfInBounds_toArray, List.set_cons_succ, List.set_cons_zero]
  refine wpE_op rfl rfl (fun w' hw' K' hK' => ?_)
  have hE := hw'.1
  have hM33 : Ext w5 w' := hw'.2 33 w5 (by simp [adds]) (by decide)
  have hs := VB.str hb5 hM33
  go_step
  refine hK' _ ⟨_, rfl⟩ ?_
  clear hK' K' hs hM33 hE hw' w'
  refine wpE_op rfl rfl (fun w' hw' K' hK' => ?_)
  have hE := hw'.1
  go_step
  refine hK' _ ⟨_, rfl⟩ ?_
  clear hK' K'  hE hw' w'
  refine wpE_op rfl rfl (fun w' hw' K' hK' => ?_)
  have hE := hw'.1
  go_step
  refine hK' _ ⟨_, rfl⟩ ?_
  clear hK' K'  hE hw' w'
  refine wpE_op rfl rfl (fun w' hw' K' hK' => ?_)
  have hE := hw'.1
  go_step
  refine hK' _ ⟨_, rfl⟩ ?_
  clear hK' K'  hE hw' w'
  refine wpE_op rfl rfl (fun w' hw' K' hK' => ?_)
  have hE := hw'.1
  go_step
  refine hK' _ ⟨_, rfl⟩ ?_
  clear hK' K'  hE hw' w'
  refine wpE_call 39 rfl (by simp) rfl (fun w' hw' K' hK' => ?_) ?_
  · have hE := hw'.1
    go_step
    refine (Time_at t _).mono ?_
    rintro e w2 ⟨A2, c2, rfl, hb, hx⟩
    exact hK' _ _ ⟨_, rfl, A2, c2, rfl, hb.bs⟩ hx
  rintro _ w6 hE6 ⟨A6, c6, rfl, hb6⟩
  simp only [Act.put, List.setIfInBounds_toArray, List.set_cons_succ, List.set_cons_zero]
  refine wpE_op rfl rfl (fun w' hw' K' hK' => ?_)
  have hE := hw'.1
  have hM39 : Ext w6 w' := hw'.2 39 w6 (by simp [adds]) (by decide)
  have hs := VB.str hb6 hM39
  go_step
  refine hK' _ ⟨_, rfl⟩ ?_
  clear hK' K' hs hM39 hE hw' w'
  refine wpE_op rfl rfl (fun w' hw' K' hK' => ?_)
  have hE := hw'.1
  go_step
  refine hK' _ ⟨_, rfl⟩ ?_
  clear hK' K'  hE hw' w'
  refine wpE_call 42 rfl (by simp) rfl (fun w' hw' K' hK' => ?_) ?_
  · have hE := hw'.1
    go_step
    refine (RTime_at t _).mono ?_
    rintro e w2 ⟨A2, c2, rfl, hb, hx⟩
    exact hK' _ _ ⟨_, rfl, A2, c2, rfl, hb.bs⟩ hx
  rintro _ w7 hE7 ⟨A7, c7, rfl, hb7⟩
  simp only [Act.put, List.setIfInBounds_toArray, List.set_cons_succ, List.set_cons_zero]
  refine wpE_op rfl rfl (fun w' hw' K' hK' => ?_)
  have hE := hw'.1
  have hM42 : Ext w7 w' := hw'.2 42 w7 (by simp [adds]) (by decide)
  have hs := VB.str hb7 hM42
  go_step
  refine hK' _ ⟨_, rfl⟩ ?_
  clear hK' K' hs hM42 hE hw' w'
  refine wpE_op rfl rfl (fun w' hw' K' hK' => ?_)
  have hE := hw'.1
  go_step
  refine hK' _ ⟨_, rfl⟩ ?_
  clear hK' K'  hE hw' w'
  refine wpE_op rfl rfl (fun w' hw' K' hK' => ?_)
  have hE := hw'.1
  go_step
  refine hK' _ ⟨_, rfl⟩ ?_
  clear hK' K'  hE hw' w'
  refine wpE_op rfl rfl (fun w' hw' K' hK' => ?_)
  have hE := hw'.1
  go_step
  refine hK' _ ⟨_, rfl⟩ ?_
  clear hK' K'  hE hw' w'
  refine wpE_op rfl rfl (fun w' hw' K' hK' => ?_)
  have hE := hw'.1
  go_step
  refine hK' _ ⟨_, rfl⟩ ?_
  clear hK' K'  hE hw' w'
  refine wpE_call 48 rfl (by simp) rfl (fun w' hw' K' hK' => ?_) ?_
  · have hE := hw'.1
    go_step
    refine (Bits_at f hf0 hf1 _).mono ?_
    rintro e w2 ⟨A2, c2, rfl, hb, hx⟩
    exact hK' _ _ ⟨_, rfl, A2, c2, rfl, hb.bs⟩ hx
  rintro _ w8 hE8 ⟨A8, c8, rfl, hb8⟩
  simp only [Act.put, List.setIfInBounds_toArray, List.set_cons_succ, List.set_cons_zero]
  refine wpE_op rfl rfl (fun w' hw' K' hK' => ?_)
  have hE := hw'.1
  have hM48 : Ext w8 w' := hw'.2 48 w8 (by simp [adds]) (by decide)
  have hs := VB.str hb8 hM48
  go_step
  refine hK' _ ⟨_, rfl⟩ ?_
  clear hK' K' hs hM48 hE hw' w'
  refine wpE_op rfl rfl (fun w' hw' K' hK' => ?_)
  have hE := hw'.1
  go_step
  refine hK' _ ⟨_, rfl⟩ ?_
  clear hK' K'  hE hw' w'
  refine wpE_call 51 rfl (by simp) rfl (fun w' hw' K' hK' => ?_) ?_
  · have hE := hw'.1
    go_step
    refine (RBits_at f hf0 hf1 _).mono ?_
    rintro e w2 ⟨A2, c2, rfl, hb, hx⟩
    exact hK' _ _ ⟨_, rfl, A2, c2, rfl, hb.bs⟩ hx
  rintro _ w9 hE9 ⟨A9, c9, rfl, hb9⟩
  simp only [Act.put, List.setIfInBounds_toArray, List.set_cons_succ, List.set_cons_zero]
  refine wpE_op rfl rfl (fun w' hw' K' hK' => ?_)
  have hE := hw'.1
  have hM51 : Ext w9 w' := hw'.2 51 w9 (by simp [adds]) (by decide)
  have hs := VB.str hb9 hM51
  go_step
  refine hK' _ ⟨_, rfl⟩ ?_
  clear hK' K' hs hM51 hE hw' w'
  refine wpE_op rfl rfl (fun w' hw' K' hK' => ?_)
  have hE := hw'.1
  go_step
  refine hK' _ ⟨_, rfl⟩ ?_
  clear hK' K'  hE hw' w'
  refine wpE_op rfl rfl (fun w' hw' K' hK' => ?_)
  have hE := hw'.1
  go_step
  refine hK' _ ⟨_, rfl⟩ ?_
  clear hK' K'  hE hw' w'
  refine wpE_op rfl rfl (fun w' hw' K' hK' => ?_)
  have hE := hw'.1
  go_step
  refine hK' _ ⟨_, rfl⟩ ?_
  clear hK' K'  hE hw' w'
  refine wpE_op rfl rfl (fun w' hw' K' hK' => ?_)
  have hE := hw'.1
  go_step
  refine hK' _ ⟨_, rfl⟩ ?_
  clear hK' K'  hE hw' w'
  refine wpE_call 57 rfl (by simp) rfl (fun w' hw' K' hK' => ?_) ?_
  · have hE := hw'.1
    go_step
    refine (Octets_at A3 c3 l _ (hO.ext ((Ext.drew wr).trans hE))).mono ?_
    rintro e w2 ⟨A2, c2, rfl, hb, hx⟩
    exact hK' _ _ ⟨_, rfl, A2, c2, rfl, hb.bs⟩ hx
  rintro _ w10 hE10 ⟨A10, c10, rfl, hb10⟩
  simp only [Act.put, List.setIfInBounds_toArray, List.set_cons_succ, List.set_cons_zero]
  refine wpE_op rfl rfl (fun w' hw' K' hK' => ?_)
  have hE := hw'.1
  have hM57 : Ext w10 w' := hw'.2 57 w10 (by simp [adds]) (by decide)
  have hs := VB.str hb10 hM57
  go_step
  refine hK' _ ⟨_, rfl⟩ ?_
  clear hK' K' hs hM57 hE hw' w'
  refine wpE_op rfl rfl (fun w' hw' K' hK' => ?_)
  have hE := hw'.1
  go_step
  refine hK' _ ⟨_, rfl⟩ ?_
  clear hK' K'  hE hw' w'
  refine wpE_call 60 rfl (by simp) rfl (fun w' hw' K' hK' => ?_) ?_
  · have hE := hw'.1
    go_step
    refine (ROctets_at A c l _ (hBr.ext ((Ext.drew wr).trans hE))).mono ?_
    rintro e w2 ⟨A2, c2, rfl, hb, hx⟩
    exact hK' _ _ ⟨_, rfl, A2, c2, rfl, hb.bs⟩ hx
  rintro _ w11 hE11 ⟨A11, c11, rfl, hb11⟩
  simp only [Act.put, List.setIfInBounds_toArray, List.set_cons_succ, List.set_cons_zero]
  refine wpE_op rfl rfl (fun w' hw' K' hK' => ?_)
  have hE := hw'.1
  have hM60 : Ext w11 w' := hw'.2 60 w11 (by simp [adds]) (by decide)
  have hs := VB.str hb11 hM60
  go_step
  refine hK' _ ⟨_, rfl⟩ ?_
  clear hK' K' hs hM60 hE hw' w'
  refine wpE_op rfl rfl (fun w' hw' K' hK' => ?_)
  have hE := hw'.1
  go_step
  refine hK' _ ⟨_, rfl⟩ ?_
  clear hK' K'  hE hw' w'
  refine wpE_op rfl rfl (fun w' hw' K' hK' => ?_)
  have hE := hw'.1
  go_step
  refine hK' _ ⟨_, rfl⟩ ?_
  clear hK' K'  hE hw' w'
  refine wpE_op rfl rfl (fun w' hw' K' hK' => ?_)
  have hE := hw'.1
  go_step
  refine hK' _ ⟨_, rfl⟩ ?_
  clear hK' K'  hE hw' w'
  refine wpE_op rfl rfl (fun w' hw' K' hK' => ?_)
  have hE := hw'.1
  go_step
  refine hK' _ ⟨_, rfl⟩ ?_
  clear hK' K'  hE hw' w'
  refine wpE_op rfl rfl (fun w' hw' K' hK' => ?_)
  have hE := hw'.1
  have hs := VB.str hBr ((Ext.drew wr).trans hE)
  go_step
  refine hK' _ ⟨_, rfl⟩ ?_
  clear hK' K' hs hE hw' w'
  refine wpE_call 67 rfl (by simp) rfl (fun w' hw' K' hK' => ?_) ?_
  · have hE := hw'.1
    go_step
    refine (String_at l _ HML.out).mono ?_
    rintro e w2 ⟨A2, c2, rfl, hb, hx⟩
    exact hK' _ _ ⟨_, rfl, A2, c2, rfl, hb.bs⟩ hx
  rintro _ w12 hE12 ⟨A12, c12, rfl, hb12⟩
  simp only [Act.put, List.setIfInBounds_toArray, List.set_cons_succ, List.set_cons_zero]
  refine wpE_op rfl rfl (fun w' hw' K' hK' => ?_)
  have hE := hw'.1
  have hM67 : Ext w12 w' := hw'.2 67 w12 (by simp [adds]) (by decide)
  have hs := VB.str hb12 hM67
  go_step
  refine hK' _ ⟨_, rfl⟩ ?_
  clear hK' K' hs hM67 hE hw' w'
  refine wpE_op rfl rfl (fun w' hw' K' hK' => ?_)
  have hE := hw'.1
  go_step
  refine hK' _ ⟨_, rfl⟩ ?_
  clear hK' K'  hE hw' w'
  refine wpE_op rfl rfl (fun w' hw' K' hK' => ?_)
  have hE := hw'.1
  have hs := VB.str hBr ((Ext.drew wr).trans hE)
  go_step
  refine hK' _ ⟨_, rfl⟩ ?_
  clear hK' K' hs hE hw' w'
  refine wpE_call 71 rfl (by simp) rfl (fun w' hw' K' hK' => ?_) ?_
  · have hE := hw'.1
    go_step
    refine (RString_at l _ HML.out).mono ?_
    rintro e w2 ⟨A2, c2, rfl, hb, hx⟩
    exact hK' _ _ ⟨_, rfl, A2, c2, rfl, hb.bs⟩ hx
  rintro _ w13 hE13 ⟨A13, c13, rfl, hb13⟩
  simp only [Act.put, List.setIfInBounds_toArray, List.set_cons_succ, List.set_cons_zero]
  refine wpE_op rfl rfl (fun w' hw' K' hK' => ?_)
  have hE := hw'.1
  have hM71 : Ext w13 w' := hw'.2 71 w13 (by simp [adds]) (by decide)
  have hs := VB.str hb13 hM71
  go_step
  refine hK' _ ⟨_, rfl⟩ ?_
  clear hK' K' hs hM71 hE hw' w'
  refine wpE_op rfl rfl (fun w' hw' K' hK' => ?_)
  have hE := hw'.1
  go_step
  refine hK' _ ⟨_, rfl⟩ ?_
  clear hK' K'  hE hw' w'
  refine wpE_op rfl rfl (fun w' hw' K' hK' => ?_)
  have hE := hw'.1
  go_step
  refine hK' _ ⟨_, rfl⟩ ?_
  clear hK' K'  hE hw' w'
  refine wpE_op rfl rfl (fun w' hw' K' hK' => ?_)
  have hE := hw'.1
  go_step
  refine hK' _ ⟨_, rfl⟩ ?_
  clear hK' K'  hE hw' w'
  refine wpE_op rfl rfl (fun w' hw' K' hK' => ?_)
  have hE := hw'.1
  go_step
  refine hK' _ ⟨_, rfl⟩ ?_
  clear hK' K'  hE hw' w'
  refine wpE_op rfl rfl (fun w' hw' K' hK' => ?_)
  have hE := hw'.1
  have hs := VB.str hO ((Ext.drew wr).trans hE)
  go_step
  refine hK' _ ⟨_, rfl⟩ ?_
  clear hK' K' hs hE hw' w'
  refine wpE_op rfl rfl (fun w' hw' K' hK' => ?_)
  have hE := hw'.1
  go_step
  refine hK' _ ⟨_, rfl⟩ ?_
  clear hK' K'  hE hw' w'
  refine wpE_op rfl rfl (fun w' hw' K' hK' => ?_)
  have hE := hw'.1
  have hs := VB.str hBr ((Ext.drew wr).trans hE)
  go_step
  refine hK' _ ⟨_, rfl⟩ ?_
  clear hK' K' hs hE hw' w'
  refine wpE_op rfl rfl (fun w' hw' K' hK' => ?_)
  have hE := hw'.1
  go_step
  refine hK' _ ⟨_, rfl⟩ ?_
  clear hK' K'  hE hw' w'
  refine wpE_op rfl rfl (fun w' hw' K' hK' => ?_)
  have hE := hw'.1
  go_step
  refine hK' _ ⟨_, rfl⟩ ?_
  clear hK' K'  hE hw' w'
  refine wpE_op rfl rfl (fun w' hw' K' hK' => ?_)
  have hE := hw'.1
  go_step
  refine hK' _ ⟨_, rfl⟩ ?_
  clear hK' K'  hE hw' w'
  refine wpE_call 83 rfl (by simp) rfl (fun w' hw' K' hK' => ?_) ?_
  · have hE := hw'.1
    go_step
    refine (known_at _).mono ?_
    rintro e w2 ⟨rfl, hx⟩
    exact hK' _ _ ⟨_, rfl, rfl⟩ hx
  rintro _ w14 hE14 rfl
  simp only [Act.put, List.setIfInBounds_toArray, List.set_cons_succ, List.set_cons_zero]
  refine wpE_op rfl rfl (fun w' hw' K' hK' => ?_)
  have hE := hw'.1
  go_step
  refine hK' _ ⟨_, rfl⟩ ?_
  clear hK' K'  hE hw' w'
  refine wpE_op rfl rfl (fun w' hw' K' hK' => ?_)
  have hE := hw'.1
  go_step
  refine hK' _ ⟨_, rfl⟩ ?_
  clear hK' K'  hE hw' w'
  refine wpE_nil (fun w15 hw15 => ?_)
  have hx5 : Ext wr w15 := (Ext.drew wr).trans hw15.1
  clear hw15
  go_wp2_with fail
  go_ret
  exact ⟨rfl, hxr.trans hx5⟩
#print axioms law_walk
end Go.Proofs.Ytmbmhepmeajnoaa.derWrites
