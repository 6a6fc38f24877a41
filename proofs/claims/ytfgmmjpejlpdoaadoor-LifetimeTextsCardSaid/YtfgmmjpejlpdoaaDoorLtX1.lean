/- The reference's Decimal. -/
import Derived.Test.YtfgmmjpejlpdoaaDoorLtP0
import Derived.Test.YtfgmmjpejlpdoaaDoorStr
import Derived.Test.YtfgmmjpejlpdoaaDoorBits
import Derived.Handy
namespace Go.Proofs.YtfgmmjpejlpdoaaDoor
open Go Go.RowKit
set_option linter.unusedVariables false

theorem ba_append (a b : List UInt8) : (⟨a.toArray⟩ : ByteArray) ++ ⟨b.toArray⟩ = ⟨(a ++ b).toArray⟩ := by
  apply ByteArray.ext
  simp [ByteArray.data_append]
theorem dec_int_lo {v : Int} (h0 : 0 ≤ v) (h : v < 10) : Lib.decDigits v.toNat = [UInt8.ofNat (48 + (v % 10).toNat)] := by
  rw [dec_lo _ (by omega)]; congr 2; omega
theorem dec_int_hi {v : Int} (h0 : 0 ≤ v) (h : ¬ v < 10) : Lib.decDigits v.toNat = Lib.decDigits (v / 10).toNat ++ [UInt8.ofNat (48 + (v % 10).toNat)] := by
  rw [dec_hi _ (by omega)]; congr 2
  · congr 1; omega
  · congr 1; omega
theorem dec_len (u : Nat) (h : u ≤ 1099511627776) : (Lib.decDigits u).length ≤ 21 := by
  have := Lib.itoa_length_le (u : Int) (by omega) (by omega)
  rwa [Lib.itoa_nonneg] at this
set_option maxRecDepth 100000 in
theorem Decimal_at (v : Int) (h0 : 0 ≤ v) (h1 : v ≤ 1099511627776) (w : World) :
    Calls Tryd.prog 71 #[.int .i64 v] w fun e w' => e = .returned (.string ⟨(Lib.decDigits v.toNat).toArray⟩) ∧ Ext w w' := by
  obtain ⟨n, hn⟩ : ∃ n : Nat, v.toNat ≤ n := ⟨_, Nat.le_refl _⟩
  induction n using Nat.strongRecOn generalizing v w with
  | _ n ih =>
    obtain ⟨d, hd⟩ : ∃ d, UInt8.ofNat (48 + (v % 10).toNat) = d := ⟨_, rfl⟩
    have hdn : (d.toNat : Int) = 48 + v % 10 := by rw [← hd, u8_dig _ (by omega)]; omega
    have hcv : (convert 47 9 (.slice (some ⟨w.heap.size, 0, none⟩) 1 1)).run Tryd.prog (w.alloc (.cells #[.int .u8 (48 + v % 10)] 5)) = .ok (.string ⟨#[d]⟩) (w.alloc (.cells #[.int .u8 (48 + v % 10)] 5)) :=
      run_str _ _ _ 5 _ [d] Tryd.underlying47 Tryd.underlying5 Tryd.underlying9 (OB.lit w 5 0 [.int .u8 (48 + v % 10)] [d] (by simp [bv, hdn]) 1 rfl (by simp [maxLen]) (by omega)).bs
    have hm : (48 + v % 10) % 256 = 48 + v % 10 := by omega
    have hm0 : 0 ≤ v % 10 := by omega
    have HD := Lib.hid hd; clear hd hdn
    have HN := Lib.hid hn; clear hn
    by_cases hlt : v < 10
    · go_enter Tryd.func71, Tryd.ntmps71
      go_wp2_with fail
      go_ret
      refine ⟨?_, (Ext.refl w).alloc _⟩
      rw [dec_int_lo h0 hlt, HD.out]; rfl
    · have IH := Lib.hid (ih (v / 10).toNat (by have := HN.out; omega) (v / 10) (by omega) (by omega) (w.alloc (.cells #[.int .u8 (48 + v % 10)] 5)) (Nat.le_refl _))
      clear ih
      go_enter Tryd.func71, Tryd.ntmps71
      go_wp2_with fail
      refine IH.out.mono ?_
      rintro e w2 ⟨rfl, hx2⟩
      have HX2 := Lib.hid hx2; clear hx2
      have hlen : (Lib.decDigits (v / 10).toNat).length ≤ 21 := dec_len _ (by omega)
      go_wp2_with fail
      go_ret
      refine ⟨?_, ((Ext.refl w).alloc _).trans HX2.out⟩
      rw [dec_int_hi h0 (by omega), HD.out, ← ba_append]; rfl


def DV (x : Int) (v : Value) (_ : World) : Prop := v = .string ⟨(Lib.decDigits x.toNat).toArray⟩
theorem cat4 (a b c d : List UInt8) : ((((((⟨a.toArray⟩ : ByteArray) ++ ⟨#[32]⟩) ++ ⟨b.toArray⟩) ++ ⟨#[32]⟩) ++ ⟨c.toArray⟩) ++ ⟨#[32]⟩) ++ ⟨d.toArray⟩ = ⟨(a ++ 32 :: (b ++ 32 :: (c ++ 32 :: d))).toArray⟩ := by
  apply ByteArray.ext
  simp [ByteArray.data_append]
set_option maxRecDepth 100000 in
set_option maxHeartbeats 1000000 in
theorem RText_at (a s e r : Int) (hv : validB a s e r = true) (w : World) :
    Calls Tryd.prog 36 #[.agg #[.int .i64 a, .int .i64 s, .int .i64 e, .int .i64 r]] w fun en w' => en = .returned (.string ⟨(textT a s e r).toArray⟩) ∧ Ext w w' := by
  obtain ⟨v1, v2, v3, v4, v5, v6, _⟩ := validB_bd hv
  have HT := Lib.hid (show TB (w.alloc (.cells #[.int .i64 a, .int .i64 s, .int .i64 e, .int .i64 r] 27)) w.heap.size a s e r from heap_alloc_new w _)
  have HX := Lib.hid ((Ext.refl w).alloc (.cells #[.int .i64 a, .int .i64 s, .int .i64 e, .int .i64 r] 27))
  have l1 : (Lib.decDigits a.toNat).length ≤ 21 := dec_len _ (by omega)
  have l2 : (Lib.decDigits s.toNat).length ≤ 21 := dec_len _ (by omega)
  have l3 : (Lib.decDigits e.toNat).length ≤ 21 := dec_len _ (by omega)
  have l4 : (Lib.decDigits r.toNat).length ≤ 21 := dec_len _ (by omega)
  have HV := Lib.hid hv; clear hv
  go_enter Tryd.func36, Tryd.ntmps36
  go_wp2_with fail
  refine wp_region_ext (fun i v' w' => match i with | 2 => DV a v' w' | 6 => DV s v' w' | 11 => DV e v' w' | 16 => DV r v' w' | _ => False) (by kernel_rfl) (by kernel_rfl) ?_
  refine wpE_op rfl rfl (fun w' hw' K' hK' => ?_)
  have hE := hw'.1
  go_step
  refine hK' _ ⟨_, rfl⟩ ?_
  clear hK' K'  hE hw' w'
  refine wpE_op rfl rfl (fun w' hw' K' hK' => ?_)
  have hE := hw'.1
  have u0 := (HT.out.ext ((Ext.drew _).trans hE)).cells.1
  go_step
  refine hK' _ ⟨_, rfl⟩ ?_
  clear hK' K' u0 hE hw' w'
  refine wpE_call 5 rfl (by simp) rfl (fun w' hw' K' hK' => ?_) ?_
  · have hE := hw'.1
    go_step
    refine (Decimal_at a (by omega) (by omega) _).mono ?_
    rintro e w2 ⟨rfl, hx⟩
    exact hK' _ _ ⟨_, rfl, rfl⟩ hx
  rintro _ w5x hE5 rfl
  simp only [Act.put, List.setIfInBounds_toArray, List.set_cons_succ, List.set_cons_zero]
  refine wpE_op rfl rfl (fun w' hw' K' hK' => ?_)
  have hE := hw'.1
  go_step
  refine hK' _ ⟨_, rfl⟩ ?_
  clear hK' K'  hE hw' w'
  refine wpE_op rfl rfl (fun w' hw' K' hK' => ?_)
  have hE := hw'.1
  go_step
  refine hK' _ ⟨_, rfl⟩ ?_
  clear hK' K'  hE hw' w'
  refine wpE_op rfl rfl (fun w' hw' K' hK' => ?_)
  have hE := hw'.1
  have u0 := (HT.out.ext ((Ext.drew _).trans hE)).cells.2.1
  go_step
  refine hK' _ ⟨_, rfl⟩ ?_
  clear hK' K' u0 hE hw' w'
  refine wpE_call 9 rfl (by simp) rfl (fun w' hw' K' hK' => ?_) ?_
  · have hE := hw'.1
    go_step
    refine (Decimal_at s (by omega) (by omega) _).mono ?_
    rintro e w2 ⟨rfl, hx⟩
    exact hK' _ _ ⟨_, rfl, rfl⟩ hx
  rintro _ w9x hE9 rfl
  simp only [Act.put, List.setIfInBounds_toArray, List.set_cons_succ, List.set_cons_zero]
  refine wpE_op rfl rfl (fun w' hw' K' hK' => ?_)
  have hE := hw'.1
  go_step
  refine hK' _ ⟨_, rfl⟩ ?_
  clear hK' K'  hE hw' w'
  refine wpE_op rfl rfl (fun w' hw' K' hK' => ?_)
  have hE := hw'.1
  go_step
  refine hK' _ ⟨_, rfl⟩ ?_
  clear hK' K'  hE hw' w'
  refine wpE_op rfl rfl (fun w' hw' K' hK' => ?_)
  have hE := hw'.1
  go_step
  refine hK' _ ⟨_, rfl⟩ ?_
  clear hK' K'  hE hw' w'
  refine wpE_op rfl rfl (fun w' hw' K' hK' => ?_)
  have hE := hw'.1
  have u0 := (HT.out.ext ((Ext.drew _).trans hE)).cells.2.2.1
  go_step
  refine hK' _ ⟨_, rfl⟩ ?_
  clear hK' K' u0 hE hw' w'
  refine wpE_call 14 rfl (by simp) rfl (fun w' hw' K' hK' => ?_) ?_
  · have hE := hw'.1
    go_step
    refine (Decimal_at e (by omega) (by omega) _).mono ?_
    rintro e w2 ⟨rfl, hx⟩
    exact hK' _ _ ⟨_, rfl, rfl⟩ hx
  rintro _ w14x hE14 rfl
  simp only [Act.put, List.setIfInBounds_toArray, List.set_cons_succ, List.set_cons_zero]
  refine wpE_op rfl rfl (fun w' hw' K' hK' => ?_)
  have hE := hw'.1
  go_step
  refine hK' _ ⟨_, rfl⟩ ?_
  clear hK' K'  hE hw' w'
  refine wpE_op rfl rfl (fun w' hw' K' hK' => ?_)
  have hE := hw'.1
  go_step
  refine hK' _ ⟨_, rfl⟩ ?_
  clear hK' K'  hE hw' w'
  refine wpE_op rfl rfl (fun w' hw' K' hK' => ?_)
  have hE := hw'.1
  go_step
  refine hK' _ ⟨_, rfl⟩ ?_
  clear hK' K'  hE hw' w'
  refine wpE_op rfl rfl (fun w' hw' K' hK' => ?_)
  have hE := hw'.1
  have u0 := (HT.out.ext ((Ext.drew _).trans hE)).cells.2.2.2
  go_step
  refine hK' _ ⟨_, rfl⟩ ?_
  clear hK' K' u0 hE hw' w'
  refine wpE_call 19 rfl (by simp) rfl (fun w' hw' K' hK' => ?_) ?_
  · have hE := hw'.1
    go_step
    refine (Decimal_at r (by omega) (by omega) _).mono ?_
    rintro e w2 ⟨rfl, hx⟩
    exact hK' _ _ ⟨_, rfl, rfl⟩ hx
  rintro _ w19x hE19 rfl
  simp only [Act.put, List.setIfInBounds_toArray, List.set_cons_succ, List.set_cons_zero]
  refine wpE_op rfl rfl (fun w' hw' K' hK' => ?_)
  have hE := hw'.1
  go_step
  refine hK' _ ⟨_, rfl⟩ ?_
  clear hK' K'  hE hw' w'
  refine wpE_op rfl rfl (fun w' hw' K' hK' => ?_)
  have hE := hw'.1
  go_step
  refine hK' _ ⟨_, rfl⟩ ?_
  clear hK' K'  hE hw' w'
  refine wpE_nil (fun w7 hw7 => ?_)
  have HX7 := Lib.hid (HX.out.trans ((Ext.drew _).trans hw7.1)); clear hw7
  go_wp2
  go_ret
  refine ⟨?_, HX7.out⟩
  rw [textT_eq, itoa_of v1, itoa_of (by omega), itoa_of (by omega), itoa_of (by omega), ← cat4]; rfl
end Go.Proofs.YtfgmmjpejlpdoaaDoor
