/- Address: the reference's Contains and Unique. (wip/tools/genadu3.py printed this.) -/
import Derived.Test.YthpfomjibfbiiaaGreatDoorMg26
import Derived.Test.YthpfomjibfbiiaaGreatDoorAdR1
namespace Go.Proofs.YthpfomjibfbiiaaGreatDoor
open Go Go.RowKit
set_option linter.unusedVariables false

theorem dat_zero' : ∀ x ∈ (Value.agg #[.int .i64 0, .slice none 0 0]).cells.toList, ∀ n, x ≠ .int .u8 n := by
  intro x hx n
  have : x = .int .i64 0 ∨ x = .slice none 0 0 := by simpa [Value.cells] using hx
  rcases this with rfl | rfl <;> simp
set_option maxRecDepth 100000 in
set_option maxHeartbeats 1000000 in
theorem RAContains_at (A : Option Addr) (c : Nat) (xs : List (Int × List UInt8)) (k0 : Int) (b0 : List UInt8) (B0 : Option Addr) (d0 : Nat) (w : World) (hD : DS w (.slice A xs.length c) xs) (hb : BS w (.slice B0 b0.length d0) b0) (hn : xs.length ≤ 1000) :
    Calls Tryz.prog 8 #[.slice A xs.length c, adv k0 B0 b0.length d0] w fun e w' => e = .returned (.bool (hasA xs k0 b0)) ∧ Ext w w' := by
  have h0 := AB.new w k0 B0 b0.length d0
  have x0 := (Ext.refl w).alloc (.cells #[.int .i64 k0, .slice B0 b0.length d0] 25)
  obtain ⟨W1, e1⟩ : ∃ W, w.alloc (.cells #[.int .i64 k0, .slice B0 b0.length d0] 25) = W := ⟨_, rfl⟩
  rw [e1] at h0 x0
  obtain ⟨A', c', he, hc1, hc2, hcell⟩ := hD
  injection he with e1' e2 e3
  subst e1'; subst e3
  unfold maxLen at hc2
  have HC := Lib.hid hcell; have H0 := Lib.hid h0; have HX := Lib.hid x0; have HBB := Lib.hid hb
  clear hcell e2 h0 x0 hb
  obtain ⟨n, hn'⟩ : ∃ n, xs.length = n := ⟨_, rfl⟩
  rw [hn'] at hc1 hn ⊢
  have HN := Lib.hid hn'
  clear hn'
  unfold adv
  go_enter Tryz.func8, Tryz.ntmps8
  go_wp2_with fail
  go_loopw [5] (fun i wr => ∃ k : Nat, i = .int .i64 (k : Int) ∧ k ≤ n ∧ Hid (hasA (xs.take k) k0 b0 = false) ∧ Hid (Ext W1 wr)) (fun i _ => n - (intOf i).toNat)
  case atStart => exact ⟨0, rfl, by omega, Lib.hid rfl, Lib.hid (Ext.refl _)⟩
  case round =>
    obtain ⟨k, rfl, hk, HF, HW⟩ := hrel
    by_cases hlt : k < n
    · have hlx : k < xs.length := by rw [HN.out]; exact hlt
      obtain ⟨ad, B, d, rfl, hc0, hc3, hbk⟩ := HC.out k hlx
      have hc3' : w.cell? ⟨(ad.add (k * 2)).block, (ad.add (k * 2)).off + 1, none⟩ = some (.slice B xs[k].2.length d) := by rw [cell_add1, add_of_add]; exact hc3
      have hwr := HX.out.trans HW.out
      have HC0 := Lib.hid (hwr.cell hc0); have HC3 := Lib.hid (hwr.cell hc3')
      have HB := Lib.hid (H0.out.ext HW.out)
      have HEQ := Lib.hid (fun W (hx : Ext wr W) => RAEqual_at xs[k].1 k0 xs[k].2 b0 B B0 d d0 W (hbk.ext (hwr.trans hx)) (HBB.out.ext (hwr.trans hx)))
      have HTK := Lib.hid (show hasA (xs.take (k + 1)) k0 b0 = (xs[k].1 == k0 && xs[k].2 == b0) by rw [List.take_succ_eq_append_getElem hlx, hasA_snoc, HF.out, Bool.false_or])
      have HYS := Lib.hid (show (xs[k].1 == k0 && xs[k].2 == b0) = true → hasA xs k0 b0 = true from fun h => List.any_eq_true.2 ⟨xs[k], List.getElem_mem hlx, h⟩)
      unfold adv at HEQ
      generalize xs[k].1 = kk at *
      generalize xs[k].2 = bb at *
      obtain ⟨q1, hq1⟩ : ∃ q, (kk == k0) = q := ⟨_, rfl⟩
      obtain ⟨q2, hq2⟩ : ∃ q, (bb == b0) = q := ⟨_, rfl⟩
      rw [hq1, hq2] at HEQ HTK HYS
      clear hc0 hc3 hc3' hbk hwr hlx hq1 hq2
      go_upto_region 4 with fail
      refine wp_region_ext (fun i v' w' => match i with | 5 => v' = .bool (q1 && q2) | _ => False) (by kernel_rfl) (by kernel_rfl) ?_
      refine wpE_op rfl rfl (fun w' hw' K' hK' => ?_)
      have hE := hw'.1
      go_step
      refine hK' _ ⟨_, rfl⟩ ?_
      clear hK' K' hE hw' w'
      refine wpE_op rfl rfl (fun w' hw' K' hK' => ?_)
      have hE := hw'.1
      go_step
      refine hK' _ ⟨_, rfl⟩ ?_
      clear hK' K' hE hw' w'
      refine wpE_op rfl rfl (fun w' hw' K' hK' => ?_)
      have hE := hw'.1
      go_step
      refine hK' _ ⟨_, rfl⟩ ?_
      clear hK' K' hE hw' w'
      refine wpE_op rfl rfl (fun w' hw' K' hK' => ?_)
      have hE := hw'.1
      have u0 := ((Ext.drew _).trans hE).cell HC0.out
      have u1 := ((Ext.drew _).trans hE).cell HC3.out
      go_step
      refine hK' _ ⟨_, rfl⟩ ?_
      clear hK' K' u0 u1 hE hw' w'
      refine wpE_op rfl rfl (fun w' hw' K' hK' => ?_)
      have hE := hw'.1
      obtain ⟨u0, u1⟩ := (HB.out.ext ((Ext.drew wr).trans hE)).cells
      go_step
      refine hK' _ ⟨_, rfl⟩ ?_
      clear hK' K' u0 u1 hE hw' w'
      refine wpE_call 17 rfl (by simp) rfl (fun w' hw' K' hK' => ?_) ?_
      · have hE := hw'.1
        go_step
        refine (HEQ.out _ ((Ext.drew _).trans hE)).mono ?_
        rintro _ w2 ⟨rfl, hx⟩
        exact hK' _ _ ⟨_, rfl, rfl⟩ hx
      rintro _ w17x _ rfl
      simp only [Act.put, List.setIfInBounds_toArray, List.set_cons_succ, List.set_cons_zero]
      refine wpE_nil (fun W hW => ?_)
      have HXW := Lib.hid ((HW.out.trans (Ext.drew _)).trans hW.1)
      clear hW
      obtain ⟨q, hq⟩ : ∃ q, (q1 && q2) = q := ⟨_, rfl⟩
      rw [hq] at HTK HYS
      simp only [hq]
      clear hq
      cases q with
      | true =>
        go_wp2_with fail
        go_ret
        rw [HYS.out (by first | exact rfl | trivial)]
        exact ⟨rfl, HX.out.trans HXW.out⟩
      | false =>
        go_wp2_with fail
        go_roundw
        case rel => exact ⟨k + 1, by go_num, by omega, HTK, HXW⟩
        case measure => simp [intOf]; omega
    · obtain rfl : k = n := by omega
      have HF2 := Lib.hid (show hasA xs k0 b0 = false by have h := HF.out; rwa [List.take_of_length_le (by rw [HN.out]; exact Nat.le_refl _)] at h)
      clear hlt
      go_wp2_with fail
      go_ret
      rw [HF2.out]
      exact ⟨rfl, HX.out.trans HW.out⟩
end Go.Proofs.YthpfomjibfbiiaaGreatDoor
