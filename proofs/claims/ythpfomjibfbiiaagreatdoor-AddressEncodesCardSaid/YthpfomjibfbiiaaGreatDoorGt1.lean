/- The reference's way of reading elements: first, Contents, Elements. (wip/tools/gengt1.py printed this.) -/
import Derived.Test.YthpfomjibfbiiaaGreatDoorMg30
import Derived.Test.YthpfomjibfbiiaaGreatDoorMg7
import Derived.Test.YthpfomjibfbiiaaGreatDoorMg1
import Derived.Deep.DeepCutAuto
namespace Go.Proofs.YthpfomjibfbiiaaGreatDoor
open Go Go.RowKit
set_option linter.unusedVariables false

theorem wrap64_u8 {x : Nat} (h : x < 256) : wrap64 (x : Int) = (x : Int) := by unfold wrap64; omega
theorem wrap64_vy {v y : Nat} (h : v < 281474976710656) (hy : y < 256) : Value.int .i64 (wrap64 (wrap64 (256 * (v : Int)) + (y : Int))) = .int .i64 ((256 * v + y : Nat) : Int) := by
  rw [IntWalk.wrap64_in (256 * (v : Int)) (by omega), IntWalk.wrap64_in _ (by omega)]
  congr 1
def FirR (w : World) (b : List UInt8) (e : Ending) (w' : World) : Prop := ∃ A' c', e = .returned (.tuple #[.int .i64 ((frst b).1 : Nat), .slice A' (frst b).2.1.length c', .int .i64 ((frst b).2.2 : Nat)]) ∧ BS w' (.slice A' (frst b).2.1.length c') (frst b).2.1 ∧ Ext w w'
theorem FirR.no {w : World} {b : List UInt8} (h : frst b = (0, [], 0)) : FirR w b (.returned (.tuple #[.int .i64 0, .slice none 0 0, .int .i64 0])) w := by
  unfold FirR
  rw [h]
  exact ⟨none, 0, rfl, BS.nil _, Ext.refl _⟩
set_option maxRecDepth 100000 in
set_option maxHeartbeats 4000000 in
theorem first_at (A : Option Addr) (c : Nat) (b : List UInt8) (w : World) (hb : BS w (.slice A b.length c) b) (hl : b.length ≤ 1000) :
    Calls Tryz.prog 44 #[.slice A b.length c] w (FirR w b) := by
  obtain ⟨A', c', he, k1, k2, k3⟩ := hb.open_
  injection he with e1 e2 e3
  subst e1; subst e3
  unfold maxLen at k2
  by_cases h2 : b.length < 2
  · have h2' : (b.length : Int) < 2 := by omega
    have HF := Lib.hid (FirR.no (w := w) (show frst b = (0, [], 0) by unfold frst; rw [if_pos h2]))
    clear k3 hb e2 h2
    go_enter Tryz.func44, Tryz.ntmps44
    go_wp2_with fail
    go_ret3
    exact HF.out
  obtain ⟨ad, rfl, _, hcell⟩ := k3 (by omega)
  have h2' : (2 : Int) ≤ (b.length : Int) := by omega
  have HBS := Lib.hid hb
  have hc0 := hcell 0 (by omega)
  have hc1 := hcell 1 (by omega)
  rw [show ad.add 0 = ad from by simp [Addr.add]] at hc0
  rw [show ad.add 1 = ⟨ad.block, ad.off + 1, none⟩ from by unfold Addr.add; rw [if_neg (by decide)]] at hc1
  obtain ⟨x0, hx0⟩ : ∃ x, b[0].toNat = x := ⟨_, rfl⟩
  obtain ⟨x, hx⟩ : ∃ x, b[1].toNat = x := ⟨_, rfl⟩
  rw [hx0] at hc0
  have hx0l : x0 < 256 := by rw [← hx0]; exact b[0].toNat_lt
  rw [hx] at hc1
  have hxl : x < 256 := by rw [← hx]; exact b[1].toNat_lt
  have HG0 := Lib.hid (show (b[0]?.getD 0).toNat = x0 by rw [List.getElem?_eq_getElem (by omega), Option.getD_some, hx0])
  have HG1 := Lib.hid (show (b[1]?.getD 0).toNat = x by rw [List.getElem?_eq_getElem (by omega), Option.getD_some, hx])
  have HC0 := Lib.hid hc0
  have HCE := Lib.hid hcell
  have HL := Lib.hid hl
  obtain ⟨n, hn⟩ : ∃ n, b.length = n := ⟨_, rfl⟩
  rw [hn] at h2' k1 ⊢
  have HN := Lib.hid hn
  have HN2 := Lib.hid (show ¬ b.length < 2 from h2)
  clear hb hcell hc0 hx hx0 k3 e2 hl hn h2
  go_enter Tryz.func44, Tryz.ntmps44
  go_upto_if 17 with fail
  go_cut [5, 6, 7, 8] (fun vn vp _ _ wc => ∃ nn pp : Nat, vn = .int .i64 (nn : Int) ∧ vp = .int .i64 (pp : Int) ∧ pp ≤ n ∧ pp ≤ 5 ∧ 2 ≤ pp ∧ Hid (frst b = frs2 b pp nn) ∧ w = wc)
  case first =>
    by_cases h128 : x < 128
    · have h128' : (x : Int) < 128 := by omega
      have HF := Lib.hid (show frst b = frs2 b 2 x by unfold frst; rw [if_neg HN2.out, HG1.out, if_pos h128])
      clear h128 hc1
      go_wp2_with fail
      go_meet
      case rel => exact ⟨x, 2, rfl, rfl, by omega, by omega, by omega, HF, rfl⟩
    · have h128' : (128 : Int) ≤ (x : Int) := by omega
      obtain ⟨k, hk⟩ : ∃ k, x - 128 = k := ⟨_, rfl⟩
      have hki : (x : Int) - 128 = (k : Int) := by omega
      have hk128 : k < 128 := by omega
      have HFR := Lib.hid (show frst b = if k < 1 ∨ 3 < k ∨ b.length < 2 + k then (0, [], 0) else frs2 b (2 + k) (nbe ((b.drop 2).take k) 0) by unfold frst; rw [if_neg HN2.out, HG1.out, if_neg h128, hk])
      clear h128 hc1 hk
      by_cases hk1 : k < 1
      · have hk1' : (k : Int) < 1 := by omega
        have HF := Lib.hid (FirR.no (w := w) (show frst b = (0, [], 0) by rw [HFR.out, if_pos (.inl hk1)]))
        clear hk1
        go_wp2_with fail
        go_ret3
        exact HF.out
      have hk1' : (1 : Int) ≤ (k : Int) := by omega
      by_cases hk3 : 3 < k
      · have hk3' : (3 : Int) < (k : Int) := by omega
        have HF := Lib.hid (FirR.no (w := w) (show frst b = (0, [], 0) by rw [HFR.out, if_pos (.inr (.inl hk3))]))
        clear hk1 hk3
        go_wp2_with fail
        go_ret3
        exact HF.out
      have hk3' : (k : Int) ≤ 3 := by omega
      by_cases hkn : n < 2 + k
      · have hkn' : (n : Int) < 2 + (k : Int) := by omega
        have HF := Lib.hid (FirR.no (w := w) (show frst b = (0, [], 0) by rw [HFR.out, if_pos (.inr (.inr (by rw [HN.out]; exact hkn)))]))
        clear hk1 hk3 hkn
        go_wp2_with fail
        go_ret3
        exact HF.out
      have hkn' : 2 + (k : Int) ≤ (n : Int) := by omega
      have HF := Lib.hid (show frst b = frs2 b (2 + k) (nbe ((b.drop 2).take k) 0) by rw [HFR.out, if_neg (by rw [HN.out]; omega)])
      have HKN := Lib.hid (show 2 + k ≤ n ∧ k ≤ 3 by omega)
      clear hk1 hk3 hkn
      go_wp2_with fail
      go_loopw [5, 8] (fun vn vi wr => ∃ i : Nat, vi = .int .i64 (i : Int) ∧ i ≤ k ∧ vn = .int .i64 ((nbe ((b.drop 2).take i) 0 : Nat) : Int) ∧ w = wr) (fun _ vi _ => k - (intOf vi).toNat)
      case atStart => exact ⟨0, rfl, by omega, rfl, rfl⟩
      case round =>
        obtain ⟨i, rfl, hik, rfl, rfl⟩ := hrel
        by_cases hlt : i < k
        · have hib : 2 + i < b.length := by rw [HN.out]; have := HKN.out.1; omega
          have hci := HCE.out (2 + i) hib
          obtain ⟨y, hy⟩ : ∃ y, b[2 + i].toNat = y := ⟨_, rfl⟩
          have hyl : y < 256 := by rw [← hy]; exact b[2 + i].toNat_lt
          rw [hy] at hci
          obtain ⟨v, hv⟩ : ∃ v, nbe ((b.drop 2).take i) 0 = v := ⟨_, rfl⟩
          have hvb : v < 65536 := by
            have h1 := nbe_bd ((b.drop 2).take i) 0 1 (by omega)
            rw [hv] at h1
            have h2 : ((b.drop 2).take i).length ≤ 2 := by rw [List.length_take]; have := HKN.out.2; omega
            have h3 : 256 ^ ((b.drop 2).take i).length ≤ 256 ^ 2 := Nat.pow_le_pow_right (by omega) h2
            omega
          have HST := Lib.hid (show nbe ((b.drop 2).take (i + 1)) 0 = 256 * v + y by
            have h1 : (b.drop 2).take (i + 1) = (b.drop 2).take i ++ [b[2 + i]] := by
              rw [List.take_succ_eq_append_getElem (by rw [List.length_drop]; omega), List.getElem_drop]
            rw [h1, nbe_snoc, hv, hy])
          have HVB := Lib.hid hvb
          rw [hv]
          have hi2 : (2 : Int) + (i : Int) < (n : Int) := by have := HKN.out.1; omega
          clear hv hvb hy hib
          go_wp2_with fail
          go_roundw
          case rel => exact ⟨i + 1, by go_num, by omega, by rw [HST.out]; have h9 := HVB.out; exact wrap64_vy (by omega) hyl, by first | rfl | trivial⟩
          case measure => simp [intOf]; omega
        · obtain rfl : i = k := by omega
          have hge : (i : Int) ≤ (i : Int) := by omega
          clear hlt
          go_wp2_with fail
          go_meet
          case rel => exact ⟨_, 2 + i, rfl, by rw [Int.natCast_add]; rfl, by omega, by omega, by omega, HF, rfl⟩
  case rest =>
  obtain ⟨nn, pp, rfl, rfl, hpn, hp5, hp2, HF, rfl⟩ := hcut
  by_cases hfit : n - pp < nn
  · have hfit' : (n : Int) - (pp : Int) < (nn : Int) := by omega
    have HNO := Lib.hid (FirR.no (w := w) (show frst b = (0, [], 0) by rw [HF.out]; unfold frs2; rw [if_pos (by rw [HN.out]; exact hfit)]))
    clear hfit
    go_wp2_with fail
    go_ret3
    exact HNO.out
  · have hfit' : (nn : Int) ≤ (n : Int) - (pp : Int) := by omega
    have HYS := Lib.hid (show frst b = (x0, (b.drop pp).take nn, pp + nn) by rw [HF.out]; unfold frs2; rw [if_neg (by rw [HN.out]; exact hfit), HG0.out])
    obtain ⟨m, hm⟩ : ∃ m, (b.drop pp).take nn = m := ⟨_, rfl⟩
    obtain ⟨A7, c7, hb7, hs7'⟩ := run_slice12 (P := Tryz.prog) w 23 (some ad) c b pp (pp + nn) m (by rw [← hm, List.drop_take]; congr 1; omega) (by omega) (by rw [HN.out]; omega) Tryz.underlying23 (info_parts u8inf |>.elim fun i hi => ⟨i, hi.1, hi.2.2.1⟩) HBS.out
    rw [hm] at HYS
    rw [HN.out] at hs7'
    have hs7 : ∀ w' : World, (Instr.slice 23 (.slice (some ad) n c) (some (.int .i64 (pp : Int))) (some (.int .i64 ((pp : Int) + (nn : Int)))) none).run Tryz.prog w' = .ok (.slice A7 m.length c7) w' := fun w' => by
      have := hs7' w'
      rwa [Int.natCast_add] at this
    have HB7 := Lib.hid hb7
    have hn1000 : n ≤ 1000 := by have := HL.out; rw [HN.out] at this; exact this
    have hnn : nn ≤ 1000 := by omega
    have hz0 : (0 : Int) < (n : Int) := by omega
    clear hs7' hfit hm hb7
    go_upto_region 16 with fail
    refine wp_region_ext (fun i v' w' => match i with | _ => False) (by kernel_rfl) (by kernel_rfl) ?_
    refine wpE_op rfl rfl (fun w' hw' K' hK' => ?_)
    have hE := hw'.1
    go_step
    refine hK' _ ⟨_, rfl⟩ ?_
    clear hK' K' hE hw' w'
    refine wpE_op rfl rfl (fun w' hw' K' hK' => ?_)
    have hE := hw'.1
    go_step
    refine hK' _ ⟨_, rfl⟩ ?_
    clear hK' K' hE hw' w'
    refine wpE_op rfl rfl (fun w' hw' K' hK' => ?_)
    have hE := hw'.1
    have u0 := ((Ext.drew _).trans hE).cell HC0.out
    go_step
    refine hK' _ ⟨_, rfl⟩ ?_
    clear hK' K' u0 hE hw' w'
    refine wpE_op rfl rfl (fun w' hw' K' hK' => ?_)
    have hE := hw'.1
    go_step
    refine hK' _ ⟨_, rfl⟩ ?_
    clear hK' K' hE hw' w'
    refine wpE_op rfl rfl (fun w' hw' K' hK' => ?_)
    have hE := hw'.1
    go_step
    refine hK' _ ⟨_, rfl⟩ ?_
    clear hK' K' hE hw' w'
    refine wpE_op rfl rfl (fun w' hw' K' hK' => ?_)
    have hE := hw'.1
    go_step
    refine hK' _ ⟨_, rfl⟩ ?_
    clear hK' K' hE hw' w'
    refine wpE_op rfl rfl (fun w' hw' K' hK' => ?_)
    have hE := hw'.1
    go_step
    refine hK' _ ⟨_, rfl⟩ ?_
    clear hK' K' hE hw' w'
    refine wpE_op rfl rfl (fun w' hw' K' hK' => ?_)
    have hE := hw'.1
    go_step
    refine hK' _ ⟨_, rfl⟩ ?_
    clear hK' K' hE hw' w'
    refine wpE_op rfl rfl (fun w' hw' K' hK' => ?_)
    have hE := hw'.1
    go_step
    refine hK' _ ⟨_, rfl⟩ ?_
    clear hK' K' hE hw' w'
    refine wpE_op rfl rfl (fun w' hw' K' hK' => ?_)
    have hE := hw'.1
    go_step
    refine hK' _ ⟨_, rfl⟩ ?_
    clear hK' K' hE hw' w'
    refine wpE_op rfl rfl (fun w' hw' K' hK' => ?_)
    have hE := hw'.1
    go_step
    refine hK' _ ⟨_, rfl⟩ ?_
    clear hK' K' hE hw' w'
    refine wpE_op rfl rfl (fun w' hw' K' hK' => ?_)
    have hE := hw'.1
    go_step
    refine hK' _ ⟨_, rfl⟩ ?_
    clear hK' K' hE hw' w'
    refine wpE_op rfl rfl (fun w' hw' K' hK' => ?_)
    have hE := hw'.1
    go_step
    refine hK' _ ⟨_, rfl⟩ ?_
    clear hK' K' hE hw' w'
    refine wpE_op rfl rfl (fun w' hw' K' hK' => ?_)
    have hE := hw'.1
    go_step
    refine hK' _ ⟨_, rfl⟩ ?_
    clear hK' K' hE hw' w'
    refine wpE_op rfl rfl (fun w' hw' K' hK' => ?_)
    have hE := hw'.1
    go_step
    refine hK' _ ⟨_, rfl⟩ ?_
    clear hK' K' hE hw' w'
    refine wpE_op rfl rfl (fun w' hw' K' hK' => ?_)
    have hE := hw'.1
    go_step
    refine hK' _ ⟨_, rfl⟩ ?_
    clear hK' K' hE hw' w'
    refine wpE_nil (fun W hW => ?_)
    have HXW := Lib.hid ((Ext.drew w).trans hW.1)
    clear hW
    go_wp2_with fail
    go_ret3
    unfold FirR
    rw [HYS.out]
    exact ⟨A7, c7, by simp, HB7.out.ext HXW.out, HXW.out⟩
set_option maxRecDepth 100000 in
theorem Contents_at (A : Option Addr) (c : Nat) (b : List UInt8) (w : World) (hb : BS w (.slice A b.length c) b) (hl : b.length ≤ 1000) :
    Calls Tryz.prog 84 #[.slice A b.length c] w fun e w' => ∃ A' c', e = .returned (.slice A' (contF b).length c') ∧ BS w' (.slice A' (contF b).length c') (contF b) ∧ Ext w w' := by
  have H := Lib.hid (first_at A c b w hb hl)
  clear hb hl
  unfold contF
  go_enter Tryz.func84, Tryz.ntmps84
  go_wp2_with fail
  refine H.out.mono ?_
  rintro _ w1 ⟨A1, c1, rfl, hb1, hx1⟩
  have HB1 := Lib.hid hb1; have HX1 := Lib.hid hx1
  clear hb1 hx1
  go_wp2_with fail
  go_ret
  exact ⟨A1, c1, rfl, HB1.out, HX1.out⟩
end Go.Proofs.YthpfomjibfbiiaaGreatDoor
