/- Texts laid together (wip/tools/automerge.py): Gt5, AdL2. -/
import Derived.Test.YthpfomjibfbiiaaGreatDoorGt4
import Derived.Test.YthpfomjibfbiiaaGreatDoorAd4
import Derived.Test.YthpfomjibfbiiaaGreatDoorMg3
namespace Go.Proofs.YthpfomjibfbiiaaGreatDoor
open Go Go.RowKit
set_option linter.unusedVariables false

set_option maxRecDepth 100000 in
set_option maxHeartbeats 4000000 in
theorem RDecode15_yes (A : Option Addr) (c : Nat) (b : List UInt8) (hl : b.length ≤ 1000) (L : List (Int × List UInt8)) (hv : vlA L = true) (hbL : b = dataF L) (w : World) (hb : BS w (.slice A b.length c) b) :
    Calls Tryz.prog 19 #[.slice A b.length c] w fun e w' => ∃ A' c', e = .returned (.tuple #[.slice A' L.length c', .int .i64 0]) ∧ DS w' (.slice A' L.length c') L ∧ Ext w w' := by
  have HG := Lib.hid (Get_at A c b w hb hl)
  have hxs := (getF_le b).1
  have HB := Lib.hid hb
  have hg : getF b = L := by rw [hbL]; exact getF_data hv
  rw [hg] at HG hxs
  have hn5 : L.length ≤ 1000 := by omega
  have hdd : dataF L = b := hbL.symm
  clear hbL hg
  obtain ⟨xs, rfl⟩ : ∃ xs, xs = L := ⟨_, rfl⟩
  go_enter Tryz.func19, Tryz.ntmps19
  go_wp2_with fail
  refine HG.out.mono ?_
  rintro _ w1 ⟨A1, c1, rfl, hd1, hx1⟩
  have HVL := Lib.hid (fun (W : World) (h : DS W (.slice A1 xs.length c1) xs) => RAValidList_at A1 c1 xs W h hn5)
  rw [hv] at HVL
  have HEN := Lib.hid (fun (W : World) (h : DS W (.slice A1 xs.length c1) xs) => REncode15_at A1 c1 xs W h hv)
  rw [hdd] at HEN
  have HDS := Lib.hid hd1; have HX1 := Lib.hid hx1; have HB1 := Lib.hid (HB.out.ext hx1)
  clear hd1 hx1 hv
  go_upto_region 2 with fail
  refine wp_region_ext (fun i v' w' => match i with | 1 => v' = .bool true | 5 => ∃ A c, v' = .slice A b.length c ∧ BS w' (.slice A b.length c) b | _ => False) (by kernel_rfl) (by kernel_rfl) ?_
  refine wpE_op rfl rfl (fun w' hw' K' hK' => ?_)
  have hE := hw'.1
  go_step
  refine hK' _ ⟨_, rfl⟩ ?_
  clear hK' K' hE hw' w'
  refine wpE_call 8 rfl (by simp) rfl (fun w' hw' K' hK' => ?_) ?_
  · have hE := hw'.1
    go_step
    refine (HVL.out w' (HDS.out.ext ((Ext.drew _).trans hE))).mono ?_
    rintro _ w2 ⟨rfl, hx⟩
    exact hK' _ _ ⟨_, rfl, rfl⟩ hx
  rintro _ w8x hE8 rfl
  simp only [Act.put, List.setIfInBounds_toArray, List.set_cons_succ, List.set_cons_zero]
  refine wpE_op rfl rfl (fun w' hw' K' hK' => ?_)
  have hE := hw'.1
  go_step
  refine hK' _ ⟨_, rfl⟩ ?_
  clear hK' K' hE hw' w'
  refine wpE_op rfl rfl (fun w' hw' K' hK' => ?_)
  have hE := hw'.1
  go_step
  refine hK' _ ⟨_, rfl⟩ ?_
  clear hK' K' hE hw' w'
  refine wpE_op (by kernel_rfl) rfl (fun w' hw' K' hK' => ?_)
  have hE := hw'.1
  go_step
  refine hK' _ ⟨_, rfl⟩ ?_
  clear hK' K' hE hw' w'
  refine wpE_call 12 rfl (by simp) (by kernel_rfl) (fun w' hw' K' hK' => ?_) ?_
  · have hE := hw'.1
    go_step
    refine (HEN.out w' (HDS.out.ext ((Ext.drew _).trans hE))).mono ?_
    rintro _ w2 ⟨A2, c2, rfl, ho, hx⟩
    exact hK' _ _ ⟨_, rfl, A2, c2, rfl, ho.bs⟩ hx
  rintro _ w12x hE12 ⟨A12, c12, rfl, hb12⟩
  simp only [Act.put, List.setIfInBounds_toArray, List.set_cons_succ, List.set_cons_zero]
  refine wpE_op (by kernel_rfl) rfl (fun w' hw' K' hK' => ?_)
  have hE := hw'.1
  have hM : Ext w12x w' := hw'.2 12 w12x (by simp [adds]) (by decide)
  have hcv := run_str (P := Tryz.prog) w' 23 9 5 _ _ Tryz.underlying23 Tryz.underlying5 Tryz.underlying9 (hb12.ext hM)
  go_step
  refine hK' _ ⟨_, rfl⟩ ?_
  clear hK' K' hcv hM hE hw' w'
  refine wpE_op (by kernel_rfl) rfl (fun w' hw' K' hK' => ?_)
  have hE := hw'.1
  go_step
  refine hK' _ ⟨_, rfl⟩ ?_
  clear hK' K' hE hw' w'
  refine wpE_op (by kernel_rfl) rfl (fun w' hw' K' hK' => ?_)
  have hE := hw'.1
  have hcv := run_str (P := Tryz.prog) w' 23 9 5 _ _ Tryz.underlying23 Tryz.underlying5 Tryz.underlying9 (HB1.out.ext ((Ext.drew _).trans hE))
  go_step
  refine hK' _ ⟨_, rfl⟩ ?_
  clear hK' K' hcv hE hw' w'
  refine wpE_op (by kernel_rfl) rfl (fun w' hw' K' hK' => ?_)
  have hE := hw'.1
  go_step
  refine hK' _ ⟨_, rfl⟩ ?_
  clear hK' K' hE hw' w'
  refine wpE_op rfl rfl (fun w' hw' K' hK' => ?_)
  have hE := hw'.1
  go_step
  refine hK' _ ⟨_, rfl⟩ ?_
  clear hK' K' hE hw' w'
  refine wpE_nil (fun W hW => ?_)
  have HXW := Lib.hid ((Ext.drew w1).trans hW.1)
  clear hW
  go_wp2_with fail
  go_ret2
  exact ⟨A1, c1, rfl, HDS.out.ext HXW.out, HX1.out.trans HXW.out⟩
set_option maxRecDepth 100000 in
set_option maxHeartbeats 4000000 in
theorem RDecode15_no (A : Option Addr) (c : Nat) (b : List UInt8) (hl : b.length ≤ 1000) (hno : ∀ L, vlA L = true → b ≠ dataF L) (w : World) (hb : BS w (.slice A b.length c) b) :
    Calls Tryz.prog 19 #[.slice A b.length c] w fun e w' => e = .returned (.tuple #[.slice none 0 0, .int .i64 6]) ∧ Ext w w' := by
  have HG := Lib.hid (Get_at A c b w hb hl)
  have hxs := (getF_le b).1
  have HB := Lib.hid hb
  have hno1 := hno (getF b)
  generalize getF b = xs at *
  have hn5 : xs.length ≤ 1000 := by omega
  obtain ⟨v, hv⟩ : ∃ v, vlA xs = v := ⟨_, rfl⟩
  cases v with
  | false =>
    go_enter Tryz.func19, Tryz.ntmps19
    go_wp2_with fail
    refine HG.out.mono ?_
    rintro _ w1 ⟨A1, c1, rfl, hd1, hx1⟩
    have HVL := Lib.hid (fun (W : World) (h : DS W (.slice A1 xs.length c1) xs) => RAValidList_at A1 c1 xs W h hn5)
    rw [hv] at HVL
    have HDS := Lib.hid hd1; have HX1 := Lib.hid hx1; have HB1 := Lib.hid (HB.out.ext hx1)
    clear hd1 hx1 hv
    go_upto_region 2 with fail
    refine wp_region_ext (fun i v' w' => match i with | 1 => v' = .bool false | _ => False) (by kernel_rfl) (by kernel_rfl) ?_
    refine wpE_op rfl rfl (fun w' hw' K' hK' => ?_)
    have hE := hw'.1
    go_step
    refine hK' _ ⟨_, rfl⟩ ?_
    clear hK' K' hE hw' w'
    refine wpE_call 8 rfl (by simp) rfl (fun w' hw' K' hK' => ?_) ?_
    · have hE := hw'.1
      go_step
      refine (HVL.out w' (HDS.out.ext ((Ext.drew _).trans hE))).mono ?_
      rintro _ w2 ⟨rfl, hx⟩
      exact hK' _ _ ⟨_, rfl, rfl⟩ hx
    rintro _ w8x hE8 rfl
    simp only [Act.put, List.setIfInBounds_toArray, List.set_cons_succ, List.set_cons_zero]
    refine wpE_op rfl rfl (fun w' hw' K' hK' => ?_)
    have hE := hw'.1
    go_step
    refine hK' _ ⟨_, rfl⟩ ?_
    clear hK' K' hE hw' w'
    refine wpE_op rfl rfl (fun w' hw' K' hK' => ?_)
    have hE := hw'.1
    go_step
    refine hK' _ ⟨_, rfl⟩ ?_
    clear hK' K' hE hw' w'
    try simp only [Act.put, List.setIfInBounds_toArray, List.set_cons_succ, List.set_cons_zero]
    refine wpE_no (k := _) (o := _) (rest := _) (a := _) (Ws := _) ?hn ?_
    case hn => rfl
    simp only [Act.put, List.setIfInBounds_toArray, List.set_cons_succ, List.set_cons_zero]
    try simp only [Act.put, List.setIfInBounds_toArray, List.set_cons_succ, List.set_cons_zero]
    refine wpE_no (k := _) (o := _) (rest := _) (a := _) (Ws := _) ?hn ?_
    case hn => rfl
    simp only [Act.put, List.setIfInBounds_toArray, List.set_cons_succ, List.set_cons_zero]
    try simp only [Act.put, List.setIfInBounds_toArray, List.set_cons_succ, List.set_cons_zero]
    refine wpE_no (k := _) (o := _) (rest := _) (a := _) (Ws := _) ?hn ?_
    case hn => rfl
    simp only [Act.put, List.setIfInBounds_toArray, List.set_cons_succ, List.set_cons_zero]
    try simp only [Act.put, List.setIfInBounds_toArray, List.set_cons_succ, List.set_cons_zero]
    refine wpE_no (k := _) (o := _) (rest := _) (a := _) (Ws := _) ?hn ?_
    case hn => rfl
    simp only [Act.put, List.setIfInBounds_toArray, List.set_cons_succ, List.set_cons_zero]
    try simp only [Act.put, List.setIfInBounds_toArray, List.set_cons_succ, List.set_cons_zero]
    refine wpE_no (k := _) (o := _) (rest := _) (a := _) (Ws := _) ?hn ?_
    case hn => rfl
    simp only [Act.put, List.setIfInBounds_toArray, List.set_cons_succ, List.set_cons_zero]
    try simp only [Act.put, List.setIfInBounds_toArray, List.set_cons_succ, List.set_cons_zero]
    refine wpE_no (k := _) (o := _) (rest := _) (a := _) (Ws := _) ?hn ?_
    case hn => rfl
    simp only [Act.put, List.setIfInBounds_toArray, List.set_cons_succ, List.set_cons_zero]
    refine wpE_op rfl rfl (fun w' hw' K' hK' => ?_)
    have hE := hw'.1
    go_step
    refine hK' _ ⟨_, rfl⟩ ?_
    clear hK' K' hE hw' w'
    refine wpE_nil (fun W hW => ?_)
    have HXW := Lib.hid ((Ext.drew w1).trans hW.1)
    clear hW
    go_wp2_with fail
    go_ret2
    exact ⟨rfl, HX1.out.trans HXW.out⟩
  | true =>
    have hne := hno1 hv
    obtain ⟨dd, hdd⟩ : ∃ dd, dataF xs = dd := ⟨_, rfl⟩
    rw [hdd] at hne
    have hq : (dd == b) = false := by rw [beq_eq_false_iff_ne]; exact fun e => hne e.symm
    go_enter Tryz.func19, Tryz.ntmps19
    go_wp2_with fail
    refine HG.out.mono ?_
    rintro _ w1 ⟨A1, c1, rfl, hd1, hx1⟩
    have HVL := Lib.hid (fun (W : World) (h : DS W (.slice A1 xs.length c1) xs) => RAValidList_at A1 c1 xs W h hn5)
    rw [hv] at HVL
    have HEN := Lib.hid (fun (W : World) (h : DS W (.slice A1 xs.length c1) xs) => REncode15_at A1 c1 xs W h hv)
    rw [hdd] at HEN
    have HDS := Lib.hid hd1; have HX1 := Lib.hid hx1; have HB1 := Lib.hid (HB.out.ext hx1)
    clear hd1 hx1 hv
    go_upto_region 2 with fail
    refine wp_region_ext (fun i v' w' => match i with | 1 => v' = .bool true | 5 => ∃ A c, v' = .slice A dd.length c ∧ BS w' (.slice A dd.length c) dd | _ => False) (by kernel_rfl) (by kernel_rfl) ?_
    refine wpE_op rfl rfl (fun w' hw' K' hK' => ?_)
    have hE := hw'.1
    go_step
    refine hK' _ ⟨_, rfl⟩ ?_
    clear hK' K' hE hw' w'
    refine wpE_call 8 rfl (by simp) rfl (fun w' hw' K' hK' => ?_) ?_
    · have hE := hw'.1
      go_step
      refine (HVL.out w' (HDS.out.ext ((Ext.drew _).trans hE))).mono ?_
      rintro _ w2 ⟨rfl, hx⟩
      exact hK' _ _ ⟨_, rfl, rfl⟩ hx
    rintro _ w8x hE8 rfl
    simp only [Act.put, List.setIfInBounds_toArray, List.set_cons_succ, List.set_cons_zero]
    refine wpE_op rfl rfl (fun w' hw' K' hK' => ?_)
    have hE := hw'.1
    go_step
    refine hK' _ ⟨_, rfl⟩ ?_
    clear hK' K' hE hw' w'
    refine wpE_op rfl rfl (fun w' hw' K' hK' => ?_)
    have hE := hw'.1
    go_step
    refine hK' _ ⟨_, rfl⟩ ?_
    clear hK' K' hE hw' w'
    refine wpE_op (by kernel_rfl) rfl (fun w' hw' K' hK' => ?_)
    have hE := hw'.1
    go_step
    refine hK' _ ⟨_, rfl⟩ ?_
    clear hK' K' hE hw' w'
    refine wpE_call 12 rfl (by simp) (by kernel_rfl) (fun w' hw' K' hK' => ?_) ?_
    · have hE := hw'.1
      go_step
      refine (HEN.out w' (HDS.out.ext ((Ext.drew _).trans hE))).mono ?_
      rintro _ w2 ⟨A2, c2, rfl, ho, hx⟩
      exact hK' _ _ ⟨_, rfl, A2, c2, rfl, ho.bs⟩ hx
    rintro _ w12x hE12 ⟨A12, c12, rfl, hb12⟩
    simp only [Act.put, List.setIfInBounds_toArray, List.set_cons_succ, List.set_cons_zero]
    refine wpE_op (by kernel_rfl) rfl (fun w' hw' K' hK' => ?_)
    have hE := hw'.1
    have hM : Ext w12x w' := hw'.2 12 w12x (by simp [adds]) (by decide)
    have hcv := run_str (P := Tryz.prog) w' 23 9 5 _ _ Tryz.underlying23 Tryz.underlying5 Tryz.underlying9 (hb12.ext hM)
    go_step
    refine hK' _ ⟨_, rfl⟩ ?_
    clear hK' K' hcv hM hE hw' w'
    refine wpE_op (by kernel_rfl) rfl (fun w' hw' K' hK' => ?_)
    have hE := hw'.1
    go_step
    refine hK' _ ⟨_, rfl⟩ ?_
    clear hK' K' hE hw' w'
    refine wpE_op (by kernel_rfl) rfl (fun w' hw' K' hK' => ?_)
    have hE := hw'.1
    have hcv := run_str (P := Tryz.prog) w' 23 9 5 _ _ Tryz.underlying23 Tryz.underlying5 Tryz.underlying9 (HB1.out.ext ((Ext.drew _).trans hE))
    go_step
    refine hK' _ ⟨_, rfl⟩ ?_
    clear hK' K' hcv hE hw' w'
    refine wpE_op (by kernel_rfl) rfl (fun w' hw' K' hK' => ?_)
    have hE := hw'.1
    go_step
    refine hK' _ ⟨_, rfl⟩ ?_
    clear hK' K' hE hw' w'
    refine wpE_op rfl rfl (fun w' hw' K' hK' => ?_)
    have hE := hw'.1
    go_step
    refine hK' _ ⟨_, rfl⟩ ?_
    clear hK' K' hE hw' w'
    refine wpE_nil (fun W hW => ?_)
    have HXW := Lib.hid ((Ext.drew w1).trans hW.1)
    clear hW
    go_wp2_with fail
    go_ret2
    exact ⟨rfl, HX1.out.trans HXW.out⟩
end Go.Proofs.YthpfomjibfbiiaaGreatDoor
namespace Go.Proofs.YthpfomjibfbiiaaGreatDoor
open Go Go.RowKit
set_option linter.unusedVariables false

def smA (xs : List (Int × List UInt8)) : Bool := xs.all (fun x => decide (x.2.length ≤ 40)) && decide (xs.length ≤ 30)
set_option maxRecDepth 100000 in
theorem small_at (A : Option Addr) (c : Nat) (xs : List (Int × List UInt8)) (w : World) (hD : DS w (.slice A xs.length c) xs) :
    Calls Tryz.prog 6 #[.slice A xs.length c] w fun e w' => e = .returned (.bool (smA xs)) ∧ Ext w w' := by
  obtain ⟨A', c', he, hc1, hc2, hcell⟩ := hD
  injection he with e1 e2 e3
  subst e1; subst e3
  unfold maxLen at hc2
  have HC := Lib.hid hcell
  clear hcell e2
  obtain ⟨n, hn⟩ : ∃ n, xs.length = n := ⟨_, rfl⟩
  rw [hn] at hc1 ⊢
  have HN := Lib.hid hn
  clear hn
  go_enter Tryz.func6, Tryz.ntmps6
  go_wp2_with fail
  go_loopw [3] (fun i wr => ∃ k : Nat, i = .int .i64 (k : Int) ∧ k ≤ n ∧ Hid (∀ j (h : j < xs.length), j < k → xs[j].2.length ≤ 40) ∧ Hid (w = wr)) (fun i _ => n - (intOf i).toNat)
  case atStart => exact ⟨0, rfl, by omega, Lib.hid (fun j _ hj => absurd hj (Nat.not_lt_zero j)), Lib.hid rfl⟩
  case round =>
    obtain ⟨k, rfl, hk, HJ, HWR⟩ := hrel
    obtain rfl := HWR.out
    clear HWR
    by_cases hlt : k < n
    · have hlx : k < xs.length := by rw [HN.out]; exact hlt
      obtain ⟨ad, B, d, rfl, hc0, hc3, hbk⟩ := HC.out k hlx
      have hc4 : w.cell? ⟨(ad.add (k * 2)).block, (ad.add (k * 2)).off + 1, none⟩ = some (.slice B xs[k].2.length d) := by rw [cell_add1, add_of_add]; exact hc3
      obtain ⟨m, hm⟩ : ∃ m, xs[k].2.length = m := ⟨_, rfl⟩
      rw [hm] at hc4
      by_cases h40 : m ≤ 40
      · have h40' : (m : Int) ≤ 40 := by omega
        have HJ2 := Lib.hid (show ∀ j (h : j < xs.length), j < k + 1 → xs[j].2.length ≤ 40 from fun j h hj => by
          rcases Nat.lt_succ_iff_lt_or_eq.1 hj with h' | rfl
          · exact HJ.out j h h'
          · omega)
        clear hm hc0 hc3 hbk hlx
        go_wp2_with fail
        go_roundw
        case rel => exact ⟨k + 1, by go_num, by omega, HJ2, (by first | exact Lib.hid rfl | exact Lib.hid trivial)⟩
        case measure => simp [intOf]; omega
      · have h40' : 40 < (m : Int) := by omega
        have HF := Lib.hid (show smA xs = false by
          unfold smA
          rw [Bool.and_eq_false_iff]
          left
          rw [List.all_eq_false]
          exact ⟨xs[k], List.getElem_mem _, by simp; omega⟩)
        clear hm hc0 hc3 hbk hlx
        go_wp2_with fail
        go_ret
        rw [HF.out]
        exact ⟨rfl, Ext.refl _⟩
    · obtain rfl : k = n := by omega
      have HF := Lib.hid (show smA xs = decide ((k : Int) ≤ 30) by
        unfold smA
        rw [show xs.all (fun x => decide (x.2.length ≤ 40)) = true from by
          rw [List.all_eq_true]
          intro x hx
          obtain ⟨j, hj, rfl⟩ := List.mem_iff_getElem.1 hx
          simpa using HJ.out j hj (by rw [← HN.out]; exact hj), Bool.true_and, HN.out, decide_eq_decide]
        omega)
      clear hlt
      go_wp2_with fail
      go_ret
      rw [HF.out]
      exact ⟨rfl, Ext.refl _⟩
end Go.Proofs.YthpfomjibfbiiaaGreatDoor
