/- Policy: contains and run (the reference's). (wip/tools/genpo7.py printed this.) -/
import Derived.Test.YtgfjmmdkdhodiaaGreatDoorMg21
import Derived.Test.YtgfjmmdkdhodiaaGreatDoorMg4
import Derived.Deep.QuietTactic
import Derived.BigQuiet
import Derived.IntWalk
import Derived.Outline
namespace Go.Proofs.YtgfjmmdkdhodiaaGreatDoor
open Go Go.RowKit
set_option linter.unusedVariables false

theorem Rsmall_at (c : UInt8) (w : World) :
    Calls Tryz.prog 54 #[.int .u8 (c.toNat : Int)] w fun e w' => e = .returned (.int .u8 ((sml c).toNat : Int)) ∧ w = w' := by
  have hc := c.toNat_lt
  have HC := Lib.hid (RClass_at c)
  by_cases h2 : cls c = 2
  · have h90 : c.toNat ≤ 90 ∧ 65 ≤ c.toNat := by
      unfold cls at h2
      repeat' split at h2
      all_goals omega
    have hs : ((sml c).toNat : Int) = (c.toNat : Int) + 32 := by
      unfold sml
      rw [if_pos h2, UInt8.toNat_add, show (32 : UInt8).toNat = 32 from rfl]
      omega
    have HS := Lib.hid hs
    rw [h2] at HC
    clear hs h2
    go_enter Tryz.func54, Tryz.ntmps54
    go_wp2_with fail
    refine (HC.out _).mono ?_
    rintro _ w1 ⟨rfl, rfl⟩
    go_wp2_with fail
    go_ret
    refine ⟨?_, rfl⟩
    rw [HS.out]
    rfl
  · have hs : sml c = c := by unfold sml; rw [if_neg h2]
    have q : ((cls c : Int) == 2) = false := by rw [beq_eq_false_iff_ne]; omega
    rw [hs]
    clear hs h2
    go_enter Tryz.func54, Tryz.ntmps54
    go_wp2_with fail
    refine (HC.out _).mono ?_
    rintro _ w1 ⟨rfl, rfl⟩
    go_wp2_with fail
    go_ret
    exact ⟨rfl, rfl⟩
set_option maxRecDepth 100000 in
set_option maxHeartbeats 2000000 in
theorem Rcontains_at (A : Option Addr) (c : Nat) (b : List UInt8) (s : ByteArray) (hb : b.length ≤ 1000) (hs : s.size ≤ 1000) (w : World) (hB : BS w (.slice A b.length c) b) :
    Calls Tryz.prog 35 #[.slice A b.length c, .string s] w fun e w' => e = .returned (.bool (hasL b s.data.toList)) ∧ Ext w w' := by
  have hsz := size_list s
  obtain ⟨ad, hcell⟩ : ∃ ad : Addr, ∀ j (hj : j < b.length), A = some ad ∧ w.cell? (ad.add j) = some (.int .u8 (b[j].toNat : Int)) := by
    obtain ⟨A', c', he, k1, k2, k3⟩ := hB.open_
    injection he with e1 _ e3
    subst e1; subst e3
    by_cases h0 : 0 < b.length
    · obtain ⟨ad, h1, _, h3⟩ := k3 h0
      exact ⟨ad, fun j hj => ⟨h1, h3 j hj⟩⟩
    · exact ⟨⟨0, 0, none⟩, fun j hj => by omega⟩
  have HC := Lib.hid hcell; have HSZ := Lib.hid hsz
  clear hcell hsz hB
  go_enter Tryz.func35, Tryz.ntmps35
  go_wp2_with fail
  go_loopw [5, 6] (fun i _ wr => ∃ k : Nat, k ≤ b.length + 1 ∧ i = .int .i64 k ∧ Hid (∀ i, i < k → i + s.size ≤ b.length → occ b s.data.toList i = false) ∧ Hid (Ext w wr)) (fun i _ _ => b.length + 1 - (intOf i).toNat)
  case atStart => exact ⟨0, by omega, rfl, Lib.hid (fun i hi => by omega), Lib.hid (Ext.refl _)⟩
  case round =>
    obtain ⟨k, hk, rfl, HN, HX⟩ := hrel
    obtain ⟨wo, rfl⟩ : ∃ wo, wo = wr := ⟨_, rfl⟩
    by_cases hlt : k + s.size ≤ b.length
    · have hle : (k : Int) + (s.size : Int) ≤ (b.length : Int) := by omega
      go_wp2_with fail
      go_loopw [6] (fun j wi => ∃ n : Nat, n ≤ s.size ∧ j = .int .i64 n ∧ Hid (∀ j (h1 : j < s.data.toList.length) (h2 : k + j < b.length), j < n → sml b[k + j] = sml s.data.toList[j]) ∧ Hid (Ext w wi)) (fun j _ => s.size - (intOf j).toNat)
      case atStart => exact ⟨0, by omega, rfl, Lib.hid (fun j _ _ hj => by omega), HX⟩
      case round =>
        obtain ⟨n, hn, rfl, HE, HXi⟩ := hrel
        by_cases hlt2 : n < s.size
        · have hkn : k + n < b.length := by omega
          have hcc := HXi.out.cell (HC.out (k + n) hkn).2
          have hA := (HC.out (k + n) hkn).1
          obtain ⟨x, hx⟩ : ∃ x, b[k + n] = x := ⟨_, rfl⟩
          rw [hx] at hcc
          have hsn : s.data.toList[n]'(by rw [HSZ.out]; exact hlt2) = s[n] := by simp [ByteArray.getElem_eq_getElem_data]
          have HXE := Lib.hid hx
          have HSN := Lib.hid hsn
          have s1 : IntKind.i64.wrap ((k : Int) + (n : Int)) = (k : Int) + (n : Int) := IntWalk.i64_in _ (by omega)
          have s2 : (0 : Int) ≤ (k : Int) + (n : Int) := by omega
          have s3 : ((k : Int) + (n : Int)).toNat = k + n := by omega
          have s4 : (k : Int) + (n : Int) < (b.length : Int) := by omega
          by_cases heq : sml x = sml s[n]
          · have hq : (((sml x).toNat : Int) == ((sml s[n]).toNat : Int)) = true := by rw [beq_iff_eq, heq]
            have HQ := Lib.hid heq
            subst hA
            clear hx hsn heq
            go_wp2_with fail
            go_quiet ((go_at_call 54; exact Calls.quiet_of_same ((Rsmall_at _ _).mono fun _ _ h => ⟨h.1, h.2.symm⟩)))
            clear s1 s2 s3 s4
            go_wp2_with fail
            go_roundw
            case rel => exact ⟨n + 1, by omega, by go_num, Lib.hid (fun j h1 h2 hj => by
              by_cases hjn : j < n
              · exact HE.out j h1 h2 hjn
              · obtain rfl : j = n := by omega
                rw [HXE.out, HSN.out]; exact HQ.out), Lib.hid (HXi.out.drewN _)⟩
            case measure => simp [intOf]; omega
          · have hq : (((sml x).toNat : Int) == ((sml s[n]).toNat : Int)) = false := by
              rw [beq_eq_false_iff_ne]
              intro h
              exact heq (UInt8.toNat_inj.1 (by omega))
            have HQ := Lib.hid (show occ b s.data.toList k = false from occ_at (i := k) (j := n) (by rw [HSZ.out]; exact hlt) (by rw [HSZ.out]; exact hlt2) (by rw [HXE.out, HSN.out]; exact heq))
            subst hA
            clear hx hsn heq
            go_wp2_with fail
            go_quiet ((go_at_call 54; exact Calls.quiet_of_same ((Rsmall_at _ _).mono fun _ _ h => ⟨h.1, h.2.symm⟩)))
            clear s1 s2 s3 s4
            have hne : ((n : Int) == (s.size : Int)) = false := by rw [beq_eq_false_iff_ne]; omega
            go_wp2_with fail
            go_roundw
            case rel => exact ⟨k + 1, by omega, by go_num, Lib.hid (fun i hi hle => by
              by_cases hik : i < k
              · exact HN.out i hik hle
              · obtain rfl : i = k := by omega
                exact HQ.out), Lib.hid (HXi.out.drewN _)⟩
            case measure => simp [intOf]; omega
        · obtain rfl : n = s.size := by omega
          have HY := Lib.hid (show hasL b s.data.toList = true from occ_yes (i := k) (by rw [HSZ.out]; exact hlt) (fun j hj => HE.out j hj (by rw [HSZ.out] at hj; omega) (by rw [HSZ.out] at hj; exact hj)))
          go_wp2_with fail
          go_quiet (fail)
          go_wp2_with fail
          go_ret
          exact ⟨by rw [HY.out]; rfl, HXi.out.drewN _⟩
    · have HNO := Lib.hid (show hasL b s.data.toList = false from occ_no (fun i hi => by
        rw [HSZ.out] at hi
        exact HN.out i (by omega) hi))
      have hle : ¬ (k : Int) + (s.size : Int) ≤ (b.length : Int) := by omega
      go_wp2_with fail
      go_ret
      exact ⟨by rw [HNO.out]; rfl, HX.out⟩
set_option maxRecDepth 100000 in
set_option maxHeartbeats 2000000 in
theorem Rruns_at (A : Option Addr) (c : Nat) (b : List UInt8) (d : Int) (hd : -1 ≤ d) (hd1 : d ≤ 1) (hb : b.length ≤ 1000) (w : World) (hB : BS w (.slice A b.length c) b) :
    Calls Tryz.prog 36 #[.slice A b.length c, .int .i64 d] w fun e w' => e = .returned (.bool (runB b d)) ∧ Ext w w' := by
  obtain ⟨ad, hcell⟩ : ∃ ad : Addr, ∀ j (hj : j < b.length), A = some ad ∧ w.cell? (ad.add j) = some (.int .u8 (b[j].toNat : Int)) := by
    obtain ⟨A', c', he, k1, k2, k3⟩ := hB.open_
    injection he with e1 _ e3
    subst e1; subst e3
    by_cases h0 : 0 < b.length
    · obtain ⟨ad, h1, _, h3⟩ := k3 h0
      exact ⟨ad, fun j hj => ⟨h1, h3 j hj⟩⟩
    · exact ⟨⟨0, 0, none⟩, fun j hj => by omega⟩
  have HC := Lib.hid hcell
  clear hcell hB
  go_enter Tryz.func36, Tryz.ntmps36
  go_wp2_with fail
  go_loopw [5, 6] (fun n i wr => ∃ (k m : Nat), 1 ≤ k ∧ k ≤ b.length + 1 ∧ i = .int .i64 k ∧ n = .int .i64 m ∧ 1 ≤ m ∧ m < 5 ∧ Hid (m = runAt b d (k - 1)) ∧ Hid (∀ i, i < k → runAt b d i < 5) ∧ Hid (Ext w wr)) (fun _ i _ => b.length + 1 - (intOf i).toNat)
  case atStart => exact ⟨1, 1, by omega, by omega, rfl, rfl, by omega, by omega, Lib.hid rfl, Lib.hid (fun i hi => by rw [show i = 0 by omega]; exact (by decide : (1 : Nat) < 5)), Lib.hid (Ext.refl _)⟩
  case round =>
    obtain ⟨k, m, hk1, hk, rfl, rfl, hm1, hm5, HM, HN, HX⟩ := hrel
    by_cases hlt : k < b.length
    · obtain ⟨i, hik⟩ : ∃ i, k = i + 1 := ⟨k - 1, by omega⟩
      have HM' := Lib.hid (show m = runAt b d i by rw [show i = k - 1 by omega]; exact HM.out)
      have hil : i < b.length := by omega
      have h0 := HX.out.cell (HC.out k hlt).2
      have h1 := HX.out.cell (HC.out i (by omega)).2
      have hA := (HC.out i (by omega)).1
      have hstep : runAt b d k = if ((b[k]'hlt).toNat : Int) - ((b[i]'(by omega)).toNat : Int) = d then runAt b d i + 1 else 1 := by
        subst hik
        show (if ((b.getD (i + 1) 0).toNat : Int) - ((b.getD i 0).toNat : Int) = d then runAt b d i + 1 else 1) = _
        rw [List.getD_eq_getElem?_getD, List.getD_eq_getElem?_getD, List.getElem?_eq_getElem hlt, List.getElem?_eq_getElem (by omega)]
        rfl
      rw [← HM'.out] at hstep
      have hx := (b[k]'hlt).toNat_lt
      have hy := (b[i]'(by omega)).toNat_lt
      generalize (b[k]'hlt).toNat = x at h0 hstep hx
      generalize (b[i]'(by omega)).toNat = y at h1 hstep hy
      have s1 : IntKind.i64.wrap ((k : Int) - 1) = (i : Int) := by rw [IntWalk.i64_in _ (by omega)]; omega
      have s2 : (k : Int) - 1 = (i : Int) := by omega
      have s3 : IntKind.i64.wrap ((x : Int) - (y : Int)) = (x : Int) - (y : Int) := IntWalk.i64_in _ (by omega)
      have HIK := Lib.hid hik
      clear hik
      subst hA
      by_cases hq : (x : Int) - (y : Int) = d
      · rw [if_pos hq] at hstep
        have HS := Lib.hid hstep
        have hne : ((x : Int) - (y : Int) != d) = false := by rw [bne_eq_false_iff_eq]; exact hq
        have heq : ((x : Int) - (y : Int) == d) = true := by rw [beq_iff_eq]; exact hq
        by_cases h4 : m = 4
        · subst h4
          have HY := Lib.hid (show runB b d = true from runB_yes hlt (by rw [hstep]; omega))
          clear hstep hq
          go_wp2_with fail
          go_quiet (fail)
          clear s1 s2 s3
          go_wp2_with fail
          go_ret
          exact ⟨by rw [HY.out]; rfl, HX.out.drewN _⟩
        · have h5 : ((m : Int) + 1 == 5) = false := by rw [beq_eq_false_iff_ne]; omega
          have h6 : (m : Int) + 1 < 5 := by omega
          clear hstep hq h4
          go_wp2_with fail
          go_quiet (fail)
          clear s1 s2 s3
          go_wp2_with fail
          go_roundw
          case rel => exact ⟨k + 1, m + 1, by omega, by omega, by go_num, by go_num, by omega, by omega, Lib.hid HS.out.symm, Lib.hid (fun j hj => by
            by_cases hji : j < k
            · exact HN.out j hji
            · obtain rfl : j = k := by omega
              rw [HS.out]; omega), Lib.hid (HX.out.drewN _)⟩
          case measure => simp [intOf]; omega
      · rw [if_neg hq] at hstep
        have HS := Lib.hid hstep
        have hne : ((x : Int) - (y : Int) != d) = true := by rw [bne_iff_ne]; exact hq
        have heq : ((x : Int) - (y : Int) == d) = false := by rw [beq_eq_false_iff_ne]; exact hq
        clear hstep hq
        go_wp2_with fail
        go_quiet (fail)
        clear s1 s2 s3
        go_wp2_with fail
        go_roundw
        case rel => exact ⟨k + 1, 1, by omega, by omega, by go_num, rfl, by omega, by omega, Lib.hid HS.out.symm, Lib.hid (fun j hj => by
            by_cases hji : j < k
            · exact HN.out j hji
            · obtain rfl : j = k := by omega
              rw [HS.out]; omega), Lib.hid (HX.out.drewN _)⟩
        case measure => simp [intOf]; omega
    · have HNO := Lib.hid (show runB b d = false from runB_no (fun i hi => HN.out i (by omega)))
      go_wp2_with fail
      go_ret
      exact ⟨by rw [HNO.out]; rfl, HX.out⟩
end Go.Proofs.YtgfjmmdkdhodiaaGreatDoor
