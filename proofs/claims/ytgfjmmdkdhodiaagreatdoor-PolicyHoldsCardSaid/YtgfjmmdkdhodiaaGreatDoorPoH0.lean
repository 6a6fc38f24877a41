/- Policy: names of any length; Valid of a policy that is not valid. -/
import Derived.Test.YtgfjmmdkdhodiaaGreatDoorMg13
import Derived.IntWalk
namespace Go.Proofs.YtgfjmmdkdhodiaaGreatDoor
open Go Go.RowKit
set_option linter.unusedVariables false

set_option maxRecDepth 100000 in
set_option maxRecDepth 100000 in
theorem validName_long (s : ByteArray) (hs : s.size ≤ maxLen) (w : World) :
    Calls Tryz.prog 30 #[.string s] w fun e w' => e = .returned (.bool (nmB' s.data.toList)) ∧ w = w' := by
  have HL := Lib.hid (between_at s.size 1 32)
  have HQ := Lib.hid (show nmB' s.data.toList = (s.data.toList.all nmc && inB s.size 1 32) by unfold nmB'; rw [size_list])
  replace hs : s.size ≤ 9223372036854775807 := by unfold maxLen at hs; omega
  go_enter Tryz.func30, Tryz.ntmps30
  go_wp2_with fail
  go_loop [3, 4, 7] (fun _ _ i => ∃ k : Nat, k ≤ s.size ∧ i = .int .i64 k ∧ (s.data.toList.take k).all nmc = true) (fun _ _ i => s.size - (intOf i).toNat)
  case atStart => exact ⟨0, Nat.zero_le _, rfl, by simp⟩
  case round =>
    obtain ⟨k, hk, rfl, ha⟩ := hrel
    have HA := Lib.hid ha; clear ha
    by_cases hlt : k < s.size
    · have hy : nmc s[k] = true → (s.data.toList.take (k + 1)).all nmc = true := all_take_yes hlt HA.out
      have hn : nmc s[k] = false → s.data.toList.all nmc = false := all_take_no hlt
      have HY := Lib.hid hy; have HN := Lib.hid hn
      have HC := Lib.hid (Class_at s[k])
      clear hy hn
      have hcase := nmc_cases s[k]
      rcases hcase with ⟨hq, h1⟩ | ⟨hq, h1, h2⟩ | ⟨hq, h1, h2⟩ | ⟨hq, h1, h2⟩ | ⟨hq, h1, h2, h3, h4⟩
      · have HY2 := Lib.hid (HY.out hq)
        clear hq HY HN
        go_wp2_with fail
        refine (HC.out _).mono ?_
        rintro _ w1 ⟨rfl, rfl⟩
        go_wp2_with fail
        go_round
        case rel => exact ⟨k + 1, by omega, by go_num, HY2.out⟩
        case measure => simp [intOf]; omega
      · have HY2 := Lib.hid (HY.out hq)
        have q2 : ((s[k].toNat : Int) != 45) = false := by rw [bne_eq_false_iff_eq]; omega
        clear hq HY HN h2
        go_wp2_with fail
        refine (HC.out _).mono ?_
        rintro _ w1 ⟨rfl, rfl⟩
        go_wp2_with fail
        go_round
        case rel => exact ⟨k + 1, by omega, by go_num, HY2.out⟩
        case measure => simp [intOf]; omega
      · have HY2 := Lib.hid (HY.out hq)
        have q2 : ((s[k].toNat : Int) != 45) = true := by rw [bne_iff_ne]; omega
        have q3 : ((s[k].toNat : Int) != 95) = false := by rw [bne_eq_false_iff_eq]; omega
        clear hq HY HN h2
        go_wp2_with fail
        refine (HC.out _).mono ?_
        rintro _ w1 ⟨rfl, rfl⟩
        go_wp2_with fail
        go_round
        case rel => exact ⟨k + 1, by omega, by go_num, HY2.out⟩
        case measure => simp [intOf]; omega
      · have HY2 := Lib.hid (HY.out hq)
        have q2 : ((s[k].toNat : Int) != 45) = true := by rw [bne_iff_ne]; omega
        have q3 : ((s[k].toNat : Int) != 95) = true := by rw [bne_iff_ne]; omega
        have q4 : ((s[k].toNat : Int) != 46) = false := by rw [bne_eq_false_iff_eq]; omega
        clear hq HY HN h2
        go_wp2_with fail
        refine (HC.out _).mono ?_
        rintro _ w1 ⟨rfl, rfl⟩
        go_wp2_with fail
        go_round
        case rel => exact ⟨k + 1, by omega, by go_num, HY2.out⟩
        case measure => simp [intOf]; omega
      · have HN2 := Lib.hid (show nmB' s.data.toList = false by rw [HQ.out, HN.out hq]; rfl)
        have q2 : ((s[k].toNat : Int) != 45) = true := by rw [bne_iff_ne]; omega
        have q3 : ((s[k].toNat : Int) != 95) = true := by rw [bne_iff_ne]; omega
        have q4 : ((s[k].toNat : Int) != 46) = true := by rw [bne_iff_ne]; omega
        clear hq HY HN h2 h3 h4
        go_wp2_with fail
        refine (HC.out _).mono ?_
        rintro _ w1 ⟨rfl, rfl⟩
        go_wp2_with fail
        go_ret
        exact ⟨by rw [HN2.out]; rfl, rfl⟩
    · have HF := Lib.hid (show nmB' s.data.toList = inB s.size 1 32 by
        have := HA.out
        rw [List.take_of_length_le (by rw [size_list]; omega)] at this
        rw [HQ.out, this]; rfl)
      go_wp2_with fail
      refine (HL.out _).mono ?_
      rintro _ w1 ⟨rfl, rfl⟩
      go_wp2_with fail
      go_ret
      exact ⟨by rw [HF.out]; rfl, rfl⟩
set_option maxRecDepth 100000 in
set_option maxHeartbeats 2000000 in
theorem Valid_l0 (p : Pol) (hs : p.nm.size ≤ maxLen) (h0 : nmB' p.nm.data.toList = false) (w : World) :
    Calls Tryz.prog 10 #[p.v] w fun e w' => e = .returned (.bool false) ∧ Ext w w' := by
  have hR := heap_alloc_new w (.cells p.cs 23)
  obtain ⟨c0, c1, c2, c3, c4, c5, c6, c7, c8, c9⟩ := PL.cells hR
  have HX := Lib.hid ((Ext.refl w).alloc (.cells p.cs 23))
  have HC0 := Lib.hid (h0 ▸ validName_long p.nm hs)
  clear hR h0
  obtain ⟨wa, hwa⟩ : ∃ wa, w.alloc (.cells p.cs 23) = wa := ⟨_, rfl⟩
  rw [hwa] at c0 c1 c2 c3 c4 c5 c6 c7 c8 c9 HX
  go_enter Tryz.func10, Tryz.ntmps10
  unfold Pol.v
  go_wp2_with fail
  unfold Pol.cs at hwa
  rw [hwa]
  refine (HC0.out _).mono ?_
  rintro _ w1 ⟨rfl, rfl⟩
  go_wp2_with fail
  all_goals first
    | (go_ret; exact ⟨rfl, HX.out⟩)
    | (exfalso; rename_i hz _; revert hz; simp [undef])
theorem Valid_bad (p : Pol) (hs : p.nm.size ≤ maxLen) (h : p.ok = false) (w : World) :
    Calls Tryz.prog 10 #[p.v] w fun e w' => e = .returned (.bool false) ∧ Ext w w' := by
  by_cases h32 : p.nm.size ≤ 32
  · have := PoValid_at p (by omega) w
    rwa [h] at this
  · refine Valid_l0 p hs ?_ w
    cases hn : nmB' p.nm.data.toList with
    | false => rfl
    | true =>
      have := (nmB_len hn).2
      rw [size_list] at this
      exact absurd this h32
#print axioms Valid_bad
end Go.Proofs.YtgfjmmdkdhodiaaGreatDoor
