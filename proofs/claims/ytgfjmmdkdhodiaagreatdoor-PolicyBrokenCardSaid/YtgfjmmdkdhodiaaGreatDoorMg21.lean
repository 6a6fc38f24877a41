/- Texts laid together (wip/tools/automerge.py): PoR1, PoR2. -/
import Derived.Test.YtgfjmmdkdhodiaaGreatDoorMg4
namespace Go.Proofs.YtgfjmmdkdhodiaaGreatDoor
open Go Go.RowKit
set_option linter.unusedVariables false

/-- The class among letters and digits, or 0. -/
def ltr (c : UInt8) : Nat := if cls c ≤ 3 then cls c else 0
theorem ltr_cases (c : UInt8) : (97 ≤ c.toNat ∧ c.toNat ≤ 122 ∧ ltr c = 1 ∧ cls c = 1) ∨ (65 ≤ c.toNat ∧ c.toNat ≤ 90 ∧ ltr c = 2 ∧ cls c = 2) ∨ (48 ≤ c.toNat ∧ c.toNat ≤ 57 ∧ ltr c = 3 ∧ cls c = 3) ∨
    (ltr c = 0 ∧ 3 < cls c ∧ (c.toNat < 48 ∨ (57 < c.toNat ∧ c.toNat < 65) ∨ (90 < c.toNat ∧ c.toNat < 97) ∨ 122 < c.toNat) ∧ cls c = if 32 ≤ c.toNat ∧ c.toNat ≤ 126 then 4 else 5) := by
  have hb := cls_bd c
  unfold ltr
  by_cases h1 : 97 ≤ c.toNat ∧ c.toNat ≤ 122
  · have e : cls c = 1 := by unfold cls; rw [if_pos h1]
    rw [e]; exact .inl ⟨h1.1, h1.2, rfl, rfl⟩
  · by_cases h2 : 65 ≤ c.toNat ∧ c.toNat ≤ 90
    · have e : cls c = 2 := by unfold cls; rw [if_neg h1, if_pos h2]
      rw [e]; exact .inr (.inl ⟨h2.1, h2.2, rfl, rfl⟩)
    · by_cases h3 : 48 ≤ c.toNat ∧ c.toNat ≤ 57
      · have e : cls c = 3 := by unfold cls; rw [if_neg h1, if_neg h2, if_pos h3]
        rw [e]; exact .inr (.inr (.inl ⟨h3.1, h3.2, rfl, rfl⟩))
      · have e : cls c = if 32 ≤ c.toNat ∧ c.toNat ≤ 126 then 4 else 5 := by unfold cls; rw [if_neg h1, if_neg h2, if_neg h3]
        have h4 : 3 < cls c := by rw [e]; split <;> omega
        refine .inr (.inr (.inr ⟨by rw [if_neg (by omega)], h4, by omega, e⟩))
theorem Rletter_at (c : UInt8) (w : World) :
    Calls Tryz.prog 33 #[.int .u8 (c.toNat : Int)] w fun e w' => e = .returned (.int .i64 (ltr c : Int)) ∧ w = w' := by
  have hc := c.toNat_lt
  rcases ltr_cases c with ⟨h1, h2, h3, _⟩ | ⟨h1, h2, h3, _⟩ | ⟨h1, h2, h3, _⟩ | ⟨h3, _, h1, _⟩
  rotate_left 3
  · rcases h1 with h1 | ⟨h1, h2⟩ | ⟨h1, h2⟩ | h1
    all_goals
      rw [h3]
      clear h3
      go_enter Tryz.func33, Tryz.ntmps33
      go_wp2_with fail
      go_ret
      exact ⟨rfl, rfl⟩
  all_goals
    rw [h3]
    clear h3
    go_enter Tryz.func33, Tryz.ntmps33
    go_wp2_with fail
    go_ret
    exact ⟨rfl, rfl⟩
theorem RClass_at (c : UInt8) (w : World) :
    Calls Tryz.prog 13 #[.int .u8 (c.toNat : Int)] w fun e w' => e = .returned (.int .i64 (cls c : Int)) ∧ w = w' := by
  have hc := c.toNat_lt
  have HL := Lib.hid (Rletter_at c)
  rcases ltr_cases c with ⟨h1, h2, h3, h4⟩ | ⟨h1, h2, h3, h4⟩ | ⟨h1, h2, h3, h4⟩ | ⟨h3, _, h1, h4⟩
  rotate_left 3
  · rw [h3] at HL
    rw [h4]
    clear h1 h3 h4
    rcases (show c.toNat < 32 ∨ (32 ≤ c.toNat ∧ c.toNat ≤ 126) ∨ 126 < c.toNat by omega) with h | ⟨h, h'⟩ | h
    · rw [if_neg (by omega)]
      go_enter Tryz.func13, Tryz.ntmps13
      go_wp2_with fail
      refine (HL.out _).mono ?_
      rintro _ w1 ⟨rfl, rfl⟩
      go_wp2_with fail
      go_ret
      exact ⟨rfl, rfl⟩
    · rw [if_pos (by omega)]
      go_enter Tryz.func13, Tryz.ntmps13
      go_wp2_with fail
      refine (HL.out _).mono ?_
      rintro _ w1 ⟨rfl, rfl⟩
      go_wp2_with fail
      go_ret
      exact ⟨rfl, rfl⟩
    · rw [if_neg (by omega)]
      go_enter Tryz.func13, Tryz.ntmps13
      go_wp2_with fail
      refine (HL.out _).mono ?_
      rintro _ w1 ⟨rfl, rfl⟩
      go_wp2_with fail
      go_ret
      exact ⟨rfl, rfl⟩
  all_goals
    rw [h3] at HL
    rw [h4]
    clear h1 h2 h3 h4
    go_enter Tryz.func13, Tryz.ntmps13
    go_wp2_with fail
    refine (HL.out _).mono ?_
    rintro _ w1 ⟨rfl, rfl⟩
    go_wp2_with fail
    go_ret
    exact ⟨rfl, rfl⟩
theorem Rin_at (v lo hi : Int) (w : World) :
    Calls Tryz.prog 32 #[.int .i64 v, .int .i64 lo, .int .i64 hi] w fun e w' => e = .returned (.bool (inB v lo hi)) ∧ w = w' := by
  by_cases h1 : lo ≤ v
  · by_cases h2 : v ≤ hi
    · have H : inB v lo hi = true := by unfold inB; rw [decide_eq_true h1, decide_eq_true h2]; rfl
      rw [H]
      clear H
      go_enter Tryz.func32, Tryz.ntmps32
      go_wp2_with fail
      go_ret
      exact ⟨rfl, rfl⟩
    · have H : inB v lo hi = false := by unfold inB; rw [decide_eq_false h2, Bool.and_false]
      rw [H]
      clear H
      go_enter Tryz.func32, Tryz.ntmps32
      go_wp2_with fail
      go_ret
      exact ⟨rfl, rfl⟩
  · have H : inB v lo hi = false := by unfold inB; rw [decide_eq_false h1]; rfl
    rw [H]
    clear H
    go_enter Tryz.func32, Tryz.ntmps32
    go_wp2_with fail
    go_ret
    exact ⟨rfl, rfl⟩
end Go.Proofs.YtgfjmmdkdhodiaaGreatDoor
namespace Go.Proofs.YtgfjmmdkdhodiaaGreatDoor
open Go Go.RowKit
set_option linter.unusedVariables false

theorem nmc_casesR (c : UInt8) : (nmc c = true ∧ 0 < ltr c) ∨ (nmc c = true ∧ ltr c = 0 ∧ c.toNat = 45) ∨ (nmc c = true ∧ ltr c = 0 ∧ c.toNat = 95) ∨ (nmc c = true ∧ ltr c = 0 ∧ c.toNat = 46) ∨
    (nmc c = false ∧ ltr c = 0 ∧ c.toNat ≠ 45 ∧ c.toNat ≠ 95 ∧ c.toNat ≠ 46) := by
  have hb := cls_bd c
  have e1 : (cls c : Int) ≤ 3 → 0 < ltr c := fun h => by unfold ltr; rw [if_pos (by omega)]; omega
  have e2 : ¬ (cls c : Int) ≤ 3 → ltr c = 0 := fun h => by unfold ltr; rw [if_neg (by omega)]
  rcases nmc_cases c with ⟨h, h1⟩ | ⟨h, h1, h2⟩ | ⟨h, h1, h2⟩ | ⟨h, h1, h2⟩ | ⟨h, h1, h2⟩
  · exact .inl ⟨h, e1 h1⟩
  · exact .inr (.inl ⟨h, e2 h1, h2⟩)
  · exact .inr (.inr (.inl ⟨h, e2 h1, h2⟩))
  · exact .inr (.inr (.inr (.inl ⟨h, e2 h1, h2⟩)))
  · exact .inr (.inr (.inr (.inr ⟨h, e2 h1, h2⟩)))
set_option maxRecDepth 100000 in
theorem Rname_at (s : ByteArray) (hs : s.size ≤ 4294967280) (w : World) :
    Calls Tryz.prog 31 #[.string s] w fun e w' => e = .returned (.bool (nmB' s.data.toList)) ∧ w = w' := by
  have HL := Lib.hid (Rin_at s.size 1 32)
  have HQ := Lib.hid (show nmB' s.data.toList = (s.data.toList.all nmc && inB s.size 1 32) by unfold nmB'; rw [size_list])
  go_enter Tryz.func31, Tryz.ntmps31
  go_wp2_with fail
  go_loop [3] (fun i => ∃ k : Nat, k ≤ s.size ∧ i = .int .i64 k ∧ (s.data.toList.take k).all nmc = true) (fun i => s.size - (intOf i).toNat)
  case atStart => exact ⟨0, Nat.zero_le _, rfl, by simp⟩
  case round =>
    obtain ⟨k, hk, rfl, ha⟩ := hrel
    have HA := Lib.hid ha; clear ha
    by_cases hlt : k < s.size
    · have hy : nmc s[k] = true → (s.data.toList.take (k + 1)).all nmc = true := all_take_yes hlt HA.out
      have hn : nmc s[k] = false → s.data.toList.all nmc = false := all_take_no hlt
      have HY := Lib.hid hy; have HN := Lib.hid hn
      have HC := Lib.hid (Rletter_at s[k])
      clear hy hn
      have hcase := nmc_casesR s[k]
      rcases hcase with ⟨hq, h1⟩ | ⟨hq, h1, h2⟩ | ⟨hq, h1, h2⟩ | ⟨hq, h1, h2⟩ | ⟨hq, h1, h2, h3, h4⟩
      · have HY2 := Lib.hid (HY.out hq)
        have hl : ((ltr s[k] : Int) == 0) = false := by rw [beq_eq_false_iff_ne]; omega
        clear hq HY HN h1
        go_wp2_with fail
        refine (HC.out _).mono ?_
        rintro _ w1 ⟨rfl, rfl⟩
        go_wp2_with fail
        go_round
        case rel => exact ⟨k + 1, by omega, by go_num, HY2.out⟩
        case measure => simp [intOf]; omega
      · have HY2 := Lib.hid (HY.out hq)
        have hl : ((ltr s[k] : Int) == 0) = true := by rw [beq_iff_eq]; omega
        have q2 : ((s[k].toNat : Int) != 45) = false := by rw [bne_eq_false_iff_eq]; omega
        clear hq HY HN h1 h2
        go_wp2_with fail
        refine (HC.out _).mono ?_
        rintro _ w1 ⟨rfl, rfl⟩
        go_wp2_with fail
        go_round
        case rel => exact ⟨k + 1, by omega, by go_num, HY2.out⟩
        case measure => simp [intOf]; omega
      · have HY2 := Lib.hid (HY.out hq)
        have hl : ((ltr s[k] : Int) == 0) = true := by rw [beq_iff_eq]; omega
        have q2 : ((s[k].toNat : Int) != 45) = true := by rw [bne_iff_ne]; omega
        have q3 : ((s[k].toNat : Int) != 95) = false := by rw [bne_eq_false_iff_eq]; omega
        clear hq HY HN h1 h2
        go_wp2_with fail
        refine (HC.out _).mono ?_
        rintro _ w1 ⟨rfl, rfl⟩
        go_wp2_with fail
        go_round
        case rel => exact ⟨k + 1, by omega, by go_num, HY2.out⟩
        case measure => simp [intOf]; omega
      · have HY2 := Lib.hid (HY.out hq)
        have hl : ((ltr s[k] : Int) == 0) = true := by rw [beq_iff_eq]; omega
        have q2 : ((s[k].toNat : Int) != 45) = true := by rw [bne_iff_ne]; omega
        have q3 : ((s[k].toNat : Int) != 95) = true := by rw [bne_iff_ne]; omega
        have q4 : ((s[k].toNat : Int) != 46) = false := by rw [bne_eq_false_iff_eq]; omega
        clear hq HY HN h1 h2
        go_wp2_with fail
        refine (HC.out _).mono ?_
        rintro _ w1 ⟨rfl, rfl⟩
        go_wp2_with fail
        go_round
        case rel => exact ⟨k + 1, by omega, by go_num, HY2.out⟩
        case measure => simp [intOf]; omega
      · have HN2 := Lib.hid (show nmB' s.data.toList = false by rw [HQ.out, HN.out hq]; rfl)
        have hl : ((ltr s[k] : Int) == 0) = true := by rw [beq_iff_eq]; omega
        have q2 : ((s[k].toNat : Int) != 45) = true := by rw [bne_iff_ne]; omega
        have q3 : ((s[k].toNat : Int) != 95) = true := by rw [bne_iff_ne]; omega
        have q4 : ((s[k].toNat : Int) != 46) = true := by rw [bne_iff_ne]; omega
        clear hq HY HN h1 h2 h3 h4
        go_wp2_with fail
        refine (HC.out _).mono ?_
        rintro _ w1 ⟨rfl, rfl⟩
        go_wp2_with fail
        go_ret
        exact ⟨by rw [HN2.out]; rfl, rfl⟩
    · have HF := Lib.hid (show nmB' s.data.toList = inB s.size 1 32 by
        have := HA.out
        rw [List.take_of_length_le (by rw [size_list]; omega)] at this
        rw [HQ.out, this]; rfl)
      go_wp2_with fail
      refine (HL.out _).mono ?_
      rintro _ w1 ⟨rfl, rfl⟩
      go_wp2_with fail
      go_ret
      exact ⟨by rw [HF.out]; rfl, rfl⟩
end Go.Proofs.YtgfjmmdkdhodiaaGreatDoor
