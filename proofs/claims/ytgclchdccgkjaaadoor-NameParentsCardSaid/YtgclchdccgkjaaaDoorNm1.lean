/- Names: sized, special, Part, all. -/
import Derived.Test.YtgclchdccgkjaaaDoorLt1
import Derived.Test.YtgclchdccgkjaaaDoorPl
import Derived.Handy
namespace Go.Proofs.YtgclchdccgkjaaaDoor
open Go Go.RowKit
set_option linter.unusedVariables false

theorem size_list (s : ByteArray) : s.data.toList.length = s.size := by rw [Array.length_toList]; rfl
theorem sized_at (s : ByteArray) (w : World) :
    Calls Tryd.prog 36 #[.string s] w fun e w' => e = .returned (.bool (sizedB s.data.toList)) ∧ w = w' := by
  have e : sizedB s.data.toList = decide (1 ≤ s.size ∧ s.size ≤ 32) := by unfold sizedB; rw [size_list]
  rw [e]; clear e
  by_cases h1 : 1 ≤ s.size
  · by_cases h2 : s.size ≤ 32
    · have e : decide (1 ≤ s.size ∧ s.size ≤ 32) = true := decide_eq_true ⟨h1, h2⟩
      rw [e]
      have d1 : 1 ≤ (s.size : Int) := by omega
      have d2 : decide ((s.size : Int) ≤ 32) = true := decide_eq_true (by omega)
      clear h1 h2 e
      go_enter Tryd.func36, Tryd.ntmps36
      go_wp2
      go_ret
      exact ⟨rfl, rfl⟩
    · have e : decide (1 ≤ s.size ∧ s.size ≤ 32) = false := decide_eq_false (fun h => h2 h.2)
      rw [e]
      have d1 : 1 ≤ (s.size : Int) := by omega
      have d2 : decide ((s.size : Int) ≤ 32) = false := decide_eq_false (by omega)
      clear h1 h2 e
      go_enter Tryd.func36, Tryd.ntmps36
      go_wp2
      go_ret
      exact ⟨rfl, rfl⟩
  · have e : decide (1 ≤ s.size ∧ s.size ≤ 32) = false := decide_eq_false (fun h => h1 h.1)
    rw [e]
    have d1 : decide (1 ≤ (s.size : Int)) = false := decide_eq_false (by omega)
    have d2 : (s.size : Int) < 1 := by omega
    clear h1 e
    go_enter Tryd.func36, Tryd.ntmps36
    go_wp2
    go_ret
    exact ⟨rfl, rfl⟩

theorem special_at (c : UInt8) (w : World) :
    Calls Tryd.prog 38 #[.int .u8 (c.toNat : Int)] w fun e w' => e = .returned (.bool (spc c)) ∧ w = w' := by
  by_cases h1 : c.toNat = 47
  · have e : spc c = true := by unfold spc; exact decide_eq_true (.inl h1)
    have d1 : ((c.toNat : Int) == 47) = true := by rw [h1]; rfl
    rw [e]; clear h1 e
    go_enter Tryd.func38, Tryd.ntmps38
    go_wp2
    go_ret
    exact ⟨rfl, rfl⟩
  · have d1 : ((c.toNat : Int) == 47) = false := by rw [beq_eq_false_iff_ne]; omega
    by_cases h2 : c.toNat = 64
    · have e : spc c = true := by unfold spc; exact decide_eq_true (.inr (.inl h2))
      have d2 : ((c.toNat : Int) == 64) = true := by rw [h2]; rfl
      rw [e]; clear h1 h2 e
      go_enter Tryd.func38, Tryd.ntmps38
      go_wp2
      go_ret
      exact ⟨rfl, rfl⟩
    · have d2 : ((c.toNat : Int) == 64) = false := by rw [beq_eq_false_iff_ne]; omega
      by_cases h3 : c.toNat = 92
      · have e : spc c = true := by unfold spc; exact decide_eq_true (.inr (.inr h3))
        have d3 : ((c.toNat : Int) == 92) = true := by rw [h3]; rfl
        rw [e]; clear h1 h2 h3 e
        go_enter Tryd.func38, Tryd.ntmps38
        go_wp2
        go_ret
        exact ⟨rfl, rfl⟩
      · have e : spc c = false := by unfold spc; exact decide_eq_false (by omega)
        have d3 : ((c.toNat : Int) == 92) = false := by rw [beq_eq_false_iff_ne]; omega
        rw [e]; clear h1 h2 h3 e
        go_enter Tryd.func38, Tryd.ntmps38
        go_wp2
        go_ret
        exact ⟨rfl, rfl⟩

theorem take_at (s : ByteArray) (k : Nat) (h : k < s.size) : s.data.toList.take (k + 1) = s.data.toList.take k ++ [s[k]] := by
  rw [List.take_succ_eq_append_getElem (by rw [Array.length_toList]; exact h)]; rfl
theorem all_take_no {p : UInt8 → Bool} {s : ByteArray} {k : Nat} (h : k < s.size) (hp : p s[k] = false) : s.data.toList.all p = false := by
  rw [List.all_eq_false]
  exact ⟨s[k], Array.getElem_mem_toList _, by rw [hp]; simp⟩
theorem all_take_yes {p : UInt8 → Bool} {s : ByteArray} {k : Nat} (h : k < s.size) (ha : (s.data.toList.take k).all p = true) (hp : p s[k] = true) : (s.data.toList.take (k + 1)).all p = true := by
  rw [take_at s k h, List.all_append, ha]; simp [hp]
theorem prtc_no {c : UInt8} (h : (c.toNat : Int) < 33 ∨ 126 < (c.toNat : Int)) : prtc c = false := by unfold prtc; exact decide_eq_false (by omega)
theorem prtc_yes {c : UInt8} (h : 33 ≤ (c.toNat : Int)) (h2 : (c.toNat : Int) ≤ 126) : prtc c = true := by unfold prtc; exact decide_eq_true (by omega)

set_option maxRecDepth 100000 in
theorem Part_at (s : ByteArray) (hs : s.size ≤ 4294967280) (w : World) :
    Calls Tryd.prog 16 #[.string s] w fun e w' => e = .returned (.bool (partB s.data.toList)) ∧ w = w' := by
  have HP := Lib.hid (show partB s.data.toList = (sizedB s.data.toList && s.data.toList.all prtc) from rfl)
  obtain ⟨b, hb⟩ : ∃ b, partB s.data.toList = b := ⟨_, rfl⟩
  rw [hb] at HP ⊢
  clear hb
  go_enter Tryd.func16, Tryd.ntmps16
  go_wp2
  go_loop [3, 6] (fun _ i => ∃ k : Nat, k ≤ s.size ∧ i = .int .i64 k ∧ (s.data.toList.take k).all prtc = true) (fun _ i => s.size - (intOf i).toNat)
  case atStart => exact ⟨0, Nat.zero_le _, rfl, by simp⟩
  case round =>
    obtain ⟨k, hk, rfl, hall⟩ := hrel
    have HA := Lib.hid hall; clear hall
    by_cases hlt : k < s.size
    · by_cases h1 : (s[k].toNat : Int) < 33
      · have HN := Lib.hid (all_take_no hlt (prtc_no (.inl h1)))
        go_wp2
        go_ret
        refine ⟨?_, rfl⟩
        rw [HP.out, HN.out, Bool.and_false]; rfl
      · have h1' : 33 ≤ (s[k].toNat : Int) := by omega
        by_cases h2 : 126 < (s[k].toNat : Int)
        · have HN := Lib.hid (all_take_no hlt (prtc_no (.inr h2)))
          clear h1
          go_wp2
          go_ret
          refine ⟨?_, rfl⟩
          rw [HP.out, HN.out, Bool.and_false]; rfl
        · have h2' : (s[k].toNat : Int) ≤ 126 := by omega
          have HY := Lib.hid (all_take_yes hlt HA.out (prtc_yes h1' h2'))
          clear h1 h2
          go_wp2
          go_round
          case rel => exact ⟨k + 1, by omega, by go_num, HY.out⟩
          case measure => simp [intOf]; omega
    · have HF := Lib.hid (show s.data.toList.all prtc = true by
        have := HA.out
        rwa [List.take_of_length_le (by rw [size_list]; omega)] at this)
      go_wp2_with fail
      refine (sized_at s w).mono ?_
      rintro e w' ⟨rfl, rfl⟩
      go_wp2_with fail
      go_ret
      refine ⟨?_, rfl⟩
      rw [HP.out, HF.out, Bool.and_true]; rfl

set_option maxRecDepth 100000 in
theorem all_at (A : Option Addr) (c : Nat) (bs : List Bool) (w : World) (h : RS w (.slice A bs.length c) (blv bs)) :
    Calls Tryd.prog 35 #[.slice A bs.length c] w fun e w' => e = .returned (.bool (bs.all id)) ∧ w = w' := by
  have HC := Lib.hid (contains_bools A c bs w h)
  obtain ⟨v, hv⟩ : ∃ v, bs.all id = v := ⟨_, rfl⟩
  rw [hv] at HC ⊢
  clear h hv
  go_enter Tryd.func35, Tryd.ntmps35
  go_wp2_with fail
  refine HC.out.mono ?_
  rintro e w' ⟨rfl, rfl⟩
  go_wp2_with fail
  go_ret
  refine ⟨?_, rfl⟩
  cases v <;> rfl
end Go.Proofs.YtgclchdccgkjaaaDoor
