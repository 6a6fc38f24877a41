/- Texts laid together (wip/tools/automerge.py): Po1, Po2. -/
import Derived.Test.YtgfjmmdkdhodiaaGreatDoorMg2
import Derived.Test.YtgfjmmdkdhodiaaGreatDoorProg
import Derived.Test.YtgfjmmdkdhodiaaGreatDoorMg0
import Derived.Lib.Hide
import Derived.Handy
import Derived.StillTailTactics
import Derived.Shelf.Abstract
namespace Go.Proofs.YtgfjmmdkdhodiaaGreatDoor
open Go Go.RowKit
set_option linter.unusedVariables false

theorem Class_at (c : UInt8) (w : World) :
    Calls Tryz.prog 12 #[.int .u8 (c.toNat : Int)] w fun e w' => e = .returned (.int .i64 (cls c : Int)) ∧ w = w' := by
  have hc := c.toNat_lt
  unfold cls
  generalize c.toNat = n at *
  rcases (show (97 ≤ n ∧ n ≤ 122) ∨ (65 ≤ n ∧ n ≤ 90) ∨ (48 ≤ n ∧ n ≤ 57) ∨ n < 32 ∨ (32 ≤ n ∧ n < 48) ∨ (57 < n ∧ n < 65) ∨ (90 < n ∧ n < 97) ∨ (122 < n ∧ n ≤ 126) ∨ 126 < n by omega) with h | h | h | h | h | h | h | h | h
  all_goals
    go_enter Tryz.func12, Tryz.ntmps12
    go_wp2_with fail
    go_ret
    exact ⟨by (repeat' split) <;> first | rfl | omega, rfl⟩
end Go.Proofs.YtgfjmmdkdhodiaaGreatDoor
namespace Go.Proofs.YtgfjmmdkdhodiaaGreatDoor
open Go Go.RowKit
set_option linter.unusedVariables false

theorem small_at (c : UInt8) (w : World) :
    Calls Tryz.prog 78 #[.int .u8 (c.toNat : Int)] w fun e w' => e = .returned (.int .u8 ((sml c).toNat : Int)) ∧ w = w' := by
  have hc := c.toNat_lt
  have HC := Lib.hid (Class_at c)
  by_cases h2 : cls c = 2
  · have hs : ((sml c).toNat : Int) = (c.toNat : Int) + 32 := by
      have : 65 ≤ c.toNat ∧ c.toNat ≤ 90 := by
        unfold cls at h2
        repeat' split at h2
        all_goals first | omega | assumption
      unfold sml
      rw [if_pos h2, UInt8.toNat_add, show (32 : UInt8).toNat = 32 from rfl]
      omega
    have h90 : c.toNat ≤ 90 ∧ 65 ≤ c.toNat := by
      unfold cls at h2
      repeat' split at h2
      all_goals omega
    have HS := Lib.hid hs
    rw [h2] at HC
    clear hs h2
    go_enter Tryz.func78, Tryz.ntmps78
    go_wp2_with fail
    refine (HC.out _).mono ?_
    rintro _ w1 ⟨rfl, rfl⟩
    go_wp2_with fail
    go_ret
    refine ⟨?_, rfl⟩
    rw [HS.out]
    show Ending.returned (.int .u8 ((c.toNat : Int) - 65 + 97)) = _
    rw [show (c.toNat : Int) - 65 + 97 = (c.toNat : Int) + 32 by omega]
  · have hs : sml c = c := by unfold sml; rw [if_neg h2]
    have q : ((cls c : Int) == 2) = false := by rw [beq_eq_false_iff_ne]; omega
    rw [hs]
    clear hs h2
    go_enter Tryz.func78, Tryz.ntmps78
    go_wp2_with fail
    refine (HC.out _).mono ?_
    rintro _ w1 ⟨rfl, rfl⟩
    go_wp2_with fail
    go_ret
    exact ⟨rfl, rfl⟩
end Go.Proofs.YtgfjmmdkdhodiaaGreatDoor
