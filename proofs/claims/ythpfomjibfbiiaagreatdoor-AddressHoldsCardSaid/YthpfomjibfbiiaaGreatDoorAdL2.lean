/- Address: the law's small, for lists. -/
import Derived.Test.YthpfomjibfbiiaaGreatDoorAd4
import Derived.Test.YthpfomjibfbiiaaGreatDoorMg4
namespace Go.Proofs.YthpfomjibfbiiaaGreatDoor
open Go Go.RowKit
set_option linter.unusedVariables false

def smA (xs : List (Int × List UInt8)) : Bool := xs.all (fun x => decide (x.2.length ≤ 40)) && decide (xs.length ≤ 30)
set_option maxRecDepth 100000 in
theorem small_at (A : Option Addr) (c : Nat) (xs : List (Int × List UInt8)) (w : World) (hD : DS w (.slice A xs.length c) xs) :
    Calls Tryz.prog 6 #[.slice A xs.length c] w fun e w' => e = .returned (.bool (smA xs)) ∧ Ext w w' := by
  obtain ⟨A', c', he, hc1, hc2, hcell⟩ := hD
  injection he with e1 e2 e3
  subst e1; subst e3
  unfold maxLen at hc2
  have HC := Lib.hid hcell
  clear hcell e2
  obtain ⟨n, hn⟩ : ∃ n, xs.length = n := ⟨_, rfl⟩
  rw [hn] at hc1 ⊢
  have HN := Lib.hid hn
  clear hn
  go_enter Tryz.func6, Tryz.ntmps6
  go_wp2_with fail
  go_loopw [3] (fun i wr => ∃ k : Nat, i = .int .i64 (k : Int) ∧ k ≤ n ∧ Hid (∀ j (h : j < xs.length), j < k → xs[j].2.length ≤ 40) ∧ Hid (w = wr)) (fun i _ => n - (intOf i).toNat)
  case atStart => exact ⟨0, rfl, by omega, Lib.hid (fun j _ hj => absurd hj (Nat.not_lt_zero j)), Lib.hid rfl⟩
  case round =>
    obtain ⟨k, rfl, hk, HJ, HWR⟩ := hrel
    obtain rfl := HWR.out
    clear HWR
    by_cases hlt : k < n
    · have hlx : k < xs.length := by rw [HN.out]; exact hlt
      obtain ⟨ad, B, d, rfl, hc0, hc3, hbk⟩ := HC.out k hlx
      have hc4 : w.cell? ⟨(ad.add (k * 2)).block, (ad.add (k * 2)).off + 1, none⟩ = some (.slice B xs[k].2.length d) := by rw [cell_add1, add_of_add]; exact hc3
      obtain ⟨m, hm⟩ : ∃ m, xs[k].2.length = m := ⟨_, rfl⟩
      rw [hm] at hc4
      by_cases h40 : m ≤ 40
      · have h40' : (m : Int) ≤ 40 := by omega
        have HJ2 := Lib.hid (show ∀ j (h : j < xs.length), j < k + 1 → xs[j].2.length ≤ 40 from fun j h hj => by
          rcases Nat.lt_succ_iff_lt_or_eq.1 hj with h' | rfl
          · exact HJ.out j h h'
          · omega)
        clear hm hc0 hc3 hbk hlx
        go_wp2_with fail
        go_roundw
        case rel => exact ⟨k + 1, by go_num, by omega, HJ2, (by first | exact Lib.hid rfl | exact Lib.hid trivial)⟩
        case measure => simp [intOf]; omega
      · have h40' : 40 < (m : Int) := by omega
        have HF := Lib.hid (show smA xs = false by
          unfold smA
          rw [Bool.and_eq_false_iff]
          left
          rw [List.all_eq_false]
          exact ⟨xs[k], List.getElem_mem _, by simp; omega⟩)
        clear hm hc0 hc3 hbk hlx
        go_wp2_with fail
        go_ret
        rw [HF.out]
        exact ⟨rfl, Ext.refl _⟩
    · obtain rfl : k = n := by omega
      have HF := Lib.hid (show smA xs = decide ((k : Int) ≤ 30) by
        unfold smA
        rw [show xs.all (fun x => decide (x.2.length ≤ 40)) = true from by
          rw [List.all_eq_true]
          intro x hx
          obtain ⟨j, hj, rfl⟩ := List.mem_iff_getElem.1 hx
          simpa using HJ.out j hj (by rw [← HN.out]; exact hj), Bool.true_and, HN.out, decide_eq_decide]
        omega)
      clear hlt
      go_wp2_with fail
      go_ret
      rw [HF.out]
      exact ⟨rfl, Ext.refl _⟩
end Go.Proofs.YthpfomjibfbiiaaGreatDoor
