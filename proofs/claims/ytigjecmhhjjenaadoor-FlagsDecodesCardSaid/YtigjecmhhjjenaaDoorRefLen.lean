/- The reference's Length. -/
import Derived.Test.YtigjecmhhjjenaaDoorDer6
import Derived.Test.YtigjecmhhjjenaaDoorElPure
namespace Go.Proofs.YtigjecmhhjjenaaDoor
open Go Go.RowKit

set_option maxRecDepth 100000 in
set_option maxHeartbeats 2000000 in
theorem Length_at (A : Option Addr) (c : Nat) (l : List UInt8) (p : Nat) (hp : p ≤ 1000000000000) (w : World) (hb : BS w (.slice A l.length c) l) (r : Nat × Nat × Nat) (hr : lenF l p = r) :
    Calls Tryd.prog 82 #[.slice A l.length c, .int .i64 (p : Int)] w fun e w' => e = .returned (.tuple #[.int .i64 (r.1 : Int), .int .i64 (r.2.1 : Int), .int .i64 (r.2.2 : Int)]) ∧ w = w' := by
  obtain ⟨A', c', he, k1, k2, k3⟩ := hb.open_
  injection he with e1 _ e3
  subst e1; subst e3
  unfold maxLen at k2
  unfold lenF at hr
  by_cases h0 : l.length ≤ p
  · rw [if_pos h0] at hr
    subst hr
    clear k3
    go_enter Tryd.func82, Tryd.ntmps82
    go_wp2
    go_ret3
    exact ⟨rfl, rfl⟩
  rw [if_neg h0] at hr
  obtain ⟨ad, rfl, _, hc⟩ := k3 (by omega)
  have hc1 := hc p (by omega)
  rw [List.getElem?_eq_getElem (by omega)] at hr
  simp only [Option.getD_some] at hr
  obtain ⟨s, hs⟩ : ∃ s, s = l[p].toNat := ⟨_, rfl⟩
  have hs255 : s ≤ 255 := by have := l[p].toNat_lt; omega
  rw [← hs] at hc1 hr
  have HS := Lib.hid hs; clear hs
  have HC := Lib.hid hc; clear hc k3
  split at hr
  · rename_i h1
    subst hr
    go_enter Tryd.func82, Tryd.ntmps82
    go_wp2
    go_ret3
    exact ⟨by simp, rfl⟩
  rename_i h1
  split at hr
  · rename_i h2
    subst hr
    rcases (show (s : Int) < 129 ∨ (¬ (s : Int) < 129 ∧ 131 < (s : Int)) by omega) with h3 | ⟨h3, h4⟩
    all_goals
      clear h2
      go_enter Tryd.func82, Tryd.ntmps82
      go_wp2
      go_ret3
      exact ⟨rfl, rfl⟩
  rename_i h2
  obtain ⟨q, rfl⟩ : ∃ q, s = 128 + q := ⟨s - 128, by omega⟩
  have eq1 : 128 + q - 128 = q := by omega
  rw [eq1] at hr h2
  clear eq1
  have hq1 : 1 ≤ q := by omega
  have hq3 : q ≤ 3 := by omega
  clear h2 h1
  split at hr
  · rename_i h3
    subst hr
    have h4 : (l.length : Int) < p + 1 + q := by omega
    go_enter Tryd.func82, Tryd.ntmps82
    go_wp2
    go_ret3
    exact ⟨rfl, rfl⟩
  rename_i h3
  obtain ⟨m, hm⟩ : ∃ m, m = (l.take (p + 1 + q)).drop (p + 1) := ⟨_, rfl⟩
  rw [← hm] at hr
  have hml : m.length = q := by subst hm; simp; omega
  have hcm : ∀ k (hk : k < m.length), w.cell? (ad.add (p + 1 + k)) = some (.int .u8 (m[k].toNat : Int)) := by
    intro k hk
    rw [HC.out (p + 1 + k) (by omega)]
    subst hm
    simp
  have HCM := Lib.hid hcm; clear hcm
  have HM := Lib.hid hm; have HML := Lib.hid hml; have HR := Lib.hid hr; clear hm hml hr HC
  have h4 : ¬ (l.length : Int) < p + 1 + q := by omega
  clear h3
  go_enter Tryd.func82, Tryd.ntmps82
  go_wp2
  go_loop [9, 10] (fun n i => ∃ k : Nat, k ≤ q ∧ i = .int .i64 k ∧ n = .int .i64 (beNat (m.take k))) (fun _ i => q - (intOf i).toNat)
  case atStart => exact ⟨0, Nat.zero_le _, rfl, rfl⟩
  case round =>
    obtain ⟨k, hk, rfl, rfl⟩ := hrel
    by_cases hlt : k < q
    · have hkm : k < m.length := by rw [HML.out]; exact hlt
      have hc := HCM.out k hkm
      have hstep := beNat_take_succ m k hkm
      have hbd := beNat_take_lt m k (by omega)
      have hbd2 : beNat (m.take k) < 65536 := by
        have : k = 0 ∨ k = 1 ∨ k = 2 := by omega
        rcases this with rfl | rfl | rfl <;> simp at hbd ⊢ <;> omega
      have hbd3 : (beNat (m.take k) : Int) ≤ 65535 := by omega
      have HS2 := Lib.hid hstep; clear hstep hbd hbd2
      have hb8 : (m[k].toNat : Int) ≤ 255 := by have := m[k].toNat_lt; omega
      go_wp2
      go_round
      case rel => exact ⟨k + 1, by omega, by go_num, by rw [HS2.out]; go_num⟩
      case measure => simp [intOf] <;> omega
    · obtain rfl : k = q := by omega
      have hmt : m.take k = m := by rw [← HML.out, List.take_length]
      rw [hmt]
      have hbd : beNat m < 256 ^ k := by have := beNat_lt m; rwa [HML.out] at this
      obtain ⟨z, hz⟩ : ∃ z, z = beNat m := ⟨_, rfl⟩
      have hr := HR.out
      rw [← hz] at hbd hr ⊢
      clear hmt hz HCM HR HM
      have h5 : k = 1 ∨ k = 2 ∨ k = 3 := by omega
      have hz9 : (z : Int) ≤ 16777215 := by rcases h5 with rfl | rfl | rfl <;> omega
      have HB := Lib.hid hbd; clear hbd
      rcases h5 with rfl | rfl | rfl
      · by_cases h1 : (z : Int) < 128
        · have hd1 : decide ((z : Int) < 128) = true := decide_eq_true h1
          obtain rfl : r = (0, 0, 6) := by rw [← hr, if_pos (by simp only [leastF]; simp; omega)]
          clear hr h1
          go_wp2
          go_ret3
          exact ⟨rfl, rfl⟩
        · have hd1 : decide ((z : Int) < 128) = false := decide_eq_false h1
          obtain rfl : r = (z, p + 1 + 1, 0) := by rw [← hr, if_neg (by simp only [leastF]; simp; omega)]
          clear hr h1
          go_wp2
          go_ret3
          exact ⟨by simp, rfl⟩
      · by_cases h1 : (z : Int) < 256
        · have hd1 : decide ((z : Int) < 256) = true := decide_eq_true h1
          obtain rfl : r = (0, 0, 6) := by rw [← hr, if_pos (by simp only [leastF]; simp; omega)]
          clear hr h1
          go_wp2
          go_ret3
          exact ⟨rfl, rfl⟩
        · have hd1 : decide ((z : Int) < 256) = false := decide_eq_false h1
          obtain rfl : r = (z, p + 1 + 2, 0) := by rw [← hr, if_neg (by simp only [leastF]; simp; omega)]
          clear hr h1
          go_wp2
          go_ret3
          exact ⟨by simp, rfl⟩
      · by_cases h1 : (z : Int) < 65536
        · have hd1 : decide ((z : Int) < 65536) = true := decide_eq_true h1
          obtain rfl : r = (0, 0, 6) := by rw [← hr, if_pos (by simp only [leastF]; simp; omega)]
          clear hr h1
          have HZ9 := Lib.hid hz9; clear hz9
          go_wp2
          go_ret3
          exact ⟨rfl, rfl⟩
        · have hd1 : decide ((z : Int) < 65536) = false := decide_eq_false h1
          obtain rfl : r = (z, p + 1 + 3, 0) := by rw [← hr, if_neg (by simp only [leastF]; simp; omega)]
          clear hr h1
          have HZ9 := Lib.hid hz9; clear hz9
          go_wp2
          go_ret3
          exact ⟨by simp, rfl⟩
end Go.Proofs.YtigjecmhhjjenaaDoor
