/- rest, measure. -/
import Derived.Test.YthpfomjibfbiiaaGreatDoorDer5
import Derived.Test.YthpfomjibfbiiaaGreatDoorBits
import Derived.Deep.Cut
namespace Go.Proofs.YthpfomjibfbiiaaGreatDoor
open Go Go.RowKit

set_option maxRecDepth 100000 in
theorem rest_at (g : Nat) (l : List UInt8) (k : Nat) (m : List UInt8) (hm : l.drop k = m) (w : World) (h : RD 72 w g l k) :
    Calls Tryz.prog 45 #[.pointer (some ⟨g, 0, none⟩)] w fun e w' => ∃ A c, e = .returned (.slice A m.length c) ∧ BS w (.slice A m.length c) m ∧ Ext w w' := by
  have hk := h.le
  obtain ⟨A, c, hb, c0, c1, c2, _⟩ := h.cells
  have hll : l.length ≤ 9223372036854775807 := by obtain ⟨A', c', he, k1, k2, _⟩ := hb.open_; unfold maxLen at k2; omega
  have hm' : (l.take l.length).drop k = m := by rw [List.take_length]; exact hm
  obtain ⟨A', c', hb', hrun⟩ := run_slice3 (P := Tryz.prog) w 23 A c l k l.length m hm' hk (Nat.le_refl _) Tryz.underlying23 (by kernel_rfl) (info_parts u8info |>.elim fun i hi => ⟨i, hi.1, hi.2.2.1⟩) hb
  have HM := Lib.hid hm; have HM' := Lib.hid hm'; clear hm hm'
  go_enter Tryz.func45, Tryz.ntmps45
  go_wp2
  go_quiet (fail)
  go_wp2
  go_ret
  exact ⟨_, _, rfl, hb', (Ext.refl w).drewN _⟩

set_option maxRecDepth 100000 in
theorem measure_short (A : Option Addr) (c : Nat) (l : List UInt8) (w : World) (h : l.length < 2) :
    Calls Tryz.prog 125 #[.slice A l.length c] w fun e w' => e = .returned (.tuple #[.int .i64 0, .int .i64 0, .int .i64 4]) ∧ Ext w w' := by
  go_enter Tryz.func125, Tryz.ntmps125
  go_wp2
  go_ret3
  exact ⟨rfl, Ext.refl _⟩

set_option maxRecDepth 100000 in
theorem measure_small (A : Option Addr) (c : Nat) (l : List UInt8) (w : World) (h : 2 ≤ l.length) (hb : BS w (.slice A l.length c) l) (s : Nat) (hs : (l[1]?.getD 0).toNat = s) (hs1 : s < 128) :
    Calls Tryz.prog 125 #[.slice A l.length c] w fun e w' => e = .returned (.tuple #[.int .i64 ((finF l.length s 2).1 : Int), .int .i64 ((finF l.length s 2).2.1 : Int), .int .i64 ((finF l.length s 2).2.2 : Int)]) ∧ Ext w w' := by
  obtain ⟨A', c', he, k1, k2, k3⟩ := hb.open_
  injection he with e1 _ e3
  subst e1; subst e3
  obtain ⟨ad, rfl, _, hc⟩ := k3 (by omega)
  have hc1 : w.cell? { block := ad.block, off := ad.off + 1 } = some (.int .u8 (l[1].toNat : Int)) := hc 1 (by omega)
  have hs' : l[1].toNat = s := by rw [List.getElem?_eq_getElem (by omega)] at hs; exact hs
  rw [hs'] at hc1
  unfold maxLen at k2
  have HS := Lib.hid hs'; clear hs' hs hc k3
  by_cases hx : l.length - 2 < s
  · have e : finF l.length s 2 = (0, 0, 4) := by unfold finF; rw [if_pos hx]
    rw [e]
    have hx' : (l.length : Int) - 2 < s := by omega
    clear e hx
    go_enter Tryz.func125, Tryz.ntmps125
    go_wp2
    go_ret3
    exact ⟨rfl, Ext.refl _⟩
  · have e : finF l.length s 2 = (2, 2 + s, 0) := by unfold finF; rw [if_neg hx]
    rw [e]
    have hx' : ¬ (l.length : Int) - 2 < s := by omega
    clear e hx
    go_enter Tryz.func125, Tryz.ntmps125
    go_wp2
    go_ret3
    exact ⟨by simp, Ext.refl _⟩

set_option maxRecDepth 100000 in
theorem measure_bad (A : Option Addr) (c : Nat) (l : List UInt8) (w : World) (h : 2 ≤ l.length) (hb : BS w (.slice A l.length c) l) (s : Nat) (hs : (l[1]?.getD 0).toNat = s) (hs1 : 128 ≤ s) (hs2 : s < 129 ∨ 131 < s) (hs255 : s ≤ 255) :
    Calls Tryz.prog 125 #[.slice A l.length c] w fun e w' => e = .returned (.tuple #[.int .i64 0, .int .i64 0, .int .i64 6]) ∧ Ext w w' := by
  obtain ⟨A', c', he, k1, k2, k3⟩ := hb.open_
  injection he with e1 _ e3
  subst e1; subst e3
  obtain ⟨ad, rfl, _, hc⟩ := k3 (by omega)
  have hc1 : w.cell? { block := ad.block, off := ad.off + 1 } = some (.int .u8 (l[1].toNat : Int)) := hc 1 (by omega)
  have hs' : l[1].toNat = s := by rw [List.getElem?_eq_getElem (by omega)] at hs; exact hs
  rw [hs'] at hc1
  unfold maxLen at k2
  have HS := Lib.hid hs'; clear hs' hs hc k3
  rcases (show (s : Int) - 128 < 1 ∨ (¬ (s : Int) - 128 < 1 ∧ 3 < (s : Int) - 128) by omega) with h1 | ⟨h1, h2⟩
  all_goals
    clear hs2
    go_enter Tryz.func125, Tryz.ntmps125
    go_wp2
    go_ret3
    exact ⟨rfl, Ext.refl _⟩

set_option maxRecDepth 100000 in
theorem measure_cut (A : Option Addr) (c : Nat) (l : List UInt8) (w : World) (h : 2 ≤ l.length) (hb : BS w (.slice A l.length c) l) (s : Nat) (hs : (l[1]?.getD 0).toNat = s) (hs1 : 129 ≤ s) (hs2 : s ≤ 131) (hs3 : l.length < 2 + (s - 128)) :
    Calls Tryz.prog 125 #[.slice A l.length c] w fun e w' => e = .returned (.tuple #[.int .i64 0, .int .i64 0, .int .i64 4]) ∧ Ext w w' := by
  obtain ⟨A', c', he, k1, k2, k3⟩ := hb.open_
  injection he with e1 _ e3
  subst e1; subst e3
  obtain ⟨ad, rfl, _, hc⟩ := k3 (by omega)
  have hc1 : w.cell? { block := ad.block, off := ad.off + 1 } = some (.int .u8 (l[1].toNat : Int)) := hc 1 (by omega)
  have hs' : l[1].toNat = s := by rw [List.getElem?_eq_getElem (by omega)] at hs; exact hs
  rw [hs'] at hc1
  unfold maxLen at k2
  have HS := Lib.hid hs'; clear hs' hs hc k3
  have h3 : (l.length : Int) < 2 + ((s : Int) - 128) := by omega
  go_enter Tryz.func125, Tryz.ntmps125
  go_wp2
  go_ret3
  exact ⟨rfl, Ext.refl _⟩

set_option maxRecDepth 100000 in
set_option maxHeartbeats 2000000 in
theorem measure_long (A : Option Addr) (c : Nat) (l : List UInt8) (w : World) (h : 2 ≤ l.length) (hb : BS w (.slice A l.length c) l) (q : Nat) (hs : (l[1]?.getD 0).toNat = 128 + q) (hq1 : 1 ≤ q) (hq3 : q ≤ 3) (hs3 : 2 + q ≤ l.length) (m : List UInt8) (hm : (l.take (2 + q)).drop 2 = m)
    (r : Nat × Nat × Nat) (hr : (if beNat m < leastF q then (0, 0, 6) else finF l.length (beNat m) (2 + q)) = r) :
    Calls Tryz.prog 125 #[.slice A l.length c] w fun e w' => e = .returned (.tuple #[.int .i64 (r.1 : Int), .int .i64 (r.2.1 : Int), .int .i64 (r.2.2 : Int)]) ∧ Ext w w' := by
  obtain ⟨A', c', he, k1, k2, k3⟩ := hb.open_
  injection he with e1 _ e3
  subst e1; subst e3
  obtain ⟨ad, rfl, _, hc⟩ := k3 (by omega)
  have hc1 : w.cell? { block := ad.block, off := ad.off + 1 } = some (.int .u8 (l[1].toNat : Int)) := hc 1 (by omega)
  have hs' : l[1].toNat = 128 + q := by rw [List.getElem?_eq_getElem (by omega)] at hs; exact hs
  rw [hs'] at hc1
  unfold maxLen at k2
  have HS := Lib.hid hs'; have hc0 := hc; clear hs' hs hc k3
  have hml : m.length = q := by subst hm; simp; omega
  have hcm : ∀ k (hk : k < m.length), w.cell? { block := ad.block, off := ad.off + 2 + k } = some (.int .u8 (m[k].toNat : Int)) := by
    intro k hk
    have h0 := hc0 (2 + k) (by omega)
    have e : ({ block := ad.block, off := ad.off + 2 + k } : Addr) = ad.add (2 + k) := by unfold Addr.add; rw [if_neg (by omega)]; simp <;> omega
    rw [e, h0]
    subst hm
    simp
  have HC := Lib.hid hcm; clear hcm hc0
  have he : (128 + (q : Int) - 128) = q := by omega
  have HM := Lib.hid hm; have HML := Lib.hid hml; have HR := Lib.hid hr; clear hm hml hr
  go_enter Tryz.func125, Tryz.ntmps125
  go_wp2
  go_loop [5, 39] (fun n i => ∃ k : Nat, k ≤ q ∧ i = .int .i64 k ∧ n = .int .i64 (beNat (m.take k))) (fun _ i => q - (intOf i).toNat)
  case atStart => exact ⟨0, Nat.zero_le _, rfl, rfl⟩
  case round =>
    obtain ⟨k, hk, rfl, rfl⟩ := hrel
    by_cases hlt : k < q
    · have hkm : k < m.length := by rw [HML.out]; exact hlt
      have hc := HC.out k hkm
      have hstep := beNat_take_succ m k hkm
      have hbd := beNat_take_lt m k (by omega)
      have hbd2 : beNat (m.take k) < 65536 := by
        have : k = 0 ∨ k = 1 ∨ k = 2 := by omega
        rcases this with rfl | rfl | rfl <;> simp at hbd ⊢ <;> omega
      have hbd3 : (beNat (m.take k) : Int) ≤ 65535 := by omega
      have HS2 := Lib.hid hstep; clear hstep hbd hbd2
      have hb8 : (m[k].toNat : Int) ≤ 255 := by have := m[k].toNat_lt; omega
      have hor : bits .or .i64 (↑(beNat (m.take k)) * 256) ↑m[k].toNat = ((beNat (m.take k) * 256 + m[k].toNat : Nat) : Int) := i64_or_byte_nat _ _ (by omega) (by omega)
      have HO := Lib.hid hor; clear hor
      go_wp2
      go_round
      case rel => exact ⟨k + 1, by omega, by go_num, by rw [HS2.out, HO.out]⟩
      case measure => simp [intOf] <;> omega
    · obtain rfl : k = q := by omega
      have hmt : m.take k = m := by rw [← HML.out, List.take_length]
      rw [hmt]
      have hbd : beNat m < 256 ^ k := by have := beNat_lt m; rwa [HML.out] at this
      obtain ⟨z, hz⟩ : ∃ z, z = beNat m := ⟨_, rfl⟩
      have hr := HR.out
      rw [← hz] at hbd hr ⊢
      clear hmt hz HC HR HM
      have h3 : k = 1 ∨ k = 2 ∨ k = 3 := by omega
      have hz9 : (z : Int) ≤ 16777215 := by rcases h3 with rfl | rfl | rfl <;> omega
      have HB := Lib.hid hbd; clear hbd
      have HZ9 := Lib.hid hz9; clear hz9
      rcases h3 with rfl | rfl | rfl
      · by_cases h1 : (z : Int) < 128
        · have hd1 : decide ((z : Int) < 128) = true := decide_eq_true h1
          have HH1 := Lib.hid h1
          obtain rfl : r = (0, 0, 6) := by rw [← hr, if_pos (by simp only [leastF]; simp; omega)]
          clear hr h1
          go_wp2
          go_ret3
          exact ⟨rfl, (Ext.refl w).alloc _⟩
        · have hd1 : decide ((z : Int) < 128) = false := decide_eq_false h1
          by_cases h2 : (l.length : Int) - (2 + 1) < z
          · obtain rfl : r = (0, 0, 4) := by rw [← hr, if_neg (by simp only [leastF]; simp; omega)]; unfold finF; rw [if_pos (by omega)]
            have hd2 : decide ((l.length : Int) - 3 < (z : Int)) = true := decide_eq_true h2
            clear hr h1 h2
            go_wp2
            go_ret3
            exact ⟨rfl, (Ext.refl w).alloc _⟩
          · have hd2 : decide ((l.length : Int) - 3 < (z : Int)) = false := decide_eq_false h2
            obtain rfl : r = (2 + 1, 2 + 1 + z, 0) := by rw [← hr, if_neg (by simp only [leastF]; simp; omega)]; unfold finF; rw [if_neg (by omega)]
            have hz9 := HZ9.out
            clear hr h1 h2
            go_wp2
            go_ret3
            exact ⟨by simp, (Ext.refl w).alloc _⟩
      · by_cases h1 : (z : Int) < 256
        · have hd1 : decide ((z : Int) < 256) = true := decide_eq_true h1
          have HH1 := Lib.hid h1
          obtain rfl : r = (0, 0, 6) := by rw [← hr, if_pos (by simp only [leastF]; simp; omega)]
          clear hr h1
          go_wp2
          go_ret3
          exact ⟨rfl, (Ext.refl w).alloc _⟩
        · have hd1 : decide ((z : Int) < 256) = false := decide_eq_false h1
          by_cases h2 : (l.length : Int) - (2 + 2) < z
          · obtain rfl : r = (0, 0, 4) := by rw [← hr, if_neg (by simp only [leastF]; simp; omega)]; unfold finF; rw [if_pos (by omega)]
            have hd2 : decide ((l.length : Int) - 4 < (z : Int)) = true := decide_eq_true h2
            clear hr h1 h2
            go_wp2
            go_ret3
            exact ⟨rfl, (Ext.refl w).alloc _⟩
          · have hd2 : decide ((l.length : Int) - 4 < (z : Int)) = false := decide_eq_false h2
            obtain rfl : r = (2 + 2, 2 + 2 + z, 0) := by rw [← hr, if_neg (by simp only [leastF]; simp; omega)]; unfold finF; rw [if_neg (by omega)]
            have hz9 := HZ9.out
            clear hr h1 h2
            go_wp2
            go_ret3
            exact ⟨by simp, (Ext.refl w).alloc _⟩
      · by_cases h1 : (z : Int) < 65536
        · have hd1 : decide ((z : Int) < 65536) = true := decide_eq_true h1
          have HH1 := Lib.hid h1
          obtain rfl : r = (0, 0, 6) := by rw [← hr, if_pos (by simp only [leastF]; simp; omega)]
          clear hr h1
          go_wp2
          go_ret3
          exact ⟨rfl, (Ext.refl w).alloc _⟩
        · have hd1 : decide ((z : Int) < 65536) = false := decide_eq_false h1
          by_cases h2 : (l.length : Int) - (2 + 3) < z
          · obtain rfl : r = (0, 0, 4) := by rw [← hr, if_neg (by simp only [leastF]; simp; omega)]; unfold finF; rw [if_pos (by omega)]
            have hd2 : decide ((l.length : Int) - 5 < (z : Int)) = true := decide_eq_true h2
            clear hr h1 h2
            go_wp2
            go_ret3
            exact ⟨rfl, (Ext.refl w).alloc _⟩
          · have hd2 : decide ((l.length : Int) - 5 < (z : Int)) = false := decide_eq_false h2
            obtain rfl : r = (2 + 3, 2 + 3 + z, 0) := by rw [← hr, if_neg (by simp only [leastF]; simp; omega)]; unfold finF; rw [if_neg (by omega)]
            have hz9 := HZ9.out
            clear hr h1 h2
            go_wp2
            go_ret3
            exact ⟨by simp, (Ext.refl w).alloc _⟩

theorem measure_at (A : Option Addr) (c : Nat) (l : List UInt8) (w : World) (hb : BS w (.slice A l.length c) l) (r : Nat × Nat × Nat) (hr : measureF l = r) :
    Calls Tryz.prog 125 #[.slice A l.length c] w fun e w' => e = .returned (.tuple #[.int .i64 (r.1 : Int), .int .i64 (r.2.1 : Int), .int .i64 (r.2.2 : Int)]) ∧ Ext w w' := by
  subst hr
  unfold measureF
  by_cases h : l.length < 2
  · rw [if_pos h]; exact measure_short A c l w h
  rw [if_neg h]
  simp only
  have h255 : (l[1]?.getD 0).toNat < 256 := (l[1]?.getD 0).toNat_lt
  generalize hs : (l[1]?.getD 0).toNat = s at *
  by_cases h1 : s < 128
  · rw [if_pos h1]; exact measure_small A c l w (by omega) hb s hs h1
  rw [if_neg h1]
  by_cases h2 : s - 128 < 1 ∨ 3 < s - 128
  · rw [if_pos h2]; exact measure_bad A c l w (by omega) hb s hs (by omega) (by omega) (by omega)
  rw [if_neg h2]
  by_cases h3 : l.length < 2 + (s - 128)
  · rw [if_pos h3]; exact measure_cut A c l w (by omega) hb s hs (by omega) (by omega) h3
  rw [if_neg h3]
  exact measure_long A c l w (by omega) hb (s - 128) (by omega) (by omega) (by omega) (by omega) _ rfl _ rfl
#print axioms measure_at
end Go.Proofs.YthpfomjibfbiiaaGreatDoor
