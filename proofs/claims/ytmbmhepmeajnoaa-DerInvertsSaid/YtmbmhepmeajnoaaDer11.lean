/- The closures of the other methods of Reader, and unsigned. -/
import Derived.Test.YtmbmhepmeajnoaaDer10
import Derived.Test.YtmbmhepmeajnoaaPure5
namespace Go.Proofs.Ytmbmhepmeajnoaa
open Go Go.RowKit

set_option maxRecDepth 100000 in
theorem unsigned_at (A : Option Addr) (c : Nat) (l : List UInt8) (w : World) (hb : BS w (.slice A l.length c) l) (h6 : l.length ≤ 6) :
    Calls Try.prog 74 #[.slice A l.length c] w fun e w' => e = .returned (.int .i64 (beNat l : Int)) ∧ w = w' := by
  obtain ⟨A', c', he, k1, k2, k3⟩ := hb.open_
  injection he with e1 _ e3
  subst e1; subst e3
  have HC := Lib.hid k3; clear k3
  go_enter Try.func74, Try.ntmps74
  go_wp2
  go_loop [2, 7] (fun n i => ∃ k : Nat, k ≤ l.length ∧ i = .int .i64 k ∧ n = .int .i64 (beNat (l.take k))) (fun _ i => l.length - (intOf i).toNat)
  case atStart => exact ⟨0, Nat.zero_le _, rfl, rfl⟩
  case round =>
    obtain ⟨k, hk, rfl, rfl⟩ := hrel
    by_cases hlt : k < l.length
    · obtain ⟨ad, rfl, _, hc⟩ := HC.out (by omega)
      have hc := hc k hlt
      have hstep := beNat_take_succ l k hlt
      have hbd := beNat_take_lt l k (by omega)
      have hbd2 : beNat (l.take k) < 1099511627776 := by
        have : k = 0 ∨ k = 1 ∨ k = 2 ∨ k = 3 ∨ k = 4 ∨ k = 5 := by omega
        rcases this with rfl | rfl | rfl | rfl | rfl | rfl <;> simp at hbd ⊢ <;> omega
      obtain ⟨v, hv⟩ : ∃ v, v = beNat (l.take k) := ⟨_, rfl⟩
      rw [← hv] at hstep hbd2 ⊢
      have hb8 : (l[k].toNat : Int) ≤ 255 := by have := l[k].toNat_lt; omega
      have hor : bits .or .i64 (↑v * 256) ↑l[k].toNat = ((v * 256 + l[k].toNat : Nat) : Int) := i64_or_byte_nat _ _ (by omega) (by omega)
      have hw : wrap64 ((v : Int) * 256) = (v : Int) * 256 := IntWalk.wrap64_in _ (by omega)
      have HO := Lib.hid hor; have HS := Lib.hid hstep
      clear hor hstep hbd hbd2 hv
      go_wp2
      go_round
      case rel => exact ⟨k + 1, by omega, by go_num, by rw [HO.out, HS.out]⟩
      case measure => simp [intOf] <;> omega
    · have e : l.take k = l := List.take_of_length_le (by omega)
      rw [e]
      obtain ⟨v, hv⟩ : ∃ v, v = beNat l := ⟨_, rfl⟩
      rw [← hv]
      have HV := Lib.hid hv; clear hv e
      go_wp2
      go_ret
      exact ⟨by rw [← HV.out]; rfl, rfl⟩

set_option maxRecDepth 100000 in
theorem boolClo_says (cont : List UInt8) (B : Nat) : CloSays Try.prog 68 cont (boolOk cont) (fun v _ => v = .bool (boolVal cont)) B := by
  intro A c w1 _ hb
  by_cases h1 : cont.length = 1
  · obtain ⟨A', c', he, k1, k2, k3⟩ := hb.open_
    injection he with e1 _ e3
    subst e1; subst e3
    obtain ⟨ad, rfl, _, hc⟩ := k3 (by omega)
    have hc0 : w1.cell? ad = some (.int .u8 (cont[0].toNat : Int)) := hc 0 (by omega)
    have h255 := cont[0].toNat_lt
    have hne : ((cont.length : Int) != 1) = false := by rw [h1]; rfl
    have hv : boolVal cont = decide ((cont[0].toNat : Int) = 255) := by
      unfold boolVal; rw [List.getElem?_eq_getElem (by omega)]; simp only [Option.getD_some]
      rw [Bool.eq_iff_iff]; simp only [beq_iff_eq, decide_eq_true_eq, ← UInt8.toNat_inj]
      show cont[0].toNat = 255 ↔ _; omega
    have hk : boolOk cont = (decide ((cont[0].toNat : Int) = 255) || decide ((cont[0].toNat : Int) = 0)) := by
      unfold boolOk; rw [List.getElem?_eq_getElem (by omega)]; simp only [Option.getD_some, h1]
      rw [Bool.eq_iff_iff]; simp only [beq_iff_eq, decide_eq_true_eq, decide_true, Bool.true_and, Bool.or_eq_true, ← UInt8.toNat_inj]
      show (cont[0].toNat = 255 ∨ cont[0].toNat = 0) ↔ _; omega
    rw [hv, hk]
    obtain ⟨x, hx⟩ : ∃ x : Int, x = (cont[0].toNat : Int) := ⟨_, rfl⟩
    rw [← hx] at hc0 ⊢
    have hl : (0 : Int) < cont.length := by omega
    clear hv hk hc k3 h255 h1 hx
    rcases (show x = 255 ∨ (x ≠ 255 ∧ x = 0) ∨ (x ≠ 255 ∧ x ≠ 0) by omega) with rfl | ⟨h2, rfl⟩ | ⟨h2, h3⟩
    · go_enter Try.func68, Try.ntmps68
      go_wp2
      go_quiet (fail)
      go_wp2
      go_ret2
      exact ⟨⟨_, rfl, fun _ => rfl⟩, (Ext.refl w1).drewN _⟩
    · go_enter Try.func68, Try.ntmps68
      go_wp2
      go_quiet (fail)
      go_wp2
      go_ret2
      exact ⟨⟨_, rfl, fun _ => rfl⟩, (Ext.refl w1).drewN _⟩
    · have hb1 : (x == 255) = false := by rw [beq_eq_false_iff_ne]; exact h2
      have hb2 : (x == 0) = false := by rw [beq_eq_false_iff_ne]; exact h3
      have e1 : decide (x = 255) = false := decide_eq_false h2
      have e2 : decide (x = 0) = false := decide_eq_false h3
      rw [e1, e2]
      clear h2 h3 e1 e2
      go_enter Try.func68, Try.ntmps68
      go_wp2
      go_quiet (fail)
      go_wp2
      go_ret2
      exact ⟨by first | exact ⟨_, rfl, fun h => by cases h⟩ | exact ⟨_, rfl⟩, (Ext.refl w1).drewN _⟩
  · have e0 : boolOk cont = false := by unfold boolOk; rw [decide_eq_false h1]; rfl
    rw [e0]
    have hne : ((cont.length : Int) != 1) = true := by rw [bne_iff_ne]; omega
    go_enter Try.func68, Try.ntmps68
    go_wp2
    go_ret2
    exact ⟨by first | exact ⟨_, rfl, fun h => by cases h⟩ | exact ⟨_, rfl⟩, Ext.refl _⟩

set_option maxRecDepth 100000 in
theorem bitsClo_says (cont : List UInt8) (B : Nat) : CloSays Try.prog 73 cont (bitsOk cont) (fun v _ => v = .int .u32 (bitsVal cont)) B := by
  intro A c w1 _ hb
  by_cases h5 : cont.length = 5
  · obtain ⟨A', c', he, k1, k2, k3⟩ := hb.open_
    injection he with e1 _ e3
    subst e1; subst e3
    obtain ⟨ad, rfl, _, hc⟩ := k3 (by omega)
    have hc0 : w1.cell? ad = some (.int .u8 (cont[0].toNat : Int)) := hc 0 (by omega)
    have hne : ((cont.length : Int) != 5) = false := by rw [h5]; rfl
    have hk : bitsOk cont = decide ((cont[0].toNat : Int) = 0) := by
      unfold bitsOk; rw [List.getElem?_eq_getElem (by omega)]; simp only [Option.getD_some, h5]
      rw [Bool.eq_iff_iff]; simp only [beq_iff_eq, decide_eq_true_eq, decide_true, Bool.true_and, ← UInt8.toNat_inj]
      show cont[0].toNat = 0 ↔ _; omega
    rw [hk]
    obtain ⟨x, hx⟩ : ∃ x : Int, x = (cont[0].toNat : Int) := ⟨_, rfl⟩
    rw [← hx] at hc0 ⊢
    have hl : (0 : Int) < cont.length := by omega
    obtain ⟨m, hm⟩ : ∃ m, m = cont.drop 1 := ⟨_, rfl⟩
    have hml : m.length = 4 := by rw [hm]; simp; omega
    obtain ⟨A', c', hb', hrun⟩ := run_slice1 (P := Try.prog) w1 24 (some ad) c cont 1 m hm.symm (by omega) Try.underlying24 (info_parts u8info |>.elim fun i hi => ⟨i, hi.1, hi.2.2.1⟩) hb
    have hrun1 : ∀ w' : World, (Instr.slice 24 (.slice (some ad) cont.length c) (some (.int .i64 1)) none none).run Try.prog w' = .ok (.slice A' m.length c') w' := hrun
    have hbm : (beNat m : Int) < 4294967296 := by have := beNat_lt m; rw [hml] at this; omega
    have hv : bitsVal cont = (beNat m : Int) := by rw [hm]; rfl
    rw [hv]
    obtain ⟨z, hz⟩ : ∃ z, z = beNat m := ⟨_, rfl⟩
    rw [← hz] at hbm ⊢
    have hbm1 : (z : Int) ≤ 4294967295 := by omega
    have HZ := Lib.hid hz; have HM4 := Lib.hid (show m.length ≤ 6 by omega)
    clear hv hk hc k3 hx hm hml hrun h5 hbm hz
    by_cases h0 : x = 0
    · subst h0
      go_enter Try.func73, Try.ntmps73
      go_wp2_with (go_at_call 74; refine (unsigned_at A' c' m _ hb' HM4.out).mono ?_; rintro e w2 ⟨rfl, rfl⟩; rw [← HZ.out])
      go_ret2
      exact ⟨⟨_, rfl, fun _ => rfl⟩, Ext.refl _⟩
    · have hb1 : (x != 0) = true := by rw [bne_iff_ne]; exact h0
      have e2 : decide (x = 0) = false := decide_eq_false h0
      rw [e2]
      clear h0 e2
      go_enter Try.func73, Try.ntmps73
      go_wp2
      go_ret2
      exact ⟨by first | exact ⟨_, rfl, fun h => by cases h⟩ | exact ⟨_, rfl⟩, Ext.refl _⟩
  · have e0 : bitsOk cont = false := by unfold bitsOk; rw [decide_eq_false h5]; rfl
    rw [e0]
    have hne : ((cont.length : Int) != 5) = true := by rw [bne_iff_ne]; omega
    go_enter Try.func73, Try.ntmps73
    go_wp2
    go_ret2
    exact ⟨by first | exact ⟨_, rfl, fun h => by cases h⟩ | exact ⟨_, rfl⟩, Ext.refl _⟩

set_option maxRecDepth 100000 in
theorem timeClo_says (cont : List UInt8) (B : Nat) : CloSays Try.prog 75 cont (tmOk cont) (fun v _ => v = .int .i64 (tmVal cont)) B := by
  intro A c w1 _ hb
  by_cases h6 : cont.length = 6
  · have hne : ((cont.length : Int) != 6) = false := by rw [h6]; rfl
    have hk : tmOk cont = decide ((beNat cont : Int) ≤ 1099511627776) := by unfold tmOk; rw [decide_eq_true h6]; rfl
    rw [hk]
    have HM4 := Lib.hid (show cont.length ≤ 6 by omega)
    have hv : tmVal cont = (beNat cont : Int) := rfl
    rw [hv]
    obtain ⟨z, hz⟩ : ∃ z, z = beNat cont := ⟨_, rfl⟩
    rw [← hz]
    have HZ := Lib.hid hz
    clear hv hk h6 hz
    go_enter Try.func75, Try.ntmps75
    go_wp2_with (go_at_call 74; refine (unsigned_at A c cont _ hb HM4.out).mono ?_; rintro e w2 ⟨rfl, rfl⟩; rw [← HZ.out])
    go_ret2
    exact ⟨⟨_, rfl, fun _ => rfl⟩, Ext.refl _⟩
  · have e0 : tmOk cont = false := by unfold tmOk; rw [decide_eq_false h6]; rfl
    rw [e0]
    have hne : ((cont.length : Int) != 6) = true := by rw [bne_iff_ne]; omega
    go_enter Try.func75, Try.ntmps75
    go_wp2
    go_ret2
    exact ⟨by first | exact ⟨_, rfl, fun h => by cases h⟩ | exact ⟨_, rfl⟩, Ext.refl _⟩

set_option maxRecDepth 100000 in
theorem octetsClo_says (cont : List UInt8) (B : Nat) (hl : cont.length ≤ 140737488355328) : CloSays Try.prog 63 cont true (fun v w' => ∃ A c, v = .slice A cont.length c ∧ OB 5 w' B (.slice A cont.length c) cont) B := by
  intro A c w1 hB hb
  go_enter Try.func63, Try.ntmps63
  go_wp2_with (go_at_call 58; refine (Clone_at A c cont _ hb hl).mono ?_; rintro e w2 ⟨A2, c2, rfl, hb2, hx2⟩)
  go_ret2
  exact ⟨⟨_, rfl, fun _ => ⟨A2, c2, rfl, hb2.mono hB⟩⟩, hx2⟩

set_option maxRecDepth 100000 in
theorem stringClo_says (cont : List UInt8) (B : Nat) : CloSays Try.prog 77 cont true (fun v _ => v = .string ⟨cont.toArray⟩) B := by
  intro A c w1 _ hb
  have hs := run_str (P := Try.prog) w1 24 9 5 _ cont Try.underlying24 Try.underlying5 Try.underlying9 hb
  go_enter Try.func77, Try.ntmps77
  go_wp2
  go_ret2
  exact ⟨⟨_, rfl, fun _ => rfl⟩, Ext.refl _⟩

set_option maxRecDepth 100000 in
theorem contained_says (cont : List UInt8) (B : Nat) : CloSays Try.prog 79 cont true (fun v w' => ∃ g', v = .pointer (some ⟨g', 0, none⟩) ∧ B ≤ g' ∧ RD 62 w' g' cont 0) B := by
  intro A c w1 hB hb
  go_enter Try.func79, Try.ntmps79
  go_wp2_with (go_at_call 61; refine (inner_at A c cont _ hb).mono ?_; rintro e w2 ⟨rfl, hr2, hx2⟩)
  go_ret2
  exact ⟨⟨_, rfl, fun _ => ⟨_, rfl, hB, hr2⟩⟩, hx2⟩
end Go.Proofs.Ytmbmhepmeajnoaa
