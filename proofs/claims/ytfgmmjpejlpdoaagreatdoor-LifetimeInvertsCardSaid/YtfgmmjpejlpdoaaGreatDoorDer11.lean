/- The closures of the other methods of Reader, and unsigned. -/
import Derived.Test.YtfgmmjpejlpdoaaGreatDoorDer10
import Derived.Test.YtfgmmjpejlpdoaaGreatDoorPureAll
namespace Go.Proofs.YtfgmmjpejlpdoaaGreatDoor
open Go Go.RowKit

set_option maxRecDepth 100000 in
theorem unsigned_at (A : Option Addr) (c : Nat) (l : List UInt8) (w : World) (hb : BS w (.slice A l.length c) l) (h6 : l.length ≤ 6) :
    Calls Tryz.prog 77 #[.slice A l.length c] w fun e w' => e = .returned (.int .i64 (beNat l : Int)) ∧ w = w' := by
  obtain ⟨A', c', he, k1, k2, k3⟩ := hb.open_
  injection he with e1 _ e3
  subst e1; subst e3
  have HC := Lib.hid k3; clear k3
  go_enter Tryz.func77, Tryz.ntmps77
  go_wp2
  go_loop [2, 7] (fun n i => ∃ k : Nat, k ≤ l.length ∧ i = .int .i64 k ∧ n = .int .i64 (beNat (l.take k))) (fun _ i => l.length - (intOf i).toNat)
  case atStart => exact ⟨0, Nat.zero_le _, rfl, rfl⟩
  case round =>
    obtain ⟨k, hk, rfl, rfl⟩ := hrel
    by_cases hlt : k < l.length
    · obtain ⟨ad, rfl, _, hc⟩ := HC.out (by omega)
      have hc := hc k hlt
      have hstep := beNat_take_succ l k hlt
      have hbd := beNat_take_lt l k (by omega)
      have hbd2 : beNat (l.take k) < 1099511627776 := by
        have : k = 0 ∨ k = 1 ∨ k = 2 ∨ k = 3 ∨ k = 4 ∨ k = 5 := by omega
        rcases this with rfl | rfl | rfl | rfl | rfl | rfl <;> simp at hbd ⊢ <;> omega
      obtain ⟨v, hv⟩ : ∃ v, v = beNat (l.take k) := ⟨_, rfl⟩
      rw [← hv] at hstep hbd2 ⊢
      have hb8 : (l[k].toNat : Int) ≤ 255 := by have := l[k].toNat_lt; omega
      have hor : bits .or .i64 (↑v * 256) ↑l[k].toNat = ((v * 256 + l[k].toNat : Nat) : Int) := i64_or_byte_nat _ _ (by omega) (by omega)
      have hw : wrap64 ((v : Int) * 256) = (v : Int) * 256 := IntWalk.wrap64_in _ (by omega)
      have HO := Lib.hid hor; have HS := Lib.hid hstep
      clear hor hstep hbd hbd2 hv
      go_wp2
      go_round
      case rel => exact ⟨k + 1, by omega, by go_num, by rw [HO.out, HS.out]⟩
      case measure => simp [intOf] <;> omega
    · have e : l.take k = l := List.take_of_length_le (by omega)
      rw [e]
      obtain ⟨v, hv⟩ : ∃ v, v = beNat l := ⟨_, rfl⟩
      rw [← hv]
      have HV := Lib.hid hv; clear hv e
      go_wp2
      go_ret
      exact ⟨by rw [← HV.out]; rfl, rfl⟩

set_option maxRecDepth 100000 in
theorem timeClo_says (cont : List UInt8) (B : Nat) : CloSays Tryz.prog 76 cont (tmOk cont) (fun v _ => v = .int .i64 (tmVal cont)) B := by
  intro A c w1 _ hb
  by_cases h6 : cont.length = 6
  · have hne : ((cont.length : Int) != 6) = false := by rw [h6]; rfl
    have hk : tmOk cont = decide ((beNat cont : Int) ≤ 1099511627776) := by unfold tmOk; rw [decide_eq_true h6]; rfl
    rw [hk]
    have HM4 := Lib.hid (show cont.length ≤ 6 by omega)
    have hv : tmVal cont = (beNat cont : Int) := rfl
    rw [hv]
    obtain ⟨z, hz⟩ : ∃ z, z = beNat cont := ⟨_, rfl⟩
    rw [← hz]
    have HZ := Lib.hid hz
    clear hv hk h6 hz
    go_enter Tryz.func76, Tryz.ntmps76
    go_wp2_with (go_at_call 77; refine (unsigned_at A c cont _ hb HM4.out).mono ?_; rintro e w2 ⟨rfl, rfl⟩; rw [← HZ.out])
    go_ret2
    exact ⟨⟨_, rfl, fun _ => rfl⟩, Ext.refl _⟩
  · have e0 : tmOk cont = false := by unfold tmOk; rw [decide_eq_false h6]; rfl
    rw [e0]
    have hne : ((cont.length : Int) != 6) = true := by rw [bne_iff_ne]; omega
    go_enter Tryz.func76, Tryz.ntmps76
    go_wp2
    go_ret2
    exact ⟨by first | exact ⟨_, rfl, fun h => by cases h⟩ | exact ⟨_, rfl⟩, Ext.refl _⟩

set_option maxRecDepth 100000 in
theorem contained_says (cont : List UInt8) (B : Nat) : CloSays Tryz.prog 72 cont true (fun v w' => ∃ g', v = .pointer (some ⟨g', 0, none⟩) ∧ B ≤ g' ∧ RD 94 w' g' cont 0) B := by
  intro A c w1 hB hb
  go_enter Tryz.func72, Tryz.ntmps72
  go_wp2_with (go_at_call 45; refine (inner_at A c cont _ hb).mono ?_; rintro e w2 ⟨rfl, hr2, hx2⟩)
  go_ret2
  exact ⟨⟨_, rfl, fun _ => ⟨_, rfl, hB, hr2⟩⟩, hx2⟩
end Go.Proofs.YtfgmmjpejlpdoaaGreatDoor
