/- Texts laid together (wip/tools/automerge.py): Der10, Der11. -/
import Derived.Test.YtigjecmhhjjenaaDoorDer9
import Derived.Test.YtigjecmhhjjenaaDoorMg12
namespace Go.Proofs.YtigjecmhhjjenaaDoor
open Go Go.RowKit

end Go.Proofs.YtigjecmhhjjenaaDoor
namespace Go.Proofs.YtigjecmhhjjenaaDoor
open Go Go.RowKit

set_option maxRecDepth 100000 in
theorem unsigned_at (A : Option Addr) (c : Nat) (l : List UInt8) (w : World) (hb : BS w (.slice A l.length c) l) (h6 : l.length ≤ 6) :
    Calls Tryd.prog 74 #[.slice A l.length c] w fun e w' => e = .returned (.int .i64 (beNat l : Int)) ∧ w = w' := by
  obtain ⟨A', c', he, k1, k2, k3⟩ := hb.open_
  injection he with e1 _ e3
  subst e1; subst e3
  have HC := Lib.hid k3; clear k3
  go_enter Tryd.func74, Tryd.ntmps74
  go_wp2
  go_loop [2, 7] (fun n i => ∃ k : Nat, k ≤ l.length ∧ i = .int .i64 k ∧ n = .int .i64 (beNat (l.take k))) (fun _ i => l.length - (intOf i).toNat)
  case atStart => exact ⟨0, Nat.zero_le _, rfl, rfl⟩
  case round =>
    obtain ⟨k, hk, rfl, rfl⟩ := hrel
    by_cases hlt : k < l.length
    · obtain ⟨ad, rfl, _, hc⟩ := HC.out (by omega)
      have hc := hc k hlt
      have hstep := beNat_take_succ l k hlt
      have hbd := beNat_take_lt l k (by omega)
      have hbd2 : beNat (l.take k) < 1099511627776 := by
        have : k = 0 ∨ k = 1 ∨ k = 2 ∨ k = 3 ∨ k = 4 ∨ k = 5 := by omega
        rcases this with rfl | rfl | rfl | rfl | rfl | rfl <;> simp at hbd ⊢ <;> omega
      obtain ⟨v, hv⟩ : ∃ v, v = beNat (l.take k) := ⟨_, rfl⟩
      rw [← hv] at hstep hbd2 ⊢
      have hb8 : (l[k].toNat : Int) ≤ 255 := by have := l[k].toNat_lt; omega
      have hor : bits .or .i64 (↑v * 256) ↑l[k].toNat = ((v * 256 + l[k].toNat : Nat) : Int) := i64_or_byte_nat _ _ (by omega) (by omega)
      have hw : wrap64 ((v : Int) * 256) = (v : Int) * 256 := IntWalk.wrap64_in _ (by omega)
      have HO := Lib.hid hor; have HS := Lib.hid hstep
      clear hor hstep hbd hbd2 hv
      go_wp2
      go_round
      case rel => exact ⟨k + 1, by omega, by go_num, by rw [HO.out, HS.out]⟩
      case measure => simp [intOf] <;> omega
    · have e : l.take k = l := List.take_of_length_le (by omega)
      rw [e]
      obtain ⟨v, hv⟩ : ∃ v, v = beNat l := ⟨_, rfl⟩
      rw [← hv]
      have HV := Lib.hid hv; clear hv e
      go_wp2
      go_ret
      exact ⟨by rw [← HV.out]; rfl, rfl⟩

set_option maxRecDepth 100000 in
theorem bitsClo_says (cont : List UInt8) (B : Nat) : CloSays Tryd.prog 73 cont (bitsOk cont) (fun v _ => v = .int .u32 (bitsVal cont)) B := by
  intro A c w1 _ hb
  by_cases h5 : cont.length = 5
  · obtain ⟨A', c', he, k1, k2, k3⟩ := hb.open_
    injection he with e1 _ e3
    subst e1; subst e3
    obtain ⟨ad, rfl, _, hc⟩ := k3 (by omega)
    have hc0 : w1.cell? ad = some (.int .u8 (cont[0].toNat : Int)) := hc 0 (by omega)
    have hne : ((cont.length : Int) != 5) = false := by rw [h5]; rfl
    have hk : bitsOk cont = decide ((cont[0].toNat : Int) = 0) := by
      unfold bitsOk; rw [List.getElem?_eq_getElem (by omega)]; simp only [Option.getD_some, h5]
      rw [Bool.eq_iff_iff]; simp only [beq_iff_eq, decide_eq_true_eq, decide_true, Bool.true_and, ← UInt8.toNat_inj]
      show cont[0].toNat = 0 ↔ _; omega
    rw [hk]
    obtain ⟨x, hx⟩ : ∃ x : Int, x = (cont[0].toNat : Int) := ⟨_, rfl⟩
    rw [← hx] at hc0 ⊢
    have hl : (0 : Int) < cont.length := by omega
    obtain ⟨m, hm⟩ : ∃ m, m = cont.drop 1 := ⟨_, rfl⟩
    have hml : m.length = 4 := by rw [hm]; simp; omega
    obtain ⟨A', c', hb', hrun⟩ := run_slice1 (P := Tryd.prog) w1 50 (some ad) c cont 1 m hm.symm (by omega) Tryd.underlying50 (info_parts u8info |>.elim fun i hi => ⟨i, hi.1, hi.2.2.1⟩) hb
    have hrun1 : ∀ w' : World, (Instr.slice 50 (.slice (some ad) cont.length c) (some (.int .i64 1)) none none).run Tryd.prog w' = .ok (.slice A' m.length c') w' := hrun
    have hbm : (beNat m : Int) < 4294967296 := by have := beNat_lt m; rw [hml] at this; omega
    have hv : bitsVal cont = (beNat m : Int) := by rw [hm]; rfl
    rw [hv]
    obtain ⟨z, hz⟩ : ∃ z, z = beNat m := ⟨_, rfl⟩
    rw [← hz] at hbm ⊢
    have hbm1 : (z : Int) ≤ 4294967295 := by omega
    have HZ := Lib.hid hz; have HM4 := Lib.hid (show m.length ≤ 6 by omega)
    clear hv hk hc k3 hx hm hml hrun h5 hbm hz
    by_cases h0 : x = 0
    · subst h0
      go_enter Tryd.func73, Tryd.ntmps73
      go_wp2_with (go_at_call 74; refine (unsigned_at A' c' m _ hb' HM4.out).mono ?_; rintro e w2 ⟨rfl, rfl⟩; rw [← HZ.out])
      go_ret2
      exact ⟨⟨_, rfl, fun _ => rfl⟩, Ext.refl _⟩
    · have hb1 : (x != 0) = true := by rw [bne_iff_ne]; exact h0
      have e2 : decide (x = 0) = false := decide_eq_false h0
      rw [e2]
      clear h0 e2
      go_enter Tryd.func73, Tryd.ntmps73
      go_wp2
      go_ret2
      exact ⟨by first | exact ⟨_, rfl, fun h => by cases h⟩ | exact ⟨_, rfl⟩, Ext.refl _⟩
  · have e0 : bitsOk cont = false := by unfold bitsOk; rw [decide_eq_false h5]; rfl
    rw [e0]
    have hne : ((cont.length : Int) != 5) = true := by rw [bne_iff_ne]; omega
    go_enter Tryd.func73, Tryd.ntmps73
    go_wp2
    go_ret2
    exact ⟨by first | exact ⟨_, rfl, fun h => by cases h⟩ | exact ⟨_, rfl⟩, Ext.refl _⟩

end Go.Proofs.YtigjecmhhjjenaaDoor
