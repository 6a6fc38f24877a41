/- Flags: the reference's Has, Name, Of, Named, Ticket, Options. -/
import Derived.Test.YtigjecmhhjjenaaDoorFl5
import Derived.IntWalk
namespace Go.Proofs.YtigjecmhhjjenaaDoor
open Go Go.RowKit
set_option linter.unusedVariables false

theorem has_val (f : W32) (k : Nat) : (((f.toNat : Int) / 2 ^ k).tmod 2 == 1) = f.getLsbD k := by
  have h1 : ((f.toNat : Int) / 2 ^ k).tmod 2 = ((f.toNat / 2 ^ k % 2 : Nat) : Int) := by
    have h2 : (f.toNat : Int) / 2 ^ k = ((f.toNat / 2 ^ k : Nat) : Int) := by simp
    rw [h2]
    exact (Int.ofNat_tmod _ _).symm
  rw [h1, ← BitVec.testBit_toNat, Nat.testBit_eq_decide_div_mod_eq, Bool.eq_iff_iff, beq_iff_eq, decide_eq_true_eq]
  omega
theorem RHas_at (f : W32) (k : Nat) (hk : k < 32) (w : World) :
    Calls Tryd.prog 23 #[.int .u32 (f.toNat : Int), .int .i64 (k : Int)] w fun e w' => e = .returned (.bool (f.getLsbD k)) ∧ w = w' := by
  go_enter Tryd.func23, Tryd.ntmps23
  go_wp2_with fail
  go_ret
  exact ⟨by rw [← has_val]; rfl, rfl⟩
theorem names_get (k : Nat) (h : k < 21) : ([Value.string ⟨#[102, 111, 114, 119, 97, 114, 100, 97, 98, 108, 101]⟩, Value.string ⟨#[102, 111, 114, 119, 97, 114, 100, 101, 100]⟩, Value.string ⟨#[112, 114, 111, 120, 105, 97, 98, 108, 101]⟩, Value.string ⟨#[112, 114, 111, 120, 121]⟩, Value.string ⟨#[109, 97, 121, 45, 112, 111, 115, 116, 100, 97, 116, 101]⟩, Value.string ⟨#[112, 111, 115, 116, 100, 97, 116, 101, 100]⟩, Value.string ⟨#[105, 110, 118, 97, 108, 105, 100]⟩, Value.string ⟨#[114, 101, 110, 101, 119, 97, 98, 108, 101]⟩, Value.string ⟨#[105, 110, 105, 116, 105, 97, 108]⟩, Value.string ⟨#[112, 114, 101, 45, 97, 117, 116, 104]⟩, Value.string ⟨#[116, 114, 97, 110, 115, 105, 116, 101, 100]⟩, Value.string ⟨#[100, 101, 108, 101, 103, 97, 116, 101]⟩, Value.string ⟨#[]⟩, Value.string ⟨#[]⟩, Value.string ⟨#[]⟩, Value.string ⟨#[]⟩, Value.string ⟨#[114, 101, 110, 101, 119]⟩, Value.string ⟨#[118, 97, 108, 105, 100, 97, 116, 101]⟩, Value.string ⟨#[99, 97, 110, 111, 110, 105, 99, 97, 108]⟩, Value.string ⟨#[99, 111, 110, 115, 116, 114, 97, 105, 110, 101, 100]⟩, Value.string ⟨#[114, 101, 110, 101, 119, 97, 98, 108, 101, 45, 111, 107]⟩])[k]'(by simpa using h) = Value.string (nmS k) := by
  rcases (show k = 0 ∨ k = 1 ∨ k = 2 ∨ k = 3 ∨ k = 4 ∨ k = 5 ∨ k = 6 ∨ k = 7 ∨ k = 8 ∨ k = 9 ∨ k = 10 ∨ k = 11 ∨ k = 12 ∨ k = 13 ∨ k = 14 ∨ k = 15 ∨ k = 16 ∨ k = 17 ∨ k = 18 ∨ k = 19 ∨ k = 20 by omega) with rfl | rfl | rfl | rfl | rfl | rfl | rfl | rfl | rfl | rfl | rfl | rfl | rfl | rfl | rfl | rfl | rfl | rfl | rfl | rfl | rfl
  all_goals kernel_rfl
set_option maxRecDepth 100000 in
theorem RName_at (k : Nat) (hk : k < 32) (w : World) :
    Calls Tryd.prog 24 #[.int .i64 (k : Int)] w fun e w' => e = .returned (.string (nmS k)) ∧ Ext w w' := by
  by_cases h : k < 21
  · have hx := (Ext.refl w).alloc (.cells #[.string ⟨#[102, 111, 114, 119, 97, 114, 100, 97, 98, 108, 101]⟩, .string ⟨#[102, 111, 114, 119, 97, 114, 100, 101, 100]⟩, .string ⟨#[112, 114, 111, 120, 105, 97, 98, 108, 101]⟩, .string ⟨#[112, 114, 111, 120, 121]⟩, .string ⟨#[109, 97, 121, 45, 112, 111, 115, 116, 100, 97, 116, 101]⟩, .string ⟨#[112, 111, 115, 116, 100, 97, 116, 101, 100]⟩, .string ⟨#[105, 110, 118, 97, 108, 105, 100]⟩, .string ⟨#[114, 101, 110, 101, 119, 97, 98, 108, 101]⟩, .string ⟨#[105, 110, 105, 116, 105, 97, 108]⟩, .string ⟨#[112, 114, 101, 45, 97, 117, 116, 104]⟩, .string ⟨#[116, 114, 97, 110, 115, 105, 116, 101, 100]⟩, .string ⟨#[100, 101, 108, 101, 103, 97, 116, 101]⟩, .string ⟨#[]⟩, .string ⟨#[]⟩, .string ⟨#[]⟩, .string ⟨#[]⟩, .string ⟨#[114, 101, 110, 101, 119]⟩, .string ⟨#[118, 97, 108, 105, 100, 97, 116, 101]⟩, .string ⟨#[99, 97, 110, 111, 110, 105, 99, 97, 108]⟩, .string ⟨#[99, 111, 110, 115, 116, 114, 97, 105, 110, 101, 100]⟩, .string ⟨#[114, 101, 110, 101, 119, 97, 98, 108, 101, 45, 111, 107]⟩] 9)
    have HN := Lib.hid (names_get k h)
    have HXN := Lib.hid hx
    clear hx
    go_enter Tryd.func24, Tryd.ntmps24
    go_wp2_with fail
    go_ret
    exact ⟨by rw [← HN.out]; rfl, HXN.out⟩
  · have hx := (Ext.refl w).alloc (.cells #[.string ⟨#[102, 111, 114, 119, 97, 114, 100, 97, 98, 108, 101]⟩, .string ⟨#[102, 111, 114, 119, 97, 114, 100, 101, 100]⟩, .string ⟨#[112, 114, 111, 120, 105, 97, 98, 108, 101]⟩, .string ⟨#[112, 114, 111, 120, 121]⟩, .string ⟨#[109, 97, 121, 45, 112, 111, 115, 116, 100, 97, 116, 101]⟩, .string ⟨#[112, 111, 115, 116, 100, 97, 116, 101, 100]⟩, .string ⟨#[105, 110, 118, 97, 108, 105, 100]⟩, .string ⟨#[114, 101, 110, 101, 119, 97, 98, 108, 101]⟩, .string ⟨#[105, 110, 105, 116, 105, 97, 108]⟩, .string ⟨#[112, 114, 101, 45, 97, 117, 116, 104]⟩, .string ⟨#[116, 114, 97, 110, 115, 105, 116, 101, 100]⟩, .string ⟨#[100, 101, 108, 101, 103, 97, 116, 101]⟩, .string ⟨#[]⟩, .string ⟨#[]⟩, .string ⟨#[]⟩, .string ⟨#[]⟩, .string ⟨#[114, 101, 110, 101, 119]⟩, .string ⟨#[118, 97, 108, 105, 100, 97, 116, 101]⟩, .string ⟨#[99, 97, 110, 111, 110, 105, 99, 97, 108]⟩, .string ⟨#[99, 111, 110, 115, 116, 114, 97, 105, 110, 101, 100]⟩, .string ⟨#[114, 101, 110, 101, 119, 97, 98, 108, 101, 45, 111, 107]⟩] 9)
    have hk2 : (21 : Int) ≤ (k : Int) := by omega
    have hk3 : (0 : Int) ≤ (k : Int) := by omega
    have HE := Lib.hid (show nmS k = ⟨#[]⟩ by
      rcases (show k = 21 ∨ k = 22 ∨ k = 23 ∨ k = 24 ∨ k = 25 ∨ k = 26 ∨ k = 27 ∨ k = 28 ∨ k = 29 ∨ k = 30 ∨ k = 31 by omega) with rfl | rfl | rfl | rfl | rfl | rfl | rfl | rfl | rfl | rfl | rfl
      all_goals kernel_rfl)
    have HXN := Lib.hid hx
    clear hx h
    go_enter Tryd.func24, Tryd.ntmps24
    go_wp2_with fail
    go_ret
    exact ⟨by rw [HE.out]; rfl, HXN.out⟩
theorem tk_lt (f : W32) : tkB f = decide ((f.toNat : Int) < 4096) := by
  rw [Bool.eq_iff_iff, decide_eq_true_eq]
  unfold tkB
  rw [hasB_iff]
  have hm : ∀ k : Nat, k < 32 → tkM.getLsbD k = decide (k < 12) := fun k hk => by
    have h : ∀ k : Fin 32, tkM.getLsbD k.val = decide (k.val < 12) := by decide
    exact h ⟨k, hk⟩
  constructor
  · intro h
    have h1 : f.toNat < 2 ^ 12 := by
      refine Nat.lt_pow_two_of_testBit _ (fun i hi => ?_)
      rw [BitVec.testBit_toNat]
      cases hb : f.getLsbD i with
      | false => rfl
      | true =>
        have h32 : i < 32 := BitVec.lt_of_getLsbD hb
        have := h i h32 hb
        rw [hm i h32, decide_eq_true_eq] at this
        omega
    omega
  · intro h k hk hb
    rw [hm k hk, decide_eq_true_eq]
    rw [← BitVec.testBit_toNat] at hb
    have := Nat.ge_two_pow_of_testBit hb
    refine Nat.lt_of_not_le (fun hge => ?_)
    have h2 : (2 : Nat) ^ 12 ≤ 2 ^ k := Nat.pow_le_pow_right (by decide) hge
    omega
theorem RTicket_at (f : W32) (w : World) :
    Calls Tryd.prog 12 #[.int .u32 (f.toNat : Int)] w fun e w' => e = .returned (.bool (tkB f)) ∧ w = w' := by
  go_enter Tryd.func12, Tryd.ntmps12
  go_wp2_with fail
  go_ret
  exact ⟨by rw [tk_lt]; rfl, rfl⟩
set_option maxRecDepth 100000 in
theorem ROf_at (A : Option Addr) (c : Nat) (ks : List Nat) (hn : ks.length ≤ 100) (h32 : ∀ k ∈ ks, k < 32) (w : World) (h : RS w (.slice A ks.length c) (ks.map fun k : Nat => Value.int .i64 (k : Int))) :
    Calls Tryd.prog 48 #[.slice A ks.length c] w fun e w' => e = .returned (.int .u32 ((unionF (ks.map bitW)).toNat : Int)) ∧ w = w' := by
  have HR := Lib.hid h; have H32 := Lib.hid h32; clear h h32
  go_enter Tryd.func48, Tryd.ntmps48
  go_wp2_with fail
  go_loopw [3, 4] (fun f i wr => ∃ (k : Nat) (u : W32), k ≤ ks.length ∧ i = .int .i64 k ∧ f = .int .u32 (u.toNat : Int) ∧ Hid (u = unionF ((ks.take k).map bitW)) ∧ wr = w) (fun _ i _ => ks.length - (intOf i).toNat)
  case atStart => exact ⟨0, 0#32, Nat.zero_le _, rfl, rfl, Lib.hid rfl, rfl⟩
  case round =>
    obtain ⟨k, u, hk, rfl, rfl, HU, rfl⟩ := hrel
    by_cases hlt : k < ks.length
    · obtain ⟨A', c', he, e1, e2, e3⟩ := HR.out
      rw [List.length_map] at e1 e3 he
      injection he with z1 _ z3
      subst z1; subst z3
      obtain ⟨ad, rfl, hblt, hcell⟩ := e3 (by omega)
      have hck := hcell k (.int .i64 (ks[k] : Int)) (by simp [hlt])
      have HS := Lib.hid (show orW u (bitW ks[k]) = unionF ((ks.take (k + 1)).map bitW) by rw [List.take_succ_eq_append_getElem hlt, List.map_append, List.map_singleton, unionF_snoc, ← HU.out])
      have hx32 := H32.out ks[k] (List.getElem_mem hlt)
      generalize ks[k] = x at hck HS hx32
      have hp := pow_bit x hx32
      have hor := u32_or u (bitW x)
      rw [← hp] at hor
      have HP := Lib.hid hp
      clear hcell e1 e2 e3 hblt hp
      go_wp2_with fail
      go_roundw
      case rel => exact ⟨k + 1, orW u (bitW x), by omega, by go_num, rfl, HS, trivial⟩
      case measure => simp [intOf]; omega
    · have HF := Lib.hid (show u = unionF (ks.map bitW) by have := HU.out; rwa [List.take_of_length_le (by omega)] at this)
      go_wp2_with fail
      go_ret
      exact ⟨by rw [← HF.out]; rfl, rfl⟩
end Go.Proofs.YtigjecmhhjjenaaDoor
