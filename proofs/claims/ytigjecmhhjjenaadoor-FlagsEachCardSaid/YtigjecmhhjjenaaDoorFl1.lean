/- Flags: Has, union, Ticket, Options, named. -/
import Derived.Test.YtigjecmhhjjenaaDoorFlPure
import Derived.Test.YtigjecmhhjjenaaDoorProg
import Derived.Test.YtigjecmhhjjenaaDoorMem
import Derived.Test.YtigjecmhhjjenaaDoorExt2
import Derived.Lib.Hide
import Derived.Handy
import Derived.StillTailTactics
import Derived.Shelf.Abstract
namespace Go.Proofs.YtigjecmhhjjenaaDoor
open Go Go.RowKit
set_option linter.unusedVariables false

/-- A word as a value. -/
def fv (x : W32) : Value := .int .u32 (x.toNat : Int)
theorem Has_at (x y : W32) (w : World) :
    Calls Tryd.prog 15 #[.int .u32 (x.toNat : Int), .int .u32 (y.toNat : Int)] w fun e w' => e = .returned (.bool (hasB x y)) ∧ w = w' := by
  have h1 := u32_and x y
  have h2 := u32_beq (andW x y) y
  obtain ⟨b, hb⟩ : ∃ b, hasB x y = b := ⟨_, rfl⟩
  have hb' : (andW x y == y) = b := hb
  rw [hb'] at h2
  rw [hb]
  clear hb hb'
  go_enter Tryd.func15, Tryd.ntmps15
  go_wp2
  go_ret
  exact ⟨rfl, rfl⟩
theorem Has_lit (a : Int) (x y : W32) (h : a = (x.toNat : Int)) (w : World) :
    Calls Tryd.prog 15 #[.int .u32 a, .int .u32 (y.toNat : Int)] w fun e w' => e = .returned (.bool (hasB x y)) ∧ w = w' := by
  subst h; exact Has_at x y w
theorem Has_lit2 (a : Int) (x y : W32) (h : a = (y.toNat : Int)) (w : World) :
    Calls Tryd.prog 15 #[.int .u32 (x.toNat : Int), .int .u32 a] w fun e w' => e = .returned (.bool (hasB x y)) ∧ w = w' := by
  subst h; exact Has_at x y w
def fvs (xs : List W32) : List Value := xs.map fv
theorem fvs_length (xs : List W32) : (fvs xs).length = xs.length := by simp [fvs]
theorem fvs_get (xs : List W32) (k : Nat) (h : k < xs.length) : (fvs xs)[k]? = some (.int .u32 (xs[k].toNat : Int)) := by simp [fvs, fv, h]
set_option maxRecDepth 100000 in
theorem union_at (A : Option Addr) (c : Nat) (xs : List W32) (hn : xs.length ≤ 1000) (w : World) (h : RS w (.slice A xs.length c) (fvs xs)) :
    Calls Tryd.prog 40 #[.slice A xs.length c] w fun e w' => e = .returned (.int .u32 ((unionF xs).toNat : Int)) ∧ w = w' := by
  have HR := Lib.hid h; clear h
  go_enter Tryd.func40, Tryd.ntmps40
  go_wp2
  go_loopw [2, 4, 7] (fun f _ i wr => ∃ (k : Nat) (u : W32), k ≤ xs.length ∧ i = .int .i64 k ∧ f = .int .u32 (u.toNat : Int) ∧ Hid (u = unionF (xs.take k)) ∧ wr = w) (fun _ _ i _ => xs.length - (intOf i).toNat)
  case atStart => exact ⟨0, 0#32, Nat.zero_le _, rfl, rfl, Lib.hid rfl, rfl⟩
  case round =>
    obtain ⟨k, u, hk, rfl, rfl, HU, rfl⟩ := hrel
    by_cases hlt : k < xs.length
    · obtain ⟨A', c', he, e1, e2, e3⟩ := HR.out
      rw [fvs_length] at e1 e3 he
      injection he with z1 _ z3
      subst z1; subst z3
      obtain ⟨ad, rfl, hblt, hcell⟩ := e3 (by omega)
      have hck := hcell k _ (fvs_get xs k hlt)
      have HS := Lib.hid (show orW u xs[k] = unionF (xs.take (k + 1)) by rw [List.take_succ_eq_append_getElem hlt, unionF_snoc, ← HU.out])
      generalize xs[k] = x at hck HS
      have hor := u32_or u x
      clear hcell e1 e2 e3 hblt
      go_wp2_with fail
      go_roundw
      case rel => exact ⟨k + 1, orW u x, by omega, by go_num, rfl, HS, trivial⟩
      case measure => simp [intOf]; omega
    · have HF := Lib.hid (show u = unionF xs by have := HU.out; rwa [List.take_of_length_le (by omega)] at this)
      go_wp2_with fail
      go_ret
      exact ⟨by rw [← HF.out]; rfl, rfl⟩
theorem union2_at (x y : W32) (w : World) (A : Option Addr) (c : Nat) (h : RS w (.slice A 2 c) (fvs [x, y])) :
    Calls Tryd.prog 40 #[.slice A 2 c] w fun e w' => e = .returned (.int .u32 ((orW x y).toNat : Int)) ∧ w = w' := by
  have := union_at A c [x, y] (by simp) w h
  rwa [show unionF [x, y] = orW x y by simp [unionF, orW]] at this
set_option maxRecDepth 100000 in
theorem Ticket_at (x : W32) (w : World) :
    Calls Tryd.prog 11 #[.int .u32 (x.toNat : Int)] w fun e w' => e = .returned (.bool (tkB x)) ∧ w = w' := by
  have H := Lib.hid (Has_lit 4095 tkM x (by decide))
  go_enter Tryd.func11, Tryd.ntmps11
  go_wp2_with fail
  refine (H.out w).mono ?_
  rintro _ w1 ⟨rfl, rfl⟩
  go_wp2_with fail
  go_ret
  exact ⟨rfl, rfl⟩
set_option maxRecDepth 100000 in
theorem Options_at (x : W32) (w : World) :
    Calls Tryd.prog 13 #[.int .u32 (x.toNat : Int)] w fun e w' => e = .returned (.bool (optB x)) ∧ w = w' := by
  have H := Lib.hid (Has_lit 2031807 opM x (by decide))
  go_enter Tryd.func13, Tryd.ntmps13
  go_wp2_with fail
  refine (H.out w).mono ?_
  rintro _ w1 ⟨rfl, rfl⟩
  go_wp2_with fail
  go_ret
  exact ⟨rfl, rfl⟩
end Go.Proofs.YtigjecmhhjjenaaDoor
