/- Lifetimes: the law's result, limits. -/
import Derived.Test.YtfgmmjpejlpdoaaGreatDoorLtT
import Derived.Test.YtfgmmjpejlpdoaaGreatDoorLt6
import Derived.Test.YtfgmmjpejlpdoaaGreatDoorExt2
namespace Go.Proofs.YtfgmmjpejlpdoaaGreatDoor
open Go Go.RowKit

theorem limits_at (w : World) : Calls Tryz.prog 11 #[] w fun en w' => en = .returned (.agg #[.int .i64 100, .int .i64 1000]) ∧ Ext w w' := by
  go_enter Tryz.func11, Tryz.ntmps11
  go_wp2
  go_returns
  exact ⟨rfl, (Ext.refl w).alloc _⟩

set_option maxRecDepth 100000 in
theorem result_no (er : Int) (hne : er ≠ 0) (s : ByteArray) (w : World) :
    Calls Tryz.prog 12 #[.agg #[.int .i64 0, .int .i64 0, .int .i64 0, .int .i64 0], .int .i64 er, .string s, .int .i64 er] w fun en w' => en = .returned (.bool true) ∧ Ext w w' := by
  have h1 : (er != 0) = true := by simpa using hne
  clear hne
  have heq : ∀ W : World, (binOp .eql 23 (.agg #[.int .i64 0, .int .i64 0, .int .i64 0, .int .i64 0]) (.agg #[.int .i64 0, .int .i64 0, .int .i64 0, .int .i64 0])).run Tryz.prog W = .ok (.bool true) W := fun _ => by kernel_rfl
  go_enter Tryz.func12, Tryz.ntmps12
  go_wp2
  go_ret
  exact ⟨by simp, (Ext.refl w).alloc _⟩

set_option maxRecDepth 100000 in
theorem result_yes (a s e r : Int) (hv : validB a s e r = true) (l : List UInt8) (hl : textT a s e r = l) (w : World) (hp : Pow w) :
    Calls Tryz.prog 12 #[.agg #[.int .i64 a, .int .i64 s, .int .i64 e, .int .i64 r], .int .i64 0, .string ⟨l.toArray⟩, .int .i64 0] w fun en w' => en = .returned (.bool true) ∧ Ext w w' := by
  have ht := Text_at a s e r hv
  rw [hl] at ht
  have HT := Lib.hid ht; have HP := Lib.hid hp
  clear ht hl hv hp
  go_enter Tryz.func12, Tryz.ntmps12
  go_wp2_with fail
  refine (HT.out _ (HP.out.ext ((Ext.refl w).alloc _))).mono ?_
  rintro _ w1 ⟨rfl, hx1⟩
  have HX := Lib.hid (((Ext.refl w).alloc _).trans hx1); clear hx1
  go_wp2
  go_ret
  exact ⟨by simp, HX.out⟩

theorem dec_lt (u : Nat) (h : u < 10) : Lib.decDigits u = [UInt8.ofNat (48 + u)] := by rw [Lib.decDigits]; simp [h]
theorem dec_ge (u : Nat) (h : ¬ u < 10) : Lib.decDigits u = Lib.decDigits (u / 10) ++ [UInt8.ofNat (48 + u % 10)] := by rw [Lib.decDigits]; simp [h]
example : textT 50 50 150 0 = [53, 48, 32, 53, 48, 32, 49, 53, 48, 32, 48] := by
  simp [textT, wordsT, Lib.join, List.intercalate, Lib.itoa, dec_lt, dec_ge]
example : initF 0 0 0 100 1000 50 5 = (50, 50, 150, 0, 0) := by decide
end Go.Proofs.YtfgmmjpejlpdoaaGreatDoor
