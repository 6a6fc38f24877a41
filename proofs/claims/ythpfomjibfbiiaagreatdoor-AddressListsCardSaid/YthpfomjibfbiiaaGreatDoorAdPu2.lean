/- Numbers that the library reads: the outer function. -/
import Derived.Test.YthpfomjibfbiiaaGreatDoorAdPu
import Derived.Lib.ParseIntBMem
namespace Go.Proofs.YthpfomjibfbiiaaGreatDoor
open Go Go.RowKit
set_option linter.unusedVariables false

theorem pu8_ok : ∀ (l : List UInt8) (acc : Nat), acc ≤ 255 → pu8 acc l = match Lib.parseUintM 255 acc l with | .ok v => some v | _ => none
  | [], acc, h => rfl
  | c :: r, acc, h => by
    rw [pu8, Lib.parseUintM]
    by_cases hd : 48 ≤ c.toNat ∧ c.toNat ≤ 57
    · rw [if_pos hd, if_pos hd, if_neg (show ¬ 1844674407370955162 ≤ acc by omega)]
      by_cases ho : 255 < acc * 10 + (c.toNat - 48)
      · rw [if_pos ho, if_pos ho]
      · rw [if_neg ho, if_neg ho]
        exact pu8_ok r _ (by omega)
    · rw [if_neg hd, if_neg hd]
theorem ParseI8_at (t : ByteArray) (hmax : t.size ≤ 1000) (w : World) :
    Calls Tryz.prog 104 #[.string t, .int .i64 10, .int .i64 8] w fun e w' => PUi (pu8w t.data.toList) e ∧ Ext w w' := by
  refine (Tryz.internal_strconv_ParseUint_10_at8 t (by omega) w).mono ?_
  rintro e w' ⟨rfl, hw⟩
  refine ⟨?_, ?_⟩
  · have he : pu8w t.data.toList = match Lib.parseUintB 8 t.data.toList with | .ok v => some v | _ => none := by
      unfold pu8w Lib.parseUintB
      by_cases hn : t.data.toList = []
      · rw [if_pos hn, if_pos hn]
      · rw [if_neg hn, if_neg hn]
        exact pu8_ok _ 0 (by omega)
    rw [he]
    cases Lib.parseUintB 8 t.data.toList with
    | ok n => exact .inl ⟨n, rfl, rfl⟩
    | range => exact .inr ⟨rfl, _, _, .inl rfl, rfl⟩
    | _ => exact .inr ⟨rfl, _, _, .inr rfl, rfl⟩
  · rcases hw with rfl | rfl
    · exact Ext.refl _
    · exact ext_bytesWorld _ _ _
theorem IfVar.cell {n : String} {g : Nat} {w : World} (h : IfVar n w) (hg : Tryz.prog.globalNamed n = some g) : ∃ tp p, w.cell? ⟨g, 0, none⟩ = some (.iface tp p) := by
  obtain ⟨tp, p, h⟩ := h
  exact ⟨tp, p, by have h0 := World.var?_cell hg h 0; simpa using h0⟩
theorem Parse_of (t : ByteArray) (ht : t.size ≤ 1000) (B K : Int) (o : Option Nat) (HI : ∀ w, Calls Tryz.prog 104 #[.string t, .int .i64 B, .int .i64 K] w fun e w' => PUi o e ∧ Ext w w') (w : World) (hE : Env w) :
    Calls Tryz.prog 78 #[.string t, .int .i64 B, .int .i64 K] w fun e w' => PU o e ∧ Ext w w' := by
  have HI := Lib.hid HI
  have HE := Lib.hid hE
  clear hE
  go_enter Tryz.func78, Tryz.ntmps78
  go_wp2_with fail
  refine (HI.out _).mono ?_
  rintro e w1 ⟨hp, hx⟩
  have HX := Lib.hid hx
  clear hx
  rcases hp with ⟨n, rfl, rfl⟩ | ⟨rfl, v, c, hc, rfl⟩
  · go_wp2_with fail
    go_ret2
    exact ⟨.inl ⟨n, rfl, rfl⟩, HX.out⟩
  · rcases hc with rfl | rfl
    · obtain ⟨tp, p, hv⟩ := ((HE.out.ext HX.out).rng).cell (g := 2) (by kernel_rfl)
      have HT := Lib.hid (fun fn => Tryz.strconv_toError_range fn t B K _ w1 (by omega) hv (.inr ⟨tp, p, rfl⟩))
      clear hv
      go_wp2_with fail
      refine (HT.out _).mono ?_
      rintro e w2 ⟨N, rfl, h1, h2, h3⟩
      have HX2 := Lib.hid (HX.out.trans h3)
      clear h1 h2 h3
      go_wp2_with fail
      go_ret2
      exact ⟨.inr ⟨rfl, _, _, rfl⟩, HX2.out⟩
    · obtain ⟨tp, p, hv⟩ := ((HE.out.ext HX.out).syn).cell (g := 1) (by kernel_rfl)
      have HT := Lib.hid (fun fn => Tryz.strconv_toError_syntax fn t B K _ w1 (by omega) hv (.inr ⟨tp, p, rfl⟩))
      clear hv
      go_wp2_with fail
      refine (HT.out _).mono ?_
      rintro e w2 ⟨N, rfl, h1, h2, h3⟩
      have HX2 := Lib.hid (HX.out.trans h3)
      clear h1 h2 h3
      go_wp2_with fail
      go_ret2
      exact ⟨.inr ⟨rfl, _, _, rfl⟩, HX2.out⟩
theorem Parse16_at (t : ByteArray) (ht : t.size ≤ 1000) (w : World) (hE : Env w) :
    Calls Tryz.prog 78 #[.string t, .int .i64 16, .int .i64 16] w fun e w' => PU (pu16w t.data.toList) e ∧ Ext w w' :=
  Parse_of t ht 16 16 _ (fun W => ParseI16_at t ht W) w hE
theorem Parse8_at (t : ByteArray) (ht : t.size ≤ 1000) (w : World) (hE : Env w) :
    Calls Tryz.prog 78 #[.string t, .int .i64 10, .int .i64 8] w fun e w' => PU (pu8w t.data.toList) e ∧ Ext w w' :=
  Parse_of t ht 10 8 _ (fun W => ParseI8_at t ht W) w hE
end Go.Proofs.YthpfomjibfbiiaaGreatDoor
