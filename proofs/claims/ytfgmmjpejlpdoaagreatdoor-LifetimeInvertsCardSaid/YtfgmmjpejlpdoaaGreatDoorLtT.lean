/- Lifetimes: Text. -/
import Derived.Test.YtfgmmjpejlpdoaaGreatDoorLt2
import Derived.Test.YtfgmmjpejlpdoaaGreatDoorLt3
import Derived.Test.YtfgmmjpejlpdoaaGreatDoorShelf
import Derived.WalkSmall
import Derived.Lib.ItoaLen
import Derived.Test.YtfgmmjpejlpdoaaGreatDoorOv
namespace Go.Proofs.YtfgmmjpejlpdoaaGreatDoor
open Go Go.RowKit

theorem ext_grow {w w' : World} (h : Ext w w') (k : Nat) (os : Array Obj) : Ext w (Go.Sort.grow (w'.drewN k) os) :=
  ⟨h.os, h.tape, h.output, Nat.le_trans h.size (by simp [Go.Sort.grow, World.drewN]), fun j hj => by
    have h1 : j < w'.heap.size := Nat.lt_of_lt_of_le hj h.size
    rw [← h.block j hj]
    show ((w'.drewN k).heap ++ os)[j]? = _
    rw [Array.getElem?_append_left (by simpa [World.drewN] using h1)]
    rfl⟩

/-- The table that the library's numerals read. -/
def Pow (w : World) : Prop := Lib.TabIs Tryz.prog w "internal/strconv.uint64pow10" .u64 Lib.pow10Tab
theorem gPow : (Tryz.prog.globalNamed "internal/strconv.uint64pow10").isSome = true := by kernel_rfl
theorem Pow.ext {w w' : World} (h : Pow w) (hx : Ext w w') : Pow w' := by
  obtain ⟨g, hg⟩ := Option.isSome_iff_exists.1 gPow
  unfold Pow Lib.TabIs at h ⊢
  have hlt : g < w.heap.size := by
    unfold World.var? at h
    simp only [hg, Option.bind_some] at h
    by_cases hh : g < w.heap.size
    · exact hh
    · rw [Array.getElem?_eq_none (by omega)] at h
      cases h
  exact var?_below hx hg hlt h

theorem ownsRow_ext {w w' : World} {B : Nat} {e : TypeId} {v : Value} {n : Nat} {xs : List Value} (h : w.ownsRow B e 1 v n xs) (he : Ext w w') : w'.ownsRow B e 1 v n xs :=
  h.kept (he.but none) (by cases hv : v.ownBlock <;> simp)
/-- Strings as values. -/
def stv (ls : List (List UInt8)) : List Value := ls.map fun l => .string ⟨l.toArray⟩
theorem stv_length (ls : List (List UInt8)) : (stv ls).length = ls.length := by simp [stv]
theorem strinfo : (Tryz.prog.info? 9).map (fun i => (i.zero, i.size, i.bytes)) = some (some (.string ⟨#[]⟩), 1, 16) := by kernel_rfl

/-- The words of times, their string. -/
def wordsT (a s e r : Int) : List (List UInt8) := [Lib.itoa a, Lib.itoa s, Lib.itoa e, Lib.itoa r]
def textT (a s e r : Int) : List UInt8 := Lib.join (wordsT a s e r) [32]

set_option maxRecDepth 100000 in
theorem Text_bad (a s e r : Int) (hv : validB a s e r = false) (w : World) :
    Calls Tryz.prog 6 #[.agg #[.int .i64 a, .int .i64 s, .int .i64 e, .int .i64 r]] w fun en w' => en = .returned (.tuple #[.string ⟨#[]⟩, .int .i64 2]) ∧ Ext w w' := by
  have hva := Valid_at a s e r
  rw [hv] at hva
  have HV := Lib.hid hva; clear hva hv
  go_enter Tryz.func6, Tryz.ntmps6
  go_wp2_with fail
  refine (HV.out _).mono ?_
  rintro _ w1 ⟨rfl, hx1⟩
  have HX := Lib.hid (((Ext.refl w).alloc _).trans hx1); clear hx1
  go_wp2
  go_ret2
  exact ⟨rfl, HX.out⟩

set_option maxRecDepth 100000 in
theorem Text_at (a s e r : Int) (hv : validB a s e r = true) (w : World) (hp : Pow w) :
    Calls Tryz.prog 6 #[.agg #[.int .i64 a, .int .i64 s, .int .i64 e, .int .i64 r]] w fun en w' => en = .returned (.tuple #[.string ⟨(textT a s e r).toArray⟩, .int .i64 0]) ∧ Ext w w' := by
  obtain ⟨i0, hi, hz0, hz1, hz2⟩ := info_parts strinfo
  have hva := Valid_at a s e r
  rw [hv] at hva
  obtain ⟨v1, v2, v3, v4, v5, v6, _⟩ := validB_bd hv
  have HV := Lib.hid hva; have HP := Lib.hid hp; clear hva hv hp
  have j0 : ∀ W, (Instr.index 53 (.agg #[.int .i64 a, .int .i64 s, .int .i64 e, .int .i64 r]) (.int .i64 0)).run Tryz.prog W = .ok (.int .i64 a) W := fun _ => by kernel_rfl
  have j1 : ∀ W, (Instr.index 53 (.agg #[.int .i64 a, .int .i64 s, .int .i64 e, .int .i64 r]) (.int .i64 1)).run Tryz.prog W = .ok (.int .i64 s) W := fun _ => by kernel_rfl
  have j2 : ∀ W, (Instr.index 53 (.agg #[.int .i64 a, .int .i64 s, .int .i64 e, .int .i64 r]) (.int .i64 2)).run Tryz.prog W = .ok (.int .i64 e) W := fun _ => by kernel_rfl
  have j3 : ∀ W, (Instr.index 53 (.agg #[.int .i64 a, .int .i64 s, .int .i64 e, .int .i64 r]) (.int .i64 3)).run Tryz.prog W = .ok (.int .i64 r) W := fun _ => by kernel_rfl
  go_enter Tryz.func6, Tryz.ntmps6
  go_wp2_with fail
  refine (HV.out _).mono ?_
  rintro _ w1 ⟨rfl, hx1⟩
  obtain ⟨q0, q1, q2, q3⟩ := times_new w a s e r hx1
  have HX := Lib.hid (((Ext.refl w).alloc _).trans hx1); clear hx1
  go_wp2_with fail
  go_loopw [4, 19] (fun o i wr => ∃ k : Nat, k ≤ 4 ∧ i = .int .i64 k ∧ wr.ownsRow w.heap.size 9 1 o (stv ((wordsT a s e r).take k)).length (stv ((wordsT a s e r).take k)) ∧ Ext w wr) (fun _ i _ => 4 - (intOf i).toNat)
  case atStart => exact ⟨0, by omega, rfl, World.ownsRow_nil _ _ _ _, HX.out⟩
  case round =>
    obtain ⟨k, hk, rfl, ho, hx⟩ := hrel
    have HO := Lib.hid ho; have HXR := Lib.hid hx
    have hpr := HP.out.ext hx
    have HPR := Lib.hid hpr
    clear ho hx hpr
    rcases (show k = 0 ∨ k = 1 ∨ k = 2 ∨ k = 3 ∨ k = 4 by omega) with rfl | rfl | rfl | rfl | rfl
    · go_wp2_with fail
      refine (Tryz.strconv_Itoa a (by omega) (by omega) _ HPR.out).mono ?_
      rintro _ w2 ⟨rfl, nn, os, hw2⟩
      have hx2 : Ext wr w2 := hw2 ▸ ext_grow (Ext.refl wr) nn os
      clear hw2
      have HX2 := Lib.hid hx2; clear hx2
      go_wp2_with (at_builtin; refine wpList_append_rs _ rfl (.tmp 22) (.tmp 25) 44 rfl w.heap.size 9 i0 (.string ⟨#[]⟩) 16 Tryz.underlying44 hi hz0 hz1 hz2 rfl _ (stv ((wordsT a s e r).take 0)) rfl (ownsRow_ext (ownsRow_ext HO.out HX2.out) ((Ext.refl w2).alloc _)) _ [.string ⟨(Lib.itoa a).toArray⟩] rfl (RS.one _ _ _) (by simp [Value.oneCell']) (by simp [stv, wordsT]) (by omega) ?hm ?_; rotate_right; intro v4 w4 hown4 hg4 _)
      case hm => have h1 := HXR.out.size; have h2 := HX2.out.size; simp; omega
      go_roundw
      case rel => exact ⟨1, by omega, by go_num, hown4, ((HXR.out.trans HX2.out).alloc _).grown hg4 (fun j hj => (World.ownsRow.lt HO.out j hj).1)⟩
      case measure => simp [intOf]
    · go_wp2_with fail
      refine (Tryz.strconv_Itoa s (by omega) (by omega) _ HPR.out).mono ?_
      rintro _ w2 ⟨rfl, nn, os, hw2⟩
      have hx2 : Ext wr w2 := hw2 ▸ ext_grow (Ext.refl wr) nn os
      clear hw2
      have HX2 := Lib.hid hx2; clear hx2
      go_wp2_with (at_builtin; refine wpList_append_rs _ rfl (.tmp 22) (.tmp 25) 44 rfl w.heap.size 9 i0 (.string ⟨#[]⟩) 16 Tryz.underlying44 hi hz0 hz1 hz2 rfl _ (stv ((wordsT a s e r).take 1)) rfl (ownsRow_ext (ownsRow_ext HO.out HX2.out) ((Ext.refl w2).alloc _)) _ [.string ⟨(Lib.itoa s).toArray⟩] rfl (RS.one _ _ _) (by simp [Value.oneCell']) (by simp [stv, wordsT]) (by omega) ?hm ?_; rotate_right; intro v4 w4 hown4 hg4 _)
      case hm => have h1 := HXR.out.size; have h2 := HX2.out.size; simp; omega
      go_roundw
      case rel => exact ⟨2, by omega, by go_num, hown4, ((HXR.out.trans HX2.out).alloc _).grown hg4 (fun j hj => (World.ownsRow.lt HO.out j hj).1)⟩
      case measure => simp [intOf]
    · go_wp2_with fail
      refine (Tryz.strconv_Itoa e (by omega) (by omega) _ HPR.out).mono ?_
      rintro _ w2 ⟨rfl, nn, os, hw2⟩
      have hx2 : Ext wr w2 := hw2 ▸ ext_grow (Ext.refl wr) nn os
      clear hw2
      have HX2 := Lib.hid hx2; clear hx2
      go_wp2_with (at_builtin; refine wpList_append_rs _ rfl (.tmp 22) (.tmp 25) 44 rfl w.heap.size 9 i0 (.string ⟨#[]⟩) 16 Tryz.underlying44 hi hz0 hz1 hz2 rfl _ (stv ((wordsT a s e r).take 2)) rfl (ownsRow_ext (ownsRow_ext HO.out HX2.out) ((Ext.refl w2).alloc _)) _ [.string ⟨(Lib.itoa e).toArray⟩] rfl (RS.one _ _ _) (by simp [Value.oneCell']) (by simp [stv, wordsT]) (by omega) ?hm ?_; rotate_right; intro v4 w4 hown4 hg4 _)
      case hm => have h1 := HXR.out.size; have h2 := HX2.out.size; simp; omega
      go_roundw
      case rel => exact ⟨3, by omega, by go_num, hown4, ((HXR.out.trans HX2.out).alloc _).grown hg4 (fun j hj => (World.ownsRow.lt HO.out j hj).1)⟩
      case measure => simp [intOf]
    · go_wp2_with fail
      refine (Tryz.strconv_Itoa r (by omega) (by omega) _ HPR.out).mono ?_
      rintro _ w2 ⟨rfl, nn, os, hw2⟩
      have hx2 : Ext wr w2 := hw2 ▸ ext_grow (Ext.refl wr) nn os
      clear hw2
      have HX2 := Lib.hid hx2; clear hx2
      go_wp2_with (at_builtin; refine wpList_append_rs _ rfl (.tmp 22) (.tmp 25) 44 rfl w.heap.size 9 i0 (.string ⟨#[]⟩) 16 Tryz.underlying44 hi hz0 hz1 hz2 rfl _ (stv ((wordsT a s e r).take 3)) rfl (ownsRow_ext (ownsRow_ext HO.out HX2.out) ((Ext.refl w2).alloc _)) _ [.string ⟨(Lib.itoa r).toArray⟩] rfl (RS.one _ _ _) (by simp [Value.oneCell']) (by simp [stv, wordsT]) (by omega) ?hm ?_; rotate_right; intro v4 w4 hown4 hg4 _)
      case hm => have h1 := HXR.out.size; have h2 := HX2.out.size; simp; omega
      go_roundw
      case rel => exact ⟨4, by omega, by go_num, hown4, ((HXR.out.trans HX2.out).alloc _).grown hg4 (fun j hj => (World.ownsRow.lt HO.out j hj).1)⟩
      case measure => simp [intOf]
    · have hown : wr.ownsRow w.heap.size 9 1 u4 4 (stv (wordsT a s e r)) := HO.out
      rcases hown.2 with ⟨_, h0⟩ | ⟨g, cap, cur, rfl, hgb, h2⟩
      · simp at h0
      · obtain ⟨hg, hnc, hcm, _⟩ := h2
        have hlt : g < wr.heap.size := (Array.getElem?_eq_some_iff.1 hg).1
        have l1 := Lib.itoa_length_le a (by omega) (by omega)
        have l2 := Lib.itoa_length_le s (by omega) (by omega)
        have l3 := Lib.itoa_length_le e (by omega) (by omega)
        have l4 := Lib.itoa_length_le r (by omega) (by omega)
        have hj := Tryz.strings_Join g 0 cap [⟨(Lib.itoa a).toArray⟩, ⟨(Lib.itoa s).toArray⟩, ⟨(Lib.itoa e).toArray⟩, ⟨(Lib.itoa r).toArray⟩] ⟨#[32]⟩ wr (by
          intro j x hx
          have hj4 : j < 4 := by
            have := (List.getElem?_eq_some_iff.1 hx).1
            simpa using this
          have hc := hown.cellAt j (by omega)
          rw [Nat.zero_add, hc]
          rcases (show j = 0 ∨ j = 1 ∨ j = 2 ∨ j = 3 by omega) with rfl | rfl | rfl | rfl
          all_goals
            simp at hx
            subst hx
            rfl) hlt (by simp) hnc (by simp [Lib.join, List.intercalate]; omega)
        have HJ := Lib.hid hj
        clear hj l1 l2 l3 l4 hg hlt hnc hown
        unfold maxLen at hcm
        go_wp2_with fail
        refine (HJ.out).mono ?_
        rintro _ w2 ⟨rfl, hx2⟩
        have HX2 := Lib.hid (HXR.out.trans hx2)
        clear hx2
        go_wp2
        go_ret2
        exact ⟨rfl, HX2.out⟩
end Go.Proofs.YtfgmmjpejlpdoaaGreatDoor
