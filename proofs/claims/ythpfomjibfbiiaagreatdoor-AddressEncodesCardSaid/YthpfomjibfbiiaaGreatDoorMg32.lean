/- Texts laid together (wip/tools/automerge.py): Der13, Der14. -/
import Derived.Test.YthpfomjibfbiiaaGreatDoorMg13
import Derived.Test.YthpfomjibfbiiaaGreatDoorMg2
import Derived.Test.YthpfomjibfbiiaaGreatDoorMg10
namespace Go.Proofs.YthpfomjibfbiiaaGreatDoor
open Go Go.RowKit

theorem bsinfo : (Tryz.prog.info? 23).map (fun i => (i.zero, i.size, i.bytes)) = some (some (.slice none 0 0), 1, 24) := by kernel_rfl
theorem encInt_le (v : Int) : (encInt v).length ≤ 13 := by
  unfold encInt
  split
  · have := elem_le 2 (beBytes v (intSize v))
    rw [beBytes_length] at this
    have := intSize_le v
    omega
  · simp

set_option maxRecDepth 100000 in
theorem whole_at (pv : Value) (ls : List (List UInt8)) (w : World) (hB : BSS w pv ls) :
    Calls Tryz.prog 57 #[pv] w fun e w' => ∃ A c, e = .returned (.slice A (wholeF ls).length c) ∧ OB 5 w' w.heap.size (.slice A (wholeF ls).length c) (wholeF ls) ∧ Ext w w' := by
  obtain ⟨A, c, rfl, hc1, hc2, _, hcell⟩ := hB.open_
  unfold maxLen at hc2
  obtain ⟨L, hL⟩ : ∃ L, L = wholeF ls := ⟨_, rfl⟩
  rw [← hL]
  have HL := Lib.hid hL; clear hL
  go_enter Tryz.func57, Tryz.ntmps57
  go_wp2
  go_loop [7] (fun i => ∃ k : Nat, k ≤ ls.length ∧ i = .int .i64 k ∧ [] ∉ ls.take k) (fun i => ls.length - (intOf i).toNat)
  case atStart => exact ⟨0, Nat.zero_le _, rfl, by simp⟩
  case round =>
    obtain ⟨k, hk, rfl, hno⟩ := hrel
    by_cases hlt : k < ls.length
    · obtain ⟨ad, B, d, rfl, hc, hbk⟩ := hcell k hlt
      have hmem := List.getElem_mem hlt
      have hst : ls.take (k + 1) = ls.take k ++ [ls[k]] := List.take_succ_eq_append_getElem hlt
      obtain ⟨x, hx⟩ : ∃ x, x = ls[k] := ⟨_, rfl⟩
      rw [← hx] at hc hbk hmem hst
      clear hcell hx hbk
      by_cases h0 : x = []
      · subst h0
        have e : L = [] := by rw [HL.out]; unfold wholeF; rw [if_pos hmem]
        subst e
        clear hst hmem hno
        go_wp2
        go_ret
        exact ⟨none, 0, rfl, OB.nil _ _ _, Ext.refl _⟩
      · have hl0 : ((x.length : Int) == 0) = false := by
          rw [beq_eq_false_iff_ne]
          have := List.length_pos_iff.2 h0
          omega
        have hno2 : [] ∉ ls.take (k + 1) := by
          rw [hst]; simp only [List.mem_append, List.mem_singleton, not_or]
          exact ⟨hno, fun e => h0 e.symm⟩
        have HNO := Lib.hid hno2
        clear hst hmem hno hno2 h0
        go_wp2
        go_round
        case rel => exact ⟨k + 1, by omega, by go_num, HNO.out⟩
        case measure => simp [intOf] <;> omega
    · rw [List.take_of_length_le (by omega)] at hno
      have e : L = encSeq ls := by rw [HL.out]; unfold wholeF; rw [if_neg hno]
      subst e
      clear hno hcell
      go_wp2_with (go_at_call 82; refine (Sequence_at _ ls _ hB).mono ?_; rintro e w2 ⟨A2, c2, rfl, hb2, hx2⟩)
      go_ret
      exact ⟨_, _, rfl, hb2, hx2⟩

set_option maxRecDepth 100000 in
theorem fields_at (pv : Value) (ls : List (List UInt8)) (hn : ls.length ≤ 30) (w : World) (hB : BSS w pv ls) :
    Calls Tryz.prog 54 #[pv] w fun e w' => ∃ A c, e = .returned (.slice A (fieldsF ls).length c) ∧ OB 5 w' w.heap.size (.slice A (fieldsF ls).length c) (fieldsF ls) ∧ Ext w w' := by
  obtain ⟨i0, hi, hz0, hz1, hz2⟩ := info_parts bsinfo
  obtain ⟨A, c, rfl, hc1, hc2, _, hcell⟩ := hB.open_
  unfold maxLen at hc2
  have HN := Lib.hid hn
  go_enter Tryz.func54, Tryz.ntmps54
  go_wp2
  go_loopw [3, 8] (fun o i wr => ∃ k : Nat, k ≤ ls.length ∧ i = .int .i64 k ∧ OV 23 wr w.heap.size o (tags ls k) ∧ Ext w wr) (fun _ i _ => ls.length - (intOf i).toNat)
  case atStart => exact ⟨0, Nat.zero_le _, rfl, OV.nil _ _ _, Ext.refl _⟩
  case round =>
    obtain ⟨k, hk, rfl, ho, hx⟩ := hrel
    by_cases hlt : k < ls.length
    · obtain ⟨ad, B, d, rfl, hc, hbk⟩ := hcell k hlt
      have hc' := hx.cell hc
      have hbk' := hbk.ext hx
      have hts := tags_succ ls k hlt
      obtain ⟨x, hx0⟩ : ∃ x, x = ls[k] := ⟨_, rfl⟩
      rw [← hx0] at hc' hbk' hts
      have HTS := Lib.hid hts
      clear hcell hc hbk hx0 hts
      go_wp2_with (first
        | (go_at_call 79; refine (Tagged_at k B d x _ hbk').mono ?_; rintro e w2 ⟨A2, c2, rfl, hb2, hx2⟩)
        | (at_builtin; refine wpList_append_ov _ rfl (.tmp 13) (.tmp 17) 43 rfl w.heap.size 23 i0 (.slice none 0 0) 24 Tryz.underlying43 hi hz0 hz1 hz2 rfl _ (tags ls k) rfl ((ho.ext hx2).ext ((Ext.refl w2).alloc _)) _ (.slice A2 (encWrap 160 (k : Int) x).length c2) (encWrap 160 (k : Int) x) rfl (RS.one _ _ _) (hb2.bs.ext ((Ext.refl w2).alloc _)) ?hap ?hl (by omega) ?hm ?_; rotate_right; intro v4 w4 hown4 hg4))
      case hap =>
        intro _ b hb e
        have h1 := hb2.lt b hb
        have h2 := (ho.lt b e).2
        omega
      case hl => have := HN.out; rw [tags_length]; omega
      case hm => have h1 := hx.size; have h2 := hx2.size; simp; omega
      go_roundw
      case rel => exact ⟨k + 1, by omega, by go_num, by rw [HTS.out]; exact hown4, ((hx.trans hx2).alloc _).grown hg4 (fun j hj => (ho.lt j hj).1)⟩
      case measure => simp [intOf] <;> omega
    · obtain rfl : k = ls.length := by omega
      obtain ⟨A5, c5, rfl⟩ := ho.shape
      have hbs := ho.bss
      obtain ⟨T, hT⟩ : ∃ T, T = tags ls ls.length := ⟨_, rfl⟩
      rw [← hT] at hbs ⊢
      have HT := Lib.hid hT
      clear hT ho hcell
      go_wp2_with (go_at_call 57; refine (whole_at _ T _ hbs).mono ?_; rintro e w2 ⟨A2, c2, rfl, hb2, hx2⟩)
      go_ret
      have e : fieldsF ls = wholeF T := by unfold fieldsF; rw [HT.out]
      rw [e]
      exact ⟨_, _, rfl, hb2.up hx, hx.trans hx2⟩
end Go.Proofs.YthpfomjibfbiiaaGreatDoor
namespace Go.Proofs.YthpfomjibfbiiaaGreatDoor
open Go Go.RowKit

end Go.Proofs.YthpfomjibfbiiaaGreatDoor
