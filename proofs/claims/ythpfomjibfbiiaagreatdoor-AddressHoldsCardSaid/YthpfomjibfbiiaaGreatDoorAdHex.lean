/- Hexadecimal numerals of the library: FormatUint at base 16. -/
import Derived.Test.YthpfomjibfbiiaaGreatDoorMg4
import Derived.Test.YthpfomjibfbiiaaGreatDoorProg
import Derived.Test.YthpfomjibfbiiaaGreatDoorMg0
import Derived.Lib.Hide
import Derived.Handy
import Derived.Laws.IdiomStrings
import Derived.Laws.Slices
import Derived.Deep.Cut
namespace Go.Proofs.YthpfomjibfbiiaaGreatDoor
open Go Go.RowKit
set_option linter.unusedVariables false

/-- What the library reads to count the zeros of 16. -/
def DeB (w : World) : Prop := w.cell? ⟨7, 15, none⟩ = some (.int .u8 4)
theorem DeB.ext {w w' : World} (h : DeB w) (hx : Ext w w') : DeB w' := hx.cell h
theorem pow2_at (w : World) : Calls Tryz.prog 155 #[.int .i64 16] w fun e w' => e = .returned (.bool true) ∧ w = w' := by
  have h : bits .and .i64 16 15 = 0 := by decide
  go_enter Tryz.func155, Tryz.ntmps155
  go_wp2
  go_ret
  exact ⟨rfl, rfl⟩
theorem tz64_at (w : World) (hd : DeB w) : Calls Tryz.prog 160 #[.int .u64 16] w fun e w' => e = .returned (.int .i64 4) ∧ w = w' := by
  unfold DeB at hd
  have h0 : IntKind.u64.wrap (-16) = 18446744073709551600 := by rw [IntKind.wrap_u64]; decide
  have h1 : bits .and .u64 16 18446744073709551600 = 16 := by decide
  have h2 : IntKind.u64.wrap (16 * 285870213051353865) = 4573923408821661840 := by rw [IntKind.wrap_u64]; decide
  have h3 : IntKind.u64.wrap 4573923408821661840 = 4573923408821661840 := by rw [IntKind.wrap_u64]; decide
  go_enter Tryz.func160, Tryz.ntmps160
  go_wp2
  go_ret
  exact ⟨rfl, rfl⟩
theorem tz_at (w : World) (hd : DeB w) : Calls Tryz.prog 156 #[.int .u64 16] w fun e w' => e = .returned (.int .i64 4) ∧ w = w' := by
  have HT := Lib.hid (tz64_at w hd)
  go_enter Tryz.func156, Tryz.ntmps156
  go_wp2_with fail
  refine HT.out.mono ?_
  rintro _ w1 ⟨rfl, rfl⟩
  go_wp2_with fail
  go_ret
  exact ⟨rfl, rfl⟩
/-- The digits. -/
def hexS : ByteArray := ⟨#[48, 49, 50, 51, 52, 53, 54, 55, 56, 57, 97, 98, 99, 100, 101, 102, 103, 104, 105, 106, 107, 108, 109, 110, 111, 112, 113, 114, 115, 116, 117, 118, 119, 120, 121, 122]⟩
theorem hexS_at (d : Nat) (h : d < 16) : hexS.data[d]? = some (hxc d) := by
  revert h; revert d; decide
theorem hexS_run (d : Nat) (h : d < 16) (W : World) : (Instr.index 9 (.string ⟨#[48, 49, 50, 51, 52, 53, 54, 55, 56, 57, 97, 98, 99, 100, 101, 102, 103, 104, 105, 106, 107, 108, 109, 110, 111, 112, 113, 114, 115, 116, 117, 118, 119, 120, 121, 122]⟩) (.int .u64 (d : Int))).run Tryz.prog W = .ok (.int .u8 ((hxc d).toNat : Int)) W := by
  have hs := hexS_at d h
  rw [run_index_string W 9 _ .u64 _ Tryz.underlying9, dif_pos ⟨by omega, by show (d : Int) < 36; omega⟩]
  have e := (Array.getElem?_eq_some_iff.1 hs).2
  rw [← e]
  rfl
theorem wpList_hexS (w : World) {ops : Array Oper} {rest : List Oper} {o : Oper} {a : Act} {Q : Exit → Act → World → Prop} (hgd : o.guard = none) (x i : Operand) (ho : o.op = .index 9 x i)
    (hx : a.eval x = .string ⟨#[48, 49, 50, 51, 52, 53, 54, 55, 56, 57, 97, 98, 99, 100, 101, 102, 103, 104, 105, 106, 107, 108, 109, 110, 111, 112, 113, 114, 115, 116, 117, 118, 119, 120, 121, 122]⟩) (d : Nat) (hd : d < 16) (hi : a.eval i = .int .u64 (d : Int))
    (h : wpList Tryz.prog ops Q rest (a.put o.dst (.int .u8 ((hxc d).toNat : Int))) w) : wpList Tryz.prog ops Q (o :: rest) a w := by
  refine wpList_plain hgd fun K hK => ?_
  unfold Oper.wp execOp
  simp only [ho, Sem.run_bind, hx, hi, hexS_run d hd w, Result.andThen_ok, Sem.run_pure]
  exact hK _ _ h
theorem u64_and15 (a : Nat) (h : a < 65536) : bits .and .u64 (a : Int) 15 = ((a % 16 : Nat) : Int) := by
  show IntKind.u64.wrap ((BitVec.ofInt 64 (a : Int) &&& BitVec.ofInt 64 15).toNat : Int) = _
  have h1 : (BitVec.ofInt 64 (a : Int)).toNat = a := by
    rw [BitVec.toNat_ofInt]
    have : (a : Int) % ((2 ^ 64 : Nat) : Int) = a := Int.emod_eq_of_lt (by omega) (by omega)
    rw [this]; omega
  rw [BitVec.toNat_and, h1, show (BitVec.ofInt 64 15).toNat = 2 ^ 4 - 1 by decide, Nat.and_two_pow_sub_one_eq_mod, IntKind.wrap_u64]
  omega
/-- The row of digits: its last ones are written. -/
def HR (W : World) (g : Nat) (L : List UInt8) : Prop := ∃ cs : Array Value, W.heap[g]? = some (.cells cs 191 (0, 0)) ∧ cs.size = 65 ∧ cs.toList.drop (65 - L.length) = bv L
theorem HR.ext {W W' : World} {g : Nat} {L : List UInt8} (h : HR W g L) (hx : Ext W W') : HR W' g L := let ⟨cs, h1, h2⟩ := h; ⟨cs, hx.heap h1, h2⟩
theorem HR.soft {W : World} {g : Nat} {L : List UInt8} (h : HR W g L) (k : Nat) : W.frozen? ⟨g, k, none⟩ = false := let ⟨cs, h1, h2⟩ := h; frozen_of_row W g k _ _ h1
theorem HR.at_ {W : World} {g : Nat} {L : List UInt8} (h : HR W g L) (k : Nat) (hk : k < 65) : ∃ u, W.cell? ⟨g, k, none⟩ = some u := by
  obtain ⟨cs, h1, h2, _⟩ := h
  exact ⟨cs[k]'(by omega), by rw [cell_of_row W g k _ _ (0, 0) h1, Array.getElem?_eq_getElem (by omega)]⟩
theorem HR.put {W : World} {g : Nat} {L : List UInt8} (h : HR W g L) (j : Nat) (hj : j + 1 + L.length = 65) (c : UInt8) : HR (W.setCell ⟨g, j, none⟩ (.int .u8 (c.toNat : Int))) g (c :: L) := by
  obtain ⟨cs, h1, h2, h3⟩ := h
  refine ⟨_, heap_setCell_same W g j _ _ _ h1, by simpa using h2, ?_⟩
  rw [List.length_cons, show 65 - (L.length + 1) = j by omega]
  rw [show 65 - L.length = j + 1 by omega] at h3
  rw [Array.toList_setIfInBounds, List.drop_eq_getElem_cons (by simp; omega), List.getElem_set_self, List.drop_set_of_lt (by omega), h3]
  rfl
theorem HR.cell {W : World} {g : Nat} {L : List UInt8} (h : HR W g L) (hL : L.length ≤ 65) (j : Nat) (hj : j < L.length) : W.cell? ⟨g, 65 - L.length + j, none⟩ = some (.int .u8 (L[j].toNat : Int)) := by
  obtain ⟨cs, h1, h2, h3⟩ := h
  rw [cell_of_row W g _ _ _ (0, 0) h1, ← Array.getElem?_toList, ← List.getElem?_drop, h3, bv_get L j hj]
set_option maxRecDepth 100000 in
set_option maxHeartbeats 2000000 in
theorem formatBits_at (n : Nat) (hn : n < 65536) (w : World) (hd : DeB w) :
    Calls Tryz.prog 146 #[.slice none 0 0, .int .u64 (n : Int), .int .i64 16, .bool false, .bool false] w fun e w' => e = .returned (.tuple #[.slice none 0 0, .string ⟨(hexD n).toArray⟩]) ∧ Ext w w' := by
  have HD := Lib.hid hd
  have hL4 := hexD_len n hn
  have HP := Lib.hid (fun W => pow2_at W)
  clear hd
  go_enter Tryz.func146, Tryz.ntmps146
  generalize hS : (⟨#[48, 49, 50, 51, 52, 53, 54, 55, 56, 57, 97, 98, 99, 100, 101, 102, 103, 104, 105, 106, 107, 108, 109, 110, 111, 112, 113, 114, 115, 116, 117, 118, 119, 120, 121, 122]⟩ : ByteArray) = S
  have HS36 := Lib.hid (show S.size = 36 by rw [← hS]; rfl)
  have HAT := Lib.hid (show ∀ (d : Nat) (h : d < S.size), d < 16 → S[d] = hxc d from by subst hS; intro d h h16; exact (Array.getElem?_eq_some_iff.1 (hexS_at d h16)).2)
  clear hS
  go_wp2_with fail
  refine (HP.out _).mono ?_
  rintro _ w1 ⟨rfl, hw1⟩
  go_wp2_with fail
  refine (tz_at _ ?_).mono ?_
  · rw [← hw1]; exact HD.out.ext ((Ext.refl w).alloc _)
  rintro _ w2 ⟨rfl, hw2⟩
  have hx2 : Ext w w2 := by rw [← hw2, ← hw1]; exact (Ext.refl w).alloc _
  have hr2 : HR w2 w.heap.size [] := by
    rw [← hw2, ← hw1]; exact ⟨_, heap_alloc_new w _, rfl, rfl⟩
  have HX2 := Lib.hid hx2; have HR2 := Lib.hid hr2
  clear hw1 hw2 hx2 hr2
  go_wp2_with fail
  go_loopw [1, 13] (fun u i wr => ∃ (v j : Nat) (L : List UInt8), u = .int .u64 (v : Int) ∧ i = .int .i64 ((j : Int) + 1) ∧ j + 1 + L.length = 65 ∧ v ≤ n ∧ Hid (hexD n = hexD v ++ L) ∧ Hid (HR wr w.heap.size L) ∧ Hid (Ext w wr)) (fun u _ _ => (intOf u).toNat)
  case atStart => exact ⟨n, 64, [], rfl, by go_num, rfl, Nat.le_refl _, Lib.hid (by simp), HR2, HX2⟩
  case round =>
    obtain ⟨v, j, L, rfl, rfl, hj, hv, HE, HRW, HXW⟩ := hrel
    have hL3 : L.length ≤ 3 := by
      have h1 := congrArg List.length HE.out
      rw [List.length_append] at h1
      have h2 := List.length_pos_iff.2 (hexD_ne v)
      omega
    by_cases h16 : v < 16
    · have hi16 : (v : Int) < 16 := by omega
      have hf := HRW.out.soft j
      obtain ⟨u0, hc⟩ := HRW.out.at_ j (by omega)
      have HEE := Lib.hid (show hexD n = hxc v :: L by rw [HE.out, hexD_lo h16]; rfl)
      have hd16 := h16
      have hlt : (v : Int) < (S.size : Int) := by rw [HS36.out]; omega
      have hd : S[v]'(by have := HS36.out; omega) = hxc v := HAT.out v _ h16
      have hlen : (hxc v :: L).length = 65 - j := by simp; omega
      have HRF := Lib.hid (HRW.out.put j hj (hxc v))
      have hsl : ∀ W, (Instr.sliceAt 191 (.pointer (some ⟨w.heap.size, 0, none⟩)) (some (.int .i64 (j : Int))) none none).run Tryz.prog W = .ok (.slice (some ⟨w.heap.size, j, none⟩) (65 - j) (65 - j)) W := fun W => by
        have hal : Tryz.prog.arrayLen 191 = 65 := by simp [Program.arrayLen, Tryz.underlying191]
        rw [run_sliceAt_array_l W 191 ⟨w.heap.size, 0, none⟩ (by simp [Program.arrayLen, Program.elem, Tryz.underlying191]) .i64 (j : Int) (by omega) (by rw [hal]; omega)]
        rw [hal]
        go_simp
        omega
      have hcv : (convert 23 9 (.slice (some ⟨w.heap.size, j, none⟩) (65 - j) (65 - j))).run Tryz.prog (wr.setCell ⟨w.heap.size, j, none⟩ (.int .u8 ((S[v]'(by have := HS36.out; omega)).toNat : Int))) = .ok (.string ⟨(hexD n).toArray⟩) (wr.setCell ⟨w.heap.size, j, none⟩ (.int .u8 ((S[v]'(by have := HS36.out; omega)).toNat : Int))) := by
        rw [hd]
        have h := run_convert_bytes_back (P := Tryz.prog) (wr.setCell ⟨w.heap.size, j, none⟩ (.int .u8 ((hxc v).toNat : Int))) 23 9 5 ⟨w.heap.size, j, none⟩ (65 - j) (hxc v :: L) Tryz.underlying23 Tryz.underlying5 Tryz.underlying9 (fun i hi => by
          have h1 := HRF.out.cell (by omega) i hi
          rw [hlen, show 65 - (65 - j) = j by omega] at h1
          rw [← h1]
          unfold Addr.add
          split
          · next h0 => subst h0; rfl
          · rfl)
        rw [hlen] at h
        rw [HEE.out]
        exact h
      have HXF := Lib.hid (HXW.out.setCell (p := ⟨w.heap.size, j, none⟩) (Nat.le_refl _) (.int .u8 ((S[v]'(by have := HS36.out; omega)).toNat : Int)))
      clear h16 hlen hd hd16
      go_wp2_with fail
      go_ret2
      exact ⟨rfl, HXF.out⟩
    · have hi16 : (16 : Int) ≤ v := by omega
      have hand := u64_and15 v (by omega)
      have hl := HE.out
      have hd16 : v % 16 < 16 := by omega
      obtain ⟨d, hdd⟩ : ∃ d, v % 16 = d := ⟨_, rfl⟩
      rw [hdd] at hand hd16
      have hf := HRW.out.soft j
      obtain ⟨u0, hc⟩ := HRW.out.at_ j (by omega)
      have hd0 : (d : Int) < 16 := by omega
      clear h16 hl
      have hlt : (d : Int) < (S.size : Int) := by rw [HS36.out]; omega
      have HSd := Lib.hid (HAT.out d (by have := HS36.out; omega) hd16)
      clear hd0
      go_wp2_with fail
      go_roundw
      case rel => exact ⟨v / 16, j - 1, hxc d :: L, by rw [show (v : Int) / 16 = ((v / 16 : Nat) : Int) by omega], by rw [show (j : Int) = ((j - 1 : Nat) : Int) + 1 by omega], by simp; omega, by omega, by rw [HE.out, hexD_hi (by omega), hdd]; exact Lib.hid (by simp), Lib.hid (HSd.out ▸ HRW.out.put j hj _), Lib.hid (HXW.out.setCell (Nat.le_refl _) _)⟩
      case measure => simp [intOf]; omega
theorem FormatI_at (n : Nat) (hn : n < 65536) (w : World) (hd : DeB w) :
    Calls Tryz.prog 128 #[.int .u64 (n : Int), .int .i64 16] w fun e w' => e = .returned (.string ⟨(hexD n).toArray⟩) ∧ Ext w w' := by
  have HF := Lib.hid (formatBits_at n hn w hd)
  clear hd
  go_enter Tryz.func128, Tryz.ntmps128
  go_wp2_with fail
  refine HF.out.mono ?_
  rintro _ w1 ⟨rfl, hx⟩
  have HX := Lib.hid hx
  clear hx
  go_wp2_with fail
  go_ret
  exact ⟨rfl, HX.out⟩
theorem Format_at (n : Nat) (hn : n < 65536) (w : World) (hd : DeB w) :
    Calls Tryz.prog 113 #[.int .u64 (n : Int), .int .i64 16] w fun e w' => e = .returned (.string ⟨(hexD n).toArray⟩) ∧ Ext w w' := by
  have HF := Lib.hid (FormatI_at n hn w hd)
  clear hd
  go_enter Tryz.func113, Tryz.ntmps113
  go_wp2_with fail
  refine HF.out.mono ?_
  rintro _ w1 ⟨rfl, hx⟩
  have HX := Lib.hid hx
  clear hx
  go_wp2_with fail
  go_ret
  exact ⟨rfl, HX.out⟩
end Go.Proofs.YthpfomjibfbiiaaGreatDoor
