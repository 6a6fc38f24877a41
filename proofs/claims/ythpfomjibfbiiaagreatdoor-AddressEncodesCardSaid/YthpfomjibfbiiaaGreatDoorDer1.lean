/- What the writers of package der compute: element. -/
import Derived.Test.YthpfomjibfbiiaaGreatDoorProg
import Derived.Test.YthpfomjibfbiiaaGreatDoorMg0
import Derived.Test.YthpfomjibfbiiaaGreatDoorMg9
import Derived.WalkLawsBesides
import Derived.WalkSpells
import Derived.Deep.LoopGhost
import Derived.Lib.Hide
namespace Go.Proofs.YthpfomjibfbiiaaGreatDoor
open Go Go.RowKit

theorem u8info : (Tryz.prog.info? 5).map (fun i => (i.zero, i.size, i.bytes)) = some (some (.int .u8 0), 1, 1) := by kernel_rfl


theorem bv_encLen0 (n : Nat) (h : n < 128) (_ : n < 128) : bv (encLen n) = [.int .u8 (n : Int)] := by
  have : (UInt8.ofNat n).toNat = n := by simp; omega
  unfold encLen; rw [if_pos h]; simp [bv] <;> omega
theorem bv_encLen1 (n : Nat) (h : 128 ≤ n) (h' : n < 256) : bv (encLen n) = [.int .u8 129, .int .u8 (n : Int)] := by
  unfold encLen; rw [if_neg (by omega), if_pos h']; simp [bv] <;> omega
theorem bv_encLen2 (n : Nat) (h : 256 ≤ n) (h' : n < 65536) : bv (encLen n) = [.int .u8 130, .int .u8 ((n : Int) / 256), .int .u8 ((n : Int) % 256)] := by
  unfold encLen; rw [if_neg (by omega), if_neg (by omega), if_pos h']; simp [bv] <;> omega
theorem bv_encLen3 (n : Nat) (h : 65536 ≤ n) (h' : n < 16777216) : bv (encLen n) = [.int .u8 131, .int .u8 ((n : Int) / 65536), .int .u8 ((n : Int) / 256 % 256), .int .u8 ((n : Int) % 256)] := by
  unfold encLen; rw [if_neg (by omega), if_neg (by omega), if_neg (by omega)]; simp [bv] <;> omega
set_option maxRecDepth 100000 in
set_option maxHeartbeats 1000000 in
theorem element_any (t : UInt8) (pv : Value) (ls : List (List UInt8)) (w : World) (hB : BSS w pv ls) :
    Calls Tryz.prog 80 #[.int .u8 (t.toNat : Int), pv] w fun e w' => ∃ v, e = .returned v ∧ OB 5 w' w.heap.size v (elem t ls.flatten) ∧ Ext w w' := by
  obtain ⟨i0, hi, hz0, hz1, hz2⟩ := info_parts u8info
  obtain ⟨A, c, rfl, hc1, hc2, _, hcell⟩ := hB.open_
  unfold maxLen at hc2
  go_enter Tryz.func80, Tryz.ntmps80
  go_wp2
  go_loop [5, 13] (fun n i => ∃ k : Nat, k ≤ ls.length ∧ i = .int .i64 k ∧ n = .int .i64 (sumLen ls k) ∧ sumLen ls k ≤ 16777215) (fun _ i => ls.length - (intOf i).toNat)
  case atStart => exact ⟨0, Nat.zero_le _, rfl, by rw [sumLen_zero]; rfl, by rw [sumLen_zero]; omega⟩
  case round =>
    obtain ⟨k, hk, rfl, rfl, hs⟩ := hrel
    by_cases hlt : k < ls.length
    · obtain ⟨ad, B, d, rfl, hc, hb⟩ := hcell k hlt
      have hsucc := sumLen_succ ls k hlt
      have hl := sumLen_le ls (k + 1)
      have HS := Lib.hid hsucc; clear hsucc
      clear hcell
      by_cases hbig : ls[k].length > 16777215 - sumLen ls k
      · go_wp2
        go_ret
        refine ⟨_, rfl, ?_, Ext.refl _⟩
        have : elem t ls.flatten = [] := by unfold elem; rw [if_neg (by have := HS.out; omega)]
        rw [this]; exact OB.nil _ _ _
      · go_wp2
        go_round
        case rel => exact ⟨k + 1, by omega, by go_num, by rw [HS.out]; go_num, by rw [HS.out]; omega⟩
        case measure => simp [intOf]; omega
    · have hn := sumLen_all ls
      obtain rfl : k = ls.length := by omega
      obtain ⟨n, hnn⟩ : ∃ n, n = sumLen ls ls.length := ⟨_, rfl⟩
      rw [← hnn] at hs hn ⊢
      have HN := Lib.hid hn; clear hn
      have HNN := Lib.hid hnn; clear hnn
      have hsi : (n : Int) ≤ 16777215 := by omega
      have HS := Lib.hid hs; clear hs
      rcases (show (n : Int) < 128 ∨ ((128 : Int) ≤ n ∧ (n : Int) < 256) ∨ ((256 : Int) ≤ n ∧ (n : Int) < 65536) ∨ 65535 < (n : Int) by omega) with h | h | h | h
      focus go_wp2_with (first
        | (at_make; refine wpList_make_own _ rfl _ _ 23 rfl w.heap.size 5 i0 (.int .u8 0) 1 Tryz.underlying23 hi hz0 hz1 .i64 .i64 _ (n + 5) rfl rfl (by omega) (by rw [hz2]; omega) (by unfold maxLen; omega) (Nat.le_refl _) ?_; intro w1 hown1 hg1)
        | (at_builtin; refine wpList_append_bs _ rfl (.tmp 30) (.tmp 32) 23 rfl w.heap.size 5 i0 (.int .u8 0) Tryz.underlying23 hi hz0 hz1 hz2 rfl _ [] rfl (hown1.alloc _) _ [t] rfl (BS.new w1 5 [t] (by simp [maxLen])) (by simp) (by have := hg1.size; simp; omega) ?_; intro v2 w2 hown2 hg2 hat2)
        | (at_builtin; refine wpList_append_bs _ rfl (.tmp 48) (.tmp 51) 23 rfl w.heap.size 5 i0 (.int .u8 0) Tryz.underlying23 hi hz0 hz1 hz2 rfl v2 ([] ++ [t]) rfl (World.ownsRow.alloc hown2 _) _ (encLen n) rfl (BS.new' w2 5 _ _ ?ha0 _ ?hb0 ?hc0) ?hd0 ?he0 ?_; rotate_right; intro v3 w3 hown3 hg3 hat3))
      case ha0 => exact (bv_encLen0 n (by first | omega | (have := h; omega) | (have := Hh.out; omega)) (by first | omega | (have := h; omega) | (have := Hh.out; omega))).symm
      case hb0 => rw [← bv_length, bv_encLen0 n (by first | omega | (have := h; omega) | (have := Hh.out; omega)) (by first | omega | (have := h; omega) | (have := Hh.out; omega))]; rfl
      case hc0 => have := encLen_le n; unfold maxLen; omega
      case hd0 => have := encLen_le n; simp; omega
      case he0 => have := hg1.size; have := hg2.size; simp at *; omega
      rotate_left 1
      focus go_wp2_with (first
        | (at_make; refine wpList_make_own _ rfl _ _ 23 rfl w.heap.size 5 i0 (.int .u8 0) 1 Tryz.underlying23 hi hz0 hz1 .i64 .i64 _ (n + 5) rfl rfl (by omega) (by rw [hz2]; omega) (by unfold maxLen; omega) (Nat.le_refl _) ?_; intro w1 hown1 hg1)
        | (at_builtin; refine wpList_append_bs _ rfl (.tmp 30) (.tmp 32) 23 rfl w.heap.size 5 i0 (.int .u8 0) Tryz.underlying23 hi hz0 hz1 hz2 rfl _ [] rfl (hown1.alloc _) _ [t] rfl (BS.new w1 5 [t] (by simp [maxLen])) (by simp) (by have := hg1.size; simp; omega) ?_; intro v2 w2 hown2 hg2 hat2)
        | (at_builtin; refine wpList_append_bs _ rfl (.tmp 56) (.tmp 59) 23 rfl w.heap.size 5 i0 (.int .u8 0) Tryz.underlying23 hi hz0 hz1 hz2 rfl v2 ([] ++ [t]) rfl (World.ownsRow.alloc hown2 _) _ (encLen n) rfl (BS.new' w2 5 _ _ ?ha1 _ ?hb1 ?hc1) ?hd1 ?he1 ?_; rotate_right; intro v3 w3 hown3 hg3 hat3))
      case ha1 => exact (bv_encLen1 n (by first | omega | (have := h; omega) | (have := Hh.out; omega)) (by first | omega | (have := h; omega) | (have := Hh.out; omega))).symm
      case hb1 => rw [← bv_length, bv_encLen1 n (by first | omega | (have := h; omega) | (have := Hh.out; omega)) (by first | omega | (have := h; omega) | (have := Hh.out; omega))]; rfl
      case hc1 => have := encLen_le n; unfold maxLen; omega
      case hd1 => have := encLen_le n; simp; omega
      case he1 => have := hg1.size; have := hg2.size; simp at *; omega
      rotate_left 1
      focus go_wp2_with (first
        | (at_make; refine wpList_make_own _ rfl _ _ 23 rfl w.heap.size 5 i0 (.int .u8 0) 1 Tryz.underlying23 hi hz0 hz1 .i64 .i64 _ (n + 5) rfl rfl (by omega) (by rw [hz2]; omega) (by unfold maxLen; omega) (Nat.le_refl _) ?_; intro w1 hown1 hg1)
        | (at_builtin; refine wpList_append_bs _ rfl (.tmp 30) (.tmp 32) 23 rfl w.heap.size 5 i0 (.int .u8 0) Tryz.underlying23 hi hz0 hz1 hz2 rfl _ [] rfl (hown1.alloc _) _ [t] rfl (BS.new w1 5 [t] (by simp [maxLen])) (by simp) (by have := hg1.size; simp; omega) ?_; intro v2 w2 hown2 hg2 hat2)
        | (at_builtin; refine wpList_append_bs _ rfl (.tmp 64) (.tmp 70) 23 rfl w.heap.size 5 i0 (.int .u8 0) Tryz.underlying23 hi hz0 hz1 hz2 rfl v2 ([] ++ [t]) rfl (World.ownsRow.alloc hown2 _) _ (encLen n) rfl (BS.new' w2 5 _ _ ?ha2 _ ?hb2 ?hc2) ?hd2 ?he2 ?_; rotate_right; intro v3 w3 hown3 hg3 hat3))
      case ha2 => exact (bv_encLen2 n (by first | omega | (have := h; omega) | (have := Hh.out; omega)) (by first | omega | (have := h; omega) | (have := Hh.out; omega))).symm
      case hb2 => rw [← bv_length, bv_encLen2 n (by first | omega | (have := h; omega) | (have := Hh.out; omega)) (by first | omega | (have := h; omega) | (have := Hh.out; omega))]; rfl
      case hc2 => have := encLen_le n; unfold maxLen; omega
      case hd2 => have := encLen_le n; simp; omega
      case he2 => have := hg1.size; have := hg2.size; simp at *; omega
      rotate_left 1
      have hd : decide ((n : Int) < 65536) = false := by simp; omega
      have hd1 : decide ((n : Int) < 256) = false := by simp; omega
      have hd2 : decide ((n : Int) < 128) = false := by simp; omega
      have Hh := Lib.hid h; clear h
      focus go_wp2_with (first
        | (at_make; refine wpList_make_own _ rfl _ _ 23 rfl w.heap.size 5 i0 (.int .u8 0) 1 Tryz.underlying23 hi hz0 hz1 .i64 .i64 _ (n + 5) rfl rfl (by omega) (by rw [hz2]; omega) (by unfold maxLen; omega) (Nat.le_refl _) ?_; intro w1 hown1 hg1)
        | (at_builtin; refine wpList_append_bs _ rfl (.tmp 30) (.tmp 32) 23 rfl w.heap.size 5 i0 (.int .u8 0) Tryz.underlying23 hi hz0 hz1 hz2 rfl _ [] rfl (hown1.alloc _) _ [t] rfl (BS.new w1 5 [t] (by simp [maxLen])) (by simp) (by have := hg1.size; simp; omega) ?_; intro v2 w2 hown2 hg2 hat2)
        | (at_builtin; refine wpList_append_bs _ rfl (.tmp 34) (.tmp 43) 23 rfl w.heap.size 5 i0 (.int .u8 0) Tryz.underlying23 hi hz0 hz1 hz2 rfl v2 ([] ++ [t]) rfl (World.ownsRow.alloc hown2 _) _ (encLen n) rfl (BS.new' w2 5 _ _ ?ha3 _ ?hb3 ?hc3) ?hd3 ?he3 ?_; rotate_right; intro v3 w3 hown3 hg3 hat3))
      case ha3 => exact (bv_encLen3 n (by first | omega | (have := h; omega) | (have := Hh.out; omega)) (by first | omega | (have := h; omega) | (have := Hh.out; omega))).symm
      case hb3 => rw [← bv_length, bv_encLen3 n (by first | omega | (have := h; omega) | (have := Hh.out; omega)) (by first | omega | (have := h; omega) | (have := Hh.out; omega))]; rfl
      case hc3 => have := encLen_le n; unfold maxLen; omega
      case hd3 => have := encLen_le n; simp; omega
      case he3 => have := hg1.size; have := hg2.size; simp at *; omega
      rotate_left 1
      all_goals
        have HB : OB 5 w3 w.heap.size v3 (t :: (encLen n ++ (ls.take 0).flatten)) := by simpa using hown3
        have HX : Ext w w3 := by
          refine ((((Ext.refl w).grown hg1 (fun k hk => by cases hk)).alloc _).grown hg2 (fun k hk => ?_)).alloc _ |>.grown hg3 (fun k hk => ?_)
          · exact (World.ownsRow.lt hown1 k hk).1
          · exact OB.lt hown2 k hk
        clear hown1 hown2 hown3 hg1 hg2 hg3 hat2 hat3
        go_loopw [8, 74] (fun b i wr => ∃ k : Nat, k ≤ ls.length ∧ i = .int .i64 k ∧ OB 5 wr w.heap.size b (t :: (encLen n ++ (ls.take k).flatten)) ∧ Ext w wr) (fun _ i _ => ls.length - (intOf i).toNat)
      any_goals (case atStart => exact ⟨0, Nat.zero_le _, rfl, HB, HX⟩)
      all_goals
        obtain ⟨k, hk, rfl, hb, hx⟩ := hrel
        by_cases hlt : k < ls.length
        · obtain ⟨ad, B, d, rfl, hc, hbk⟩ := hcell k hlt
          have hc' := hx.cell hc
          have hbk' := hbk.ext hx
          clear hcell hc hbk
          have hfl := sumLen_le ls (k + 1)
          have hfs := sumLen_succ ls k hlt
          have HF : Hid (1 + ((encLen n).length + (ls.take k).flatten.length) + ls[k].length ≤ 140737488355328) := by
            have h1 := HN.out
            have h2 := HS.out
            have := encLen_le n
            unfold sumLen at hfl hfs
            show _ ≤ _
            omega
          clear hfl hfs
          go_wp2_with (at_builtin; refine wpList_append_bs _ rfl (.tmp 78) (.tmp 79) 23 rfl w.heap.size 5 i0 (.int .u8 0) Tryz.underlying23 hi hz0 hz1 hz2 rfl _ _ rfl hb _ ls[k] rfl hbk' ?hl ?hm ?_; rotate_right; intro v4 w4 hown4 hg4 hat4)
          case hl => have := HF.out; simp only [List.length_cons, List.length_append]; omega
          case hm => exact hx.size
          go_roundw
          case rel => exact ⟨k + 1, by omega, by go_num, by rw [flatten_take_succ ls k hlt]; simpa using hown4, hx.grown hg4 (fun j hj => OB.lt hb j hj)⟩
          case measure => simp [intOf]; omega
        · obtain rfl : k = ls.length := by omega
          go_wp2
          go_ret
          refine ⟨_, rfl, ?_, hx⟩
          have : elem t ls.flatten = t :: (encLen n ++ (ls.take ls.length).flatten) := by
            have h1 := HN.out
            have h2 := HS.out
            unfold elem
            rw [if_pos (by omega), h1]; simp
          rw [this]; exact hb
#print axioms element_any
end Go.Proofs.YthpfomjibfbiiaaGreatDoor
