/- Texts laid together (wip/tools/automerge.py): Der2, Der3, Der4. -/
import Derived.Test.YthpfomjibfbiiaaGreatDoorDer1
import Derived.Test.YthpfomjibfbiiaaGreatDoorMg1
import Derived.Test.YthpfomjibfbiiaaGreatDoorMg9
namespace Go.Proofs.YthpfomjibfbiiaaGreatDoor
open Go Go.RowKit

theorem bv_set (l : List UInt8) (j : Nat) (b : UInt8) : bv (l.set j b) = (bv l).set j (.int .u8 (b.toNat : Int)) := by simp [bv, List.map_set]
theorem bv_replicate (n : Nat) : bv (List.replicate n 0) = List.replicate n (.int .u8 0) := by simp [bv]

set_option maxRecDepth 100000 in
set_option maxHeartbeats 1000000 in
theorem number_any (v : Int) (n : Nat) (hn : n ≤ 8) (w : World) :
    Calls Tryz.prog 81 #[.int .i64 v, .int .i64 (n : Int)] w fun e w' => ∃ r, e = .returned r ∧ OB 5 w' w.heap.size r (beBytes v n) ∧ Ext w w' := by
  obtain ⟨i0, hi, hz0, hz1, hz2⟩ := info_parts u8info
  go_enter Tryz.func81, Tryz.ntmps81
  go_wp2_with (at_make; refine wpList_make_full _ rfl _ _ 23 rfl w.heap.size 5 i0 (.int .u8 0) 1 Tryz.underlying23 hi hz0 hz1 .i64 .i64 _ _ n rfl rfl rfl rfl (by rw [hz2]; omega) (by unfold maxLen; omega) (Nat.le_refl _) ?_; intro w1 hown1 hg1)
  have HB : w1.ownsRow w.heap.size 5 1 (.slice (some ⟨w.heap.size, 0, none⟩) n n) n (bv (numPart v n 0)) := by
    rw [numPart_zero, bv_replicate]
    have e : (madeCells (Value.int .u8 0).cells (n * 1)).toList = List.replicate n (.int .u8 0) := by rw [Nat.mul_one]; exact toList_madeCells_one _ _
    rw [← e]; exact hown1
  have HX : Ext w w1 := (Ext.refl w).grown hg1 (fun k hk => by cases hk)
  clear hown1 hg1
  go_loopw [11] (fun i wr => ∃ k : Nat, k ≤ n ∧ i = .int .i64 k ∧ wr.ownsRow w.heap.size 5 1 (.slice (some ⟨w.heap.size, 0, none⟩) n n) n (bv (numPart v n k)) ∧ Ext w wr) (fun i _ => n - (intOf i).toNat)
  case atStart => exact ⟨0, Nat.zero_le _, rfl, HB, HX⟩
  case round =>
    obtain ⟨k, hk, rfl, hb, hx⟩ := hrel
    by_cases hlt : k < n
    · have hl : n - 1 - k < (bv (numPart v n k)).length := by rw [bv_length, numPart_length _ _ _ hk]; omega
      have hc := (hb.cellAt (n - 1 - k) (by omega)).trans (List.getElem?_eq_getElem hl)
      have hf := hb.frozenAt (n - 1 - k)
      have hst := (hb.stored (n - 1 - k) (.int .u8 (v / 2 ^ (8 * k) % 256))).1
      have HS : Hid ((wr.setCell ⟨w.heap.size, n - 1 - k, none⟩ (.int .u8 (v / 2 ^ (8 * k) % 256))).ownsRow w.heap.size 5 1 (.slice (some ⟨w.heap.size, 0, none⟩) n n) n (bv (numPart v n (k + 1)))) := by
        rw [numPart_succ v n k hlt, bv_set, byteAt_toNat]; exact hst
      clear hst
      go_wp2
      go_roundw
      case rel => exact ⟨k + 1, by omega, by go_num, HS.out, hx.setCell (Nat.le_refl _) _⟩
      case measure => simp [intOf]; omega
    · obtain rfl : k = n := by omega
      go_wp2
      go_ret
      refine ⟨_, rfl, ?_, hx⟩
      rw [numPart_all] at hb
      unfold OB
      rw [beBytes_length]; exact hb
#print axioms number_any
end Go.Proofs.YthpfomjibfbiiaaGreatDoor
namespace Go.Proofs.YthpfomjibfbiiaaGreatDoor
open Go Go.RowKit

theorem element_at (ti : Int) (t : UInt8) (ht : ti = (t.toNat : Int)) (pv : Value) (ls : List (List UInt8)) (L : List UInt8) (hL : ls.flatten = L) (w : World) (hB : BSS w pv ls) :
    Calls Tryz.prog 80 #[.int .u8 ti, pv] w fun e w' => ∃ A c, e = .returned (.slice A (elem t L).length c) ∧ OB 5 w' w.heap.size (.slice A (elem t L).length c) (elem t L) ∧ Ext w w' := by
  subst ht; subst hL; exact (element_any t pv ls w hB).mono fun _ _ h => OB.ret h
theorem number_at (v : Int) (n : Nat) (hn : n ≤ 8) (w : World) :
    Calls Tryz.prog 81 #[.int .i64 v, .int .i64 (n : Int)] w fun e w' => ∃ A c, e = .returned (.slice A (beBytes v n).length c) ∧ OB 5 w' w.heap.size (.slice A (beBytes v n).length c) (beBytes v n) ∧ Ext w w' :=
  (number_any v n hn w).mono fun _ _ h => OB.ret h

set_option maxRecDepth 100000 in
set_option maxHeartbeats 1000000 in
theorem Integer_no (v : Int) (h : inRange v = false) (w : World) :
    Calls Tryz.prog 55 #[.int .i64 v] w fun e w' => e = .returned (.slice none 0 0) ∧ w = w' := by
  have hh : v < -4611686018427387904 ∨ (¬ v < -4611686018427387904 ∧ 4611686018427387904 < v) := by
    simp only [inRange, Bool.and_eq_false_iff, decide_eq_false_iff_not] at h; omega
  clear h
  rcases hh with h1 | ⟨h1, h2⟩
  · have hd : decide (v < -4611686018427387904) = true := decide_eq_true h1
    clear h1
    go_enter Tryz.func55, Tryz.ntmps55
    go_wp2
    go_ret
    exact ⟨rfl, rfl⟩
  · have hd : decide (v < -4611686018427387904) = false := decide_eq_false h1
    have hd2 : decide (4611686018427387904 < v) = true := decide_eq_true h2
    clear h1 h2
    go_enter Tryz.func55, Tryz.ntmps55
    go_wp2
    go_ret
    exact ⟨rfl, rfl⟩

set_option maxRecDepth 100000 in
set_option maxHeartbeats 1000000 in
theorem Integer_yes (v : Int) (h : inRange v = true) (w : World) :
    Calls Tryz.prog 55 #[.int .i64 v] w fun e w' => ∃ r, e = .returned r ∧ OB 5 w' w.heap.size r (encInt v) ∧ Ext w w' := by
  have hh : ¬ v < -4611686018427387904 ∧ ¬ 4611686018427387904 < v := by
    rw [inRange_iff] at h; omega
  have H := Lib.hid h; clear h
  obtain ⟨h1, h2⟩ := hh
  have hd : decide (v < -4611686018427387904) = false := decide_eq_false h1
  have hd2 : decide (4611686018427387904 < v) = false := decide_eq_false h2
  clear h1 h2
  go_enter Tryz.func55, Tryz.ntmps55
  go_wp2_with fail
  go_loop [3, 4] (fun n r => ∃ k : Nat, 1 ≤ k ∧ k ≤ 8 ∧ n = .int .i64 k ∧ r = .int .i64 (v / 256 ^ (k - 1)) ∧ Hid (intSize v = szF (8 - k) v k)) (fun n _ => 8 - (intOf n).toNat)
  case atStart => exact ⟨1, by omega, by omega, rfl, by simp, rfl⟩
  case round =>
    obtain ⟨k, hk1, hk8, rfl, rfl, hs⟩ := hrel
    have hf : Hid (fits v k = true ↔ ¬ (v / 256 ^ (k - 1) < -128) ∧ ¬ (127 < v / 256 ^ (k - 1))) := fits_iff v k
    obtain ⟨q, hq⟩ : ∃ q, q = v / 256 ^ (k - 1) := ⟨_, rfl⟩
    rw [← hq] at hf ⊢
    have HQ := Lib.hid hq; clear hq
    rcases (show q < -128 ∨ (¬ q < -128 ∧ 127 < q) ∨ (¬ q < -128 ∧ ¬ 127 < q) by omega) with h | h | h
    · have hk : k < 8 := by
        rcases Nat.lt_or_ge k 8 with h0 | h0
        · exact h0
        · exfalso
          obtain rfl : k = 8 := by omega
          have := hf.out.1 (fits_8 v H.out)
          omega
      have hno : fits v k = false := by
        rw [Bool.eq_false_iff]; intro hc; have := hf.out.1 hc; omega
      have HN := Lib.hid hno; clear hno
      go_wp2
      go_round
      case rel => exact ⟨k + 1, by omega, by omega, by go_num, by rw [HQ.out, div_step v k hk1], by have := hs.out; rw [szF_no v k hk HN.out] at this; exact this⟩
      case measure => simp [intOf]; omega
    · have hk : k < 8 := by
        rcases Nat.lt_or_ge k 8 with h0 | h0
        · exact h0
        · exfalso
          obtain rfl : k = 8 := by omega
          have := hf.out.1 (fits_8 v H.out)
          omega
      have hno : fits v k = false := by
        rw [Bool.eq_false_iff]; intro hc; have := hf.out.1 hc; omega
      have HN := Lib.hid hno; clear hno
      obtain ⟨h1, h2⟩ := h
      go_wp2
      go_round
      case rel => exact ⟨k + 1, by omega, by omega, by go_num, by rw [HQ.out, div_step v k hk1], by have := hs.out; rw [szF_no v k hk HN.out] at this; exact this⟩
      case measure => simp [intOf]; omega
    · have hyes : fits v k = true := hf.out.2 h
      have hs2 : intSize v = k := by have := hs.out; rw [szF_yes v k hyes] at this; exact this
      have HS2 := Lib.hid hs2; clear hs2 hyes
      obtain ⟨h1, h2⟩ := h
      go_wp2_with (first
        | (go_at_call 81; refine (number_at v k hk8 _).mono ?_; rintro e w1 ⟨A1, c1, rfl, hb, hx⟩)
        | (go_at_call 80; refine (element_at 2 2 rfl _ [beBytes v k] (beBytes v k) (by simp) _ (BSS.new1 w1 _ _ _ hb.bs)).mono ?_; rintro e w2 ⟨A2, c2, rfl, hb2, hx2⟩))
      go_ret
      have e : encInt v = elem 2 (beBytes v k) := by
        unfold encInt
        rw [if_pos H.out, HS2.out]
      rw [e]
      exact ⟨_, rfl, hb2.up (hx.alloc _), hx.trans (((Ext.refl _).alloc _).trans hx2)⟩
theorem Integer_at (v : Int) (w : World) :
    Calls Tryz.prog 55 #[.int .i64 v] w fun e w' => ∃ A c, e = .returned (.slice A (encInt v).length c) ∧ OB 5 w' w.heap.size (.slice A (encInt v).length c) (encInt v) ∧ Ext w w' := by
  cases h : inRange v with
  | true => exact (Integer_yes v h w).mono fun _ _ h => OB.ret h
  | false =>
    refine (Integer_no v h w).mono ?_
    rintro e w' ⟨rfl, rfl⟩
    have e : encInt v = [] := by unfold encInt; rw [h]; rfl
    rw [e]
    exact ⟨none, 0, rfl, OB.nil _ _ _, Ext.refl _⟩
#print axioms Integer_at
end Go.Proofs.YthpfomjibfbiiaaGreatDoor
namespace Go.Proofs.YthpfomjibfbiiaaGreatDoor
open Go Go.RowKit

set_option maxRecDepth 100000 in
theorem Octets_at (A : Option Addr) (c : Nat) (l : List UInt8) (w : World) (h : BS w (.slice A l.length c) l) :
    Calls Tryz.prog 56 #[.slice A l.length c] w fun e w' => ∃ A c, e = .returned (.slice A (encOctets l).length c) ∧ OB 5 w' w.heap.size (.slice A (encOctets l).length c) (encOctets l) ∧ Ext w w' := by
  go_enter Tryz.func56, Tryz.ntmps56
  go_wp2_with (go_at_call 80; refine (element_at 4 4 rfl _ [l] l (by simp) _ (BSS.new1 w _ _ _ h)).mono ?_; rintro e w2 ⟨A2, c2, rfl, hb2, hx2⟩)
  go_ret
  exact ⟨_, _, rfl, hb2.up ((Ext.refl w).alloc _), ((Ext.refl w).alloc _).trans hx2⟩

set_option maxRecDepth 100000 in
theorem Sequence_at (v : Value) (ls : List (List UInt8)) (w : World) (h : BSS w v ls) :
    Calls Tryz.prog 82 #[v] w fun e w' => ∃ A c, e = .returned (.slice A (encSeq ls).length c) ∧ OB 5 w' w.heap.size (.slice A (encSeq ls).length c) (encSeq ls) ∧ Ext w w' := by
  go_enter Tryz.func82, Tryz.ntmps82
  go_wp2_with (go_at_call 80; refine (element_at 48 48 rfl _ ls ls.flatten rfl _ h).mono ?_; rintro e w2 ⟨A2, c2, rfl, hb2, hx2⟩)
  go_ret
  exact ⟨_, _, rfl, hb2, hx2⟩

set_option maxRecDepth 100000 in
theorem wrapped_yes (tag n : Int) (A : Option Addr) (c : Nat) (l : List UInt8) (w : World) (h : BS w (.slice A l.length c) l) (ht0 : 0 ≤ tag) (ht1 : tag ≤ 200) (hn0 : 0 ≤ n) (hn1 : n ≤ 30) (hl : l ≠ []) :
    Calls Tryz.prog 106 #[.int .i64 tag, .int .i64 n, .slice A l.length c] w fun e w' => ∃ A c, e = .returned (.slice A (encWrap tag n l).length c) ∧ OB 5 w' w.heap.size (.slice A (encWrap tag n l).length c) (encWrap tag n l) ∧ Ext w w' := by
  have he : encWrap tag n l = elem (UInt8.ofNat (tag + n).toNat) l := by unfold encWrap; rw [if_pos ⟨hn0, hn1, hl⟩]
  rw [he]
  have hl' : 0 < l.length := List.length_pos_iff.2 hl
  have ht : tag + n = ((UInt8.ofNat (tag + n).toNat).toNat : Int) := by simp only [UInt8.toNat_ofNat']; omega
  have HT := Lib.hid ht; clear ht
  have h3 : ((l.length : Int) == 0) = false := by simp; exact hl
  have HE := Lib.hid he; clear he
  have HL := Lib.hid hl; clear hl
  go_enter Tryz.func106, Tryz.ntmps106
  go_wp2_with (go_at_call 80; refine (element_at (tag + n) (UInt8.ofNat (tag + n).toNat) HT.out _ [l] l (by simp) _ (BSS.new1 w _ _ _ h)).mono ?_; rintro e w2 ⟨A2, c2, rfl, hb2, hx2⟩)
  go_ret
  exact ⟨_, _, rfl, hb2.up ((Ext.refl w).alloc _), ((Ext.refl w).alloc _).trans hx2⟩

set_option maxRecDepth 100000 in
theorem wrapped_no (tag n : Int) (A : Option Addr) (c : Nat) (l : List UInt8) (w : World) (h : n < 0 ∨ 30 < n ∨ l = []) :
    Calls Tryz.prog 106 #[.int .i64 tag, .int .i64 n, .slice A l.length c] w fun e w' => e = .returned (.slice none 0 0) ∧ w = w' := by
  have hh : n < 0 ∨ (¬ n < 0 ∧ 30 < n) ∨ (¬ n < 0 ∧ ¬ 30 < n ∧ l = []) := by
    by_cases h1 : n < 0
    · exact .inl h1
    · by_cases h2 : 30 < n
      · exact .inr (.inl ⟨h1, h2⟩)
      · exact .inr (.inr ⟨h1, h2, by rcases h with h | h | h <;> first | exact h | omega⟩)
  rcases hh with h1 | ⟨h1, h2⟩ | ⟨h1, h2, rfl⟩
  · clear h
    go_enter Tryz.func106, Tryz.ntmps106
    go_wp2
    go_ret
    exact ⟨rfl, rfl⟩
  · clear h
    go_enter Tryz.func106, Tryz.ntmps106
    go_wp2
    go_ret
    exact ⟨rfl, rfl⟩
  · clear h
    go_enter Tryz.func106, Tryz.ntmps106
    go_wp2
    go_ret
    exact ⟨rfl, rfl⟩

theorem wrapped_at (tag n : Int) (A : Option Addr) (c : Nat) (l : List UInt8) (w : World) (h : BS w (.slice A l.length c) l) (ht0 : 0 ≤ tag) (ht1 : tag ≤ 200) :
    Calls Tryz.prog 106 #[.int .i64 tag, .int .i64 n, .slice A l.length c] w fun e w' => ∃ A c, e = .returned (.slice A (encWrap tag n l).length c) ∧ OB 5 w' w.heap.size (.slice A (encWrap tag n l).length c) (encWrap tag n l) ∧ Ext w w' := by
  by_cases hh : 0 ≤ n ∧ n ≤ 30 ∧ l ≠ []
  · exact wrapped_yes tag n A c l w h ht0 ht1 hh.1 hh.2.1 hh.2.2
  · refine (wrapped_no tag n A c l w (by
      by_cases hl : l = []
      · exact .inr (.inr hl)
      · have : ¬ (0 ≤ n ∧ n ≤ 30) := fun h => hh ⟨h.1, h.2, hl⟩
        omega)).mono ?_
    rintro e w' ⟨rfl, rfl⟩
    have e : encWrap tag n l = [] := by unfold encWrap; rw [if_neg hh]
    rw [e]
    exact ⟨none, 0, rfl, OB.nil _ _ _, Ext.refl _⟩

set_option maxRecDepth 100000 in
theorem Tagged_at (n : Int) (A : Option Addr) (c : Nat) (l : List UInt8) (w : World) (h : BS w (.slice A l.length c) l) :
    Calls Tryz.prog 79 #[.int .i64 n, .slice A l.length c] w fun e w' => ∃ A c, e = .returned (.slice A (encWrap 160 n l).length c) ∧ OB 5 w' w.heap.size (.slice A (encWrap 160 n l).length c) (encWrap 160 n l) ∧ Ext w w' := by
  go_enter Tryz.func79, Tryz.ntmps79
  go_wp2_with (go_at_call 106; refine (wrapped_at 160 n A c l _ h (by omega) (by omega)).mono ?_; rintro e w2 ⟨A2, c2, rfl, hb2, hx2⟩)
  go_ret
  exact ⟨_, _, rfl, hb2, hx2⟩
end Go.Proofs.YthpfomjibfbiiaaGreatDoor
