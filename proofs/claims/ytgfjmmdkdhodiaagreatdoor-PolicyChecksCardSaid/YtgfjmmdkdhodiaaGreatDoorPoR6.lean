/- Policy: kinds (the reference's). -/
import Derived.Test.YtgfjmmdkdhodiaaGreatDoorMg21
import Derived.Test.YtgfjmmdkdhodiaaGreatDoorMg4
import Derived.Test.YtgfjmmdkdhodiaaGreatDoorMg5
import Derived.Laws.Rows
namespace Go.Proofs.YtgfjmmdkdhodiaaGreatDoor
open Go Go.RowKit
set_option linter.unusedVariables false

/-- Which of the first n numbers are in the list, as a row. -/
def bcs (n : Nat) (l : List Nat) : Array Value := (Array.range n).map fun j => Value.bool (l.contains j)
theorem bcs_size (n : Nat) (l : List Nat) : (bcs n l).size = n := by simp [bcs]
theorem bcs_get (n : Nat) (l : List Nat) (j : Nat) (h : j < n) : (bcs n l)[j]? = some (.bool (l.contains j)) := by simp [bcs, h]
theorem bcs_step (n : Nat) (l : List Nat) (x : Nat) : (bcs n l).setIfInBounds x (.bool true) = bcs n (l ++ [x]) := by
  apply Array.ext (by simp [bcs])
  intro j h1 h2
  have hj : j < n := by rw [bcs_size] at h2; exact h2
  rw [Array.getElem_setIfInBounds (by rw [bcs_size]; exact hj)]
  by_cases he : x = j
  · subst he; simp [bcs]
  · rw [if_neg he]
    simp only [bcs, Array.getElem_map, Array.getElem_range]
    congr 1
    rw [Bool.eq_iff_iff]
    simp
    intro e
    exact absurd e.symm he
theorem kindsN_succ_yes {n : Nat} {l : List Nat} (h : l.contains n = true) : kindsN (n + 1) l = kindsN n l + 1 := by
  unfold kindsN
  have h' : n ∈ l := by simpa using h
  rw [List.range_succ, List.filter_append, List.length_append]
  simp [h']
theorem kindsN_succ_no {n : Nat} {l : List Nat} (h : l.contains n = false) : kindsN (n + 1) l = kindsN n l := by
  unfold kindsN
  have h' : n ∉ l := by simpa using h
  rw [List.range_succ, List.filter_append, List.length_append]
  simp [h']
theorem bcs6 : bcs 6 [] = #[Value.bool false, Value.bool false, Value.bool false, Value.bool false, Value.bool false, Value.bool false] := by kernel_rfl
theorem bcs256 : bcs 256 [] = Tryz.zeroCells94 := by kernel_rfl
def KR (w : World) (l1 l2 : List Nat) (W : World) : Prop := W.heap[w.heap.size]? = some (.cells (bcs 6 l1) 93 (0, 0)) ∧ W.heap[w.heap.size + 1]? = some (.cells (bcs 256 l2) 94 (0, 0)) ∧ Ext w W
theorem KR.start (w : World) : KR w [] [] ((w.alloc (.cells #[Value.bool false, Value.bool false, Value.bool false, Value.bool false, Value.bool false, Value.bool false] 93)).alloc (.cells Tryz.zeroCells94 94)) := by
  rw [← bcs6, ← bcs256]
  have h1 := heap_alloc_new (w.alloc (.cells (bcs 6 []) 93)) (.cells (bcs 256 []) 94)
  rw [World.size_alloc] at h1
  exact ⟨((Ext.refl (w.alloc (.cells (bcs 6 []) 93))).alloc _).heap (heap_alloc_new w _), h1, ((Ext.refl w).alloc _).alloc _⟩
theorem KR.set1 {w W : World} {l1 l2 : List Nat} (h : KR w l1 l2 W) (x : Nat) : KR w (l1 ++ [x]) l2 (W.setCell ⟨w.heap.size, x, none⟩ (.bool true)) :=
  ⟨by rw [heap_setCell_same W _ x _ _ _ h.1, bcs_step], (heap_setCell_other W _ _ _ (by show w.heap.size + 1 ≠ w.heap.size; omega)).trans h.2.1, h.2.2.setCell (Nat.le_refl _) _⟩
theorem KR.set2 {w W : World} {l1 l2 : List Nat} (h : KR w l1 l2 W) (x : Nat) : KR w l1 (l2 ++ [x]) (W.setCell ⟨w.heap.size + 1, x, none⟩ (.bool true)) :=
  ⟨(heap_setCell_other W _ _ _ (by show w.heap.size ≠ w.heap.size + 1; omega)).trans h.1, by rw [heap_setCell_same W _ x _ _ _ h.2.1, bcs_step], h.2.2.setCell (show w.heap.size ≤ w.heap.size + 1 by omega) _⟩
theorem KR.c1 {w W : World} {l1 l2 : List Nat} (h : KR w l1 l2 W) (x : Nat) (hx : x < 6) : W.cell? ⟨w.heap.size, x, none⟩ = some (.bool (l1.contains x)) := by
  rw [cell_of_row _ _ x _ _ (0, 0) h.1]; exact bcs_get 6 l1 x hx
theorem KR.c2 {w W : World} {l1 l2 : List Nat} (h : KR w l1 l2 W) (x : Nat) (hx : x < 256) : W.cell? ⟨w.heap.size + 1, x, none⟩ = some (.bool (l2.contains x)) := by
  rw [cell_of_row _ _ x _ _ (0, 0) h.2.1]; exact bcs_get 256 l2 x hx
theorem frozen_row {W : World} {g : Nat} {cs : Array Value} {t : TypeId} (h : W.heap[g]? = some (.cells cs t (0, 0))) (x : Nat) : W.frozen? ⟨g, x, none⟩ = false := by
  simp [World.frozen?, h]
set_option maxRecDepth 100000 in
set_option maxHeartbeats 2000000 in
theorem kinds_at (A : Option Addr) (c : Nat) (b : List UInt8) (hb : b.length ≤ 1000) (w : World) (hB : BS w (.slice A b.length c) b) :
    Calls Tryz.prog 34 #[.slice A b.length c] w fun e w' => e = .returned (.tuple #[.int .i64 (kindsN 6 (b.map cls) : Int), .int .i64 (kindsN 256 (b.map UInt8.toNat) : Int)]) ∧ Ext w w' := by
  obtain ⟨ad, hcell⟩ : ∃ ad : Addr, ∀ j (hj : j < b.length), A = some ad ∧ w.cell? (ad.add j) = some (.int .u8 (b[j].toNat : Int)) := by
    obtain ⟨A', c', he, k1, k2, k3⟩ := hB.open_
    injection he with e1 _ e3
    subst e1; subst e3
    by_cases h0 : 0 < b.length
    · obtain ⟨ad, h1, _, h3⟩ := k3 h0
      exact ⟨ad, fun j hj => ⟨h1, h3 j hj⟩⟩
    · exact ⟨⟨0, 0, none⟩, fun j hj => by omega⟩
  have HC := Lib.hid hcell
  have HS := Lib.hid (KR.start w)
  clear hcell hB
  go_enter Tryz.func34, Tryz.ntmps34
  go_wp2_with fail
  go_loopw [6] (fun i wr => ∃ k : Nat, k ≤ b.length ∧ i = .int .i64 k ∧ KR w ((b.take k).map cls) ((b.take k).map UInt8.toNat) wr) (fun i _ => b.length - (intOf i).toNat)
  case atStart => exact ⟨0, Nat.zero_le _, rfl, HS.out⟩
  case round =>
    clear HS
    obtain ⟨k, hk, rfl, hkr⟩ := hrel
    by_cases hlt : k < b.length
    · have hcc := hkr.2.2.cell (HC.out k hlt).2
      have hA := (HC.out k hlt).1
      obtain ⟨x, hx⟩ : ∃ x, b[k] = x := ⟨_, rfl⟩
      rw [hx] at hcc
      have HS1 := Lib.hid (show (b.take (k + 1)).map cls = (b.take k).map cls ++ [cls x] by rw [List.take_succ_eq_append_getElem hlt, hx]; simp)
      have HS2 := Lib.hid (show (b.take (k + 1)).map UInt8.toNat = (b.take k).map UInt8.toNat ++ [x.toNat] by rw [List.take_succ_eq_append_getElem hlt, hx]; simp)
      have hb1 := cls_bd x
      have hb2 := x.toNat_lt
      have c1 := hkr.c1 (cls x) (by omega)
      have f1 := frozen_row hkr.1 (cls x)
      have hkr2 := hkr.set1 (cls x)
      have c2 := hkr2.c2 x.toNat (by omega)
      have f2 := frozen_row hkr2.2.1 x.toNat
      have hcc2 := hkr2.2.2.cell (HC.out k hlt).2
      rw [hx] at hcc2
      have HR := Lib.hid (hkr2.set2 x.toNat)
      have i1 : (cls x : Int) < 6 := by omega
      have i2 : (x.toNat : Int) < 256 := by omega
      have HCL := Lib.hid (RClass_at x)
      subst hA
      obtain ⟨WA, hWA⟩ : ∃ WA, wr.setCell ⟨w.heap.size, cls x, none⟩ (.bool true) = WA := ⟨_, rfl⟩
      rw [hWA] at c2 f2 hcc2 HR
      have HKR := Lib.hid hkr
      generalize cls x = y at *
      clear hx hkr hkr2 hb1 hb2
      go_wp2_with fail
      refine (HCL.out _).mono ?_
      rintro _ w1 ⟨rfl, rfl⟩
      go_wp2_with fail
      go_roundw
      case rel => exact ⟨k + 1, by omega, by go_num, by rw [HS1.out, HS2.out]; exact HR.out⟩
      case measure => simp [intOf]; omega
    · obtain rfl : k = b.length := by omega
      rw [List.take_length] at hkr
      obtain ⟨wo, rfl⟩ : ∃ wo, wo = wr := ⟨_, rfl⟩
      have HKR := Lib.hid hkr
      have hnx : ¬ (b.length : Int) < (b.length : Int) := by omega
      clear hkr hlt
      obtain ⟨l1, hl1⟩ : ∃ l, b.map cls = l := ⟨_, rfl⟩
      obtain ⟨l2, hl2⟩ : ∃ l, b.map UInt8.toNat = l := ⟨_, rfl⟩
      rw [hl1, hl2] at HKR
      have HL1 := Lib.hid hl1; have HL2 := Lib.hid hl2
      clear hl1 hl2
      go_wp2_with fail
      go_loop [7, 8, 9] (fun n m i => ∃ k : Nat, k ≤ 256 ∧ i = .int .i64 k ∧ n = .int .i64 (kindsN (min k 6) l1 : Int) ∧ m = .int .i64 (kindsN k l2 : Int)) (fun _ _ i => 256 - (intOf i).toNat)
      case atStart => exact ⟨0, by omega, rfl, rfl, rfl⟩
      case round =>
        obtain ⟨k, hk, rfl, rfl, rfl⟩ := hrel
        by_cases hlt : k < 256
        · have c2 := HKR.out.c2 k hlt
          have n2 := kindsN_le k l2
          have i2 : (k : Int) < 256 := by omega
          have n1 := kindsN_le (min k 6) l1
          cases h2 : l2.contains k with
          | false =>
            have HM := Lib.hid (kindsN_succ_no h2)
            rw [h2] at c2
            by_cases h6 : k < 6
            · have c1 := HKR.out.c1 k h6
              have i1 : (k : Int) < 6 := by omega
              cases h1 : l1.contains k with
              | false =>
                have HN := Lib.hid (show kindsN (min (k + 1) 6) l1 = kindsN (min k 6) l1 by rw [Nat.min_eq_left (by omega), Nat.min_eq_left (by omega), kindsN_succ_no h1])
                rw [h1] at c1
                generalize kindsN (min k 6) l1 = N1 at *
                generalize kindsN k l2 = N2 at *
                clear h1 h2
                go_wp2_with fail
                go_round
                case rel => exact ⟨k + 1, by omega, by go_num, by rw [HN.out], by rw [HM.out]⟩
                case measure => simp [intOf]; omega
              | true =>
                have HN := Lib.hid (show kindsN (min (k + 1) 6) l1 = kindsN (min k 6) l1 + 1 by rw [Nat.min_eq_left (by omega), Nat.min_eq_left (by omega), kindsN_succ_yes h1])
                rw [h1] at c1
                generalize kindsN (min k 6) l1 = N1 at *
                generalize kindsN k l2 = N2 at *
                clear h1 h2
                go_wp2_with fail
                go_round
                case rel => exact ⟨k + 1, by omega, by go_num, by rw [HN.out]; go_num, by rw [HM.out]⟩
                case measure => simp [intOf]; omega
            · have i1 : ¬ (k : Int) < 6 := by omega
              have HN := Lib.hid (show kindsN (min (k + 1) 6) l1 = kindsN (min k 6) l1 by rw [Nat.min_eq_right (by omega), Nat.min_eq_right (by omega)])
              generalize kindsN (min k 6) l1 = N1 at *
              generalize kindsN k l2 = N2 at *
              clear h2
              go_wp2_with fail
              go_round
              case rel => exact ⟨k + 1, by omega, by go_num, by rw [HN.out], by rw [HM.out]⟩
              case measure => simp [intOf]; omega
          | true =>
            have HM := Lib.hid (kindsN_succ_yes h2)
            rw [h2] at c2
            by_cases h6 : k < 6
            · have c1 := HKR.out.c1 k h6
              have i1 : (k : Int) < 6 := by omega
              cases h1 : l1.contains k with
              | false =>
                have HN := Lib.hid (show kindsN (min (k + 1) 6) l1 = kindsN (min k 6) l1 by rw [Nat.min_eq_left (by omega), Nat.min_eq_left (by omega), kindsN_succ_no h1])
                rw [h1] at c1
                generalize kindsN (min k 6) l1 = N1 at *
                generalize kindsN k l2 = N2 at *
                clear h1 h2
                go_wp2_with fail
                go_round
                case rel => exact ⟨k + 1, by omega, by go_num, by rw [HN.out], by rw [HM.out]; go_num⟩
                case measure => simp [intOf]; omega
              | true =>
                have HN := Lib.hid (show kindsN (min (k + 1) 6) l1 = kindsN (min k 6) l1 + 1 by rw [Nat.min_eq_left (by omega), Nat.min_eq_left (by omega), kindsN_succ_yes h1])
                rw [h1] at c1
                generalize kindsN (min k 6) l1 = N1 at *
                generalize kindsN k l2 = N2 at *
                clear h1 h2
                go_wp2_with fail
                go_round
                case rel => exact ⟨k + 1, by omega, by go_num, by rw [HN.out]; go_num, by rw [HM.out]; go_num⟩
                case measure => simp [intOf]; omega
            · have i1 : ¬ (k : Int) < 6 := by omega
              have HN := Lib.hid (show kindsN (min (k + 1) 6) l1 = kindsN (min k 6) l1 by rw [Nat.min_eq_right (by omega), Nat.min_eq_right (by omega)])
              generalize kindsN (min k 6) l1 = N1 at *
              generalize kindsN k l2 = N2 at *
              clear h2
              go_wp2_with fail
              go_round
              case rel => exact ⟨k + 1, by omega, by go_num, by rw [HN.out], by rw [HM.out]; go_num⟩
              case measure => simp [intOf]; omega
        · obtain rfl : k = 256 := by omega
          go_wp2_with fail
          go_ret2
          exact ⟨by rw [HL1.out, HL2.out]; rfl, HKR.out.2.2⟩
end Go.Proofs.YtgfjmmdkdhodiaaGreatDoor
