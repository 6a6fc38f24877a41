/- DerNone: the walk of the law. -/
import Derived.Test.YtmbmhepmeajnoaaKnown
import Derived.Test.YtmbmhepmeajnoaaNone2
import Derived.Deep.Cut
namespace Go.Proofs.Ytmbmhepmeajnoaa.derNone
open Go Go.RowKit

set_option maxRecDepth 100000 in
set_option maxHeartbeats 4000000 in
theorem law_walk (n : Int) (w : World) :
    Calls Try.prog 8 #[.int .i64 n] w fun e w' => e = .returned (.bool true) ∧ Ext w w' := by
  go_enter Try.func8, Try.ntmps8
  go_wp2
  obtain ⟨W0, hW0⟩ : ∃ W0, W0 = (w.alloc (.cells #[.slice none 0 0, .int .i64 0, .bool false] 62)).alloc (.cells #[.pointer none, .pointer (some ⟨w.heap.size, 0, none⟩)] 41) := ⟨_, rfl⟩
  rw [← hW0]
  have hxw : Ext w W0 := by rw [hW0]; exact ((Ext.refl w).alloc _).alloc _
  have hg1 : W0.heap[w.heap.size]? = some (.cells #[.slice none 0 0, .int .i64 0, .bool false] 62 (0, 0)) := by rw [hW0]; exact ((Ext.refl _).alloc _).heap (heap_alloc_new w _)
  have hg2 : W0.heap[w.heap.size + 1]? = some (.cells #[.pointer none, .pointer (some ⟨w.heap.size, 0, none⟩)] 41 (0, 0)) := by
    rw [hW0]
    have h := heap_alloc_new (w.alloc (.cells #[.slice none 0 0, .int .i64 0, .bool false] 62)) (.cells #[.pointer none, .pointer (some ⟨w.heap.size, 0, none⟩)] 41)
    rwa [show (w.alloc (.cells #[.slice none 0 0, .int .i64 0, .bool false] 62)).heap.size = w.heap.size + 1 by simp] at h
  clear hW0
  go_loopw [36] (fun i wr => ∃ k : Nat, k ≤ 2 ∧ i = .int .i64 k ∧ Ext W0 wr) (fun i _ => 2 - (intOf i).toNat)
  case atStart => exact ⟨0, by omega, rfl, Ext.refl _⟩
  case round =>
    obtain ⟨k, hk, rfl, hx⟩ := hrel
    by_cases hlt : k < 2
    · obtain ⟨r, hr, hN⟩ : ∃ r, wr.cell? ⟨w.heap.size + 1, k, none⟩ = some r ∧ NoRd 62 wr r := by
        have h2 := hx.heap hg2
        rcases (show k = 0 ∨ k = 1 by omega) with rfl | rfl
        · exact ⟨_, by rw [cell_of_row _ _ 0 _ _ (0, 0) h2]; rfl, .inl rfl⟩
        · exact ⟨_, by rw [cell_of_row _ _ 1 _ _ (0, 0) h2]; rfl, .inr ⟨_, rfl, hx.heap hg1⟩⟩
      go_wp2_with fail
      refine (NoBool_at _ _ hN).mono ?_
      rintro e w1 ⟨rfl, hx1⟩
      have hN1 := hN.ext hx1
      go_wp2_with fail
      refine (NoInteger_at _ _ hN1).mono ?_
      rintro e w2 ⟨rfl, hx2⟩
      have hN2 := hN1.ext hx2
      go_wp2_with fail
      refine (NoBits_at _ _ hN2).mono ?_
      rintro e w3 ⟨rfl, hx3⟩
      have hN3 := hN2.ext hx3
      go_wp2_with fail
      refine (NoOctets_at _ _ hN3).mono ?_
      rintro e w4 ⟨rfl, hx4⟩
      have hN4 := hN3.ext hx4
      go_wp2_with fail
      refine (NoTime_at _ _ hN4).mono ?_
      rintro e w5 ⟨rfl, hx5⟩
      have hN5 := hN4.ext hx5
      go_wp2_with fail
      refine (NoString_at _ _ hN5).mono ?_
      rintro e w6 ⟨rfl, hx6⟩
      have hN6 := hN5.ext hx6
      go_wp2_with fail
      refine (NoSequence_at _ _ hN6).mono ?_
      rintro e w7 ⟨rfl, hx7⟩
      have hN7 := hN6.ext hx7
      go_wp2_with fail
      refine (NoApplication_at n _ _ hN7).mono ?_
      rintro e w8 ⟨rfl, hx8⟩
      have hN8 := hN7.ext hx8
      go_wp2_with fail
      refine (NoTagged_at n _ _ hN8).mono ?_
      rintro e w9 ⟨rfl, hx9⟩
      have hN9 := hN8.ext hx9
      go_wp2_with fail
      refine (NoKey_at _ _ hN9).mono ?_
      rintro e w10 ⟨rfl, hx10⟩
      have hN10 := hN9.ext (hx10.alloc (.cells #[.int .i64 0, .int .i64 0, .slice none 0 0] 49))
      have hb10 := heap_alloc_new w10 (.cells #[.int .i64 0, .int .i64 0, .slice none 0 0] 49)
      go_wp2_with fail
      refine (NoSealed_at _ _ hN10).mono ?_
      rintro e w11 ⟨rfl, hx11⟩
      have hN11 := hN10.ext (hx11.alloc (.cells #[.int .i64 0, .int .i64 0, .slice none 0 0] 50))
      have hb11 := heap_alloc_new w11 (.cells #[.int .i64 0, .int .i64 0, .slice none 0 0] 50)
      have hc10 := (hx11.alloc (.cells #[.int .i64 0, .int .i64 0, .slice none 0 0] 50)).heap hb10
      go_wp2_with fail
      refine (NoData_at _ _ hN11).mono ?_
      rintro e w12 ⟨rfl, hx12⟩
      have hN12 := hN11.ext hx12
      have hd10 := hx12.heap hc10
      have hd11 := hx12.heap hb11
      have c0 : w12.cell? ⟨w10.heap.size, 0, none⟩ = some (.int .i64 0) := by rw [cell_of_row _ _ 0 _ _ (0, 0) hd10]; rfl
      have c2 : w12.cell? ⟨w10.heap.size, 2, none⟩ = some (.slice none 0 0) := by rw [cell_of_row _ _ 2 _ _ (0, 0) hd10]; rfl
      have d0 : w12.cell? ⟨w11.heap.size, 0, none⟩ = some (.int .i64 0) := by rw [cell_of_row _ _ 0 _ _ (0, 0) hd11]; rfl
      have d2 : w12.cell? ⟨w11.heap.size, 2, none⟩ = some (.slice none 0 0) := by rw [cell_of_row _ _ 2 _ _ (0, 0) hd11]; rfl
      go_wp2_with fail
      refine (NoLeft_at _ _ hN12).mono ?_
      rintro e w13 ⟨rfl, hx13⟩
      have hN13 := hN12.ext hx13
      go_wp2_with fail
      refine (NoEnd_at _ _ hN13).mono ?_
      rintro e w14 ⟨rfl, hx14⟩
      have hN14 := hN13.ext hx14
      go_wp2_with fail
      refine (NoCopy_at _ _ hN14).mono ?_
      rintro e w15 ⟨rfl, hx15⟩
      have hxa := hx.trans (hx1.trans (hx2.trans (hx3.trans (hx4.trans (hx5.trans (hx6.trans (hx7.trans (hx8.trans (hx9.trans (hx10.alloc (.cells #[.int .i64 0, .int .i64 0, .slice none 0 0] 49)))))))))))
      have hxb := hxa.trans ((hx11.alloc (.cells #[.int .i64 0, .int .i64 0, .slice none 0 0] 50)).trans (hx12.trans (hx13.trans (hx14.trans hx15))))
      go_wp2_with fail
      go_roundw
      case rel => exact ⟨k + 1, by omega, by go_num, hxb⟩
      case measure => simp [intOf] <;> omega
    · obtain rfl : k = 2 := by omega
      go_wp2_with (go_at_call 10; refine (known_at _).mono ?_; rintro e w1 ⟨rfl, hx1⟩)
      go_ret
      exact ⟨rfl, hxw.trans (hx.trans hx1)⟩
#print axioms law_walk
end Go.Proofs.Ytmbmhepmeajnoaa.derNone
