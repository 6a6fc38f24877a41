/- number: the last bytes of an integer. -/
import Derived.Test.YtfgmmjpejlpdoaaGreatDoorDer1
namespace Go.Proofs.YtfgmmjpejlpdoaaGreatDoor
open Go Go.RowKit

theorem bv_set (l : List UInt8) (j : Nat) (b : UInt8) : bv (l.set j b) = (bv l).set j (.int .u8 (b.toNat : Int)) := by simp [bv, List.map_set]
theorem bv_replicate (n : Nat) : bv (List.replicate n 0) = List.replicate n (.int .u8 0) := by simp [bv]

set_option maxRecDepth 100000 in
set_option maxHeartbeats 1000000 in
theorem number_any (v : Int) (n : Nat) (hn : n ≤ 8) (w : World) :
    Calls Tryz.prog 44 #[.int .i64 v, .int .i64 (n : Int)] w fun e w' => ∃ r, e = .returned r ∧ OB 5 w' w.heap.size r (beBytes v n) ∧ Ext w w' := by
  obtain ⟨i0, hi, hz0, hz1, hz2⟩ := info_parts u8info
  go_enter Tryz.func44, Tryz.ntmps44
  go_wp2_with (at_make; refine wpList_make_full _ rfl _ _ 24 rfl w.heap.size 5 i0 (.int .u8 0) 1 Tryz.underlying24 hi hz0 hz1 .i64 .i64 _ _ n rfl rfl rfl rfl (by rw [hz2]; omega) (by unfold maxLen; omega) (Nat.le_refl _) ?_; intro w1 hown1 hg1)
  have HB : w1.ownsRow w.heap.size 5 1 (.slice (some ⟨w.heap.size, 0, none⟩) n n) n (bv (numPart v n 0)) := by
    rw [numPart_zero, bv_replicate]
    have e : (madeCells (Value.int .u8 0).cells (n * 1)).toList = List.replicate n (.int .u8 0) := by rw [Nat.mul_one]; exact toList_madeCells_one _ _
    rw [← e]; exact hown1
  have HX : Ext w w1 := (Ext.refl w).grown hg1 (fun k hk => by cases hk)
  clear hown1 hg1
  go_loopw [11] (fun i wr => ∃ k : Nat, k ≤ n ∧ i = .int .i64 k ∧ wr.ownsRow w.heap.size 5 1 (.slice (some ⟨w.heap.size, 0, none⟩) n n) n (bv (numPart v n k)) ∧ Ext w wr) (fun i _ => n - (intOf i).toNat)
  case atStart => exact ⟨0, Nat.zero_le _, rfl, HB, HX⟩
  case round =>
    obtain ⟨k, hk, rfl, hb, hx⟩ := hrel
    by_cases hlt : k < n
    · have hl : n - 1 - k < (bv (numPart v n k)).length := by rw [bv_length, numPart_length _ _ _ hk]; omega
      have hc := (hb.cellAt (n - 1 - k) (by omega)).trans (List.getElem?_eq_getElem hl)
      have hf := hb.frozenAt (n - 1 - k)
      have hst := (hb.stored (n - 1 - k) (.int .u8 (v / 2 ^ (8 * k) % 256))).1
      have HS : Hid ((wr.setCell ⟨w.heap.size, n - 1 - k, none⟩ (.int .u8 (v / 2 ^ (8 * k) % 256))).ownsRow w.heap.size 5 1 (.slice (some ⟨w.heap.size, 0, none⟩) n n) n (bv (numPart v n (k + 1)))) := by
        rw [numPart_succ v n k hlt, bv_set, byteAt_toNat]; exact hst
      clear hst
      go_wp2
      go_roundw
      case rel => exact ⟨k + 1, by omega, by go_num, HS.out, hx.setCell (Nat.le_refl _) _⟩
      case measure => simp [intOf]; omega
    · obtain rfl : k = n := by omega
      go_wp2
      go_ret
      refine ⟨_, rfl, ?_, hx⟩
      rw [numPart_all] at hb
      unfold OB
      rw [beBytes_length]; exact hb
#print axioms number_any
end Go.Proofs.YtfgmmjpejlpdoaaGreatDoor
