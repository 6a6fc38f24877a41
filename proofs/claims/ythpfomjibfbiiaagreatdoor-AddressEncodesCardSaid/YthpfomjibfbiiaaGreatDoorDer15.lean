/- Data. -/
import Derived.Test.YthpfomjibfbiiaaGreatDoorMg32
import Derived.Test.YthpfomjibfbiiaaGreatDoorMg3
import Derived.Deep.Cut
import Derived.Deep.RegionLaw
namespace Go.Proofs.YthpfomjibfbiiaaGreatDoor
open Go Go.RowKit

set_option maxHeartbeats 4000000 in
set_option maxRecDepth 100000 in
theorem Data_at (pv : Value) (xs : List (Int × List UInt8)) (w : World) (hD : DS w pv xs) :
    Calls Tryz.prog 37 #[pv] w fun e w' => ∃ A c, e = .returned (.slice A (dataF xs).length c) ∧ OB 5 w' w.heap.size (.slice A (dataF xs).length c) (dataF xs) ∧ Ext w w' := by
  obtain ⟨i0, hi, hz0, hz1, hz2⟩ := info_parts bsinfo
  obtain ⟨A, c, rfl, hc1, hc2, hcell⟩ := hD
  unfold maxLen at hc2
  by_cases h16 : (16 : Int) < xs.length
  · have e : dataF xs = [] := by unfold dataF; rw [if_pos (by omega)]
    rw [e]
    go_enter Tryz.func37, Tryz.ntmps37
    go_wp2_with fail
    go_ret
    exact ⟨none, 0, rfl, OB.nil _ _ _, Ext.refl _⟩
  have e : dataF xs = wholeF (xs.map fun x => pairF x.1 x.2) := by unfold dataF; rw [if_neg (by omega)]
  rw [e]
  have HN := Lib.hid (show xs.length ≤ 16 by omega)
  clear e
  go_enter Tryz.func37, Tryz.ntmps37
  go_wp2
  go_loopw [3, 11] (fun o i wr => ∃ k : Nat, k ≤ xs.length ∧ i = .int .i64 k ∧ OV 23 wr w.heap.size o ((xs.take k).map fun x => pairF x.1 x.2) ∧ Ext w wr) (fun _ i _ => xs.length - (intOf i).toNat)
  case atStart => exact ⟨0, Nat.zero_le _, rfl, OV.nil _ _ _, Ext.refl _⟩
  case round =>
    obtain ⟨k, hk, rfl, ho, hx⟩ := hrel
    by_cases hlt : k < xs.length
    · obtain ⟨ad, B, d, rfl, hc0, hc1, hbk⟩ := hcell k hlt
      have hc0' := hx.cell hc0
      have hc1' := hx.cell hc1
      have hbk' := hbk.ext hx
      obtain ⟨x, hx0⟩ : ∃ x, x = xs[k] := ⟨_, rfl⟩
      rw [← hx0] at hc0' hc1' hbk'
      obtain ⟨kd, b⟩ := x
      dsimp only at hc0' hc1' hbk'
      have hc2' : wr.cell? ⟨(ad.add (k * 2)).block, (ad.add (k * 2)).off + 1, none⟩ = some (.slice B b.length d) := by rw [cell_add1, add_of_add]; exact hc1'
      have HX0 := Lib.hid hx0
      clear hcell hc0 hc1 hbk hx0
      go_upto_region 7 with fail
      obtain ⟨W1, hW1⟩ : ∃ W1, W1 = wr.alloc (.cells #[.int .i64 kd, .slice B b.length d] 62) := ⟨_, rfl⟩
      rw [← hW1]
      have hX1 : Ext wr W1 := by rw [hW1]; exact (Ext.refl wr).alloc _
      have hl0 : W1.cell? ⟨wr.heap.size, 0, none⟩ = some (.int .i64 kd) := by rw [hW1, cell_of_row _ wr.heap.size 0 _ _ (0, 0) (heap_alloc_new wr _)]; rfl
      have hl1 : W1.cell? ⟨wr.heap.size, 1, none⟩ = some (.slice B b.length d) := by rw [hW1, cell_of_row _ wr.heap.size 1 _ _ (0, 0) (heap_alloc_new wr _)]; rfl
      have ho1 := ho.ext hX1
      have hx1 := hx.trans hX1
      have hbk1 := hbk'.ext hX1
      clear hW1 hc0' hc1' hc2' ho hbk'
      have hl24 : (((xs.take k).map fun x => pairF x.1 x.2).length + 1) * 24 ≤ 140737488355328 := by have := HN.out; simp; omega
      have HL24 := Lib.hid hl24
      have HT : Hid ((xs.take (k + 1)).map (fun x => pairF x.1 x.2) = (xs.take k).map (fun x => pairF x.1 x.2) ++ [fieldsF [encInt kd, encOctets b]]) := by
        show _ = _
        rw [List.take_succ_eq_append_getElem hlt, List.map_append, ← HX0.out]; rfl
      clear hl24
      go_region_law (first
        | (refine step_append_ov _ (by rfl) (.tmp 15) (.tmp 24) 43 (by rfl) w.heap.size 23 i0 (.slice none 0 0) 24 Tryz.underlying43 hi hz0 hz1 hz2 (by rfl) _ _ (by rfl) (ho1.ext (hx14.alloc _)) _ (.slice A4 (fieldsF [encInt kd, encOctets b]).length c4) (fieldsF [encInt kd, encOctets b]) (by rfl) (RS.one _ _ _) (hb4.bs.ext ((Ext.refl w4).alloc _)) hap4 HL24.out (by decide) (hx1.trans (hx14.alloc _)).size ?_; intro v5 w5 ho5 hg5)
        | (go_simp; go_at_call 55; refine (Integer_at kd _).mono ?_; rintro e w2 ⟨A2, c2, rfl, hb2, hx2⟩; have hx12 := (Ext.drew W1).trans hx2; have hl2 := hx12.cell hl1)
        | (go_simp; go_at_call 56; refine (Octets_at B d b _ (hbk1.ext hx12)).mono ?_; rintro e w3 ⟨A3, c3, rfl, hb3, hx3⟩)
        | (go_simp; go_at_call 54; refine (fields_at _ [encInt kd, encOctets b] (by simp) _ (BSS.new2 w3 23 _ _ _ _ (hb2.bs.ext hx3) hb3.bs rfl)).mono ?_; rintro e w4 ⟨A4, c4, rfl, hb4, hx4⟩; have hx14 := (hx12.trans hx3).trans (((Ext.refl w3).alloc _).trans hx4); have hap4 : fieldsF [encInt kd, encOctets b] ≠ [] → ∀ b', (Value.slice A4 (fieldsF [encInt kd, encOctets b]).length c4).ownBlock = some b' → u3.ownBlock ≠ some b' := (fun _ b' hb e => by have h1 := hb4.lt b' hb; have h2 := (ho1.lt b' e).2; have h3 := (hx12.trans hx3).size; simp at h1; omega)))
      all_goals
        focus
          go_wp2_with fail
          go_roundw
          case rel => exact ⟨k + 1, by omega, by go_num, by rw [HT.out]; exact ho5, ((hx1.trans hx14).alloc _).grown hg5 (fun j hj => (ho1.lt j hj).1)⟩
          case measure => simp [intOf] <;> omega
    · obtain rfl : k = xs.length := by omega
      rw [List.take_length] at ho
      obtain ⟨A5, c5, rfl⟩ := ho.shape
      have hbs := ho.bss
      obtain ⟨T, hT⟩ : ∃ T, T = xs.map fun x => pairF x.1 x.2 := ⟨_, rfl⟩
      rw [← hT] at hbs ⊢
      have HT := Lib.hid hT
      clear hT ho hcell
      go_wp2_with (go_at_call 57; refine (whole_at _ T _ hbs).mono ?_; rintro e w2 ⟨A2, c2, rfl, hb2, hx2⟩)
      go_ret
      rw [← HT.out]
      exact ⟨_, _, rfl, hb2.up hx, hx.trans hx2⟩
end Go.Proofs.YthpfomjibfbiiaaGreatDoor
