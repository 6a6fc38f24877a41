/- Address: the reference's Text. (wip/tools/genadr4.py printed this.) -/
import Derived.Test.YthpfomjibfbiiaaDoorAdR3
import Derived.Test.YthpfomjibfbiiaaDoorAdR1
import Derived.Test.YthpfomjibfbiiaaDoorExt2
namespace Go.Proofs.YthpfomjibfbiiaaDoor
open Go Go.RowKit
set_option linter.unusedVariables false

theorem addA0 (a : Addr) : a.add 0 = a := by simp [Addr.add]
theorem addA1 (a : Addr) (n : Nat) (h : n ≠ 0) : a.add n = ⟨a.block, a.off + n, none⟩ := by unfold Addr.add; rw [if_neg h]
def DA (L : List UInt8) (v : Value) (_ : World) : Prop := v = .string ⟨L.toArray⟩
set_option maxRecDepth 100000 in
theorem RATextH_at (b : List UInt8) (A : Option Addr) (c : Nat) (w : World) (hb : BS w (.slice A b.length c) b) (hl : b.length ≤ 16) :
    Calls Tryd.prog 19 #[adv 20 A b.length c] w fun e w' => e = .returned (.string ⟨(txtH b).toArray⟩) ∧ Ext w w' := by
  have h0 := AB.new w 20 A b.length c
  have x0 := (Ext.refl w).alloc (.cells #[.int .i64 20, .slice A b.length c] 25)
  obtain ⟨W1, e1⟩ : ∃ W, w.alloc (.cells #[.int .i64 20, .slice A b.length c] 25) = W := ⟨_, rfl⟩
  rw [e1] at h0 x0
  obtain ⟨c0, c1⟩ := h0.cells
  have hcv := run_str (P := Tryd.prog) W1 23 9 5 (.slice A b.length c) b Tryd.underlying23 Tryd.underlying5 Tryd.underlying9 (hb.ext x0)
  have HX := Lib.hid x0
  clear h0 x0 hb
  unfold adv
  go_enter Tryd.func19, Tryd.ntmps19
  go_wp2_with fail
  go_ret
  refine ⟨?_, HX.out⟩
  refine congrArg (fun b => Ending.returned (.string b)) ?_
  apply ByteArray.ext
  apply Array.toList_inj.1
  simp [ByteArray.data_append, txtH]
theorem txt4_four (p q r t : UInt8) : txt4 [p, q, r, t] = Lib.decDigits p.toNat ++ 46 :: (Lib.decDigits q.toNat ++ 46 :: (Lib.decDigits r.toNat ++ 46 :: Lib.decDigits t.toNat)) := by
  simp [txt4, Lib.join, List.intercalate, List.intersperse]
set_option maxRecDepth 100000 in
set_option maxHeartbeats 2000000 in
theorem RAText4_at (b : List UInt8) (A : Option Addr) (c : Nat) (w : World) (hb : BS w (.slice A b.length c) b) (hl : b.length = 4) :
    Calls Tryd.prog 19 #[adv 2 A b.length c] w fun e w' => e = .returned (.string ⟨(txt4 b).toArray⟩) ∧ Ext w w' := by
  obtain ⟨p, q, r, t, rfl⟩ := list4 hl
  have hll : ([p, q, r, t] : List UInt8).length = 4 := rfl
  rw [hll] at hb ⊢
  obtain ⟨_, _, he, _, _, h3⟩ := hb.open_
  injection he with e1 e2 e3
  subst e1
  obtain ⟨ad, rfl, _, hcell⟩ := h3 (by simp)
  have h0 := AB.new w 2 (some ad) 4 c
  have x0 := (Ext.refl w).alloc (.cells #[.int .i64 2, .slice (some ad) 4 c] 25)
  obtain ⟨W1, e1⟩ : ∃ W, w.alloc (.cells #[.int .i64 2, .slice (some ad) 4 c] 25) = W := ⟨_, rfl⟩
  rw [e1] at h0 x0
  obtain ⟨c0, c1⟩ := h0.cells
  have C0 := x0.cell (hcell 0 (by simp)); have C1 := x0.cell (hcell 1 (by simp)); have C2 := x0.cell (hcell 2 (by simp)); have C3 := x0.cell (hcell 3 (by simp))
  simp only [List.getElem_cons_zero, List.getElem_cons_succ] at C0 C1 C2 C3
  have az : ad.add 0 = ad := addA0 ad
  rw [az] at C0
  rw [addA1 ad 1 (by decide)] at C1
  rw [addA1 ad 2 (by decide)] at C2
  rw [addA1 ad 3 (by decide)] at C3
  have HC0 := Lib.hid C0; have HC1 := Lib.hid C1; have HC2 := Lib.hid C2; have HC3 := Lib.hid C3
  have lp := p.toNat_lt; have lq := q.toNat_lt; have lr := r.toNat_lt; have lt := t.toNat_lt
  have l1 : (Lib.decDigits p.toNat).length ≤ 21 := decA_len (by omega)
  have l2 : (Lib.decDigits q.toNat).length ≤ 21 := decA_len (by omega)
  have l3 : (Lib.decDigits r.toNat).length ≤ 21 := decA_len (by omega)
  have l4 : (Lib.decDigits t.toNat).length ≤ 21 := decA_len (by omega)
  have HX := Lib.hid x0
  have HT := Lib.hid (txt4_four p q r t)
  obtain ⟨L, hL⟩ : ∃ L, txt4 [p, q, r, t] = L := ⟨_, rfl⟩
  rw [hL] at HT ⊢
  clear h0 x0 hb hcell h3 C0 C1 C2 C3 hL hll hl e2 e3
  unfold adv
  go_enter Tryd.func19, Tryd.ntmps19
  go_wp2_with fail
  refine wp_region_ext (fun i v' w' => match i with | 4 => DA (Lib.decDigits p.toNat) v' w' | 10 => DA (Lib.decDigits q.toNat) v' w' | 17 => DA (Lib.decDigits r.toNat) v' w' | 24 => DA (Lib.decDigits t.toNat) v' w' | _ => False) (by kernel_rfl) (by kernel_rfl) ?_
  refine wpE_op rfl rfl (fun w' hw' K' hK' => ?_)
  have hE := hw'.1
  go_step
  refine hK' _ ⟨_, rfl⟩ ?_
  clear hK' K' hE hw' w'
  refine wpE_op rfl rfl (fun w' hw' K' hK' => ?_)
  have hE := hw'.1
  go_step
  refine hK' _ ⟨_, rfl⟩ ?_
  clear hK' K' hE hw' w'
  refine wpE_op rfl rfl (fun w' hw' K' hK' => ?_)
  have hE := hw'.1
  have u0 := ((Ext.drew _).trans hE).cell HC0.out
  go_step
  refine hK' _ ⟨_, rfl⟩ ?_
  clear hK' K' u0 hE hw' w'
  refine wpE_op rfl rfl (fun w' hw' K' hK' => ?_)
  have hE := hw'.1
  go_step
  refine hK' _ ⟨_, rfl⟩ ?_
  clear hK' K' hE hw' w'
  refine wpE_call 25 rfl (by simp) rfl (fun w' hw' K' hK' => ?_) ?_
  · have hE := hw'.1
    go_step
    refine (RADec_at p.toNat (by omega) _).mono ?_
    rintro _ w2 ⟨rfl, hx⟩
    exact hK' _ _ ⟨_, rfl, rfl⟩ hx
  rintro _ w25x _ rfl
  simp only [Act.put, List.setIfInBounds_toArray, List.set_cons_succ, List.set_cons_zero]
  refine wpE_op rfl rfl (fun w' hw' K' hK' => ?_)
  have hE := hw'.1
  go_step
  refine hK' _ ⟨_, rfl⟩ ?_
  clear hK' K' hE hw' w'
  refine wpE_op rfl rfl (fun w' hw' K' hK' => ?_)
  have hE := hw'.1
  go_step
  refine hK' _ ⟨_, rfl⟩ ?_
  clear hK' K' hE hw' w'
  refine wpE_op rfl rfl (fun w' hw' K' hK' => ?_)
  have hE := hw'.1
  go_step
  refine hK' _ ⟨_, rfl⟩ ?_
  clear hK' K' hE hw' w'
  refine wpE_op rfl rfl (fun w' hw' K' hK' => ?_)
  have hE := hw'.1
  have u0 := ((Ext.drew _).trans hE).cell HC1.out
  go_step
  refine hK' _ ⟨_, rfl⟩ ?_
  clear hK' K' u0 hE hw' w'
  refine wpE_op rfl rfl (fun w' hw' K' hK' => ?_)
  have hE := hw'.1
  go_step
  refine hK' _ ⟨_, rfl⟩ ?_
  clear hK' K' hE hw' w'
  refine wpE_call 31 rfl (by simp) rfl (fun w' hw' K' hK' => ?_) ?_
  · have hE := hw'.1
    go_step
    refine (RADec_at q.toNat (by omega) _).mono ?_
    rintro _ w2 ⟨rfl, hx⟩
    exact hK' _ _ ⟨_, rfl, rfl⟩ hx
  rintro _ w31x _ rfl
  simp only [Act.put, List.setIfInBounds_toArray, List.set_cons_succ, List.set_cons_zero]
  refine wpE_op rfl rfl (fun w' hw' K' hK' => ?_)
  have hE := hw'.1
  go_step
  refine hK' _ ⟨_, rfl⟩ ?_
  clear hK' K' hE hw' w'
  refine wpE_op rfl rfl (fun w' hw' K' hK' => ?_)
  have hE := hw'.1
  go_step
  refine hK' _ ⟨_, rfl⟩ ?_
  clear hK' K' hE hw' w'
  refine wpE_op rfl rfl (fun w' hw' K' hK' => ?_)
  have hE := hw'.1
  go_step
  refine hK' _ ⟨_, rfl⟩ ?_
  clear hK' K' hE hw' w'
  refine wpE_op rfl rfl (fun w' hw' K' hK' => ?_)
  have hE := hw'.1
  go_step
  refine hK' _ ⟨_, rfl⟩ ?_
  clear hK' K' hE hw' w'
  refine wpE_op rfl rfl (fun w' hw' K' hK' => ?_)
  have hE := hw'.1
  have u0 := ((Ext.drew _).trans hE).cell HC2.out
  go_step
  refine hK' _ ⟨_, rfl⟩ ?_
  clear hK' K' u0 hE hw' w'
  refine wpE_op rfl rfl (fun w' hw' K' hK' => ?_)
  have hE := hw'.1
  go_step
  refine hK' _ ⟨_, rfl⟩ ?_
  clear hK' K' hE hw' w'
  refine wpE_call 38 rfl (by simp) rfl (fun w' hw' K' hK' => ?_) ?_
  · have hE := hw'.1
    go_step
    refine (RADec_at r.toNat (by omega) _).mono ?_
    rintro _ w2 ⟨rfl, hx⟩
    exact hK' _ _ ⟨_, rfl, rfl⟩ hx
  rintro _ w38x _ rfl
  simp only [Act.put, List.setIfInBounds_toArray, List.set_cons_succ, List.set_cons_zero]
  refine wpE_op rfl rfl (fun w' hw' K' hK' => ?_)
  have hE := hw'.1
  go_step
  refine hK' _ ⟨_, rfl⟩ ?_
  clear hK' K' hE hw' w'
  refine wpE_op rfl rfl (fun w' hw' K' hK' => ?_)
  have hE := hw'.1
  go_step
  refine hK' _ ⟨_, rfl⟩ ?_
  clear hK' K' hE hw' w'
  refine wpE_op rfl rfl (fun w' hw' K' hK' => ?_)
  have hE := hw'.1
  go_step
  refine hK' _ ⟨_, rfl⟩ ?_
  clear hK' K' hE hw' w'
  refine wpE_op rfl rfl (fun w' hw' K' hK' => ?_)
  have hE := hw'.1
  go_step
  refine hK' _ ⟨_, rfl⟩ ?_
  clear hK' K' hE hw' w'
  refine wpE_op rfl rfl (fun w' hw' K' hK' => ?_)
  have hE := hw'.1
  have u0 := ((Ext.drew _).trans hE).cell HC3.out
  go_step
  refine hK' _ ⟨_, rfl⟩ ?_
  clear hK' K' u0 hE hw' w'
  refine wpE_op rfl rfl (fun w' hw' K' hK' => ?_)
  have hE := hw'.1
  go_step
  refine hK' _ ⟨_, rfl⟩ ?_
  clear hK' K' hE hw' w'
  refine wpE_call 45 rfl (by simp) rfl (fun w' hw' K' hK' => ?_) ?_
  · have hE := hw'.1
    go_step
    refine (RADec_at t.toNat (by omega) _).mono ?_
    rintro _ w2 ⟨rfl, hx⟩
    exact hK' _ _ ⟨_, rfl, rfl⟩ hx
  rintro _ w45x _ rfl
  simp only [Act.put, List.setIfInBounds_toArray, List.set_cons_succ, List.set_cons_zero]
  refine wpE_op rfl rfl (fun w' hw' K' hK' => ?_)
  have hE := hw'.1
  go_step
  refine hK' _ ⟨_, rfl⟩ ?_
  clear hK' K' hE hw' w'
  refine wpE_op rfl rfl (fun w' hw' K' hK' => ?_)
  have hE := hw'.1
  go_step
  refine hK' _ ⟨_, rfl⟩ ?_
  clear hK' K' hE hw' w'
  refine wpE_nil (fun W hW => ?_)
  have HXW := Lib.hid ((HX.out.trans (Ext.drew _)).trans hW.1)
  clear hW
  go_wp2_with fail
  go_ret
  refine ⟨?_, HXW.out⟩
  rw [HT.out]
  refine congrArg (fun b => Ending.returned (.string b)) ?_
  apply ByteArray.ext
  apply Array.toList_inj.1
  simp [ByteArray.data_append]
theorem wds_getD : ∀ (b : List UInt8) (i : Nat), 2 * i + 1 < b.length → (wds b).getD i 0 = 256 * (b.getD (2 * i) 0).toNat + (b.getD (2 * i + 1) 0).toNat
  | [], i, h => by simp at h
  | [_], i, h => by simp at h
  | a :: c :: r, 0, _ => rfl
  | a :: c :: r, i + 1, h => by
    have ih := wds_getD r i (by simp at h; omega)
    rw [wds, List.getD_cons_succ, ih, show 2 * (i + 1) = 2 * i + 1 + 1 by omega, List.getD_cons_succ, List.getD_cons_succ, List.getD_cons_succ, List.getD_cons_succ]
theorem list8 {α : Type} {l : List α} (h : l.length = 8) : ∃ a b c d e f g i, l = [a, b, c, d, e, f, g, i] := by
  match l, h with
  | [a, b, c, d, e, f, g, i], _ => exact ⟨a, b, c, d, e, f, g, i, rfl⟩
theorem c8_set (G : List Nat) (hG : G.length = 8) (i : Nat) (h : i < 8) (x : Nat) : (c8 G).setIfInBounds i (.int .i64 (x : Int)) = c8 (G.set i x) := by
  obtain ⟨a, b, c, d, e, f, g, j, rfl⟩ := list8 hG
  have hi : i = 0 ∨ i = 1 ∨ i = 2 ∨ i = 3 ∨ i = 4 ∨ i = 5 ∨ i = 6 ∨ i = 7 := by omega
  rcases hi with rfl | rfl | rfl | rfl | rfl | rfl | rfl | rfl <;> rfl
theorem GB.put {w : World} {g : Nat} {G : List Nat} (h : GB w g G) (hG : G.length = 8) (i : Nat) (hi : i < 8) (x : Nat) : GB (w.setCell ⟨g, i, none⟩ (.int .i64 (x : Int))) g (G.set i x) := by
  have := heap_setCell_same w g i _ _ (.int .i64 (x : Int)) h
  rw [c8_set G hG i hi x] at this
  exact this
theorem GB.soft {w : World} {g : Nat} {G : List Nat} (h : GB w g G) (k : Nat) : w.frozen? ⟨g, k, none⟩ = false := frozen_of_row w g k _ _ h
theorem GB.cells {w : World} {g : Nat} {G : List Nat} (h : GB w g G) : w.cell? ⟨g, 0, none⟩ = some (.int .i64 (G.getD 0 0 : Nat)) ∧ w.cell? ⟨g, 1, none⟩ = some (.int .i64 (G.getD 1 0 : Nat)) ∧ w.cell? ⟨g, 2, none⟩ = some (.int .i64 (G.getD 2 0 : Nat)) ∧ w.cell? ⟨g, 3, none⟩ = some (.int .i64 (G.getD 3 0 : Nat)) ∧ w.cell? ⟨g, 4, none⟩ = some (.int .i64 (G.getD 4 0 : Nat)) ∧ w.cell? ⟨g, 5, none⟩ = some (.int .i64 (G.getD 5 0 : Nat)) ∧ w.cell? ⟨g, 6, none⟩ = some (.int .i64 (G.getD 6 0 : Nat)) ∧ w.cell? ⟨g, 7, none⟩ = some (.int .i64 (G.getD 7 0 : Nat)) :=
  ⟨h.cell 0 (by omega), h.cell 1 (by omega), h.cell 2 (by omega), h.cell 3 (by omega), h.cell 4 (by omega), h.cell 5 (by omega), h.cell 6 (by omega), h.cell 7 (by omega)⟩
theorem bst_le (G : List Nat) : ∀ (l : List Nat) (i at_ most : Nat), i + l.length ≤ 8 → at_ ≤ 8 → (bst i l at_ most).1 ≤ 8
  | [], i, at_, most, _, h => h
  | x :: r, i, at_, most, hi, h => by
    rw [bst]
    simp only [List.length_cons] at hi
    split
    · exact bst_le G r _ _ _ (by omega) (by omega)
    · exact bst_le G r _ _ _ (by omega) h
end Go.Proofs.YthpfomjibfbiiaaDoor
