/- Lifetimes: Renewable, Left, Within, the limits and wishes. -/
import Derived.Test.YtfgmmjpejlpdoaaGreatDoorLt1
namespace Go.Proofs.YtfgmmjpejlpdoaaGreatDoor
open Go Go.RowKit

/-- The four numbers of a new block. -/
theorem times_new (w : World) (a s e r : Int) {W : World} (hx : Ext (w.alloc (.cells #[.int .i64 a, .int .i64 s, .int .i64 e, .int .i64 r] 23)) W) :
    W.cell? ⟨w.heap.size, 0, none⟩ = some (.int .i64 a) ∧ W.cell? ⟨w.heap.size, 1, none⟩ = some (.int .i64 s) ∧ W.cell? ⟨w.heap.size, 2, none⟩ = some (.int .i64 e) ∧ W.cell? ⟨w.heap.size, 3, none⟩ = some (.int .i64 r) := by
  have hg := hx.heap (heap_alloc_new w (.cells #[.int .i64 a, .int .i64 s, .int .i64 e, .int .i64 r] 23))
  exact ⟨by rw [cell_of_row _ _ 0 _ _ (0, 0) hg]; rfl, by rw [cell_of_row _ _ 1 _ _ (0, 0) hg]; rfl, by rw [cell_of_row _ _ 2 _ _ (0, 0) hg]; rfl, by rw [cell_of_row _ _ 3 _ _ (0, 0) hg]; rfl⟩

set_option maxRecDepth 100000 in
theorem Renewable_at (a s e r now skew : Int) (w : World) :
    Calls Tryz.prog 33 #[.agg #[.int .i64 a, .int .i64 s, .int .i64 e, .int .i64 r], .int .i64 now, .int .i64 skew] w fun en w' => en = .returned (.bool (renewableB a s e r now skew)) ∧ Ext w w' := by
  obtain ⟨b, hb⟩ : ∃ b, renewableB a s e r now skew = b := ⟨_, rfl⟩
  rw [hb]
  unfold renewableB at hb
  have hus := Usable_at a s e r now skew
  have hcs := usableF_cases a s e r now skew
  obtain ⟨u, hu⟩ : ∃ u, usableF a s e r now skew = u := ⟨_, rfl⟩
  rw [hu] at hb hcs hus
  have HUS := Lib.hid hus; have HB := Lib.hid hb
  clear hus hu hb
  by_cases hu0 : u = 0
  · subst hu0
    obtain ⟨_, h1⟩ : _ ∧ (validB a s e r = true ∧ momB now = true ∧ skwB skew = true) := by
      rcases hcs with h | h
      · omega
      · exact ⟨trivial, h.2⟩
    obtain ⟨v1, v2, v3, v4, v5, v6, _⟩ := validB_bd h1.1
    obtain ⟨n1, n2⟩ := momB_bd h1.2.1
    obtain ⟨k1, k2⟩ := skwB_bd h1.2.2
    clear h1 hcs
    rcases (show r = 0 ∨ ((r != 0) = true ∧ now ≤ r + skew) ∨ ((r != 0) = true ∧ ¬ now ≤ r + skew) by simp; omega) with h | ⟨h, h'⟩ | ⟨h, h'⟩
    · subst h
      go_enter Tryz.func33, Tryz.ntmps33
      go_wp2_with fail
      refine (HUS.out _).mono ?_
      rintro en w1 ⟨rfl, hx1⟩
      obtain ⟨_, _, _, q3⟩ := times_new w a s e 0 hx1
      go_wp2_with fail
      go_ret
      exact ⟨by rw [← HB.out]; simp, ((Ext.refl w).alloc _).trans hx1⟩
    all_goals
      have h9 : r ≠ 0 := by simpa using h
      have H9 := Lib.hid h9; clear h9
      go_enter Tryz.func33, Tryz.ntmps33
      go_wp2_with fail
      refine (HUS.out _).mono ?_
      rintro en w1 ⟨rfl, hx1⟩
      obtain ⟨_, _, _, q3⟩ := times_new w a s e r hx1
      go_wp2_with fail
      go_ret
      refine ⟨?_, ((Ext.refl w).alloc _).trans hx1⟩
      have hb := HB.out
      have h9 := H9.out
      rw [← hb]
      simp [h9, h']
      try omega
  · have hub : (u == 0) = false := by simpa using hu0
    have HU0 := Lib.hid hu0; clear hu0 hcs
    go_enter Tryz.func33, Tryz.ntmps33
    go_wp2_with fail
    refine (HUS.out _).mono ?_
    rintro en w1 ⟨rfl, hx1⟩
    obtain ⟨_, _, _, q3⟩ := times_new w a s e r hx1
    go_wp2_with fail
    go_ret
    exact ⟨by rw [← HB.out]; simp [HU0.out], ((Ext.refl w).alloc _).trans hx1⟩

set_option maxRecDepth 100000 in
theorem WishValid_at (f t r : Int) (w : World) :
    Calls Tryz.prog 29 #[.agg #[.int .i64 f, .int .i64 t, .int .i64 r]] w fun en w' => en = .returned (.bool (wshB f t r)) ∧ Ext w w' := by
  obtain ⟨u, hu⟩ : ∃ u, wshB f t r = u := ⟨_, rfl⟩
  rw [hu]
  have hu2 : (momB f && momB t && momB r) = u := by
    rw [← hu]
    unfold wshB momB
    rw [Bool.eq_iff_iff]
    simp
    omega
  clear hu
  have HU := Lib.hid hu2; clear hu2
  have hmf := moment_at f; have hmt := moment_at t; have hmr := moment_at r
  obtain ⟨bf, hbf⟩ : ∃ b, momB f = b := ⟨_, rfl⟩
  obtain ⟨bt, hbt⟩ : ∃ b, momB t = b := ⟨_, rfl⟩
  obtain ⟨br, hbr⟩ : ∃ b, momB r = b := ⟨_, rfl⟩
  have hu := HU.out
  rw [hbf] at hmf hu; rw [hbt] at hmt hu; rw [hbr] at hmr hu
  have HF := Lib.hid hmf; have HT := Lib.hid hmt; have HR := Lib.hid hmr
  clear hmf hmt hmr hbf hbt hbr HU
  cases bf <;> cases bt <;> cases br <;> simp only [Bool.and_true, Bool.and_false] at hu <;> subst hu
  all_goals
    go_enter Tryz.func29, Tryz.ntmps29
    go_wp2_with fail
    refine (HF.out _).mono ?_
    rintro en w1 ⟨rfl, rfl⟩
    go_wp2_with fail
    try (refine (HT.out _).mono ?_; rintro en w2 ⟨rfl, rfl⟩; go_wp2_with fail)
    try (refine (HR.out _).mono ?_; rintro en w3 ⟨rfl, rfl⟩; go_wp2_with fail)
    go_ret
    exact ⟨rfl, (Ext.refl w).alloc _⟩

set_option maxRecDepth 100000 in
theorem LimitsValid_at (l r : Int) (w : World) :
    Calls Tryz.prog 30 #[.agg #[.int .i64 l, .int .i64 r]] w fun en w' => en = .returned (.bool (limB l r)) ∧ Ext w w' := by
  obtain ⟨u, hu⟩ : ∃ u, limB l r = u := ⟨_, rfl⟩
  rw [hu]
  have hu2 : (wiB l 1 2147483648 && wiB r 0 2147483648) = u := by
    rw [← hu]
    unfold limB wiB
    rw [Bool.eq_iff_iff]
    simp
    omega
  clear hu
  obtain ⟨bl, hbl⟩ : ∃ b, wiB l 1 2147483648 = b := ⟨_, rfl⟩
  obtain ⟨br, hbr⟩ : ∃ b, wiB r 0 2147483648 = b := ⟨_, rfl⟩
  have HL := Lib.hid (within_is l 1 2147483648 bl hbl)
  have HR := Lib.hid (within_is r 0 2147483648 br hbr)
  rw [hbl, hbr] at hu2
  clear hbl hbr
  cases bl <;> cases br <;> simp only [Bool.and_true, Bool.and_false] at hu2 <;> subst hu2
  all_goals
    go_enter Tryz.func30, Tryz.ntmps30
    go_wp2_with fail
    refine (HL.out _).mono ?_
    rintro en w1 ⟨rfl, rfl⟩
    go_wp2_with fail
    try (refine (HR.out _).mono ?_; rintro en w2 ⟨rfl, rfl⟩; go_wp2_with fail)
    go_ret
    exact ⟨rfl, (Ext.refl w).alloc _⟩
end Go.Proofs.YtfgmmjpejlpdoaaGreatDoor
