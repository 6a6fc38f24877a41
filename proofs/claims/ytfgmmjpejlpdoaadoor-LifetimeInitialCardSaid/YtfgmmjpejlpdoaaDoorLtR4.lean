/- Lifetimes: the reference's Initial, Derive, Renew. -/
import Derived.Test.YtfgmmjpejlpdoaaDoorLtR3
namespace Go.Proofs.YtfgmmjpejlpdoaaDoor
open Go Go.RowKit

theorem wshB_eq (f t n : Int) : wshB f t n = (momB f && momB t && momB n) := by
  unfold wshB momB
  rw [Bool.eq_iff_iff]
  simp
  omega

set_option maxRecDepth 100000 in
set_option maxHeartbeats 1000000 in
theorem LInitial_is (f t n l m now skew A S E Q er : Int) (hres : initF f t n l m now skew = (A, S, E, Q, er)) (w : World) :
    Calls Tryd.prog 12 #[.int .i64 f, .int .i64 t, .int .i64 n, .int .i64 l, .int .i64 m, .int .i64 now, .int .i64 skew] w fun en w' =>
      en = .returned (.tuple #[.agg #[.int .i64 A, .int .i64 S, .int .i64 E, .int .i64 Q], .int .i64 er]) ∧ Ext w w' := by
  have h1 := LTime_is f; have h2 := LTime_is t; have h3 := LTime_is n; have h4 := LLimits_is l m; have h5 := LTime_is now; have h6 := LSkew_is skew
  obtain ⟨b1, hb1⟩ : ∃ b, momB f = b := ⟨_, rfl⟩
  obtain ⟨b2, hb2⟩ : ∃ b, momB t = b := ⟨_, rfl⟩
  obtain ⟨b3, hb3⟩ : ∃ b, momB n = b := ⟨_, rfl⟩
  obtain ⟨b4, hb4⟩ : ∃ b, limB l m = b := ⟨_, rfl⟩
  obtain ⟨b5, hb5⟩ : ∃ b, momB now = b := ⟨_, rfl⟩
  obtain ⟨b6, hb6⟩ : ∃ b, skwB skew = b := ⟨_, rfl⟩
  have H1 := Lib.hid (h1 b1 hb1); have H2 := Lib.hid (h2 b2 hb2); have H3 := Lib.hid (h3 b3 hb3); have H4 := Lib.hid (h4 b4 hb4); have H5 := Lib.hid (h5 b5 hb5); have H6 := Lib.hid (h6 b6 hb6)
  clear h1 h2 h3 h4 h5 h6
  have hT := heap_alloc_new w (.cells #[.int .i64 0, .int .i64 0, .int .i64 0, .int .i64 0] 27)
  have HT : Hid (TB (w.alloc (.cells #[.int .i64 0, .int .i64 0, .int .i64 0, .int .i64 0] 27)) w.heap.size 0 0 0 0) := Lib.hid hT
  clear hT
  by_cases hall : b1 = true ∧ b2 = true ∧ b3 = true ∧ b4 = true ∧ b5 = true ∧ b6 = true
  · obtain ⟨rfl, rfl, rfl, rfl, rfl, rfl⟩ := hall
    obtain ⟨h1, c1, c2, c3, c4⟩ := initF_yes (f := f) (t := t) (n := n) (l := l) (m := m) (now := now) (skew := skew) (by rw [wshB_eq, hb1, hb2, hb3, hb4, hb5, hb6]; rfl)
    rw [hres] at h1
    clear hb1 hb2 hb3 hb4 hb5 hb6 hres
    have hs : 0 ≤ (if now + skew < f then f else now) ∧ (if now + skew < f then f else now) ≤ 1099511627776 := by split <;> omega
    have HF := Lib.hid (fresh_is now (if now + skew < f then f else now) t n l m 1099511627776 1099511627776 A S E Q er hs ⟨by omega, c2.2.1⟩ c2.2.2 h1.symm)
    obtain ⟨c31, c32⟩ := c3
    obtain ⟨c41, c42⟩ := c4
    clear h1 hs c1 c2
    by_cases hc : now + skew < f
    all_goals
      first | (rw [if_pos hc] at HF) | (rw [if_neg hc] at HF)
      go_enter Tryd.func12, Tryd.ntmps12
      go_wp2_with fail
      refine (H1.out _).mono ?_; rintro _ w1 ⟨rfl, rfl⟩
      go_wp2_with fail
      refine (H2.out _).mono ?_; rintro _ w1 ⟨rfl, rfl⟩
      go_wp2_with fail
      refine (H3.out _).mono ?_; rintro _ w1 ⟨rfl, rfl⟩
      go_wp2_with fail
      refine (H4.out _).mono ?_; rintro _ w1 ⟨rfl, rfl⟩
      go_wp2_with fail
      refine (H5.out _).mono ?_; rintro _ w1 ⟨rfl, rfl⟩
      go_wp2_with fail
      refine (H6.out _).mono ?_; rintro _ w1 ⟨rfl, rfl⟩
      go_wp2_with fail
      refine (HF.out _).mono ?_
      rintro _ w1 ⟨rfl, hx1⟩
      have hT1 := HT.out.ext hx1
      obtain ⟨c0, c1, c2, c3⟩ := hT1.cells
      have f0 := hT1.soft 0; have f1 := hT1.soft 1; have f2 := hT1.soft 2; have f3 := hT1.soft 3
      have HT1 := Lib.hid hT1; have HX1 := Lib.hid (((Ext.refl w).alloc _).trans hx1); clear hT1 hx1
      go_wp2_with fail
      obtain ⟨d0, d1, d2, d3⟩ := HT1.out.end_ A S E Q
      refine bodyPost_ret (by simp [results, Tryd.results12, go_sem, d0, d1, d2, d3]; try rfl) rfl ?_
      exact ⟨rfl, ext4 HX1.out (Nat.le_refl _) _ _ _ _⟩
  · have hno := initF_no (f := f) (t := t) (n := n) (l := l) (m := m) (now := now) (skew := skew) (by
      rw [wshB_eq, hb1, hb2, hb3, hb4, hb5, hb6]
      cases b1 <;> cases b2 <;> cases b3 <;> cases b4 <;> cases b5 <;> cases b6 <;> simp at hall ⊢)
    rw [hres] at hno
    simp only [Prod.mk.injEq] at hno
    obtain ⟨rfl, rfl, rfl, rfl, rfl⟩ := hno
    clear hb1 hb2 hb3 hb4 hb5 hb6 hres
    rcases (show b1 = false ∨ (b1 = true ∧ b2 = false) ∨ (b1 = true ∧ b2 = true ∧ b3 = false) ∨ (b1 = true ∧ b2 = true ∧ b3 = true ∧ b4 = false) ∨ (b1 = true ∧ b2 = true ∧ b3 = true ∧ b4 = true ∧ b5 = false) ∨ (b1 = true ∧ b2 = true ∧ b3 = true ∧ b4 = true ∧ b5 = true ∧ b6 = false) by
      cases b1 <;> cases b2 <;> cases b3 <;> cases b4 <;> cases b5 <;> cases b6 <;> simp at hall ⊢) with rfl | ⟨rfl, rfl⟩ | ⟨rfl, rfl, rfl⟩ | ⟨rfl, rfl, rfl, rfl⟩ | ⟨rfl, rfl, rfl, rfl, rfl⟩ | ⟨rfl, rfl, rfl, rfl, rfl, rfl⟩
    all_goals
      clear hall
      go_enter Tryd.func12, Tryd.ntmps12
      go_wp2_with fail
      refine (H1.out _).mono ?_; rintro _ w1 ⟨rfl, rfl⟩
      go_wp2_with fail
      try (refine (H2.out _).mono ?_; rintro _ w1 ⟨rfl, rfl⟩; go_wp2_with fail)
      try (refine (H3.out _).mono ?_; rintro _ w1 ⟨rfl, rfl⟩; go_wp2_with fail)
      try (refine (H4.out _).mono ?_; rintro _ w1 ⟨rfl, rfl⟩; go_wp2_with fail)
      try (refine (H5.out _).mono ?_; rintro _ w1 ⟨rfl, rfl⟩; go_wp2_with fail)
      try (refine (H6.out _).mono ?_; rintro _ w1 ⟨rfl, rfl⟩; go_wp2_with fail)
      go_returns
      refine ⟨rfl, ?_⟩
      unfold Ext
      go_grown

set_option maxRecDepth 100000 in
set_option maxHeartbeats 1000000 in
theorem LDerive_is (ba bs be br f t n l m now skew A S E Q er : Int) (hres : deriveF ba bs be br f t n l m now skew = (A, S, E, Q, er)) (w : World) :
    Calls Tryd.prog 15 #[.agg #[.int .i64 ba, .int .i64 bs, .int .i64 be, .int .i64 br], .int .i64 f, .int .i64 t, .int .i64 n, .int .i64 l, .int .i64 m, .int .i64 now, .int .i64 skew] w fun en w' =>
      en = .returned (.tuple #[.agg #[.int .i64 A, .int .i64 S, .int .i64 E, .int .i64 Q], .int .i64 er]) ∧ Ext w w' := by
  have h1 := LTime_is f; have h2 := LTime_is t; have h3 := LTime_is n; have h4 := LLimits_is l m
  obtain ⟨b1, hb1⟩ : ∃ b, momB f = b := ⟨_, rfl⟩
  obtain ⟨b2, hb2⟩ : ∃ b, momB t = b := ⟨_, rfl⟩
  obtain ⟨b3, hb3⟩ : ∃ b, momB n = b := ⟨_, rfl⟩
  obtain ⟨b4, hb4⟩ : ∃ b, limB l m = b := ⟨_, rfl⟩
  have H1 := Lib.hid (h1 b1 hb1); have H2 := Lib.hid (h2 b2 hb2); have H3 := Lib.hid (h3 b3 hb3); have H4 := Lib.hid (h4 b4 hb4)
  clear h1 h2 h3 h4
  obtain ⟨wr, hwr, hx0, hV, hT⟩ := boxes2 w ba bs be br
  obtain ⟨g0, g1, g2, g3⟩ := hV.cells
  obtain ⟨z0, z1, z2, z3⟩ := hT.cells
  have y0 := hT.soft 0; have y1 := hT.soft 1; have y2 := hT.soft 2; have y3 := hT.soft 3
  have HX0 := Lib.hid hx0; have HV := Lib.hid hV; have HT := Lib.hid hT
  clear hx0 hV hT
  by_cases hall : b1 = true ∧ b2 = true ∧ b3 = true ∧ b4 = true
  · obtain ⟨rfl, rfl, rfl, rfl⟩ := hall
    obtain ⟨h1, k1, k2, k3⟩ := deriveF_yes (ba := ba) (bs := bs) (be := be) (br := br) (f := f) (t := t) (n := n) (l := l) (m := m) (now := now) (skew := skew) (by rw [wshB_eq, hb1, hb2, hb3, hb4]; rfl)
    rw [hres] at h1
    clear hb1 hb2 hb3 hb4 hres
    have hcs := usableF_cases ba bs be br now skew
    obtain ⟨u, hu⟩ : ∃ u, usableF ba bs be br now skew = u := ⟨_, rfl⟩
    have HUS := Lib.hid (LUse_is ba bs be br now skew u hu)
    rw [hu] at h1 hcs
    clear hu
    by_cases hu0 : u = 0
    · subst hu0
      rw [if_pos rfl] at h1
      have hok : validB ba bs be br = true ∧ momB now = true ∧ skwB skew = true := by
        rcases hcs with h | h
        · omega
        · exact h.2
      obtain ⟨v1', v2', v3', v4', _⟩ := validB_bd hok.1
      obtain ⟨c31, c32⟩ := momB_bd hok.2.1
      obtain ⟨c41, c42⟩ := skwB_bd hok.2.2
      obtain ⟨st, hst⟩ : ∃ st, max now ba = st := ⟨_, rfl⟩
      rw [hst] at h1
      have hstb : 0 ≤ st ∧ st ≤ 1099511627776 := by omega
      have hs : 0 ≤ (if now + skew < f then f else st) ∧ (if now + skew < f then f else st) ≤ 1099511627776 := by split <;> omega
      have HF := Lib.hid (fresh_is ba (if now + skew < f then f else st) t n l m be br A S E Q er hs ⟨by omega, k2.2.1⟩ k2.2.2 h1.symm)
      have hst2 : (now < ba ∧ st = ba) ∨ (¬ now < ba ∧ st = now) := by omega
      clear h1 hs k1 k2 k3 hcs hok v1' v2' v3' v4' hstb hst
      by_cases hc : now + skew < f
      all_goals
        first | (rw [if_pos hc] at HF) | (rw [if_neg hc] at HF)
        rcases hst2 with ⟨hs2, rfl⟩ | ⟨hs2, rfl⟩
        all_goals
          go_enter Tryd.func15, Tryd.ntmps15
          go_wp2_with fail
          try rw [hwr]
          refine (H1.out _).mono ?_; rintro _ w1 ⟨rfl, rfl⟩
          go_wp2_with fail
          refine (H2.out _).mono ?_; rintro _ w1 ⟨rfl, rfl⟩
          go_wp2_with fail
          refine (H3.out _).mono ?_; rintro _ w1 ⟨rfl, rfl⟩
          go_wp2_with fail
          refine (H4.out _).mono ?_; rintro _ w1 ⟨rfl, rfl⟩
          go_wp2_with fail
          refine (HUS.out _).mono ?_; rintro _ w1 ⟨rfl, hx1⟩
          obtain ⟨p0, p1, p2, p3⟩ := (HV.out.ext hx1).cells
          have HX1 := Lib.hid hx1; clear hx1
          go_wp2_with fail
          refine (HF.out _).mono ?_
          rintro _ w2 ⟨rfl, hx2⟩
          have hT1 := HT.out.ext (HX1.out.trans hx2)
          obtain ⟨c0, c1, c2, c3⟩ := hT1.cells
          have f0 := hT1.soft 0; have f1 := hT1.soft 1; have f2 := hT1.soft 2; have f3 := hT1.soft 3
          have HT1 := Lib.hid hT1; have HX2 := Lib.hid ((HX0.out.trans HX1.out).trans hx2); clear hT1 hx2
          go_wp2_with fail
          obtain ⟨d0, d1, d2, d3⟩ := HT1.out.end_ A S E Q
          refine bodyPost_ret (by simp [results, Tryd.results15, go_sem, d0, d1, d2, d3]; try rfl) rfl ?_
          exact ⟨rfl, ext4 HX2.out (Nat.le_succ _) _ _ _ _⟩
    · rw [if_neg hu0] at h1
      simp only [Prod.mk.injEq] at h1
      obtain ⟨rfl, rfl, rfl, rfl, rfl⟩ := h1
      have hu1 : (er != 0) = true := by simpa using hu0
      clear k1 k2 k3 hcs hu0
      go_enter Tryd.func15, Tryd.ntmps15
      go_wp2_with fail
      try rw [hwr]
      refine (H1.out _).mono ?_; rintro _ w1 ⟨rfl, rfl⟩
      go_wp2_with fail
      refine (H2.out _).mono ?_; rintro _ w1 ⟨rfl, rfl⟩
      go_wp2_with fail
      refine (H3.out _).mono ?_; rintro _ w1 ⟨rfl, rfl⟩
      go_wp2_with fail
      refine (H4.out _).mono ?_; rintro _ w1 ⟨rfl, rfl⟩
      go_wp2_with fail
      refine (HUS.out _).mono ?_; rintro _ w1 ⟨rfl, hx1⟩
      have hT1 := HT.out.ext hx1
      obtain ⟨c0, c1, c2, c3⟩ := hT1.cells
      have f0 := hT1.soft 0; have f1 := hT1.soft 1; have f2 := hT1.soft 2; have f3 := hT1.soft 3
      have HT1 := Lib.hid hT1; have HX2 := Lib.hid (HX0.out.trans hx1); clear hT1 hx1
      go_wp2_with fail
      obtain ⟨d0, d1, d2, d3⟩ := HT1.out.end_ 0 0 0 0
      refine bodyPost_ret (by simp [results, Tryd.results15, go_sem, d0, d1, d2, d3]; try rfl) rfl ?_
      exact ⟨rfl, ext4 HX2.out (Nat.le_succ _) _ _ _ _⟩
  · have hno := deriveF_no (ba := ba) (bs := bs) (be := be) (br := br) (f := f) (t := t) (n := n) (l := l) (m := m) (now := now) (skew := skew) (by
      rw [wshB_eq, hb1, hb2, hb3, hb4]
      cases b1 <;> cases b2 <;> cases b3 <;> cases b4 <;> simp at hall ⊢)
    rw [hres] at hno
    simp only [Prod.mk.injEq] at hno
    obtain ⟨rfl, rfl, rfl, rfl, rfl⟩ := hno
    clear hb1 hb2 hb3 hb4 hres
    rcases (show b1 = false ∨ (b1 = true ∧ b2 = false) ∨ (b1 = true ∧ b2 = true ∧ b3 = false) ∨ (b1 = true ∧ b2 = true ∧ b3 = true ∧ b4 = false) by
      cases b1 <;> cases b2 <;> cases b3 <;> cases b4 <;> simp at hall ⊢) with rfl | ⟨rfl, rfl⟩ | ⟨rfl, rfl, rfl⟩ | ⟨rfl, rfl, rfl, rfl⟩
    all_goals
      clear hall
      go_enter Tryd.func15, Tryd.ntmps15
      go_wp2_with fail
      try rw [hwr]
      refine (H1.out _).mono ?_; rintro _ w1 ⟨rfl, rfl⟩
      go_wp2_with fail
      try (refine (H2.out _).mono ?_; rintro _ w1 ⟨rfl, rfl⟩; go_wp2_with fail)
      try (refine (H3.out _).mono ?_; rintro _ w1 ⟨rfl, rfl⟩; go_wp2_with fail)
      try (refine (H4.out _).mono ?_; rintro _ w1 ⟨rfl, rfl⟩; go_wp2_with fail)
      obtain ⟨d0, d1, d2, d3⟩ := HT.out.end_ 0 0 0 0
      refine bodyPost_ret (by simp [results, Tryd.results15, go_sem, d0, d1, d2, d3]; try rfl) rfl ?_
      exact ⟨rfl, ext4 HX0.out (Nat.le_succ _) _ _ _ _⟩
end Go.Proofs.YtfgmmjpejlpdoaaDoor
