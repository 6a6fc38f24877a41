/- The reference's Read of times. (wip/tools/genltrref.py printed this.) -/
import Derived.Test.YtfgmmjpejlpdoaaDoorLtD4
import Derived.Test.YtfgmmjpejlpdoaaDoorRefRd
import Derived.Test.YtfgmmjpejlpdoaaDoorB4
import Derived.Test.YtfgmmjpejlpdoaaDoorLtR1
import Derived.Deep.LoopGhost
namespace Go.Proofs.YtfgmmjpejlpdoaaDoor
open Go Go.RowKit
set_option linter.unusedVariables false

theorem field_take {α : Type} (z : α) (rd : List UInt8 → α × Nat × Nat) (n : Nat) (m cont : List UInt8) (et ut : Nat) (h : takeF (tagB n) m = (cont, et, ut)) (hz : readInF (tagB n) m = (if et = 0 then some cont else none, et, if et = 0 then ut else 0)) :
    (et ≠ 0 → fieldF z rd n m = (z, et, 0)) ∧ (et = 0 → ∀ v ev uv ew, rd cont = (v, ev, uv) → (if ev = 0 ∧ uv < cont.length then 6 else ev) = ew → (ew ≠ 0 → fieldF z rd n m = (z, ew, 0)) ∧ (ew = 0 → fieldF z rd n m = (v, 0, ut))) := by
  have hm0 : m = [] → (cont, et, ut) = ([], 4, 0) := by
    intro hm
    rw [← h, hm]
    rfl
  have hm1 : m ≠ [] → m[0]?.getD 0 ≠ tagB n → (cont, et, ut) = ([], 6, 0) := by
    intro hm h1
    rw [← h]
    unfold takeF
    rw [if_neg hm, if_pos h1]
  rcases field_cases z rd n m with ⟨ht, hf⟩ | ⟨e0, he0, ht, hf⟩ | ⟨x, used, ht, hl, hrd, hmn, hrest⟩
  · have hab : m = [] ∨ m[0]?.getD 0 ≠ tagB n := by
      rcases tagged_cases n m with ⟨_, h2⟩ | ⟨_, ⟨x, u, h3, _⟩ | ⟨e0, h3, h4, _⟩⟩
      · exact h2
      · rw [ht] at h3; simp at h3
      · rw [ht] at h4; simp only [Prod.mk.injEq] at h4; exact absurd h4.2.2.1.symm h3
    by_cases hm : m = []
    · have := hm0 hm
      simp only [Prod.mk.injEq] at this
      obtain ⟨rfl, rfl, rfl⟩ := this
      rw [hf, if_pos hm]
      exact ⟨fun _ => rfl, fun h => by simp at h⟩
    · have := hm1 hm (by rcases hab with h | h; exact absurd h hm; exact h)
      simp only [Prod.mk.injEq] at this
      obtain ⟨rfl, rfl, rfl⟩ := this
      rw [hf, if_neg hm]
      exact ⟨fun _ => rfl, fun h => by simp at h⟩
  · have hr0 : readInF (tagB n) m = (none, e0, 0) := by
      rcases tagged_cases n m with ⟨h2, _⟩ | ⟨_, ⟨x, u, h3, _⟩ | ⟨e1, h3, h4, h5⟩⟩
      · rw [ht] at h2; simp only [Prod.mk.injEq] at h2; exact absurd h2.2.2.1 he0
      · rw [ht] at h3; simp at h3
      · rw [ht] at h4; simp only [Prod.mk.injEq] at h4; rw [h5, h4.2.2.1]
    rw [hr0] at hz
    simp only [Prod.mk.injEq] at hz
    obtain ⟨_, rfl, _⟩ := hz
    exact ⟨fun _ => hf, fun h => absurd h he0⟩
  · rw [hrd] at hz
    simp only [Prod.mk.injEq] at hz
    obtain ⟨h1, rfl, h3⟩ := hz
    simp only [if_true, Option.some.injEq] at h1 h3
    subst h1; subst h3
    refine ⟨fun h => absurd rfl h, fun _ v ev uv ew hv hw => ?_⟩
    rw [hv] at hrest
    dsimp only at hrest
    rcases hrest with ⟨k1, k2⟩ | ⟨k1, k2, k3⟩ | ⟨k1, k2, k3⟩
    · rw [if_neg (fun h => k1 h.1)] at hw
      subst hw
      exact ⟨fun _ => k2, fun h => absurd h k1⟩
    · rw [if_pos ⟨k1, k2⟩] at hw
      subst hw
      exact ⟨fun _ => k3, fun h => by simp at h⟩
    · rw [if_neg (fun h => k2 h.2)] at hw
      subst hw
      exact ⟨fun h => absurd k1 h, fun _ => k3⟩
theorem readIn_take (tag : UInt8) (m cont : List UInt8) (et ut : Nat) (h : takeF tag m = (cont, et, ut)) : readInF tag m = (if et = 0 then some cont else none, et, if et = 0 then ut else 0) := by
  unfold readInF readF
  rw [h]
  by_cases h0 : et = 0
  · subst h0; simp
  · simp [h0]
/-- The rounds: where the reader stands, and what the array holds. -/
def RSt (a s e r : Int) (e0 e1 e2 e3 u0 u1 u2 u3 : Nat) (j kk : Nat) (A S E Q : Int) : Prop :=
  (j = 0 ∧ kk = 0 ∧ A = 0 ∧ S = 0 ∧ E = 0 ∧ Q = 0) ∨ (j = 1 ∧ u0 = kk ∧ e0 = 0 ∧ a = A ∧ S = 0 ∧ E = 0 ∧ Q = 0) ∨ (j = 2 ∧ u0 + u1 = kk ∧ e0 = 0 ∧ e1 = 0 ∧ a = A ∧ s = S ∧ E = 0 ∧ Q = 0) ∨
  (j = 3 ∧ u0 + u1 + u2 = kk ∧ e0 = 0 ∧ e1 = 0 ∧ e2 = 0 ∧ a = A ∧ s = S ∧ e = E ∧ Q = 0) ∨ (j = 4 ∧ u0 + u1 + u2 + u3 = kk ∧ e0 = 0 ∧ e1 = 0 ∧ e2 = 0 ∧ e3 = 0 ∧ a = A ∧ s = S ∧ e = E ∧ r = Q)
/-- What the last time's ways mean. -/
theorem lastHL_err {v r : Int} {er u e3 u3 ew : Nat} (h : (er ≠ 0 ∧ (r, e3, u3) = (0, er, 0)) ∨ (er = 0 ∧ v = 0 ∧ (r, e3, u3) = (0, 6, 0)) ∨ (er = 0 ∧ v ≠ 0 ∧ (r, e3, u3) = (v, 0, u))) (h1 : er = ew) (h2 : ew ≠ 0) : e3 = ew := by
  rcases h with ⟨g1, g2⟩ | ⟨g1, g2, g3⟩ | ⟨g1, g2, g3⟩
  · simp only [Prod.mk.injEq] at g2; exact g2.2.1.trans h1
  · exact absurd (h1.symm.trans g1) h2
  · exact absurd (h1.symm.trans g1) h2
theorem lastHL_zero {v r : Int} {er u e3 u3 : Nat} (h : (er ≠ 0 ∧ (r, e3, u3) = (0, er, 0)) ∨ (er = 0 ∧ v = 0 ∧ (r, e3, u3) = (0, 6, 0)) ∨ (er = 0 ∧ v ≠ 0 ∧ (r, e3, u3) = (v, 0, u))) (h1 : er = 0) (h2 : v = 0) : e3 = 6 := by
  rcases h with ⟨g1, g2⟩ | ⟨g1, g2, g3⟩ | ⟨g1, g2, g3⟩
  · exact absurd h1 g1
  · simp only [Prod.mk.injEq] at g3; exact g3.2.1
  · exact absurd h2 g2
theorem lastHL_ok {v r : Int} {er u e3 u3 : Nat} (h : (er ≠ 0 ∧ (r, e3, u3) = (0, er, 0)) ∨ (er = 0 ∧ v = 0 ∧ (r, e3, u3) = (0, 6, 0)) ∨ (er = 0 ∧ v ≠ 0 ∧ (r, e3, u3) = (v, 0, u))) (h1 : er = 0) (h2 : v ≠ 0) : r = v ∧ e3 = 0 ∧ u3 = u := by
  rcases h with ⟨g1, g2⟩ | ⟨g1, g2, g3⟩ | ⟨g1, g2, g3⟩
  · exact absurd h1 g1
  · exact absurd g2 h2
  · simp only [Prod.mk.injEq] at g3; exact g3

set_option maxRecDepth 100000 in
set_option maxHeartbeats 40000000 in
theorem LRead_at (A0 : Option Addr) (c0 : Nat) (b : List UInt8) (at_ : Nat) (hat : at_ ≤ 1000000) (hbl : b.length ≤ 1000000) (a s e r : Int) (er used : Nat) (hres : timesRd (b.drop at_) = ((a, s, e, r), er, used)) (w : World) (hB : BS w (.slice A0 b.length c0) b) :
    Calls Tryd.prog 32 #[.slice A0 b.length c0, .int .i64 (at_ : Int)] w fun en w' => en = .returned (.tuple #[.agg #[.int .i64 a, .int .i64 s, .int .i64 e, .int .i64 r], .int .i64 ((at_ + used : Nat) : Int), .int .i64 (er : Int)]) ∧ Ext w w' := by
  have HRES := Lib.hid hres; clear hres
  obtain ⟨x, ex, ux, hx⟩ : ∃ c e u, takeF 48 (b.drop at_) = (c, e, u) := ⟨_, _, _, rfl⟩
  have hin := readIn_take 48 _ _ _ _ hx
  have hX1 := (Ext.refl w).alloc (.cells #[.int .i64 0, .int .i64 0, .int .i64 0, .int .i64 0] 27)
  have hT1 : TB (w.alloc (.cells #[.int .i64 0, .int .i64 0, .int .i64 0, .int .i64 0] 27)) w.heap.size 0 0 0 0 := heap_alloc_new w _
  have HR0 := Lib.hid (DRead_at A0 c0 b at_ (by omega) 48 48 rfl x ex ux hx (w.alloc (.cells #[.int .i64 0, .int .i64 0, .int .i64 0, .int .i64 0] 27)) (hB.ext hX1))
  have HX1 := Lib.hid hX1; have HT1 := Lib.hid hT1; have HB := Lib.hid hB
  have hxl : x.length ≤ 1000000 := by have := takeF_cont _ _ _ _ _ hx; rw [List.length_drop] at this; omega
  have HUX := Lib.hid (takeF_used _ _ _ _ _ hx)
  clear hX1 hT1 hB hx
  by_cases hex : ex = 0
  · subst hex
    rw [if_pos rfl, if_pos rfl] at hin
    obtain ⟨a', e0, u0, h0⟩ : ∃ p e u, fieldF 0 readTimeF 0 x = (p, e, u) := ⟨_, _, _, rfl⟩
    obtain ⟨s', e1, u1, h1⟩ : ∃ p e u, fieldF 0 readTimeF 1 (x.drop u0) = (p, e, u) := ⟨_, _, _, rfl⟩
    obtain ⟨e', e2, u2, h2⟩ : ∃ p e u, fieldF 0 readTimeF 2 (x.drop (u0 + u1)) = (p, e, u) := ⟨_, _, _, rfl⟩
    obtain ⟨r', e3, u3, h3⟩ : ∃ p e u, lastF (x.drop (u0 + u1 + u2)) = (p, e, u) := ⟨_, _, _, rfl⟩
    have hk9 := timesRd_in _ x ux hin a' e0 u0 h0 s' e1 u1 h1 e' e2 u2 h2 r' e3 u3 h3
    rw [HRES.out] at hk9
    have HK := Lib.hid hk9
    clear hk9
    have hlast := last_cases (x.drop (u0 + u1 + u2))
    rw [h3] at hlast
    have HLAST := Lib.hid hlast
    have HH0 := Lib.hid h0; have HH1 := Lib.hid h1; have HH2 := Lib.hid h2
    clear hlast h0 h1 h2 h3 hin
    obtain ⟨W2, hW2, hx2, hT2, hA2⟩ : ∃ W2, (w.alloc (.cells #[.int .i64 0, .int .i64 0, .int .i64 0, .int .i64 0] 27)).alloc (.cells #[.int .i64 0, .int .i64 0, .int .i64 0, .int .i64 0] 97) = W2 ∧ Ext w W2 ∧ TB W2 w.heap.size 0 0 0 0 ∧ B4 97 W2 (w.heap.size + 1) 0 0 0 0 := by
      refine ⟨_, rfl, HX1.out.alloc _, HT1.out.ext ((Ext.refl _).alloc _), ?_⟩
      have := B4.new 97 (w.alloc (.cells #[.int .i64 0, .int .i64 0, .int .i64 0, .int .i64 0] 27)) 0 0 0 0
      simpa using this
    have HX2 := Lib.hid hx2; have HT2 := Lib.hid hT2; have HA2 := Lib.hid hA2
    clear hx2 hT2 hA2
    go_enter Tryd.func32, Tryd.ntmps32
    go_wp2_with fail
    refine HR0.out.mono ?_
    rintro en w1 ⟨A1, c1, rfl, hbx, rfl⟩
    have hbx2 := hbx.ext (show Ext _ W2 by rw [← hW2]; exact (Ext.refl _).alloc _)
    have HBX := Lib.hid hbx2
    clear hbx hbx2
    go_wp2_with fail
    clear hW2
    go_loopg [11, 12] 5 (fun n kv iv wr => ∃ j kk A S E Q, n = 5 - j ∧ j ≤ 4 ∧ iv = .int .i64 (j : Int) ∧ kv = .int .i64 ((kk : Nat) : Int) ∧ RSt a' s' e' r' e0 e1 e2 e3 u0 u1 u2 u3 j kk A S E Q ∧ kk ≤ x.length ∧ Ext w wr ∧ TB wr w.heap.size 0 0 0 0 ∧ B4 97 wr (w.heap.size + 1) A S E Q ∧ BS wr (.slice A1 x.length c1) x)
    case atStart => exact ⟨0, 0, 0, 0, 0, 0, rfl, by omega, rfl, rfl, .inl ⟨rfl, rfl, rfl, rfl, rfl, rfl⟩, Nat.zero_le _, HX2.out, HT2.out, HA2.out, HBX.out⟩
    case round =>
      obtain ⟨j, kk, A, S, E, Q, hn, hj, rfl, rfl, hst, hkk, hxr, hTr, hAr, hbr⟩ := hrel
      rcases hst with ⟨rfl, rfl, rfl, rfl, rfl, rfl⟩ | ⟨rfl, rfl, z0, rfl, rfl, rfl, rfl⟩ | ⟨rfl, rfl, z0, z1, rfl, rfl, rfl, rfl⟩ | ⟨rfl, rfl, z0, z1, z2, rfl, rfl, rfl, rfl⟩ | ⟨rfl, rfl, z0, z1, z2, z3, rfl, rfl, rfl, rfl⟩
      · rw [show ((0 : Nat) : Int) = 0 from rfl]
        have HF := HH0
        obtain ⟨cont, et, ut, ht⟩ : ∃ c e u, takeF (tagB 0) (x.drop (0)) = (c, e, u) := ⟨_, _, _, rfl⟩
        have hft := field_take (0 : Int) readTimeF 0 _ _ _ _ ht (readIn_take _ _ _ _ _ ht)
        rw [List.drop_zero] at hft
        rw [HF.out] at hft
        obtain ⟨v, ev, uv, hv⟩ : ∃ c e u, readTimeF cont = (c, e, u) := ⟨_, _, _, rfl⟩
        obtain ⟨ew, hw⟩ : ∃ ew, (if ev = 0 ∧ uv < cont.length then 6 else ev) = ew := ⟨_, rfl⟩
        have hut := takeF_used _ _ _ _ _ ht
        rw [List.length_drop] at hut
        have HTG := Lib.hid (show Calls Tryd.prog 62 #[.slice A1 x.length c1, .int .i64 ((0 : Nat) : Int), .int .i64 0] wr _ from DTagged_at A1 c1 x (0) (by omega) 0 (by omega) cont et ut ht wr hbr)
        have HTM := Lib.hid (fun (A9 : Option Addr) (c9 : Nat) (hb9 : BS wr (.slice A9 cont.length c9) cont) => show Calls Tryd.prog 63 #[.slice A9 cont.length c9, .int .i64 0] wr (fun en w' => en = .returned (.tuple #[.int .i64 v, .int .i64 ((uv : Nat) : Int), .int .i64 (ev : Int)]) ∧ wr = w') from (DTime_at A9 c9 cont 0 (by omega) v ev uv (by rw [List.drop_zero]; exact hv) wr hb9).mono (fun en w' h => by rw [Nat.zero_add] at h; exact h))
        have HWH := Lib.hid (fun (A9 : Option Addr) (c9 : Nat) => DWhole_at A9 c9 cont uv ev ew hw wr)
        have HFT := Lib.hid (And.intro hft.1 (fun h => hft.2 h v ev uv ew hv hw))
        clear ht hft hv hw
        obtain ⟨q0, q1, q2, q3⟩ := hTr.cells
        have f0 := hTr.soft 0; have f1 := hTr.soft 1; have f2 := hTr.soft 2; have f3 := hTr.soft 3
        obtain ⟨WF, hWF, hxF, d0, d1, d2, d3⟩ := put4 hxr (Nat.le_refl _) hTr 0 0 0 0
        obtain ⟨y0, y1, y2, y3⟩ := hAr.cells
        have g0 := hAr.soft 0
        have HBR := Lib.hid hbr; have HXR := Lib.hid hxr; have HTR := Lib.hid hTr; have HAR := Lib.hid hAr; have HN := Lib.hid hn
        clear hbr hxr hTr hAr hn
        by_cases het : et = 0
        · subst het
          by_cases hew : ew = 0
          · subst hew
            have hq := (HFT.out.2 rfl).2 rfl
            simp only [Prod.mk.injEq] at hq
            have HEQ := Lib.hid hq; clear hq
            go_wp2_with fail
            refine HTG.out.mono ?_
            rintro en w' ⟨A9, c9, rfl, hb9, rfl⟩
            have HB9 := Lib.hid hb9; clear hb9
            go_wp2_with fail
            refine (HTM.out A9 c9 HB9.out).mono ?_
            rintro en w' ⟨rfl, rfl⟩
            go_wp2_with fail
            refine (HWH.out A9 c9).mono ?_
            rintro en w' ⟨rfl, rfl⟩
            obtain ⟨W7, hW7, hx7, hT7, hA7, hb7⟩ : ∃ W7, wr.setCell ⟨w.heap.size + 1, 0, none⟩ (.int .i64 v) = W7 ∧ Ext w W7 ∧ TB W7 w.heap.size 0 0 0 0 ∧ B4 97 W7 (w.heap.size + 1) v 0 0 0 ∧ BS W7 (.slice A1 x.length c1) x := by
              have hg : wr.grownBy (wr.setCell ⟨w.heap.size + 1, 0, none⟩ (.int .i64 v)) (some (w.heap.size + 1)) := grown_set (grown_refl _ _) 0 _
              exact ⟨_, rfl, Ext.of_grown HXR.out hg (by omega), HTR.out.but (by omega) hg, HAR.out.set0 v, HBR.out.but HAR.out.noU8 hg⟩
            have HX7 := Lib.hid hx7; have HT7 := Lib.hid hT7; have HA7 := Lib.hid hA7; have HB7 := Lib.hid hb7; clear hx7 hT7 hA7 hb7
            go_wp2_with fail
            have hk1 : 0 + ut ≤ x.length := by omega
            go_roundg 4
            case measure => have := HN.out; omega
            case rel => exact ⟨1, 0 + ut, v, 0, 0, 0, rfl, by omega, rfl, by simp, .inr (.inl ⟨rfl, by rw [HEQ.out.2.2]; simp, HEQ.out.2.1, HEQ.out.1, rfl, rfl, rfl⟩), hk1, HX7.out, HT7.out, HA7.out, HB7.out⟩
          · have hen : ((ew : Int) != 0) = true := by rw [bne_iff_ne]; omega
            have hq := (HFT.out.2 rfl).1 hew
            simp only [Prod.mk.injEq] at hq
            have HEQ := Lib.hid hq.2.1; have HEW := Lib.hid hew; clear hq hew
            go_wp2_with fail
            refine HTG.out.mono ?_
            rintro en w' ⟨A9, c9, rfl, hb9, rfl⟩
            have HB9 := Lib.hid hb9; clear hb9
            go_wp2_with fail
            refine (HTM.out A9 c9 HB9.out).mono ?_
            rintro en w' ⟨rfl, rfl⟩
            go_wp2_with fail
            refine (HWH.out A9 c9).mono ?_
            rintro en w' ⟨rfl, rfl⟩
            go_wp2_with fail
            refine bodyPost_ret (v := .tuple #[.agg #[.int .i64 0, .int .i64 0, .int .i64 0, .int .i64 0], .int .i64 (at_ : Int), .int .i64 (ew : Int)]) (by simp [results, Tryd.results32, go_sem, d0, d1, d2, d3]; try rfl) rfl ?_
            have hk := HK.out.1 (by rw [HEQ.out]; exact HEW.out)
            rw [HEQ.out] at hk
            simp only [Prod.mk.injEq] at hk
            obtain ⟨⟨rfl, rfl, rfl, rfl⟩, rfl, rfl⟩ := hk
            exact ⟨by simp, hxF⟩
        · have hen : ((et : Int) != 0) = true := by rw [bne_iff_ne]; omega
          have hq := HFT.out.1 het
          simp only [Prod.mk.injEq] at hq
          have HEQ := Lib.hid hq.2.1; have HEW := Lib.hid het; clear hq het
          go_wp2_with fail
          refine HTG.out.mono ?_
          rintro en w' ⟨A9, c9, rfl, hb9, rfl⟩
          have HB9 := Lib.hid hb9; clear hb9
          go_wp2_with fail
          refine bodyPost_ret (v := .tuple #[.agg #[.int .i64 0, .int .i64 0, .int .i64 0, .int .i64 0], .int .i64 (at_ : Int), .int .i64 (et : Int)]) (by simp [results, Tryd.results32, go_sem, d0, d1, d2, d3]; try rfl) rfl ?_
          have hk := HK.out.1 (by rw [HEQ.out]; exact HEW.out)
          rw [HEQ.out] at hk
          simp only [Prod.mk.injEq] at hk
          obtain ⟨⟨rfl, rfl, rfl, rfl⟩, rfl, rfl⟩ := hk
          exact ⟨by simp, hxF⟩
      · rw [show ((1 : Nat) : Int) = 1 from rfl]
        have Z0 := Lib.hid z0; clear z0
        have HF := HH1
        obtain ⟨cont, et, ut, ht⟩ : ∃ c e u, takeF (tagB 1) (x.drop (u0)) = (c, e, u) := ⟨_, _, _, rfl⟩
        have hft := field_take (0 : Int) readTimeF 1 _ _ _ _ ht (readIn_take _ _ _ _ _ ht)
        rw [HF.out] at hft
        obtain ⟨v, ev, uv, hv⟩ : ∃ c e u, readTimeF cont = (c, e, u) := ⟨_, _, _, rfl⟩
        obtain ⟨ew, hw⟩ : ∃ ew, (if ev = 0 ∧ uv < cont.length then 6 else ev) = ew := ⟨_, rfl⟩
        have hut := takeF_used _ _ _ _ _ ht
        rw [List.length_drop] at hut
        have HTG := Lib.hid (show Calls Tryd.prog 62 #[.slice A1 x.length c1, .int .i64 ((u0 : Nat) : Int), .int .i64 1] wr _ from DTagged_at A1 c1 x (u0) (by omega) 1 (by omega) cont et ut ht wr hbr)
        have HTM := Lib.hid (fun (A9 : Option Addr) (c9 : Nat) (hb9 : BS wr (.slice A9 cont.length c9) cont) => show Calls Tryd.prog 63 #[.slice A9 cont.length c9, .int .i64 0] wr (fun en w' => en = .returned (.tuple #[.int .i64 v, .int .i64 ((uv : Nat) : Int), .int .i64 (ev : Int)]) ∧ wr = w') from (DTime_at A9 c9 cont 0 (by omega) v ev uv (by rw [List.drop_zero]; exact hv) wr hb9).mono (fun en w' h => by rw [Nat.zero_add] at h; exact h))
        have HWH := Lib.hid (fun (A9 : Option Addr) (c9 : Nat) => DWhole_at A9 c9 cont uv ev ew hw wr)
        have HFT := Lib.hid (And.intro hft.1 (fun h => hft.2 h v ev uv ew hv hw))
        clear ht hft hv hw
        obtain ⟨q0, q1, q2, q3⟩ := hTr.cells
        have f0 := hTr.soft 0; have f1 := hTr.soft 1; have f2 := hTr.soft 2; have f3 := hTr.soft 3
        obtain ⟨WF, hWF, hxF, d0, d1, d2, d3⟩ := put4 hxr (Nat.le_refl _) hTr 0 0 0 0
        obtain ⟨y0, y1, y2, y3⟩ := hAr.cells
        have g1 := hAr.soft 1
        have HBR := Lib.hid hbr; have HXR := Lib.hid hxr; have HTR := Lib.hid hTr; have HAR := Lib.hid hAr; have HN := Lib.hid hn
        clear hbr hxr hTr hAr hn
        by_cases het : et = 0
        · subst het
          by_cases hew : ew = 0
          · subst hew
            have hq := (HFT.out.2 rfl).2 rfl
            simp only [Prod.mk.injEq] at hq
            have HEQ := Lib.hid hq; clear hq
            go_wp2_with fail
            refine HTG.out.mono ?_
            rintro en w' ⟨A9, c9, rfl, hb9, rfl⟩
            have HB9 := Lib.hid hb9; clear hb9
            go_wp2_with fail
            refine (HTM.out A9 c9 HB9.out).mono ?_
            rintro en w' ⟨rfl, rfl⟩
            go_wp2_with fail
            refine (HWH.out A9 c9).mono ?_
            rintro en w' ⟨rfl, rfl⟩
            obtain ⟨W7, hW7, hx7, hT7, hA7, hb7⟩ : ∃ W7, wr.setCell ⟨w.heap.size + 1, 1, none⟩ (.int .i64 v) = W7 ∧ Ext w W7 ∧ TB W7 w.heap.size 0 0 0 0 ∧ B4 97 W7 (w.heap.size + 1) a' v 0 0 ∧ BS W7 (.slice A1 x.length c1) x := by
              have hg : wr.grownBy (wr.setCell ⟨w.heap.size + 1, 1, none⟩ (.int .i64 v)) (some (w.heap.size + 1)) := grown_set (grown_refl _ _) 1 _
              exact ⟨_, rfl, Ext.of_grown HXR.out hg (by omega), HTR.out.but (by omega) hg, HAR.out.set1 v, HBR.out.but HAR.out.noU8 hg⟩
            have HX7 := Lib.hid hx7; have HT7 := Lib.hid hT7; have HA7 := Lib.hid hA7; have HB7 := Lib.hid hb7; clear hx7 hT7 hA7 hb7
            go_wp2_with fail
            have hk1 : u0 + ut ≤ x.length := by omega
            go_roundg 3
            case measure => have := HN.out; omega
            case rel => exact ⟨2, u0 + ut, a', v, 0, 0, rfl, by omega, rfl, by simp, .inr (.inr (.inl ⟨rfl, by rw [HEQ.out.2.2], Z0.out, HEQ.out.2.1, rfl, HEQ.out.1, rfl, rfl⟩)), hk1, HX7.out, HT7.out, HA7.out, HB7.out⟩
          · have hen : ((ew : Int) != 0) = true := by rw [bne_iff_ne]; omega
            have hq := (HFT.out.2 rfl).1 hew
            simp only [Prod.mk.injEq] at hq
            have HEQ := Lib.hid hq.2.1; have HEW := Lib.hid hew; clear hq hew
            go_wp2_with fail
            refine HTG.out.mono ?_
            rintro en w' ⟨A9, c9, rfl, hb9, rfl⟩
            have HB9 := Lib.hid hb9; clear hb9
            go_wp2_with fail
            refine (HTM.out A9 c9 HB9.out).mono ?_
            rintro en w' ⟨rfl, rfl⟩
            go_wp2_with fail
            refine (HWH.out A9 c9).mono ?_
            rintro en w' ⟨rfl, rfl⟩
            go_wp2_with fail
            refine bodyPost_ret (v := .tuple #[.agg #[.int .i64 0, .int .i64 0, .int .i64 0, .int .i64 0], .int .i64 (at_ : Int), .int .i64 (ew : Int)]) (by simp [results, Tryd.results32, go_sem, d0, d1, d2, d3]; try rfl) rfl ?_
            have hk := HK.out.2.1 Z0.out (by rw [HEQ.out]; exact HEW.out)
            rw [HEQ.out] at hk
            simp only [Prod.mk.injEq] at hk
            obtain ⟨⟨rfl, rfl, rfl, rfl⟩, rfl, rfl⟩ := hk
            exact ⟨by simp, hxF⟩
        · have hen : ((et : Int) != 0) = true := by rw [bne_iff_ne]; omega
          have hq := HFT.out.1 het
          simp only [Prod.mk.injEq] at hq
          have HEQ := Lib.hid hq.2.1; have HEW := Lib.hid het; clear hq het
          go_wp2_with fail
          refine HTG.out.mono ?_
          rintro en w' ⟨A9, c9, rfl, hb9, rfl⟩
          have HB9 := Lib.hid hb9; clear hb9
          go_wp2_with fail
          refine bodyPost_ret (v := .tuple #[.agg #[.int .i64 0, .int .i64 0, .int .i64 0, .int .i64 0], .int .i64 (at_ : Int), .int .i64 (et : Int)]) (by simp [results, Tryd.results32, go_sem, d0, d1, d2, d3]; try rfl) rfl ?_
          have hk := HK.out.2.1 Z0.out (by rw [HEQ.out]; exact HEW.out)
          rw [HEQ.out] at hk
          simp only [Prod.mk.injEq] at hk
          obtain ⟨⟨rfl, rfl, rfl, rfl⟩, rfl, rfl⟩ := hk
          exact ⟨by simp, hxF⟩
      · rw [show ((2 : Nat) : Int) = 2 from rfl]
        have Z0 := Lib.hid z0; clear z0
        have Z1 := Lib.hid z1; clear z1
        have HF := HH2
        obtain ⟨cont, et, ut, ht⟩ : ∃ c e u, takeF (tagB 2) (x.drop (u0 + u1)) = (c, e, u) := ⟨_, _, _, rfl⟩
        have hft := field_take (0 : Int) readTimeF 2 _ _ _ _ ht (readIn_take _ _ _ _ _ ht)
        rw [HF.out] at hft
        obtain ⟨v, ev, uv, hv⟩ : ∃ c e u, readTimeF cont = (c, e, u) := ⟨_, _, _, rfl⟩
        obtain ⟨ew, hw⟩ : ∃ ew, (if ev = 0 ∧ uv < cont.length then 6 else ev) = ew := ⟨_, rfl⟩
        have hut := takeF_used _ _ _ _ _ ht
        rw [List.length_drop] at hut
        have HTG := Lib.hid (show Calls Tryd.prog 62 #[.slice A1 x.length c1, .int .i64 ((u0 + u1 : Nat) : Int), .int .i64 2] wr _ from DTagged_at A1 c1 x (u0 + u1) (by omega) 2 (by omega) cont et ut ht wr hbr)
        have HTM := Lib.hid (fun (A9 : Option Addr) (c9 : Nat) (hb9 : BS wr (.slice A9 cont.length c9) cont) => show Calls Tryd.prog 63 #[.slice A9 cont.length c9, .int .i64 0] wr (fun en w' => en = .returned (.tuple #[.int .i64 v, .int .i64 ((uv : Nat) : Int), .int .i64 (ev : Int)]) ∧ wr = w') from (DTime_at A9 c9 cont 0 (by omega) v ev uv (by rw [List.drop_zero]; exact hv) wr hb9).mono (fun en w' h => by rw [Nat.zero_add] at h; exact h))
        have HWH := Lib.hid (fun (A9 : Option Addr) (c9 : Nat) => DWhole_at A9 c9 cont uv ev ew hw wr)
        have HFT := Lib.hid (And.intro hft.1 (fun h => hft.2 h v ev uv ew hv hw))
        clear ht hft hv hw
        obtain ⟨q0, q1, q2, q3⟩ := hTr.cells
        have f0 := hTr.soft 0; have f1 := hTr.soft 1; have f2 := hTr.soft 2; have f3 := hTr.soft 3
        obtain ⟨WF, hWF, hxF, d0, d1, d2, d3⟩ := put4 hxr (Nat.le_refl _) hTr 0 0 0 0
        obtain ⟨y0, y1, y2, y3⟩ := hAr.cells
        have g2 := hAr.soft 2
        have HBR := Lib.hid hbr; have HXR := Lib.hid hxr; have HTR := Lib.hid hTr; have HAR := Lib.hid hAr; have HN := Lib.hid hn
        clear hbr hxr hTr hAr hn
        by_cases het : et = 0
        · subst het
          by_cases hew : ew = 0
          · subst hew
            have hq := (HFT.out.2 rfl).2 rfl
            simp only [Prod.mk.injEq] at hq
            have HEQ := Lib.hid hq; clear hq
            go_wp2_with fail
            refine HTG.out.mono ?_
            rintro en w' ⟨A9, c9, rfl, hb9, rfl⟩
            have HB9 := Lib.hid hb9; clear hb9
            go_wp2_with fail
            refine (HTM.out A9 c9 HB9.out).mono ?_
            rintro en w' ⟨rfl, rfl⟩
            go_wp2_with fail
            refine (HWH.out A9 c9).mono ?_
            rintro en w' ⟨rfl, rfl⟩
            obtain ⟨W7, hW7, hx7, hT7, hA7, hb7⟩ : ∃ W7, wr.setCell ⟨w.heap.size + 1, 2, none⟩ (.int .i64 v) = W7 ∧ Ext w W7 ∧ TB W7 w.heap.size 0 0 0 0 ∧ B4 97 W7 (w.heap.size + 1) a' s' v 0 ∧ BS W7 (.slice A1 x.length c1) x := by
              have hg : wr.grownBy (wr.setCell ⟨w.heap.size + 1, 2, none⟩ (.int .i64 v)) (some (w.heap.size + 1)) := grown_set (grown_refl _ _) 2 _
              exact ⟨_, rfl, Ext.of_grown HXR.out hg (by omega), HTR.out.but (by omega) hg, HAR.out.set2 v, HBR.out.but HAR.out.noU8 hg⟩
            have HX7 := Lib.hid hx7; have HT7 := Lib.hid hT7; have HA7 := Lib.hid hA7; have HB7 := Lib.hid hb7; clear hx7 hT7 hA7 hb7
            go_wp2_with fail
            have hk1 : u0 + u1 + ut ≤ x.length := by omega
            go_roundg 2
            case measure => have := HN.out; omega
            case rel => exact ⟨3, u0 + u1 + ut, a', s', v, 0, rfl, by omega, rfl, by simp, .inr (.inr (.inr (.inl ⟨rfl, by rw [HEQ.out.2.2], Z0.out, Z1.out, HEQ.out.2.1, rfl, rfl, HEQ.out.1, rfl⟩))), hk1, HX7.out, HT7.out, HA7.out, HB7.out⟩
          · have hen : ((ew : Int) != 0) = true := by rw [bne_iff_ne]; omega
            have hq := (HFT.out.2 rfl).1 hew
            simp only [Prod.mk.injEq] at hq
            have HEQ := Lib.hid hq.2.1; have HEW := Lib.hid hew; clear hq hew
            go_wp2_with fail
            refine HTG.out.mono ?_
            rintro en w' ⟨A9, c9, rfl, hb9, rfl⟩
            have HB9 := Lib.hid hb9; clear hb9
            go_wp2_with fail
            refine (HTM.out A9 c9 HB9.out).mono ?_
            rintro en w' ⟨rfl, rfl⟩
            go_wp2_with fail
            refine (HWH.out A9 c9).mono ?_
            rintro en w' ⟨rfl, rfl⟩
            go_wp2_with fail
            refine bodyPost_ret (v := .tuple #[.agg #[.int .i64 0, .int .i64 0, .int .i64 0, .int .i64 0], .int .i64 (at_ : Int), .int .i64 (ew : Int)]) (by simp [results, Tryd.results32, go_sem, d0, d1, d2, d3]; try rfl) rfl ?_
            have hk := HK.out.2.2.1 Z0.out Z1.out (by rw [HEQ.out]; exact HEW.out)
            rw [HEQ.out] at hk
            simp only [Prod.mk.injEq] at hk
            obtain ⟨⟨rfl, rfl, rfl, rfl⟩, rfl, rfl⟩ := hk
            exact ⟨by simp, hxF⟩
        · have hen : ((et : Int) != 0) = true := by rw [bne_iff_ne]; omega
          have hq := HFT.out.1 het
          simp only [Prod.mk.injEq] at hq
          have HEQ := Lib.hid hq.2.1; have HEW := Lib.hid het; clear hq het
          go_wp2_with fail
          refine HTG.out.mono ?_
          rintro en w' ⟨A9, c9, rfl, hb9, rfl⟩
          have HB9 := Lib.hid hb9; clear hb9
          go_wp2_with fail
          refine bodyPost_ret (v := .tuple #[.agg #[.int .i64 0, .int .i64 0, .int .i64 0, .int .i64 0], .int .i64 (at_ : Int), .int .i64 (et : Int)]) (by simp [results, Tryd.results32, go_sem, d0, d1, d2, d3]; try rfl) rfl ?_
          have hk := HK.out.2.2.1 Z0.out Z1.out (by rw [HEQ.out]; exact HEW.out)
          rw [HEQ.out] at hk
          simp only [Prod.mk.injEq] at hk
          obtain ⟨⟨rfl, rfl, rfl, rfl⟩, rfl, rfl⟩ := hk
          exact ⟨by simp, hxF⟩
      · rw [show ((3 : Nat) : Int) = 3 from rfl]
        have Z0 := Lib.hid z0; clear z0
        have Z1 := Lib.hid z1; clear z1
        have Z2 := Lib.hid z2; clear z2
        obtain ⟨A'', c'', he, kk1, kk2, kk3⟩ := hbr.open_
        injection he with e9 _ e8
        subst e9; subst e8
        unfold maxLen at kk2
        rcases tagged_cases 3 (x.drop (u0 + u1 + u2)) with ⟨ht9, hab⟩ | ⟨⟨hne9, hb9⟩, hrest9⟩
        · rcases HLAST.out with ⟨_, hq⟩ | ⟨hq, _⟩
          · simp only [Prod.mk.injEq] at hq
            obtain ⟨hr9, rfl, rfl⟩ := hq
            rw [← hr9] at hAr
            clear hr9
            have hk0 := HK.out; simp only [Nat.add_zero] at hk0; clear HK; have HK := Lib.hid hk0; clear hk0
            have z0 := Z0.out; have z1 := Z1.out; have z2 := Z2.out
            by_cases hkl : u0 + u1 + u2 < x.length
            · obtain ⟨ad, rfl, _, hc⟩ := kk3 (by omega)
              have hc1 := hc (u0 + u1 + u2) hkl
              obtain ⟨y, hy⟩ : ∃ y : Int, y = (x[u0 + u1 + u2].toNat : Int) := ⟨_, rfl⟩
              have hyn : (y != 163) = true := by
                rw [bne_iff_ne, hy]
                intro hh
                rcases hab with hab | hab
                · have := List.drop_eq_nil_iff.1 hab; omega
                · apply hab
                  rw [List.getElem?_drop, Nat.add_zero, List.getElem?_eq_getElem hkl]
                  apply UInt8.toNat_inj.1
                  simp only [Option.getD_some]
                  have : (tagB 3).toNat = 163 := rfl
                  omega
              have hge : ¬ ((x.length : Int) ≤ ((u0 + u1 + u2 : Nat) : Int)) := by omega
              have hge8 : decide (x.length ≤ u0 + u1 + u2) = false := decide_eq_false (by omega)
              rw [← hy] at hc1
              have hy0 : 0 ≤ y := by omega
              have hy1 : y ≤ 255 := by have := (x[u0 + u1 + u2]).toNat_lt; omega
              clear hc kk3 hab ht9 hy
              obtain ⟨y0, y1, y2, y3⟩ := hAr.cells
              obtain ⟨W4, hW4, hx4, hT4, hT4n⟩ : ∃ W4, wr.alloc (.cells #[.int .i64 a', .int .i64 s', .int .i64 e', .int .i64 r'] 27) = W4 ∧ Ext wr W4 ∧ TB W4 wr.heap.size a' s' e' r' ∧ TB W4 w.heap.size 0 0 0 0 := ⟨_, rfl, (Ext.refl _).alloc _, heap_alloc_new wr _, hTr.ext ((Ext.refl _).alloc _)⟩
              have HX4 := Lib.hid (hxr.trans hx4); have HT4 := Lib.hid hT4; have HT4N := Lib.hid hT4n; clear hx4 hT4 hT4n
              by_cases hlt : u0 + u1 + u2 < x.length
              · have hq9 : ((u0 + u1 + u2 : Nat) : Int) < (x.length : Int) := by omega
                have hq8 : decide (u0 + u1 + u2 < x.length) = true := decide_eq_true hlt
                have HLT := Lib.hid hlt; clear hlt
                obtain ⟨q0, q1, q2, q3⟩ := HT4N.out.cells
                have f0 := HT4N.out.soft 0; have f1 := HT4N.out.soft 1; have f2 := HT4N.out.soft 2; have f3 := HT4N.out.soft 3
                obtain ⟨WF, hWF, hxF, d0, d1, d2, d3⟩ := put4 HX4.out (Nat.le_refl _) HT4N.out 0 0 0 0
                go_wp2_with fail
                refine bodyPost_ret (v := .tuple #[.agg #[.int .i64 0, .int .i64 0, .int .i64 0, .int .i64 0], .int .i64 (at_ : Int), .int .i64 (6 : Int)]) (by simp [results, Tryd.results32, go_sem, d0, d1, d2, d3]; try rfl) rfl ?_
                have hk := HK.out.2.2.2.2.1 z0 z1 z2 (by trivial) (.inl HLT.out)
                simp only [Prod.mk.injEq] at hk
                obtain ⟨⟨rfl, rfl, rfl, rfl⟩, rfl, rfl⟩ := hk
                exact ⟨by simp, hxF⟩
              · exact absurd hkl hlt
            · have hge : ((x.length : Int) ≤ ((u0 + u1 + u2 : Nat) : Int)) := by omega
              have hge8 : decide (x.length ≤ u0 + u1 + u2) = true := decide_eq_true (by omega)
              clear kk3 hab ht9
              obtain ⟨y0, y1, y2, y3⟩ := hAr.cells
              obtain ⟨W4, hW4, hx4, hT4, hT4n⟩ : ∃ W4, wr.alloc (.cells #[.int .i64 a', .int .i64 s', .int .i64 e', .int .i64 r'] 27) = W4 ∧ Ext wr W4 ∧ TB W4 wr.heap.size a' s' e' r' ∧ TB W4 w.heap.size 0 0 0 0 := ⟨_, rfl, (Ext.refl _).alloc _, heap_alloc_new wr _, hTr.ext ((Ext.refl _).alloc _)⟩
              have HX4 := Lib.hid (hxr.trans hx4); have HT4 := Lib.hid hT4; have HT4N := Lib.hid hT4n; clear hx4 hT4 hT4n
              by_cases hlt : u0 + u1 + u2 < x.length
              · exact absurd hlt hkl
              · have hq9 : ¬ ((u0 + u1 + u2 : Nat) : Int) < (x.length : Int) := by omega
                have hq8 : decide (u0 + u1 + u2 < x.length) = false := decide_eq_false hlt
                have HLT := Lib.hid hlt; clear hlt
                obtain ⟨t0, t1, t2, t3⟩ := HT4.out.cells
                obtain ⟨vb, hvb⟩ : ∃ vb, validB a' s' e' r' = vb := ⟨_, rfl⟩
                have HV := Lib.hid (LVal_is a' s' e' r' vb hvb W4)
                have HVB := Lib.hid hvb; clear hvb
                go_wp2_with fail
                refine HV.out.mono ?_
                rintro en w5 ⟨rfl, hx5⟩
                have hT5 := HT4N.out.ext hx5; have hT6 := HT4.out.ext hx5; have hx6 := HX4.out.trans hx5
                clear t0 t1 t2 t3
                obtain ⟨t0, t1, t2, t3⟩ := hT6.cells
                cases vb
                · have HX6 := Lib.hid hx6
                  obtain ⟨q0, q1, q2, q3⟩ := hT5.cells
                  have f0 := hT5.soft 0; have f1 := hT5.soft 1; have f2 := hT5.soft 2; have f3 := hT5.soft 3
                  obtain ⟨WF, hWF, hxF, d0, d1, d2, d3⟩ := put4 HX6.out (Nat.le_refl _) hT5 0 0 0 0
                  clear hx5 hT5 hT6 hx6
                  go_wp2_with fail
                  refine bodyPost_ret (v := .tuple #[.agg #[.int .i64 0, .int .i64 0, .int .i64 0, .int .i64 0], .int .i64 (at_ : Int), .int .i64 (6 : Int)]) (by simp [results, Tryd.results32, go_sem, d0, d1, d2, d3]; try rfl) rfl ?_
                  have hk := HK.out.2.2.2.2.1 z0 z1 z2 (by trivial) (.inr HVB.out)
                  simp only [Prod.mk.injEq] at hk
                  obtain ⟨⟨rfl, rfl, rfl, rfl⟩, rfl, rfl⟩ := hk
                  exact ⟨by simp, hxF⟩
                · obtain ⟨q0, q1, q2, q3⟩ := hT5.cells
                  have f0 := hT5.soft 0; have f1 := hT5.soft 1; have f2 := hT5.soft 2; have f3 := hT5.soft 3
                  obtain ⟨WF, hWF, hxF, d0, d1, d2, d3⟩ := put4 hx6 (Nat.le_refl _) hT5 a' s' e' r'
                  clear hx5 hT5 hT6 hx6
                  go_wp2_with fail
                  refine bodyPost_ret (v := .tuple #[.agg #[.int .i64 a', .int .i64 s', .int .i64 e', .int .i64 r'], .int .i64 ((at_ + ux : Nat) : Int), .int .i64 0]) (by simp [results, Tryd.results32, go_sem, d0, d1, d2, d3]; try rfl) rfl ?_
                  have hk := HK.out.2.2.2.2.2 z0 z1 z2 (by trivial) (by rw [HVB.out]; intro hh; rcases hh with hh | hh; exact HLT.out hh; cases hh)
                  simp only [Prod.mk.injEq] at hk
                  obtain ⟨⟨rfl, rfl, rfl, rfl⟩, rfl, rfl⟩ := hk
                  exact ⟨rfl, hxF⟩
          · exact absurd ht9 hq
        · rcases HLAST.out with ⟨hq, _⟩ | ⟨_, v9, er9, u9, hF9, hcs⟩
          · exfalso
            rcases tagged_cases 3 (x.drop (u0 + u1 + u2)) with ⟨_, hab⟩ | ⟨_, ⟨x5, u5, h5, _⟩ | ⟨er5, h5, h6, _⟩⟩
            · rcases hab with hab | hab; exact hne9 hab; exact hab hb9
            · rw [hq] at h5; simp at h5
            · rw [hq] at h6; simp only [Prod.mk.injEq] at h6; exact h5 h6.2.2.1.symm
          · have hkl : u0 + u1 + u2 < x.length := by
              rcases Nat.lt_or_ge (u0 + u1 + u2) x.length with h | h
              · exact h
              · exact absurd (List.drop_eq_nil_of_le h) hne9
            obtain ⟨ad, rfl, _, hc⟩ := kk3 (by omega)
            have hc1 := hc (u0 + u1 + u2) hkl
            obtain ⟨y, hy⟩ : ∃ y : Int, y = (x[u0 + u1 + u2].toNat : Int) := ⟨_, rfl⟩
            have hy9 : y = 163 := by
              rw [List.getElem?_drop, Nat.add_zero, List.getElem?_eq_getElem hkl] at hb9
              simp only [Option.getD_some] at hb9
              rw [hy, hb9]; rfl
            rw [← hy, hy9] at hc1
            have hge : ¬ ((x.length : Int) ≤ ((u0 + u1 + u2 : Nat) : Int)) := by omega
            have hge8 : decide (x.length ≤ u0 + u1 + u2) = false := decide_eq_false (by omega)
            clear hc kk3 hb9 hne9 hrest9 hy hy9 y
            have HF := Lib.hid hF9; have HL := Lib.hid hcs; clear hF9 hcs
            obtain ⟨cont, et, ut, ht⟩ : ∃ c e u, takeF (tagB 3) (x.drop (u0 + u1 + u2)) = (c, e, u) := ⟨_, _, _, rfl⟩
            have hft := field_take (0 : Int) readTimeF 3 _ _ _ _ ht (readIn_take _ _ _ _ _ ht)
            rw [HF.out] at hft
            obtain ⟨v, ev, uv, hv⟩ : ∃ c e u, readTimeF cont = (c, e, u) := ⟨_, _, _, rfl⟩
            obtain ⟨ew, hw⟩ : ∃ ew, (if ev = 0 ∧ uv < cont.length then 6 else ev) = ew := ⟨_, rfl⟩
            have hut := takeF_used _ _ _ _ _ ht
            rw [List.length_drop] at hut
            have HTG := Lib.hid (show Calls Tryd.prog 62 #[.slice (some ad) x.length c1, .int .i64 ((u0 + u1 + u2 : Nat) : Int), .int .i64 3] wr _ from DTagged_at (some ad) c1 x (u0 + u1 + u2) (by omega) 3 (by omega) cont et ut ht wr hbr)
            have HTM := Lib.hid (fun (A9 : Option Addr) (c9 : Nat) (hb9 : BS wr (.slice A9 cont.length c9) cont) => show Calls Tryd.prog 63 #[.slice A9 cont.length c9, .int .i64 0] wr (fun en w' => en = .returned (.tuple #[.int .i64 v, .int .i64 ((uv : Nat) : Int), .int .i64 (ev : Int)]) ∧ wr = w') from (DTime_at A9 c9 cont 0 (by omega) v ev uv (by rw [List.drop_zero]; exact hv) wr hb9).mono (fun en w' h => by rw [Nat.zero_add] at h; exact h))
            have HWH := Lib.hid (fun (A9 : Option Addr) (c9 : Nat) => DWhole_at A9 c9 cont uv ev ew hw wr)
            have HFT := Lib.hid (And.intro hft.1 (fun h => hft.2 h v ev uv ew hv hw))
            clear ht hft hv hw
            obtain ⟨q0, q1, q2, q3⟩ := hTr.cells
            have f0 := hTr.soft 0; have f1 := hTr.soft 1; have f2 := hTr.soft 2; have f3 := hTr.soft 3
            obtain ⟨WF, hWF, hxF, d0, d1, d2, d3⟩ := put4 hxr (Nat.le_refl _) hTr 0 0 0 0
            obtain ⟨y0, y1, y2, y3⟩ := hAr.cells
            have g3 := hAr.soft 3
            have HBR := Lib.hid hbr; have HXR := Lib.hid hxr; have HTR := Lib.hid hTr; have HAR := Lib.hid hAr; have HN := Lib.hid hn
            clear hbr hxr hTr hAr hn
            by_cases het : et = 0
            · subst het
              by_cases hew : ew = 0
              · subst hew
                have hq := (HFT.out.2 rfl).2 rfl
                simp only [Prod.mk.injEq] at hq
                obtain ⟨rfl, rfl, rfl⟩ := hq
                by_cases hv0 : v9 = 0
                · have HEQ := Lib.hid (lastHL_zero HL.out rfl hv0)
                  have hv1 : (v9 == 0) = true := by rw [beq_iff_eq]; exact hv0
                  go_wp2_with fail
                  refine HTG.out.mono ?_
                  rintro en w' ⟨A9, c9, rfl, hb9, rfl⟩
                  have HB9 := Lib.hid hb9; clear hb9
                  go_wp2_with fail
                  refine (HTM.out A9 c9 HB9.out).mono ?_
                  rintro en w' ⟨rfl, rfl⟩
                  go_wp2_with fail
                  refine (HWH.out A9 c9).mono ?_
                  rintro en w' ⟨rfl, rfl⟩
                  go_wp2_with fail
                  refine bodyPost_ret (v := .tuple #[.agg #[.int .i64 0, .int .i64 0, .int .i64 0, .int .i64 0], .int .i64 (at_ : Int), .int .i64 (6 : Int)]) (by simp [results, Tryd.results32, go_sem, d0, d1, d2, d3]; try rfl) rfl ?_
                  have hk := HK.out.2.2.2.1 Z0.out Z1.out Z2.out (by rw [HEQ.out]; omega)
                  rw [HEQ.out] at hk
                  simp only [Prod.mk.injEq] at hk
                  obtain ⟨⟨rfl, rfl, rfl, rfl⟩, rfl, rfl⟩ := hk
                  exact ⟨by simp, hxF⟩
                · have HEQ := Lib.hid (lastHL_ok HL.out rfl hv0)
                  have hv1 : (v9 == 0) = false := by rw [beq_eq_false_iff_ne]; exact hv0
                  go_wp2_with fail
                  refine HTG.out.mono ?_
                  rintro en w' ⟨A9, c9, rfl, hb9, rfl⟩
                  have HB9 := Lib.hid hb9; clear hb9
                  go_wp2_with fail
                  refine (HTM.out A9 c9 HB9.out).mono ?_
                  rintro en w' ⟨rfl, rfl⟩
                  go_wp2_with fail
                  refine (HWH.out A9 c9).mono ?_
                  rintro en w' ⟨rfl, rfl⟩
                  obtain ⟨v, hvv⟩ : ∃ v, v9 = v := ⟨_, rfl⟩
                  subst hvv
                  obtain ⟨W7, hW7, hx7, hT7, hA7, hb7⟩ : ∃ W7, wr.setCell ⟨w.heap.size + 1, 3, none⟩ (.int .i64 v9) = W7 ∧ Ext w W7 ∧ TB W7 w.heap.size 0 0 0 0 ∧ B4 97 W7 (w.heap.size + 1) a' s' e' v9 ∧ BS W7 (.slice (some ad) x.length c1) x := by
                    have hg : wr.grownBy (wr.setCell ⟨w.heap.size + 1, 3, none⟩ (.int .i64 v9)) (some (w.heap.size + 1)) := grown_set (grown_refl _ _) 3 _
                    exact ⟨_, rfl, Ext.of_grown HXR.out hg (by omega), HTR.out.but (by omega) hg, HAR.out.set3 v9, HBR.out.but HAR.out.noU8 hg⟩
                  have HX7 := Lib.hid hx7; have HT7 := Lib.hid hT7; have HA7 := Lib.hid hA7; have HB7 := Lib.hid hb7; clear hx7 hT7 hA7 hb7
                  go_wp2_with fail
                  have hk1 : u0 + u1 + u2 + u9 ≤ x.length := by omega
                  go_roundg 1
                  case measure => have := HN.out; omega
                  case rel => exact ⟨4, u0 + u1 + u2 + u9, a', s', e', v9, rfl, by omega, rfl, by simp, .inr (.inr (.inr (.inr ⟨rfl, by rw [HEQ.out.2.2], Z0.out, Z1.out, Z2.out, HEQ.out.2.1, rfl, rfl, rfl, HEQ.out.1⟩))), hk1, HX7.out, HT7.out, HA7.out, HB7.out⟩
              · have hen : ((ew : Int) != 0) = true := by rw [bne_iff_ne]; omega
                have hq := (HFT.out.2 rfl).1 hew
                simp only [Prod.mk.injEq] at hq
                have HEQ := Lib.hid (lastHL_err HL.out hq.2.1 hew); have HEW := Lib.hid hew; clear hq hew
                go_wp2_with fail
                refine HTG.out.mono ?_
                rintro en w' ⟨A9, c9, rfl, hb9, rfl⟩
                have HB9 := Lib.hid hb9; clear hb9
                go_wp2_with fail
                refine (HTM.out A9 c9 HB9.out).mono ?_
                rintro en w' ⟨rfl, rfl⟩
                go_wp2_with fail
                refine (HWH.out A9 c9).mono ?_
                rintro en w' ⟨rfl, rfl⟩
                go_wp2_with fail
                refine bodyPost_ret (v := .tuple #[.agg #[.int .i64 0, .int .i64 0, .int .i64 0, .int .i64 0], .int .i64 (at_ : Int), .int .i64 (ew : Int)]) (by simp [results, Tryd.results32, go_sem, d0, d1, d2, d3]; try rfl) rfl ?_
                have hk := HK.out.2.2.2.1 Z0.out Z1.out Z2.out (by rw [HEQ.out]; exact HEW.out)
                rw [HEQ.out] at hk
                simp only [Prod.mk.injEq] at hk
                obtain ⟨⟨rfl, rfl, rfl, rfl⟩, rfl, rfl⟩ := hk
                exact ⟨by simp, hxF⟩
            · have hen : ((et : Int) != 0) = true := by rw [bne_iff_ne]; omega
              have hq := HFT.out.1 het
              simp only [Prod.mk.injEq] at hq
              have HEQ := Lib.hid (lastHL_err HL.out hq.2.1 het); have HEW := Lib.hid het; clear hq het
              go_wp2_with fail
              refine HTG.out.mono ?_
              rintro en w' ⟨A9, c9, rfl, hb9, rfl⟩
              have HB9 := Lib.hid hb9; clear hb9
              go_wp2_with fail
              refine bodyPost_ret (v := .tuple #[.agg #[.int .i64 0, .int .i64 0, .int .i64 0, .int .i64 0], .int .i64 (at_ : Int), .int .i64 (et : Int)]) (by simp [results, Tryd.results32, go_sem, d0, d1, d2, d3]; try rfl) rfl ?_
              have hk := HK.out.2.2.2.1 Z0.out Z1.out Z2.out (by rw [HEQ.out]; exact HEW.out)
              rw [HEQ.out] at hk
              simp only [Prod.mk.injEq] at hk
              obtain ⟨⟨rfl, rfl, rfl, rfl⟩, rfl, rfl⟩ := hk
              exact ⟨by simp, hxF⟩
      · rw [show ((4 : Nat) : Int) = 4 from rfl]
        obtain ⟨y0, y1, y2, y3⟩ := hAr.cells
        obtain ⟨W4, hW4, hx4, hT4, hT4n⟩ : ∃ W4, wr.alloc (.cells #[.int .i64 a', .int .i64 s', .int .i64 e', .int .i64 r'] 27) = W4 ∧ Ext wr W4 ∧ TB W4 wr.heap.size a' s' e' r' ∧ TB W4 w.heap.size 0 0 0 0 := ⟨_, rfl, (Ext.refl _).alloc _, heap_alloc_new wr _, hTr.ext ((Ext.refl _).alloc _)⟩
        have HX4 := Lib.hid (hxr.trans hx4); have HT4 := Lib.hid hT4; have HT4N := Lib.hid hT4n; clear hx4 hT4 hT4n
        by_cases hlt : u0 + u1 + u2 + u3 < x.length
        · have hq9 : ((u0 + u1 + u2 + u3 : Nat) : Int) < (x.length : Int) := by omega
          have hq8 : decide (u0 + u1 + u2 + u3 < x.length) = true := decide_eq_true hlt
          have HLT := Lib.hid hlt; clear hlt
          obtain ⟨q0, q1, q2, q3⟩ := HT4N.out.cells
          have f0 := HT4N.out.soft 0; have f1 := HT4N.out.soft 1; have f2 := HT4N.out.soft 2; have f3 := HT4N.out.soft 3
          obtain ⟨WF, hWF, hxF, d0, d1, d2, d3⟩ := put4 HX4.out (Nat.le_refl _) HT4N.out 0 0 0 0
          go_wp2_with fail
          refine bodyPost_ret (v := .tuple #[.agg #[.int .i64 0, .int .i64 0, .int .i64 0, .int .i64 0], .int .i64 (at_ : Int), .int .i64 (6 : Int)]) (by simp [results, Tryd.results32, go_sem, d0, d1, d2, d3]; try rfl) rfl ?_
          have hk := HK.out.2.2.2.2.1 z0 z1 z2 z3 (.inl HLT.out)
          simp only [Prod.mk.injEq] at hk
          obtain ⟨⟨rfl, rfl, rfl, rfl⟩, rfl, rfl⟩ := hk
          exact ⟨by simp, hxF⟩
        · have hq9 : ¬ ((u0 + u1 + u2 + u3 : Nat) : Int) < (x.length : Int) := by omega
          have hq8 : decide (u0 + u1 + u2 + u3 < x.length) = false := decide_eq_false hlt
          have HLT := Lib.hid hlt; clear hlt
          obtain ⟨t0, t1, t2, t3⟩ := HT4.out.cells
          obtain ⟨vb, hvb⟩ : ∃ vb, validB a' s' e' r' = vb := ⟨_, rfl⟩
          have HV := Lib.hid (LVal_is a' s' e' r' vb hvb W4)
          have HVB := Lib.hid hvb; clear hvb
          go_wp2_with fail
          refine HV.out.mono ?_
          rintro en w5 ⟨rfl, hx5⟩
          have hT5 := HT4N.out.ext hx5; have hT6 := HT4.out.ext hx5; have hx6 := HX4.out.trans hx5
          clear t0 t1 t2 t3
          obtain ⟨t0, t1, t2, t3⟩ := hT6.cells
          cases vb
          · have HX6 := Lib.hid hx6
            obtain ⟨q0, q1, q2, q3⟩ := hT5.cells
            have f0 := hT5.soft 0; have f1 := hT5.soft 1; have f2 := hT5.soft 2; have f3 := hT5.soft 3
            obtain ⟨WF, hWF, hxF, d0, d1, d2, d3⟩ := put4 HX6.out (Nat.le_refl _) hT5 0 0 0 0
            clear hx5 hT5 hT6 hx6
            go_wp2_with fail
            refine bodyPost_ret (v := .tuple #[.agg #[.int .i64 0, .int .i64 0, .int .i64 0, .int .i64 0], .int .i64 (at_ : Int), .int .i64 (6 : Int)]) (by simp [results, Tryd.results32, go_sem, d0, d1, d2, d3]; try rfl) rfl ?_
            have hk := HK.out.2.2.2.2.1 z0 z1 z2 z3 (.inr HVB.out)
            simp only [Prod.mk.injEq] at hk
            obtain ⟨⟨rfl, rfl, rfl, rfl⟩, rfl, rfl⟩ := hk
            exact ⟨by simp, hxF⟩
          · obtain ⟨q0, q1, q2, q3⟩ := hT5.cells
            have f0 := hT5.soft 0; have f1 := hT5.soft 1; have f2 := hT5.soft 2; have f3 := hT5.soft 3
            obtain ⟨WF, hWF, hxF, d0, d1, d2, d3⟩ := put4 hx6 (Nat.le_refl _) hT5 a' s' e' r'
            clear hx5 hT5 hT6 hx6
            go_wp2_with fail
            refine bodyPost_ret (v := .tuple #[.agg #[.int .i64 a', .int .i64 s', .int .i64 e', .int .i64 r'], .int .i64 ((at_ + ux : Nat) : Int), .int .i64 0]) (by simp [results, Tryd.results32, go_sem, d0, d1, d2, d3]; try rfl) rfl ?_
            have hk := HK.out.2.2.2.2.2 z0 z1 z2 z3 (by rw [HVB.out]; intro hh; rcases hh with hh | hh; exact HLT.out hh; cases hh)
            simp only [Prod.mk.injEq] at hk
            obtain ⟨⟨rfl, rfl, rfl, rfl⟩, rfl, rfl⟩ := hk
            exact ⟨rfl, hxF⟩
  · rw [if_neg hex, if_neg hex] at hin
    have hk := timesRd_no _ ex hex hin
    rw [HRES.out] at hk
    have HKN := Lib.hid hk; clear hk hin
    have hen : ((ex : Int) != 0) = true := by rw [bne_iff_ne]; omega
    obtain ⟨W1, hW1, hx1, hT1, hR1⟩ : ∃ W1, w.alloc (.cells #[.int .i64 0, .int .i64 0, .int .i64 0, .int .i64 0] 27) = W1 ∧ Ext w W1 ∧ TB W1 w.heap.size 0 0 0 0 ∧ Calls Tryd.prog 61 #[.slice A0 b.length c0, .int .i64 (at_ : Int), .int .i64 48] W1 (fun en w' => ∃ A' c', en = .returned (.tuple #[.slice A' x.length c', .int .i64 ((at_ + ux : Nat) : Int), .int .i64 (ex : Int)]) ∧ BS W1 (.slice A' x.length c') x ∧ W1 = w') := ⟨_, rfl, HX1.out, HT1.out, HR0.out⟩
    have HR1 := Lib.hid hR1; clear hR1 HR0 HX1 HT1
    obtain ⟨q0, q1, q2, q3⟩ := hT1.cells
    have f0 := hT1.soft 0; have f1 := hT1.soft 1; have f2 := hT1.soft 2; have f3 := hT1.soft 3
    obtain ⟨WF, hWF, hxF, d0, d1, d2, d3⟩ := put4 hx1 (Nat.le_refl _) hT1 0 0 0 0
    have HT1 := Lib.hid hT1; have HX1 := Lib.hid hx1; clear hT1 hx1
    go_enter Tryd.func32, Tryd.ntmps32
    go_wp2_with fail
    refine HR1.out.mono ?_
    rintro en w1 ⟨A1, c1, rfl, hbx, rfl⟩
    clear hbx
    go_wp2_with fail
    refine bodyPost_ret (v := .tuple #[.agg #[.int .i64 0, .int .i64 0, .int .i64 0, .int .i64 0], .int .i64 (at_ : Int), .int .i64 (ex : Int)]) (by simp [results, Tryd.results32, go_sem, d0, d1, d2, d3]; try rfl) rfl ?_
    have hk := HKN.out
    simp only [Prod.mk.injEq] at hk
    obtain ⟨⟨rfl, rfl, rfl, rfl⟩, rfl, rfl⟩ := hk
    exact ⟨by simp, hxF⟩
end Go.Proofs.YtfgmmjpejlpdoaaDoor
