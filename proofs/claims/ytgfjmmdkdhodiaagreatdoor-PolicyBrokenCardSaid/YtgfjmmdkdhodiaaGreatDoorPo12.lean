/- Policy: Times. (wip/tools/genpo12.py printed this.) -/
import Derived.Test.YtgfjmmdkdhodiaaGreatDoorMg13
import Derived.WalkLawsBesides
namespace Go.Proofs.YtgfjmmdkdhodiaaGreatDoor
open Go Go.RowKit
set_option linter.unusedVariables false

theorem ret3 {a b c d e : Int} (h : a = b) (k : c = d) : Ending.returned (.tuple #[.int .i64 a, .int .i64 c, .int .i64 e]) = .returned (.tuple #[.int .i64 b, .int .i64 d, .int .i64 e]) := by rw [h, k]
/-- What Times says: from when on, when it expires, the error. -/
def timesV (p : Pol) (s : Int) : Value :=
  if p.ok = false then .tuple #[.int .i64 0, .int .i64 0, .int .i64 2] else if inB s 0 1099511627776 = false then .tuple #[.int .i64 0, .int .i64 0, .int .i64 3] else
    if p.maxa = 0 then .tuple #[.int .i64 (min (s + p.mina) 1099511627776), .int .i64 0, .int .i64 0] else .tuple #[.int .i64 (min (s + p.mina) 1099511627776), .int .i64 (min (s + p.maxa) 1099511627776), .int .i64 0]
set_option maxRecDepth 100000 in
set_option maxHeartbeats 2000000 in
theorem Times_at (p : Pol) (hs : p.nm.size ≤ 4294967280) (s : Int) (w : World) :
    Calls Tryz.prog 20 #[p.v, .int .i64 s] w fun e w' => e = .returned (timesV p s) ∧ Ext w w' := by
  have HV := Lib.hid (PoValid_at p hs)
  have HS := Lib.hid (between_at s 0 1099511627776)
  have h0 := heap_alloc_new w (.cells p.cs 23)
  obtain ⟨W1, e1⟩ : ∃ W, w.alloc (.cells p.cs 23) = W := ⟨_, rfl⟩
  have x1 : Ext w W1 := e1 ▸ (Ext.refl w).alloc _
  rw [e1] at h0
  obtain ⟨c0, c1, c2, c3, c4, c5, c6, c7, c8, c9⟩ := PL.cells h0
  have HX := Lib.hid x1; have HP := Lib.hid (show PL W1 w.heap.size p from h0)
  clear h0 x1
  unfold timesV
  cases hok : p.ok with
  | false =>
    rw [hok] at HV
    rw [if_pos rfl]
    clear hok
    go_enter Tryz.func20, Tryz.ntmps20
    unfold Pol.v
    unfold Pol.cs at e1
    go_wp2_with fail
    refine (HV.out W1).mono ?_
    rintro _ w1 ⟨rfl, hx1⟩
    have HX1 := Lib.hid (HX.out.trans hx1)
    clear hx1
    go_wp2_with fail
    go_ret3
    exact ⟨rfl, HX1.out⟩
  | true =>
    rw [hok] at HV
    rw [if_neg (by simp)]
    obtain ⟨b5, b6⟩ : (0 ≤ p.mina ∧ p.mina ≤ 1099511627776) ∧ (0 ≤ p.maxa ∧ p.maxa ≤ 1099511627776) := ⟨((Pol.ok_iff p).1 hok).mina, ((Pol.ok_iff p).1 hok).maxa⟩
    obtain ⟨b5a, b5b⟩ := b5
    obtain ⟨b6a, b6b⟩ := b6
    clear hok
    cases hin : inB s 0 1099511627776 with
    | false =>
      rw [hin] at HS
      rw [if_pos rfl]
      clear hin
      go_enter Tryz.func20, Tryz.ntmps20
      unfold Pol.v
      unfold Pol.cs at e1
      go_wp2_with fail
      refine (HV.out W1).mono ?_
      rintro _ w1 ⟨rfl, hx1⟩
      have HX1 := Lib.hid (HX.out.trans hx1)
      clear hx1
      go_wp2_with fail
      refine (HS.out w1).mono ?_
      rintro _ w2 ⟨rfl, rfl⟩
      go_wp2_with fail
      go_ret3
      exact ⟨rfl, HX1.out⟩
    | true =>
      rw [hin] at HS
      rw [if_neg (by simp)]
      obtain ⟨s0, s1⟩ : 0 ≤ s ∧ s ≤ 1099511627776 := by
        unfold inB at hin
        simp only [Bool.and_eq_true, decide_eq_true_eq] at hin
        exact hin
      clear hin
      by_cases hz : p.maxa = 0
      · have qz : (p.maxa != 0) = false := by rw [bne_eq_false_iff_eq]; exact hz
        have qy : ¬ 0 < p.maxa := by omega
        rw [if_pos hz]
        clear hz
        go_enter Tryz.func20, Tryz.ntmps20
        unfold Pol.v
        unfold Pol.cs at e1
        go_wp2_with fail
        refine (HV.out W1).mono ?_
        rintro _ w1 ⟨rfl, hx1⟩
        obtain ⟨k0, k1, k2, k3, k4, k5, k6, k7, k8, k9⟩ := (HP.out.ext hx1).cells
        have HX1 := Lib.hid (HX.out.trans hx1)
        clear hx1
        go_wp2_with fail
        refine (HS.out w1).mono ?_
        rintro _ w2 ⟨rfl, rfl⟩
        go_wp2_with fail
        all_goals
          go_ret3
          exact ⟨by first | exact ret3 (by omega) (by omega) | rfl, HX1.out⟩
      · have qz : (p.maxa != 0) = true := by rw [bne_iff_ne]; exact hz
        have qy : 0 < p.maxa := by omega
        rw [if_neg hz]
        clear hz
        go_enter Tryz.func20, Tryz.ntmps20
        unfold Pol.v
        unfold Pol.cs at e1
        go_wp2_with fail
        refine (HV.out W1).mono ?_
        rintro _ w1 ⟨rfl, hx1⟩
        obtain ⟨k0, k1, k2, k3, k4, k5, k6, k7, k8, k9⟩ := (HP.out.ext hx1).cells
        have HX1 := Lib.hid (HX.out.trans hx1)
        clear hx1
        go_wp2_with fail
        refine (HS.out w1).mono ?_
        rintro _ w2 ⟨rfl, rfl⟩
        go_wp2_with fail
        all_goals
          go_ret3
          exact ⟨by first | exact ret3 (by omega) (by omega) | rfl, HX1.out⟩
end Go.Proofs.YtgfjmmdkdhodiaaGreatDoor
