/- Lifetimes: request.times. -/
import Derived.Test.YtfgmmjpejlpdoaaGreatDoorLt3
import Derived.Handy
namespace Go.Proofs.YtfgmmjpejlpdoaaGreatDoor
open Go Go.RowKit

/-- The times behind k rules. -/
def stA (a1 : Int) (k : Nat) : Int := if k = 0 then 0 else a1
def stS (s1 : Int) (k : Nat) : Int := if k ≤ 1 then 0 else s1
def stE (e1 : Int) (k : Nat) : Int := if k ≤ 2 then 0 else e1
def stR (r1 : Int) (k : Nat) : Int := if k ≤ 3 then 0 else r1

set_option maxRecDepth 100000 in
theorem times_is (f t n l m now skew a1 s1 e1 r1 A S E Q er : Int) (hres : Hid ((e1 ≤ s1 ∧ A = 0 ∧ S = 0 ∧ E = 0 ∧ Q = 0 ∧ er = 143) ∨ (¬ e1 ≤ s1 ∧ A = a1 ∧ S = s1 ∧ E = e1 ∧ Q = r1 ∧ er = 0))) (B : Option Addr) (w : World)
    (H1 : Hid (∀ (w1 : World) (R T : Nat), Ext w w1 → RQ w1 R f t n l m now skew B → TB w1 T 0 0 0 0 → R ≠ T → w.heap.size ≤ T → Calls Tryz.prog 54 #[.pointer (some ⟨R, 0, none⟩), .pointer (some ⟨T, 0, none⟩)] w1 fun en w' => en = .returned (.tuple #[]) ∧ TB w' T a1 0 0 0 ∧ w1.grownBy w' (some T)))
    (H2 : Hid (∀ (w1 : World) (R T : Nat), Ext w w1 → RQ w1 R f t n l m now skew B → TB w1 T a1 0 0 0 → R ≠ T → w.heap.size ≤ T → Calls Tryz.prog 55 #[.pointer (some ⟨R, 0, none⟩), .pointer (some ⟨T, 0, none⟩)] w1 fun en w' => en = .returned (.tuple #[]) ∧ TB w' T a1 s1 0 0 ∧ w1.grownBy w' (some T)))
    (H3 : Hid (∀ (w1 : World) (R T : Nat), Ext w w1 → RQ w1 R f t n l m now skew B → TB w1 T a1 s1 0 0 → R ≠ T → w.heap.size ≤ T → Calls Tryz.prog 57 #[.pointer (some ⟨T, 0, none⟩), .pointer (some ⟨R, 0, none⟩)] w1 fun en w' => en = .returned (.tuple #[]) ∧ TB w' T a1 s1 e1 0 ∧ w1.grownBy w' (some T)))
    (H4 : Hid (∀ (w1 : World) (R T : Nat), Ext w w1 → RQ w1 R f t n l m now skew B → TB w1 T a1 s1 e1 0 → R ≠ T → w.heap.size ≤ T → Calls Tryz.prog 58 #[.pointer (some ⟨R, 0, none⟩), .pointer (some ⟨T, 0, none⟩)] w1 fun en w' => en = .returned (.tuple #[]) ∧ TB w' T a1 s1 e1 r1 ∧ w1.grownBy w' (some T))) :
    Calls Tryz.prog 32 #[.agg #[.int .i64 f, .int .i64 t, .int .i64 n, .int .i64 l, .int .i64 m, .int .i64 now, .int .i64 skew, .pointer B]] w fun en w' =>
      en = .returned (.tuple #[.agg #[.int .i64 A, .int .i64 S, .int .i64 E, .int .i64 Q], .int .i64 er]) ∧ Ext w w' := by
  have hmf : ∀ (fn : Fn) (first cap : Array Value) (w : World), (Instr.makeFunc fn first cap).run Tryz.prog w = .ok (.func fn first cap) w := fun _ _ _ _ => rfl
  go_enter Tryz.func32, Tryz.ntmps32
  go_wp2_with fail
  obtain ⟨z, hz⟩ : ∃ z, z = w.heap.size := ⟨_, rfl⟩
  obtain ⟨z2, hz2⟩ : ∃ z2, z2 = w.heap.size + 1 + 1 := ⟨_, rfl⟩
  have hR0 : RQ (w.alloc (.cells #[.int .i64 f, .int .i64 t, .int .i64 n, .int .i64 l, .int .i64 m, .int .i64 now, .int .i64 skew, .pointer B] 72)) w.heap.size f t n l m now skew B := heap_alloc_new w _
  obtain ⟨wa, hwa⟩ : ∃ wa, wa = w.alloc (.cells #[.int .i64 f, .int .i64 t, .int .i64 n, .int .i64 l, .int .i64 m, .int .i64 now, .int .i64 skew, .pointer B] 72) := ⟨_, rfl⟩
  have hxa : Ext w wa := hwa ▸ (Ext.refl w).alloc _
  have hza : wa.heap.size = w.heap.size + 1 := by rw [hwa]; simp
  rw [← hwa] at hR0 ⊢
  clear hwa
  have hT1 : TB (wa.alloc (.cells #[.int .i64 0, .int .i64 0, .int .i64 0, .int .i64 0] 23)) wa.heap.size 0 0 0 0 := heap_alloc_new wa _
  rw [hza] at hT1
  obtain ⟨wb, hwb⟩ : ∃ wb, wb = wa.alloc (.cells #[.int .i64 0, .int .i64 0, .int .i64 0, .int .i64 0] 23) := ⟨_, rfl⟩
  have hxb : Ext wa wb := hwb ▸ (Ext.refl wa).alloc _
  have hzb : wb.heap.size = w.heap.size + 1 + 1 := by rw [hwb]; simp [hza]
  rw [← hwb] at hT1 ⊢
  clear hwb
  have hF := heap_alloc_new wb (.cells #[.func (.func 54) #[] #[.pointer (some ⟨w.heap.size, 0, none⟩), .pointer (some ⟨w.heap.size + 1, 0, none⟩)], .func (.func 55) #[] #[.pointer (some ⟨w.heap.size, 0, none⟩), .pointer (some ⟨w.heap.size + 1, 0, none⟩)], .func (.func 57) #[] #[.pointer (some ⟨w.heap.size + 1, 0, none⟩), .pointer (some ⟨w.heap.size, 0, none⟩)], .func (.func 58) #[] #[.pointer (some ⟨w.heap.size, 0, none⟩), .pointer (some ⟨w.heap.size + 1, 0, none⟩)]] 1)
  rw [hzb] at hF
  obtain ⟨wc, hwc⟩ : ∃ wc, wc = wb.alloc (.cells #[.func (.func 54) #[] #[.pointer (some ⟨w.heap.size, 0, none⟩), .pointer (some ⟨w.heap.size + 1, 0, none⟩)], .func (.func 55) #[] #[.pointer (some ⟨w.heap.size, 0, none⟩), .pointer (some ⟨w.heap.size + 1, 0, none⟩)], .func (.func 57) #[] #[.pointer (some ⟨w.heap.size + 1, 0, none⟩), .pointer (some ⟨w.heap.size, 0, none⟩)], .func (.func 58) #[] #[.pointer (some ⟨w.heap.size, 0, none⟩), .pointer (some ⟨w.heap.size + 1, 0, none⟩)]] 1) := ⟨_, rfl⟩
  have hxc : Ext wb wc := hwc ▸ (Ext.refl wb).alloc _
  have hzc : wc.heap.size = w.heap.size + 1 + 1 + 1 := by rw [hwc]; simp [hzb]
  rw [← hwc] at hF ⊢
  clear hwc
  have hTc := hT1.ext hxc
  have hRc := (hR0.ext hxb).ext hxc
  have hxw := (hxa.trans hxb).trans hxc
  have HF := Lib.hid hF; have HT := Lib.hid hTc; have HR := Lib.hid hRc; have HX := Lib.hid hxw
  clear hF hTc hRc hxw hT1 hR0 hxa hxb hxc hz hz2 hza hzb
  have HZ := Lib.hid hzc; clear hzc
  go_loopw [14] (fun i wr => ∃ k : Nat, k ≤ 4 ∧ i = .int .i64 k ∧ TB wr (w.heap.size + 1) (stA a1 k) (stS s1 k) (stE e1 k) (stR r1 k) ∧ wc.grownBy wr (some (w.heap.size + 1))) (fun i _ => 4 - (intOf i).toNat)
  case atStart => exact ⟨0, by omega, rfl, HT.out, grown_refl _ _⟩
  case round =>
    obtain ⟨k, hk, rfl, hT, hg⟩ := hrel
    have hxr : Ext w wr := HX.out.grown hg (fun j hj => by injection hj with hj; omega)
    have hRr := HR.out.but (show w.heap.size ≠ w.heap.size + 1 by omega) hg
    have hzc := HZ.out
    have hFr := (hg.block (w.heap.size + 1 + 1) (by omega) (by intro e; injection e with e; omega)).trans HF.out
    clear hzc
    have HXR := Lib.hid hxr; have HRR := Lib.hid hRr; have HTR := Lib.hid hT; have HG := Lib.hid hg
    clear hxr hRr hg
    rcases (show k = 0 ∨ k = 1 ∨ k = 2 ∨ k = 3 ∨ k = 4 by omega) with rfl | rfl | rfl | rfl | rfl
    · have hc : wr.cell? ⟨w.heap.size + 1 + 1, 0, none⟩ = some (.func (.func 54) #[] #[.pointer (some ⟨w.heap.size, 0, none⟩), .pointer (some ⟨w.heap.size + 1, 0, none⟩)]) := by rw [cell_of_row _ _ 0 _ _ (0, 0) hFr]; rfl
      clear hFr hT
      go_wp2_with fail
      refine (H1.out _ _ _ HXR.out HRR.out HTR.out (by omega) (by omega)).mono ?_
      rintro en w2 ⟨rfl, hT2, hg2⟩
      have HT2 := Lib.hid hT2; have HG2 := Lib.hid hg2; clear hT2 hg2
      go_wp2_with fail
      go_roundw
      case rel => exact ⟨1, by omega, by go_num, HT2.out, grown_trans HG.out HG2.out⟩
      case measure => simp [intOf]
    · have hc : wr.cell? ⟨w.heap.size + 1 + 1, 1, none⟩ = some (.func (.func 55) #[] #[.pointer (some ⟨w.heap.size, 0, none⟩), .pointer (some ⟨w.heap.size + 1, 0, none⟩)]) := by rw [cell_of_row _ _ 1 _ _ (0, 0) hFr]; rfl
      clear hFr hT
      go_wp2_with fail
      refine (H2.out _ _ _ HXR.out HRR.out HTR.out (by omega) (by omega)).mono ?_
      rintro en w2 ⟨rfl, hT2, hg2⟩
      have HT2 := Lib.hid hT2; have HG2 := Lib.hid hg2; clear hT2 hg2
      go_wp2_with fail
      go_roundw
      case rel => exact ⟨2, by omega, by go_num, HT2.out, grown_trans HG.out HG2.out⟩
      case measure => simp [intOf]
    · have hc : wr.cell? ⟨w.heap.size + 1 + 1, 2, none⟩ = some (.func (.func 57) #[] #[.pointer (some ⟨w.heap.size + 1, 0, none⟩), .pointer (some ⟨w.heap.size, 0, none⟩)]) := by rw [cell_of_row _ _ 2 _ _ (0, 0) hFr]; rfl
      clear hFr hT
      go_wp2_with fail
      refine (H3.out _ _ _ HXR.out HRR.out HTR.out (by omega) (by omega)).mono ?_
      rintro en w2 ⟨rfl, hT2, hg2⟩
      have HT2 := Lib.hid hT2; have HG2 := Lib.hid hg2; clear hT2 hg2
      go_wp2_with fail
      go_roundw
      case rel => exact ⟨3, by omega, by go_num, HT2.out, grown_trans HG.out HG2.out⟩
      case measure => simp [intOf]
    · have hc : wr.cell? ⟨w.heap.size + 1 + 1, 3, none⟩ = some (.func (.func 58) #[] #[.pointer (some ⟨w.heap.size, 0, none⟩), .pointer (some ⟨w.heap.size + 1, 0, none⟩)]) := by rw [cell_of_row _ _ 3 _ _ (0, 0) hFr]; rfl
      clear hFr hT
      go_wp2_with fail
      refine (H4.out _ _ _ HXR.out HRR.out HTR.out (by omega) (by omega)).mono ?_
      rintro en w2 ⟨rfl, hT2, hg2⟩
      have HT2 := Lib.hid hT2; have HG2 := Lib.hid hg2; clear hT2 hg2
      go_wp2_with fail
      go_roundw
      case rel => exact ⟨4, by omega, by go_num, HT2.out, grown_trans HG.out HG2.out⟩
      case measure => simp [intOf]
    · change TB wr (w.heap.size + 1) a1 s1 e1 r1 at hT
      have HT4 := Lib.hid hT
      obtain ⟨c0, c1, c2, c3⟩ := hT.cells
      have f0 := hT.soft 0; have f1 := hT.soft 1; have f2 := hT.soft 2; have f3 := hT.soft 3
      clear hFr hT
      rcases hres.out with ⟨h, rfl, rfl, rfl, rfl, rfl⟩ | ⟨h, rfl, rfl, rfl, rfl, rfl⟩
      · have hd : decide (e1 ≤ s1) = true := decide_eq_true h
        clear h
        go_wp2
        have d0 := (HT4.out.set0 0).cells.1
        have d1 := ((HT4.out.set0 0).set1 0).cells.2.1
        have d2 := (((HT4.out.set0 0).set1 0).set2 0).cells.2.2.1
        have d3 := ((((HT4.out.set0 0).set1 0).set2 0).set3 0).cells.2.2.2
        refine bodyPost_ret (by simp [results, Tryz.results32, go_sem, d0, d1, d2, d3]; try rfl) rfl ?_
        have hle : w.heap.size ≤ w.heap.size + 1 := by omega
        exact ⟨rfl, (((HXR.out.setCell hle _).setCell hle _).setCell hle _).setCell hle _⟩
      · have hd : decide (E ≤ S) = false := decide_eq_false (by omega)
        clear h
        go_wp2
        have d0 := (HT4.out.set0 A).cells.1
        have d1 := ((HT4.out.set0 A).set1 S).cells.2.1
        have d2 := (((HT4.out.set0 A).set1 S).set2 E).cells.2.2.1
        have d3 := ((((HT4.out.set0 A).set1 S).set2 E).set3 Q).cells.2.2.2
        refine bodyPost_ret (by simp [results, Tryz.results32, go_sem, d0, d1, d2, d3]; try rfl) rfl ?_
        have hle : w.heap.size ≤ w.heap.size + 1 := by omega
        exact ⟨rfl, (((HXR.out.setCell hle _).setCell hle _).setCell hle _).setCell hle _⟩

theorem res_of (a1 s1 e1 r1 : Int) : Hid ((e1 ≤ s1 ∧ (if e1 ≤ s1 then (0 : Int) else a1) = 0 ∧ (if e1 ≤ s1 then (0 : Int) else s1) = 0 ∧ (if e1 ≤ s1 then (0 : Int) else e1) = 0 ∧ (if e1 ≤ s1 then (0 : Int) else r1) = 0 ∧ (if e1 ≤ s1 then (143 : Int) else 0) = 143) ∨ (¬ e1 ≤ s1 ∧ (if e1 ≤ s1 then (0 : Int) else a1) = a1 ∧ (if e1 ≤ s1 then (0 : Int) else s1) = s1 ∧ (if e1 ≤ s1 then (0 : Int) else e1) = e1 ∧ (if e1 ≤ s1 then (0 : Int) else r1) = r1 ∧ (if e1 ≤ s1 then (143 : Int) else 0) = 0)) := by
  refine Lib.hid ?_
  by_cases h : e1 ≤ s1
  · left; simp [h]
  · right; simp [h]

/-- Times and error, as the program hands them back. -/
def retT (x : Int × Int × Int × Int × Int) : Ending := .returned (.tuple #[.agg #[.int .i64 x.1, .int .i64 x.2.1, .int .i64 x.2.2.1, .int .i64 x.2.2.2.1], .int .i64 x.2.2.2.2])

theorem times_none (f t n l m now skew : Int) (hf : 0 ≤ f ∧ f ≤ 1099511627776) (hl : 1 ≤ l ∧ l ≤ 2147483648 ∧ 0 ≤ m ∧ m ≤ 2147483648) (hn : 0 ≤ now ∧ now ≤ 1099511627776) (hk : 0 ≤ skew ∧ skew ≤ 86400) (w : World) :
    Calls Tryz.prog 32 #[.agg #[.int .i64 f, .int .i64 t, .int .i64 n, .int .i64 l, .int .i64 m, .int .i64 now, .int .i64 skew, .pointer none]] w fun en w' =>
      en = retT (freshF now (if now + skew < f then f else now) t n l m 1099511627776 1099511627776) ∧ Ext w w' := by
  have hs : 0 ≤ (if now + skew < f then f else max now now) ∧ (if now + skew < f then f else max now now) ≤ 1099511627776 := by split <;> omega
  obtain ⟨s, hs1⟩ : ∃ s, (if now + skew < f then f else max now now) = s := ⟨_, rfl⟩
  have hs2 : (if now + skew < f then f else now) = s := by rw [← hs1]; congr; omega
  rw [hs1] at hs
  obtain ⟨r, hr⟩ : ∃ r, (if n = 0 ∨ m = 0 then 0 else renF n m s (endF s l t) 1099511627776) = r := ⟨_, rfl⟩
  refine (times_is f t n l m now skew now s (endF s l t) r _ _ _ _ _ (res_of now s (endF s l t) r) none w (Lib.hid ?_) (Lib.hid ?_) (Lib.hid ?_) (Lib.hid ?_)).mono ?_
  · intro w1 R T _ hR hT hne _
    exact rule1_none R T 0 0 0 0 f t n l m now skew w1 hR hT hne
  · intro w1 R T _ hR hT hne _
    have := rule2 R T now 0 0 0 f t n l m now skew none hn hk w1 hR hT hne
    rw [hs1] at this
    exact this
  · intro w1 R T _ hR hT hne _
    exact rule3_none R T now s 0 0 f t n l m now skew hs ⟨by omega, hl.2.1⟩ w1 hR hT hne
  · intro w1 R T _ hR hT hne _
    by_cases h : n = 0 ∨ m = 0
    · rw [if_pos h] at hr
      subst hr
      exact rule4_not R T f t n l m now skew none now s _ 0 w1 hR hT h
    · rw [if_neg h] at hr
      subst hr
      exact rule4_none R T now s _ 0 f t n l m now skew hs hl.2.2 (by omega) (by omega) w1 hR hT hne
  · rintro en w' ⟨rfl, hx⟩
    refine ⟨?_, hx⟩
    rw [hs2]
    unfold freshF retT
    have he : (if t = 0 then min (min (s + l) 1099511627776) 1099511627776 else min (min (min (s + l) 1099511627776) 1099511627776) t) = endF s l t := by unfold endF; split <;> omega
    simp only [he]
    by_cases h : endF s l t ≤ s
    · simp [h]
    · simp only [if_neg h]
      have hrr : r = (if n = 0 ∨ m = 0 ∨ (1099511627776 : Int) = 0 then 0 else if min (min (min n (s + m)) 1099511627776) 1099511627776 < endF s l t then 0 else min (min (min n (s + m)) 1099511627776) 1099511627776) := by
        rw [← hr]
        by_cases h2 : n = 0 ∨ m = 0
        · rw [if_pos h2, if_pos (by omega)]
        · rw [if_neg h2, if_neg (by omega)]; rfl
      rw [hrr]

theorem times_some (f t n l m now skew ba bs be br : Int) (B : Nat) (hf : 0 ≤ f ∧ f ≤ 1099511627776) (hl : 1 ≤ l ∧ l ≤ 2147483648 ∧ 0 ≤ m ∧ m ≤ 2147483648) (hn : 0 ≤ now ∧ now ≤ 1099511627776) (hk : 0 ≤ skew ∧ skew ≤ 86400) (hba : 0 ≤ ba ∧ ba ≤ 1099511627776) (hnn : 0 ≤ n) (w : World) (hB : TB w B ba bs be br) :
    Calls Tryz.prog 32 #[.agg #[.int .i64 f, .int .i64 t, .int .i64 n, .int .i64 l, .int .i64 m, .int .i64 now, .int .i64 skew, .pointer (some ⟨B, 0, none⟩)]] w fun en w' =>
      en = retT (freshF ba (if now + skew < f then f else max now ba) t n l m be br) ∧ Ext w w' := by
  obtain ⟨s, hs1⟩ : ∃ s, (if now + skew < f then f else max now ba) = s := ⟨_, rfl⟩
  have hs : 0 ≤ s ∧ s ≤ 1099511627776 := by rw [← hs1]; split <;> omega
  obtain ⟨r, hr⟩ : ∃ r, (if n = 0 ∨ m = 0 then 0 else renF n m s (min (endF s l t) be) br) = r := ⟨_, rfl⟩
  have hBT : ∀ T, w.heap.size ≤ T → B ≠ T := fun T h => by have := hB.lt; omega
  rw [hs1]
  refine (times_is f t n l m now skew ba s (min (endF s l t) be) r _ _ _ _ _ (res_of ba s (min (endF s l t) be) r) (some ⟨B, 0, none⟩) w (Lib.hid ?_) (Lib.hid ?_) (Lib.hid ?_) (Lib.hid ?_)).mono ?_
  · intro w1 R T hx hR hT hne hle
    exact rule1_some R T B 0 0 0 0 f t n l m now skew ba bs be br w1 hR hT (hB.ext hx) hne (hBT T hle)
  · intro w1 R T _ hR hT hne _
    have := rule2 R T ba 0 0 0 f t n l m now skew (some ⟨B, 0, none⟩) hn hk w1 hR hT hne
    rw [hs1] at this
    exact this
  · intro w1 R T hx hR hT hne hle
    exact rule3_some R T B ba s 0 0 f t n l m now skew ba bs be br hs ⟨by omega, hl.2.1⟩ w1 hR hT (hB.ext hx) hne (hBT T hle)
  · intro w1 R T hx hR hT hne hle
    by_cases h : n = 0 ∨ m = 0
    · rw [if_pos h] at hr
      subst hr
      exact rule4_not R T f t n l m now skew (some ⟨B, 0, none⟩) ba s _ 0 w1 hR hT h
    · rw [if_neg h] at hr
      subst hr
      exact rule4_some R T B ba s _ 0 f t n l m now skew ba bs be br hs hl.2.2 (by omega) (by omega) w1 hR hT (hB.ext hx) hne (hBT T hle)
  · rintro en w' ⟨rfl, hx⟩
    refine ⟨?_, hx⟩
    unfold freshF retT
    have he : (if t = 0 then min (min (s + l) 1099511627776) be else min (min (min (s + l) 1099511627776) be) t) = min (endF s l t) be := by unfold endF; split <;> omega
    simp only [he]
    by_cases h : min (endF s l t) be ≤ s
    · simp [h]
    · simp only [if_neg h]
      have hrr : r = (if n = 0 ∨ m = 0 ∨ br = 0 then 0 else if min (min (min n (s + m)) 1099511627776) br < min (endF s l t) be then 0 else min (min (min n (s + m)) 1099511627776) br) := by
        rw [← hr]
        by_cases h2 : n = 0 ∨ m = 0
        · rw [if_pos h2, if_pos (by omega)]
        · rw [if_neg h2]
          by_cases h3 : br = 0
          · rw [if_pos (by omega)]
            unfold renF
            split <;> omega
          · rw [if_neg (by omega)]; rfl
      rw [hrr]
#print axioms times_some
end Go.Proofs.YtfgmmjpejlpdoaaGreatDoor
