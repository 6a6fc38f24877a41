/- Address: what a list contains and allows, whether it is valid. (wip/tools/genade1.py printed this.) -/
import Derived.Test.YthpfomjibfbiiaaGreatDoorAdU3
import Derived.Test.YthpfomjibfbiiaaGreatDoorAdR1
namespace Go.Proofs.YthpfomjibfbiiaaGreatDoor
open Go Go.RowKit
set_option linter.unusedVariables false

def IdxA (any : Bool) (v : Int) : Prop := (any = true ∧ 0 ≤ v) ∨ (any = false ∧ v = -1)
def RetIdA (any : Bool) (e : Ending) : Prop := ∃ v : Int, IdxA any v ∧ e = .returned (.int .i64 v)
/-- All addresses of a list are valid, and there are not too many. -/
def vlA (xs : List (Int × List UInt8)) : Bool := xs.all (fun x => okA x.1 x.2) && decide (xs.length ≤ 16)
theorem box1A (w : World) (k : Int) (A : Option Addr) (n c : Nat) : ∃ W, w.alloc (.cells #[.int .i64 k, .slice A n c] 25) = W ∧ AB W w.heap.size k A n c ∧ Ext w W := ⟨_, rfl, AB.new w k A n c, (Ext.refl w).alloc _⟩
theorem clos_at (g : Nat) (k0 : Int) (b0 : List UInt8) (B0 : Option Addr) (d0 : Nat) (k : Int) (b : List UInt8) (B : Option Addr) (d : Nat) (w : World) (hg : AB w g k0 B0 b0.length d0) (hb0 : BS w (.slice B0 b0.length d0) b0) (hb : BS w (.slice B b.length d) b) :
    Calls Tryz.prog 33 #[adv k B b.length d, .pointer (some ⟨g, 0, none⟩)] w fun e w' => e = .returned (.bool (k0 == k && b0 == b)) ∧ Ext w w' := by
  obtain ⟨W1, e1, h1, x1⟩ := box1A w k B b.length d
  obtain ⟨c0, c1⟩ := h1.cells
  obtain ⟨d0', d1'⟩ := (hg.ext x1).cells
  have HX := Lib.hid x1
  have HEQ := Lib.hid (AEqual_at k0 k b0 b B0 B d0 d W1 (hb0.ext x1) (hb.ext x1))
  generalize (k0 == k && b0 == b) = q at HEQ ⊢
  clear h1 x1 hb0 hb hg
  unfold adv at HEQ ⊢
  go_enter Tryz.func33, Tryz.ntmps33
  go_wp2_with fail
  refine HEQ.out.mono ?_
  rintro _ w3 ⟨rfl, hx3⟩
  have HX3 := Lib.hid (HX.out.trans hx3)
  clear hx3
  go_wp2_with fail
  go_ret
  exact ⟨rfl, HX3.out⟩
set_option maxRecDepth 100000 in
set_option maxHeartbeats 1000000 in
theorem idxA_at (A : Option Addr) (c : Nat) (xs : List (Int × List UInt8)) (g : Nat) (k0 : Int) (b0 : List UInt8) (B0 : Option Addr) (d0 : Nat) (w : World) (hD : DS w (.slice A xs.length c) xs) (hg : AB w g k0 B0 b0.length d0) (hb : BS w (.slice B0 b0.length d0) b0) (hn : xs.length ≤ 1000) :
    Calls Tryz.prog 52 #[.slice A xs.length c, .func (.func 33) #[] #[.pointer (some ⟨g, 0, none⟩)]] w fun e w' => RetIdA (hasA xs k0 b0) e ∧ Ext w w' := by
  obtain ⟨A', c', he, hc1, hc2, hcell⟩ := hD
  injection he with e1' e2 e3
  subst e1'; subst e3
  unfold maxLen at hc2
  have HC := Lib.hid hcell
  clear hcell e2
  obtain ⟨n, hn'⟩ : ∃ n, xs.length = n := ⟨_, rfl⟩
  rw [hn'] at hc1 hn ⊢
  have HN := Lib.hid hn'
  clear hn'
  have HG := Lib.hid hg; have HBB := Lib.hid hb
  clear hg hb
  go_enter Tryz.func52, Tryz.ntmps52
  go_wp2_with fail
  go_loopw [5, 8] (fun _ i wr => ∃ k : Nat, i = .int .i64 (k : Int) ∧ k ≤ n ∧ Hid (hasA (xs.take k) k0 b0 = false) ∧ Hid (Ext w wr)) (fun _ i _ => n - (intOf i).toNat)
  case atStart => exact ⟨0, rfl, by omega, Lib.hid rfl, Lib.hid (Ext.refl _)⟩
  case round =>
    obtain ⟨k, rfl, hk, HF, HW⟩ := hrel
    by_cases hlt : k < n
    · have hlx : k < xs.length := by rw [HN.out]; exact hlt
      obtain ⟨ad, B, d, rfl, hc0, hc3, hbk⟩ := HC.out k hlx
      have hc3' : w.cell? ⟨(ad.add (k * 2)).block, (ad.add (k * 2)).off + 1, none⟩ = some (.slice B xs[k].2.length d) := by rw [cell_add1, add_of_add]; exact hc3
      have g0 := HW.out.cell hc0; have g1 := HW.out.cell hc3'
      have HTK := Lib.hid (show hasA (xs.take (k + 1)) k0 b0 = (xs[k].1 == k0 && xs[k].2 == b0) by rw [List.take_succ_eq_append_getElem hlx, hasA_snoc, HF.out, Bool.false_or])
      have HYS := Lib.hid (show (xs[k].1 == k0 && xs[k].2 == b0) = true → hasA xs k0 b0 = true from fun h => List.any_eq_true.2 ⟨xs[k], List.getElem_mem hlx, h⟩)
      have hcl := clos_at g k0 b0 B0 d0 xs[k].1 xs[k].2 B d wr (HG.out.ext HW.out) (HBB.out.ext HW.out) (hbk.ext HW.out)
      rw [show (k0 == xs[k].1 && b0 == xs[k].2) = (xs[k].1 == k0 && xs[k].2 == b0) by rw [Bool.eq_iff_iff]; simp only [Bool.and_eq_true, beq_iff_eq]; exact ⟨fun h => ⟨h.1.symm, h.2.symm⟩, fun h => ⟨h.1.symm, h.2.symm⟩⟩] at hcl
      have HCL := Lib.hid hcl
      unfold adv at HCL
      clear hcl
      generalize xs[k].1 = kk at *
      generalize xs[k].2 = bb at *
      generalize (kk == k0 && bb == b0) = q at *
      clear hc0 hc3 hc3' hbk hlx
      cases q with
      | true =>
        go_wp2_with fail
        refine HCL.out.mono ?_
        rintro _ w1 ⟨rfl, hx1⟩
        have HX1 := Lib.hid (HW.out.trans hx1)
        clear hx1
        go_wp2_with fail
        go_ret
        exact ⟨⟨_, .inl ⟨HYS.out (by first | exact rfl | trivial), by omega⟩, rfl⟩, HX1.out⟩
      | false =>
        go_wp2_with fail
        refine HCL.out.mono ?_
        rintro _ w1 ⟨rfl, hx1⟩
        have HX1 := Lib.hid (HW.out.trans hx1)
        clear hx1 g0 g1
        go_wp2_with fail
        go_roundw
        case rel => exact ⟨k + 1, by go_num, by omega, HTK, HX1⟩
        case measure => simp [intOf]; omega
    · obtain rfl : k = n := by omega
      have HF2 := Lib.hid (show hasA xs k0 b0 = false by have h := HF.out; rwa [List.take_of_length_le (by rw [HN.out]; exact Nat.le_refl _)] at h)
      clear hlt
      go_wp2_with fail
      go_ret
      exact ⟨⟨_, .inr ⟨HF2.out, rfl⟩, rfl⟩, HW.out⟩
theorem hasF_at (A : Option Addr) (c : Nat) (xs : List (Int × List UInt8)) (g : Nat) (k0 : Int) (b0 : List UInt8) (B0 : Option Addr) (d0 : Nat) (w : World) (hD : DS w (.slice A xs.length c) xs) (hg : AB w g k0 B0 b0.length d0) (hb : BS w (.slice B0 b0.length d0) b0) (hn : xs.length ≤ 1000) :
    Calls Tryz.prog 32 #[.slice A xs.length c, .func (.func 33) #[] #[.pointer (some ⟨g, 0, none⟩)]] w fun e w' => e = .returned (.bool (hasA xs k0 b0)) ∧ Ext w w' := by
  have HI := Lib.hid (idxA_at A c xs g k0 b0 B0 d0 w hD hg hb hn)
  clear hD hg hb
  generalize hasA xs k0 b0 = q at HI ⊢
  go_enter Tryz.func32, Tryz.ntmps32
  go_wp2_with fail
  refine HI.out.mono ?_
  rintro _ w1 ⟨⟨v, hv, rfl⟩, hx1⟩
  have HX1 := Lib.hid hx1
  clear hx1
  rcases hv with ⟨rfl, h⟩ | ⟨rfl, rfl⟩
  · go_wp2_with fail
    go_ret
    exact ⟨rfl, HX1.out⟩
  · go_wp2_with fail
    go_ret
    exact ⟨rfl, HX1.out⟩
set_option maxRecDepth 100000 in
theorem AContains_at (A : Option Addr) (c : Nat) (xs : List (Int × List UInt8)) (k0 : Int) (b0 : List UInt8) (B0 : Option Addr) (d0 : Nat) (w : World) (hD : DS w (.slice A xs.length c) xs) (hb : BS w (.slice B0 b0.length d0) b0) (hn : xs.length ≤ 1000) :
    Calls Tryz.prog 9 #[.slice A xs.length c, adv k0 B0 b0.length d0] w fun e w' => e = .returned (.bool (hasA xs k0 b0)) ∧ Ext w w' := by
  have hmf : ∀ (fn : Fn) (first cap : Array Value) (w : World), (Instr.makeFunc fn first cap).run Tryz.prog w = .ok (.func fn first cap) w := fun _ _ _ _ => rfl
  obtain ⟨W1, e1, h1, x1⟩ := box1A w k0 B0 b0.length d0
  have HF := Lib.hid (hasF_at A c xs w.heap.size k0 b0 B0 d0 W1 (hD.ext x1) h1 (hb.ext x1) hn)
  have HX := Lib.hid x1
  clear h1 x1 hD hb
  generalize hasA xs k0 b0 = q at HF ⊢
  unfold adv
  go_enter Tryz.func9, Tryz.ntmps9
  go_wp2_with fail
  refine HF.out.mono ?_
  rintro _ w3 ⟨rfl, hx3⟩
  have HX3 := Lib.hid (HX.out.trans hx3)
  clear hx3
  go_wp2_with fail
  go_ret
  exact ⟨rfl, HX3.out⟩
set_option maxRecDepth 100000 in
theorem AAllows_at (A : Option Addr) (c : Nat) (xs : List (Int × List UInt8)) (k0 : Int) (b0 : List UInt8) (B0 : Option Addr) (d0 : Nat) (w : World) (hD : DS w (.slice A xs.length c) xs) (hb : BS w (.slice B0 b0.length d0) b0) (hn : xs.length ≤ 1000) :
    Calls Tryz.prog 10 #[.slice A xs.length c, adv k0 B0 b0.length d0] w fun e w' => e = .returned (.bool (xs.length == 0 || hasA xs k0 b0)) ∧ Ext w w' := by
  obtain ⟨W1, e1, h1, x1⟩ := box1A w k0 B0 b0.length d0
  have HF := Lib.hid (AContains_at A c xs k0 b0 B0 d0 W1 (hD.ext x1) (hb.ext x1) hn)
  obtain ⟨c0, c1⟩ := h1.cells
  have HX := Lib.hid x1
  clear h1 x1 hD hb
  generalize hasA xs k0 b0 = q at HF ⊢
  obtain ⟨n, hn'⟩ : ∃ n, xs.length = n := ⟨_, rfl⟩
  rw [hn'] at HF hn ⊢
  clear hn'
  by_cases h0 : n = 0
  · subst h0
    unfold adv
    go_enter Tryz.func10, Tryz.ntmps10
    go_wp2_with fail
    go_ret
    exact ⟨rfl, HX.out⟩
  · have hq : ((n : Int) == 0) = false := by rw [beq_eq_false_iff_ne]; omega
    rw [show (n == 0) = false by rw [beq_eq_false_iff_ne]; exact h0, Bool.false_or]
    clear h0
    unfold adv at HF ⊢
    go_enter Tryz.func10, Tryz.ntmps10
    go_wp2_with fail
    refine HF.out.mono ?_
    rintro _ w3 ⟨rfl, hx3⟩
    have HX3 := Lib.hid (HX.out.trans hx3)
    clear hx3
    go_wp2_with fail
    go_ret
    exact ⟨rfl, HX3.out⟩
set_option maxRecDepth 100000 in
set_option maxHeartbeats 1000000 in
theorem AValidList_at (A : Option Addr) (c : Nat) (xs : List (Int × List UInt8)) (w : World) (hD : DS w (.slice A xs.length c) xs) (hn : xs.length ≤ 1000) (hE : EnvA w) :
    Calls Tryz.prog 11 #[.slice A xs.length c] w fun e w' => e = .returned (.bool (vlA xs)) ∧ Ext w w' := by
  obtain ⟨A', c', he, hc1, hc2, hcell⟩ := hD
  injection he with e1' e2 e3
  subst e1'; subst e3
  unfold maxLen at hc2
  have HC := Lib.hid hcell
  clear hcell e2
  obtain ⟨n, hn'⟩ : ∃ n, xs.length = n := ⟨_, rfl⟩
  rw [hn'] at hc1 hn ⊢
  have HN := Lib.hid hn'
  clear hn'
  have HE := Lib.hid hE
  clear hE
  by_cases h16 : 16 < n
  · have h16i : 16 < (n : Int) := by omega
    have HV := Lib.hid (show vlA xs = false by unfold vlA; rw [HN.out, decide_eq_false (by omega), Bool.and_false])
    clear h16
    go_enter Tryz.func11, Tryz.ntmps11
    go_wp2_with fail
    go_ret
    rw [HV.out]
    exact ⟨rfl, Ext.refl _⟩
  have h16i : (n : Int) ≤ 16 := by omega
  have HVL := Lib.hid (show vlA xs = xs.all (fun x => okA x.1 x.2) by unfold vlA; rw [HN.out, decide_eq_true (by omega), Bool.and_true])
  clear h16
  go_enter Tryz.func11, Tryz.ntmps11
  go_wp2_with fail
  go_loopw [10] (fun i wr => ∃ k : Nat, i = .int .i64 (k : Int) ∧ k ≤ n ∧ Hid (∀ j (h : j < xs.length), j < k → okA xs[j].1 xs[j].2 = true) ∧ Hid (Ext w wr)) (fun i _ => n - (intOf i).toNat)
  case atStart => exact ⟨0, rfl, by omega, Lib.hid (fun j _ hj => absurd hj (Nat.not_lt_zero j)), Lib.hid (Ext.refl _)⟩
  case round =>
    obtain ⟨k, rfl, hk, HF, HW⟩ := hrel
    by_cases hlt : k < n
    · have hlx : k < xs.length := by rw [HN.out]; exact hlt
      obtain ⟨ad, B, d, rfl, hc0, hc3, hbk⟩ := HC.out k hlx
      have hc3' : w.cell? ⟨(ad.add (k * 2)).block, (ad.add (k * 2)).off + 1, none⟩ = some (.slice B xs[k].2.length d) := by rw [cell_add1, add_of_add]; exact hc3
      have g0 := HW.out.cell hc0; have g1 := HW.out.cell hc3'
      obtain ⟨Y, Z, hY, hZ, hy, hz, hxz⟩ := boxA wr xs[k].1 B xs[k].2.length d
      have f0 := hy.soft 0; have f1 := hy.soft 1
      obtain ⟨q0, q1⟩ := hy.cells
      obtain ⟨p0, p1⟩ := hz.cells
      have hva := Valid_at' xs[k].1 xs[k].2 B d Z ((hbk.ext HW.out).ext hxz) (HE.out.ext (HW.out.trans hxz))
      have HVA := Lib.hid hva
      have HXZ := Lib.hid (HW.out.trans hxz)
      unfold adv at HVA
      clear hva hy hz hxz hc0 hc3 hc3' hbk
      cases hok : okA xs[k].1 xs[k].2 with
      | true =>
        rw [hok] at HVA
        have HF2 := Lib.hid (show ∀ j (h : j < xs.length), j < k + 1 → okA xs[j].1 xs[j].2 = true from fun j h hj => by
          rcases Nat.lt_succ_iff_lt_or_eq.1 hj with h' | rfl
          · exact HF.out j h h'
          · exact hok)
        clear hok
        generalize xs[k].1 = kk at *
        generalize xs[k].2 = bb at *
        clear hlx
        go_wp2_with fail
        refine HVA.out.mono ?_
        rintro _ w1 ⟨rfl, hx1⟩
        have HX1 := Lib.hid (HXZ.out.trans hx1)
        clear hx1 g0 g1 f0 f1 q0 q1 p0 p1 hY hZ
        go_wp2_with fail
        go_roundw
        case rel => exact ⟨k + 1, by go_num, by omega, HF2, HX1⟩
        case measure => simp [intOf]; omega
      | false =>
        rw [hok] at HVA
        have HNO := Lib.hid (show vlA xs = false by
          rw [HVL.out, List.all_eq_false]
          exact ⟨xs[k], List.getElem_mem _, by rw [hok]; simp⟩)
        clear hok
        generalize xs[k].1 = kk at *
        generalize xs[k].2 = bb at *
        clear hlx
        go_wp2_with fail
        refine HVA.out.mono ?_
        rintro _ w1 ⟨rfl, hx1⟩
        have HX1 := Lib.hid (HXZ.out.trans hx1)
        clear hx1 g0 g1 f0 f1 q0 q1 p0 p1 hY hZ
        go_wp2_with fail
        go_ret
        rw [HNO.out]
        exact ⟨rfl, HX1.out⟩
    · have HYS := Lib.hid (show vlA xs = true by
        rw [HVL.out, List.all_eq_true]
        intro x hx
        obtain ⟨j, hj, rfl⟩ := List.mem_iff_getElem.1 hx
        exact HF.out j hj (by rw [← HN.out] at hlt; omega))
      have hge : (n : Int) ≤ (k : Int) := by omega
      clear hlt
      go_wp2_with fail
      go_ret
      rw [HYS.out]
      exact ⟨rfl, HW.out⟩
set_option maxRecDepth 100000 in
set_option maxHeartbeats 1000000 in
theorem RAValidList_at (A : Option Addr) (c : Nat) (xs : List (Int × List UInt8)) (w : World) (hD : DS w (.slice A xs.length c) xs) (hn : xs.length ≤ 1000) :
    Calls Tryz.prog 12 #[.slice A xs.length c] w fun e w' => e = .returned (.bool (vlA xs)) ∧ Ext w w' := by
  obtain ⟨A', c', he, hc1, hc2, hcell⟩ := hD
  injection he with e1' e2 e3
  subst e1'; subst e3
  unfold maxLen at hc2
  have HC := Lib.hid hcell
  clear hcell e2
  obtain ⟨n, hn'⟩ : ∃ n, xs.length = n := ⟨_, rfl⟩
  rw [hn'] at hc1 hn ⊢
  have HN := Lib.hid hn'
  clear hn'
  go_enter Tryz.func12, Tryz.ntmps12
  go_wp2_with fail
  go_loopw [3] (fun i wr => ∃ k : Nat, i = .int .i64 (k : Int) ∧ k ≤ n ∧ Hid (∀ j (h : j < xs.length), j < k → okA xs[j].1 xs[j].2 = true) ∧ Hid (Ext w wr)) (fun i _ => n - (intOf i).toNat)
  case atStart => exact ⟨0, rfl, by omega, Lib.hid (fun j _ hj => absurd hj (Nat.not_lt_zero j)), Lib.hid (Ext.refl _)⟩
  case round =>
    obtain ⟨k, rfl, hk, HF, HW⟩ := hrel
    by_cases hlt : k < n
    · have hlx : k < xs.length := by rw [HN.out]; exact hlt
      obtain ⟨ad, B, d, rfl, hc0, hc3, hbk⟩ := HC.out k hlx
      have hc3' : w.cell? ⟨(ad.add (k * 2)).block, (ad.add (k * 2)).off + 1, none⟩ = some (.slice B xs[k].2.length d) := by rw [cell_add1, add_of_add]; exact hc3
      have g0 := HW.out.cell hc0; have g1 := HW.out.cell hc3'
      have HVA := Lib.hid (RAValid_at xs[k].1 xs[k].2 B d wr (hbk.ext HW.out))
      unfold adv at HVA
      clear hc0 hc3 hc3' hbk
      cases hok : okA xs[k].1 xs[k].2 with
      | true =>
        rw [hok] at HVA
        have HF2 := Lib.hid (show ∀ j (h : j < xs.length), j < k + 1 → okA xs[j].1 xs[j].2 = true from fun j h hj => by
          rcases Nat.lt_succ_iff_lt_or_eq.1 hj with h' | rfl
          · exact HF.out j h h'
          · exact hok)
        clear hok
        generalize xs[k].1 = kk at *
        generalize xs[k].2 = bb at *
        clear hlx
        go_wp2_with fail
        refine HVA.out.mono ?_
        rintro _ w1 ⟨rfl, hx1⟩
        have HX1 := Lib.hid (HW.out.trans hx1)
        clear hx1 g0 g1
        go_wp2_with fail
        go_roundw
        case rel => exact ⟨k + 1, by go_num, by omega, HF2, HX1⟩
        case measure => simp [intOf]; omega
      | false =>
        rw [hok] at HVA
        have HNO := Lib.hid (show vlA xs = false by
          unfold vlA
          rw [Bool.and_eq_false_iff]
          left
          rw [List.all_eq_false]
          exact ⟨xs[k], List.getElem_mem _, by rw [hok]; simp⟩)
        clear hok
        generalize xs[k].1 = kk at *
        generalize xs[k].2 = bb at *
        clear hlx
        go_wp2_with fail
        refine HVA.out.mono ?_
        rintro _ w1 ⟨rfl, hx1⟩
        have HX1 := Lib.hid (HW.out.trans hx1)
        clear hx1 g0 g1
        go_wp2_with fail
        go_ret
        rw [HNO.out]
        exact ⟨rfl, HX1.out⟩
    · have HYS := Lib.hid (show vlA xs = decide ((n : Int) ≤ 16) by
        unfold vlA
        rw [show xs.all (fun x => okA x.1 x.2) = true from by
          rw [List.all_eq_true]
          intro x hx
          obtain ⟨j, hj, rfl⟩ := List.mem_iff_getElem.1 hx
          exact HF.out j hj (by rw [← HN.out] at hlt; omega), Bool.true_and, HN.out, decide_eq_decide]
        omega)
      have hge : (n : Int) ≤ (k : Int) := by omega
      clear hlt
      go_wp2_with fail
      go_ret
      rw [HYS.out]
      exact ⟨rfl, HW.out⟩
set_option maxRecDepth 100000 in
set_option maxHeartbeats 1000000 in
theorem SameList_at (A : Option Addr) (c : Nat) (xs : List (Int × List UInt8)) (C : Option Addr) (cc : Nat) (ys : List (Int × List UInt8)) (w : World) (hD : DS w (.slice A xs.length c) xs) (hE : DS w (.slice C ys.length cc) ys) (hn : xs.length ≤ 1000) (hm : ys.length ≤ 1000) :
    Calls Tryz.prog 14 #[.slice A xs.length c, .slice C ys.length cc] w fun e w' => e = .returned (.bool (decide (xs = ys))) ∧ Ext w w' := by
  obtain ⟨A', c', he, hc1, hc2, hcell⟩ := hD
  injection he with e1' e2 e3
  subst e1'; subst e3
  unfold maxLen at hc2
  have HC := Lib.hid hcell
  clear hcell e2
  obtain ⟨n, hn'⟩ : ∃ n, xs.length = n := ⟨_, rfl⟩
  rw [hn'] at hc1 hn ⊢
  have HN := Lib.hid hn'
  clear hn'
  obtain ⟨C', cc', he', hd1, hd2, hdell⟩ := hE
  injection he' with f1' f2 f3
  subst f1'; subst f3
  unfold maxLen at hd2
  have HDC := Lib.hid hdell
  clear hdell f2
  obtain ⟨m, hm'⟩ : ∃ m, ys.length = m := ⟨_, rfl⟩
  rw [hm'] at hd1 hm ⊢
  have HM := Lib.hid hm'
  clear hm'
  by_cases hne : n = m
  · subst hne
    have hq : ((n : Int) != (n : Int)) = false := by simp
    go_enter Tryz.func14, Tryz.ntmps14
    go_wp2_with fail
    go_loopw [5] (fun i wr => ∃ k : Nat, i = .int .i64 (k : Int) ∧ k ≤ n ∧ Hid (xs.take k = ys.take k) ∧ Hid (Ext w wr)) (fun i _ => n - (intOf i).toNat)
    case atStart => exact ⟨0, rfl, by omega, Lib.hid rfl, Lib.hid (Ext.refl _)⟩
    case round =>
      obtain ⟨k, rfl, hk, HF, HW⟩ := hrel
      by_cases hlt : k < n
      · have hlx : k < xs.length := by rw [HN.out]; exact hlt
        obtain ⟨ad, B, d, rfl, hc0, hc3, hbk⟩ := HC.out k hlx
        have hc3' : w.cell? ⟨(ad.add (k * 2)).block, (ad.add (k * 2)).off + 1, none⟩ = some (.slice B xs[k].2.length d) := by rw [cell_add1, add_of_add]; exact hc3
        have hly : k < ys.length := by rw [HM.out]; exact hlt
        obtain ⟨ae, B2, d2, rfl, he0, he3, hbk2⟩ := HDC.out k hly
        have he3' : w.cell? ⟨(ae.add (k * 2)).block, (ae.add (k * 2)).off + 1, none⟩ = some (.slice B2 ys[k].2.length d2) := by rw [cell_add1, add_of_add]; exact he3
        have HC0 := Lib.hid (HW.out.cell hc0); have HC1 := Lib.hid (HW.out.cell hc3'); have HD0 := Lib.hid (HW.out.cell he0); have HD1 := Lib.hid (HW.out.cell he3')
        have HEQ := Lib.hid (fun W (hx : Ext wr W) => RAEqual_at xs[k].1 ys[k].1 xs[k].2 ys[k].2 B B2 d d2 W (hbk.ext (HW.out.trans hx)) (hbk2.ext (HW.out.trans hx)))
        have HTK := Lib.hid (show (xs[k].1 == ys[k].1 && xs[k].2 == ys[k].2) = true → xs.take (k + 1) = ys.take (k + 1) from fun h => by
          simp only [Bool.and_eq_true, beq_iff_eq] at h
          rw [List.take_succ_eq_append_getElem hlx, List.take_succ_eq_append_getElem hly, HF.out, show xs[k] = ys[k] from Prod.ext h.1 h.2])
        have HNO := Lib.hid (show (xs[k].1 == ys[k].1 && xs[k].2 == ys[k].2) = false → decide (xs = ys) = false from fun h => by
          rw [decide_eq_false_iff_not]
          rintro rfl
          simp at h)
        unfold adv at HEQ
        generalize (xs[k].1 == ys[k].1 && xs[k].2 == ys[k].2) = q at HEQ HTK HNO
        generalize xs[k].1 = kk at *
        generalize xs[k].2 = bb at *
        generalize ys[k].1 = kk2 at *
        generalize ys[k].2 = bb2 at *
        clear hc0 hc3 hc3' hbk he0 he3 he3' hbk2 hlx hly
        go_upto_region 6 with fail
        refine wp_region_ext (fun i v' w' => match i with | 8 => v' = .bool q | _ => False) (by kernel_rfl) (by kernel_rfl) ?_
        refine wpE_op rfl rfl (fun w' hw' K' hK' => ?_)
        have hE := hw'.1
        go_step
        refine hK' _ ⟨_, rfl⟩ ?_
        clear hK' K' hE hw' w'
        refine wpE_op rfl rfl (fun w' hw' K' hK' => ?_)
        have hE := hw'.1
        go_step
        refine hK' _ ⟨_, rfl⟩ ?_
        clear hK' K' hE hw' w'
        refine wpE_op rfl rfl (fun w' hw' K' hK' => ?_)
        have hE := hw'.1
        go_step
        refine hK' _ ⟨_, rfl⟩ ?_
        clear hK' K' hE hw' w'
        refine wpE_op rfl rfl (fun w' hw' K' hK' => ?_)
        have hE := hw'.1
        have u0 := ((Ext.drew _).trans hE).cell HC0.out
        have u1 := ((Ext.drew _).trans hE).cell HC1.out
        go_step
        refine hK' _ ⟨_, rfl⟩ ?_
        clear hK' K' u0 u1 hE hw' w'
        refine wpE_op rfl rfl (fun w' hw' K' hK' => ?_)
        have hE := hw'.1
        go_step
        refine hK' _ ⟨_, rfl⟩ ?_
        clear hK' K' hE hw' w'
        refine wpE_op rfl rfl (fun w' hw' K' hK' => ?_)
        have hE := hw'.1
        go_step
        refine hK' _ ⟨_, rfl⟩ ?_
        clear hK' K' hE hw' w'
        refine wpE_op rfl rfl (fun w' hw' K' hK' => ?_)
        have hE := hw'.1
        go_step
        refine hK' _ ⟨_, rfl⟩ ?_
        clear hK' K' hE hw' w'
        refine wpE_op rfl rfl (fun w' hw' K' hK' => ?_)
        have hE := hw'.1
        have u0 := ((Ext.drew _).trans hE).cell HD0.out
        have u1 := ((Ext.drew _).trans hE).cell HD1.out
        go_step
        refine hK' _ ⟨_, rfl⟩ ?_
        clear hK' K' u0 u1 hE hw' w'
        refine wpE_call 25 rfl (by simp) rfl (fun w' hw' K' hK' => ?_) ?_
        · have hE := hw'.1
          go_step
          refine (HEQ.out _ ((Ext.drew _).trans hE)).mono ?_
          rintro _ w2 ⟨rfl, hx⟩
          exact hK' _ _ ⟨_, rfl, rfl⟩ hx
        rintro _ w25 hx25 rfl
        simp only [Act.put, List.setIfInBounds_toArray, List.set_cons_succ, List.set_cons_zero]
        refine wpE_op rfl rfl (fun w' hw' K' hK' => ?_)
        have hE := hw'.1
        go_step
        refine hK' _ ⟨_, rfl⟩ ?_
        clear hK' K' hE hw' w'
        refine wpE_nil (fun W hW => ?_)
        have HXW := Lib.hid ((HW.out.trans (Ext.drew _)).trans hW.1)
        clear hW
        cases q with
        | false =>
          go_wp2_with fail
          go_ret
          rw [HNO.out (by first | exact rfl | trivial)]
          exact ⟨rfl, HXW.out⟩
        | true =>
          have HTK2 := Lib.hid (HTK.out (by first | exact rfl | trivial))
          go_wp2_with fail
          go_roundw
          case rel => exact ⟨k + 1, by go_num, by omega, HTK2, HXW⟩
          case measure => simp [intOf]; omega
      · have HYS := Lib.hid (show decide (xs = ys) = true by
          rw [decide_eq_true_eq]
          have h := HF.out
          rwa [List.take_of_length_le (by rw [HN.out]; omega), List.take_of_length_le (by rw [HM.out]; omega)] at h)
        have hge : (n : Int) ≤ (k : Int) := by omega
        clear hlt
        go_wp2_with fail
        go_ret
        rw [HYS.out]
        exact ⟨rfl, HW.out⟩
  · have hq : ((n : Int) != (m : Int)) = true := by rw [bne_iff_ne]; omega
    have HNO := Lib.hid (show decide (xs = ys) = false by
      rw [decide_eq_false_iff_not]
      rintro rfl
      exact hne (by rw [← HN.out, ← HM.out]))
    clear hne
    go_enter Tryz.func14, Tryz.ntmps14
    go_wp2_with fail
    go_ret
    rw [HNO.out]
    exact ⟨rfl, Ext.refl _⟩
end Go.Proofs.YthpfomjibfbiiaaGreatDoor
