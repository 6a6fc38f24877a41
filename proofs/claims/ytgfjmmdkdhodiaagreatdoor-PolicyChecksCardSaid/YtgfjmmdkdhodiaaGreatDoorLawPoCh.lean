/- PolicyChecks: the law. (wip/tools/genlawpo.py printed this.) -/
import Derived.Test.YtgfjmmdkdhodiaaGreatDoorPoL4
import Derived.Test.YtgfjmmdkdhodiaaGreatDoorRowP
import Derived.Test.YtgfjmmdkdhodiaaGreatDoorPoR7
import Derived.Test.YtgfjmmdkdhodiaaGreatDoorMg25
import Derived.Test.YtgfjmmdkdhodiaaGreatDoorMg37
namespace Go.Proofs.YtgfjmmdkdhodiaaGreatDoor.policyChecks
open Go Go.RowKit
set_option linter.unusedVariables false
theorem NBcell1 {w : World} {g : Nat} {v : Value} {r : ByteArray} (h : NB w g v r) : w.cell? ⟨g, 1, none⟩ = some (.string r) := by rw [cell_of_row _ _ 1 _ _ (0, 0) h]; rfl
set_option maxRecDepth 100000 in
set_option maxHeartbeats 4000000 in
theorem law_walk (p : Pol) (A1 : Option Addr) (c1 : Nat) (ps : List ByteArray) (r : ByteArray) (A : Option Addr) (c : Nat) (b : List UInt8) (w : World) (hm : Env w) (hR : RS w (.slice A1 ps.length c1) (svP ps)) (hB : BS w (.slice A b.length c) b) :
    Calls Tryz.prog 4 #[p.v, .agg #[.slice A1 ps.length c1, .string r], .slice A b.length c] w fun e w' => e = .returned (.bool true) ∧ Ext w w' := by
  have HM := Lib.hid hm; clear hm
  obtain ⟨i0, hi, hz0, hz1, hz2⟩ := info_parts u8info
  have h0 := heap_alloc_new w (.cells p.cs 23)
  obtain ⟨W1, e1⟩ : ∃ W, w.alloc (.cells p.cs 23) = W := ⟨_, rfl⟩
  have x1 : Ext w W1 := e1 ▸ (Ext.refl w).alloc _
  have z1 : W1.heap.size = w.heap.size + 1 := by rw [← e1]; simp
  rw [e1] at h0
  have h1 := heap_alloc_new W1 (.cells #[.slice A1 ps.length c1, .string r] 30)
  obtain ⟨W2, e2⟩ : ∃ W, W1.alloc (.cells #[.slice A1 ps.length c1, .string r] 30) = W := ⟨_, rfl⟩
  have x2 : Ext W1 W2 := e2 ▸ (Ext.refl W1).alloc _
  have z2 : W2.heap.size = w.heap.size + 1 + 1 := by rw [← e2]; simp [z1]
  rw [e2] at h1
  have hp2 : PL W2 w.heap.size p := x2.heap h0
  have hn2 : NB W2 W1.heap.size (.slice A1 ps.length c1) r := h1
  have hx2 := x1.trans x2
  obtain ⟨k0, k1, k2, k3, k4, k5, k6, k7, k8, k9⟩ := hp2.cells
  have d0 := hn2.cell0
  have d1 := NBcell1 hn2
  have HP := Lib.hid hp2; have HN := Lib.hid hn2; have HX := Lib.hid hx2; have HS1 := Lib.hid z1; have HZ2 := Lib.hid z2
  have HRS := Lib.hid (hR.ext hx2); have HBS := Lib.hid (hB.ext hx2)
  have HSM := Lib.hid (lsmall_at A1 c1 ps r W2 HRS.out)
  by_cases h60 : 60 < p.nm.size
  · have h60' : (60 : Int) < (p.nm.size : Int) := by omega
    clear h0 h1 hp2 hn2 x1 x2 z1 z2 hx2 hR hB h60
    go_enter Tryz.func4, Tryz.ntmps4
    unfold Pol.v
    unfold Pol.cs at e1
    go_wp2_with fail
    refine (PKnown_at _ (HM.out.ext (HX.out))).mono ?_
    rintro _ wk ⟨rfl, hxk⟩
    have HXk := Lib.hid ((HX.out).trans hxk)
    clear hxk
    go_wp2_with fail
    go_ret
    exact ⟨rfl, HXk.out⟩
  have h60' : decide ((60 : Int) < (p.nm.size : Int)) = false := decide_eq_false (by omega)
  have hs4 : p.nm.size ≤ 4294967280 := by omega
  cases hsm : smlP ps with
  | false =>
    rw [hsm] at HSM
    clear h0 h1 hp2 hn2 x1 x2 z1 z2 hx2 hR hB h60 hsm
    go_enter Tryz.func4, Tryz.ntmps4
    unfold Pol.v
    unfold Pol.cs at e1
    go_wp2_with fail
    refine HSM.out.mono ?_
    rintro _ w3 ⟨rfl, hx3⟩
    have HX3 := Lib.hid (HX.out.trans hx3)
    clear hx3
    go_wp2_with fail
    refine (PKnown_at _ (HM.out.ext (HX3.out))).mono ?_
    rintro _ wk ⟨rfl, hxk⟩
    have HXk := Lib.hid ((HX3.out).trans hxk)
    clear hxk
    go_wp2_with fail
    go_ret
    exact ⟨rfl, HXk.out⟩
  | true =>
  rw [hsm] at HSM
  obtain ⟨hn6, hp40⟩ := smlP_yes hsm
  by_cases h200 : 200 < b.length
  · have h200' : (200 : Int) < (b.length : Int) := by omega
    clear h0 h1 hp2 hn2 x1 x2 z1 z2 hx2 hR hB h60 hsm h200 hp40
    go_enter Tryz.func4, Tryz.ntmps4
    unfold Pol.v
    unfold Pol.cs at e1
    go_wp2_with fail
    refine HSM.out.mono ?_
    rintro _ w3 ⟨rfl, hx3⟩
    have HX3 := Lib.hid (HX.out.trans hx3)
    clear hx3
    go_wp2_with fail
    refine (PKnown_at _ (HM.out.ext (HX3.out))).mono ?_
    rintro _ wk ⟨rfl, hxk⟩
    have HXk := Lib.hid ((HX3.out).trans hxk)
    clear hxk
    go_wp2_with fail
    go_ret
    exact ⟨rfl, HXk.out⟩
  have h200' : (b.length : Int) ≤ 200 := by omega
  have HPS : Hid (∀ p ∈ ps, p.size ≤ 1000) := Lib.hid (fun p hp => Nat.le_trans (hp40 p hp) (by omega))
  have HB1 : Hid (b.length ≤ 1000) := Lib.hid (by omega)
  have HN1 : Hid (ps.length ≤ 1000) := Lib.hid (by omega)
  clear h0 h1 hp2 hn2 x1 x2 z1 z2 hx2 hR hB h60 hsm h200 hp40 hn6
  have HV := Lib.hid (fun W => RPoValid_at p hs4 W)
  cases hok : p.ok with
  | false =>
    have HC := Lib.hid (fun v r vb W => Check_no p hs4 v r vb W hok)
    rw [hok] at HV
    clear hok
    go_enter Tryz.func4, Tryz.ntmps4
    unfold Pol.v
    unfold Pol.cs at e1
    go_wp2_with fail
    refine HSM.out.mono ?_
    rintro _ w3 ⟨rfl, hx3⟩
    have HY3 := Lib.hid hx3
    have HO := Lib.hid (OB.lit w3 5 w3.heap.size [] [] rfl 0 rfl (by simp [maxLen]) (Nat.le_refl _) (z := w3.heap.size) rfl)
    clear hx3 k0 k1 k2 k3 k4 k5 k6 k7 k8 k9 d0 d1 e1 e2
    go_upto_region 4 with (at_builtin; refine wpList_append_bs _ rfl (.tmp 27) (.tmp 28) 31 rfl w3.heap.size 5 i0 (.int .u8 0) Tryz.underlying31 hi hz0 hz1 hz2 rfl _ [] rfl HO.out _ b rfl ((HBS.out.ext HY3.out).ext ((Ext.refl w3).alloc _)) ?hd ?he ?_; rotate_right; intro v4 w4 hown4 hg4 hat4)
    case hd => have := HB1.out; simp; omega
    case he => simp
    have hb4 : OB 5 w4 w3.heap.size v4 b := by simpa using hown4
    obtain ⟨A4, c4, rfl⟩ := hb4.shape
    have hx4 := ((Ext.refl w3).alloc (.cells #[] 5)).grown hg4 (fun j hj => OB.lt HO.out j hj)
    have HY4 := Lib.hid (HY3.out.trans hx4); have HOB := Lib.hid hb4; have HZ3 := Lib.hid (show w3.heap.size < w4.heap.size by have := hg4.size; simp at this; omega)
    clear hown4 hg4 hat4 hb4 hx4
    obtain ⟨k0, k1, k2, k3, k4, k5, k6, k7, k8, k9⟩ := (HP.out.ext HY4.out).cells
    have d0 := (HN.out.ext HY4.out).cell0; have d1 := NBcell1 (HN.out.ext HY4.out)
    go_wp2_with fail
    refine (HC.out _ _ _ _).mono ?_
    rintro _ w5 ⟨rfl, hx5⟩
    have HY5 := Lib.hid (HY4.out.trans hx5)
    clear hx5 k0 k1 k2 k3 k4 k5 k6 k7 k8 k9 d0 d1
    obtain ⟨k0, k1, k2, k3, k4, k5, k6, k7, k8, k9⟩ := (HP.out.ext HY5.out).cells
    have d0 := (HN.out.ext HY5.out).cell0; have d1 := NBcell1 (HN.out.ext HY5.out)
    go_wp2_with fail
    refine (HV.out _).mono ?_
    rintro _ w6 ⟨rfl, hx6⟩
    have HX6 := Lib.hid (HX.out.trans (HY5.out.trans hx6))
    clear hx6 k0 k1 k2 k3 k4 k5 k6 k7 k8 k9 d0 d1
    go_wp2_with fail
    refine (num_at' _ _).mono ?_
    rintro _ wz ⟨rfl, rfl⟩
    go_wp2_with fail
    refine (PKnown_at _ (HM.out.ext (HX6.out))).mono ?_
    rintro _ wk ⟨rfl, hxk⟩
    have HXk := Lib.hid ((HX6.out).trans hxk)
    clear hxk
    go_wp2_with fail
    go_ret
    exact ⟨rfl, HXk.out⟩
  | true =>
    have HC := Lib.hid (fun A c W (hx : Ext W2 W) (hb : BS W (.slice A b.length c) b) => Check_at p hs4 A1 c1 ps r HN1.out HPS.out A c b HB1.out W (HRS.out.ext hx) hb hok)
    have HRB := Lib.hid (fun W (hx : Ext W2 W) => RBroken_at p A1 c1 ps r HN1.out HPS.out A c b HB1.out W (HRS.out.ext hx) (HBS.out.ext hx))
    have HE := Lib.hid (show brkP p (datP ps) b = brk p.len p.cla p.dis (datP ps) b by unfold brkP; rw [if_pos hok])
    rw [HE.out] at HC
    rw [hok] at HV
    clear hok
    obtain ⟨L, hL⟩ : ∃ L, brk p.len p.cla p.dis (datP ps) b = L := ⟨_, rfl⟩
    rw [hL] at HC HRB HE
    obtain ⟨f, hf⟩ : ∃ f, firstR L = f := ⟨_, rfl⟩
    have HF := Lib.hid hf
    rw [hf] at HC
    clear hL hf
    go_enter Tryz.func4, Tryz.ntmps4
    unfold Pol.v
    unfold Pol.cs at e1
    go_wp2_with fail
    refine HSM.out.mono ?_
    rintro _ w3 ⟨rfl, hx3⟩
    have HY3 := Lib.hid hx3
    have HO := Lib.hid (OB.lit w3 5 w3.heap.size [] [] rfl 0 rfl (by simp [maxLen]) (Nat.le_refl _) (z := w3.heap.size) rfl)
    clear hx3 k0 k1 k2 k3 k4 k5 k6 k7 k8 k9 d0 d1 e1 e2
    go_upto_region 4 with (at_builtin; refine wpList_append_bs _ rfl (.tmp 27) (.tmp 28) 31 rfl w3.heap.size 5 i0 (.int .u8 0) Tryz.underlying31 hi hz0 hz1 hz2 rfl _ [] rfl HO.out _ b rfl ((HBS.out.ext HY3.out).ext ((Ext.refl w3).alloc _)) ?hd ?he ?_; rotate_right; intro v4 w4 hown4 hg4 hat4)
    case hd => have := HB1.out; simp; omega
    case he => simp
    have hb4 : OB 5 w4 w3.heap.size v4 b := by simpa using hown4
    obtain ⟨A4, c4, rfl⟩ := hb4.shape
    have hx4 := ((Ext.refl w3).alloc (.cells #[] 5)).grown hg4 (fun j hj => OB.lt HO.out j hj)
    have HY4 := Lib.hid (HY3.out.trans hx4); have HOB := Lib.hid hb4; have HZ3 := Lib.hid (show w3.heap.size < w4.heap.size by have := hg4.size; simp at this; omega)
    clear hown4 hg4 hat4 hb4 hx4
    obtain ⟨k0, k1, k2, k3, k4, k5, k6, k7, k8, k9⟩ := (HP.out.ext HY4.out).cells
    have d0 := (HN.out.ext HY4.out).cell0; have d1 := NBcell1 (HN.out.ext HY4.out)
    go_wp2_with fail
    refine (HC.out _ _ w4 HY4.out HOB.out.bs).mono ?_
    rintro _ w5 ⟨rfl, hx5⟩
    have HY5 := Lib.hid (HY4.out.trans hx5); have HOB5 := Lib.hid (HOB.out.ext hx5)
    clear hx5 k0 k1 k2 k3 k4 k5 k6 k7 k8 k9 d0 d1
    obtain ⟨k0, k1, k2, k3, k4, k5, k6, k7, k8, k9⟩ := (HP.out.ext HY5.out).cells
    have d0 := (HN.out.ext HY5.out).cell0; have d1 := NBcell1 (HN.out.ext HY5.out)
    go_wp2_with fail
    refine (HV.out _).mono ?_
    rintro _ w6 ⟨rfl, hx6⟩
    have HY6 := Lib.hid (HY5.out.trans hx6); have HOB6 := Lib.hid (HOB5.out.ext hx6)
    clear hx6 k0 k1 k2 k3 k4 k5 k6 k7 k8 k9 d0 d1
    obtain ⟨k0, k1, k2, k3, k4, k5, k6, k7, k8, k9⟩ := (HP.out.ext HY6.out).cells
    have d0 := (HN.out.ext HY6.out).cell0; have d1 := NBcell1 (HN.out.ext HY6.out)
    go_wp2_with fail
    refine (HRB.out _ HY6.out).mono ?_
    rintro _ w7 ⟨⟨A7, c7, rfl, hr7⟩, hx7⟩
    have HY7 := Lib.hid (HY6.out.trans hx7); have hob7 := HOB6.out.ext hx7
    clear hx7 k0 k1 k2 k3 k4 k5 k6 k7 k8 k9 d0 d1
    have s1 := run_str (P := Tryz.prog) w7 31 9 5 _ b Tryz.underlying31 Tryz.underlying5 Tryz.underlying9 hob7.bs
    have s2 := run_str (P := Tryz.prog) w7 31 9 5 _ b Tryz.underlying31 Tryz.underlying5 Tryz.underlying9 (HBS.out.ext HY7.out)
    have HX7 := Lib.hid (HX.out.trans HY7.out)
    clear hob7
    have hbb : (b == b) = true := beq_self_eq_true _
    have hff : (f == f) = true := beq_self_eq_true _
    cases L with
    | nil =>
      have hf0 := HF.out
      simp only [firstR] at hf0
      subst hf0
      clear hr7
      go_wp2_with fail
      refine (num_at' _ _).mono ?_
      rintro _ wz ⟨rfl, rfl⟩
      go_wp2_with fail
      refine (PKnown_at _ (HM.out.ext (HX7.out))).mono ?_
      rintro _ wk ⟨rfl, hxk⟩
      have HXk := Lib.hid ((HX7.out).trans hxk)
      clear hxk
      go_wp2_with fail
      go_ret
      exact ⟨rfl, HXk.out⟩
    | cons x L' =>
      have hf0 := HF.out
      simp only [firstR] at hf0
      subst hf0
      obtain ⟨A', c', he, e3, e4, e5⟩ := hr7
      rw [rv_length] at e3 e5 he
      injection he with y1 _ y3
      subst y1; subst y3
      obtain ⟨ad, rfl, hbl, hcell⟩ := e5 (by simp)
      have hc0 := hcell 0 (.int .i64 (x : Int)) (by simp [rv])
      rw [show ad.add 0 = ad by unfold Addr.add; cases ad with | mk b o m => cases m <;> simp] at hc0
      clear hcell e3 e4 e5 hbl
      have hlen : (0 : Int) < ((x :: L').length : Int) := by simp only [List.length_cons]; omega
      have hlen' : 0 < (x :: L').length := by simp
      obtain ⟨n, hn⟩ : ∃ n, (x :: L').length = n := ⟨_, rfl⟩
      rw [hn] at hlen hlen' ⊢
      clear hn
      go_wp2_with fail
      refine (num_at' _ _).mono ?_
      rintro _ wz ⟨rfl, rfl⟩
      go_wp2_with fail
      refine (PKnown_at _ (HM.out.ext (HX7.out))).mono ?_
      rintro _ wk ⟨rfl, hxk⟩
      have HXk := Lib.hid ((HX7.out).trans hxk)
      clear hxk
      go_wp2_with fail
      go_ret
      exact ⟨rfl, HXk.out⟩
theorem law_row (p : Pol) (A1 : Option Addr) (c1 : Nat) (ps : List ByteArray) (r : ByteArray) (A : Option Addr) (c : Nat) (b : List UInt8) (w : World) (hs : p.nm.size ≤ maxLen) (hR : RS w (.slice A1 ps.length c1) (svP ps)) (hB : BS w (.slice A b.length c) b) (hm : Env w) :
    Calls Tryz.prog 4 #[p.v, .agg #[.slice A1 ps.length c1, .string r], .slice A b.length c] w fun e w' => e = .returned (.bool true) ∧ Ext w w' := by
  exact law_walk p A1 c1 ps r A c b w hm hR hB
end Go.Proofs.YtgfjmmdkdhodiaaGreatDoor.policyChecks
