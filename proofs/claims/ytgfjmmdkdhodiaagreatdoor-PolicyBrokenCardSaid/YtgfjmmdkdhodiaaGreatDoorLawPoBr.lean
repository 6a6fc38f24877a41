/- PolicyBroken: the law. (wip/tools/genlawpo.py printed this.) -/
import Derived.Test.YtgfjmmdkdhodiaaGreatDoorPoL4
import Derived.Test.YtgfjmmdkdhodiaaGreatDoorRowP
import Derived.Test.YtgfjmmdkdhodiaaGreatDoorPoR7
import Derived.Test.YtgfjmmdkdhodiaaGreatDoorMg25
import Derived.Test.YtgfjmmdkdhodiaaGreatDoorMg37
import Derived.Deep.Cut
namespace Go.Proofs.YtgfjmmdkdhodiaaGreatDoor.policyBroken
open Go Go.RowKit
set_option linter.unusedVariables false
theorem NBcell1 {w : World} {g : Nat} {v : Value} {r : ByteArray} (h : NB w g v r) : w.cell? ⟨g, 1, none⟩ = some (.string r) := by rw [cell_of_row _ _ 1 _ _ (0, 0) h]; rfl
theorem over_nil (g : Nat) (A : Option Addr) (c : Nat) (many : Int) (w : World) (hg : g < w.heap.size) (hit : ItR g A c [] w) :
    Calls Tryz.prog 19 #[.func (.func 38) #[] #[.pointer (some ⟨g, 0, none⟩)], .slice none 0 0, .int .i64 many] w fun e w' => e = .returned (.bool true) ∧ Ext w w' := over_at g A c [] (by decide) none 0 many w hg hit (RS.nil _)
set_option maxRecDepth 100000 in
set_option maxHeartbeats 4000000 in
theorem law_walk (p : Pol) (A1 : Option Addr) (c1 : Nat) (ps : List ByteArray) (r : ByteArray) (A : Option Addr) (c : Nat) (b : List UInt8) (many : Int) (w : World) (hm : Env w) (hR : RS w (.slice A1 ps.length c1) (svP ps)) (hB : BS w (.slice A b.length c) b) :
    Calls Tryz.prog 5 #[p.v, .agg #[.slice A1 ps.length c1, .string r], .slice A b.length c, .int .i64 many] w fun e w' => e = .returned (.bool true) ∧ Ext w w' := by
  have HM := Lib.hid hm; clear hm
  obtain ⟨i0, hi, hz0, hz1, hz2⟩ := info_parts u8info
  have h0 := heap_alloc_new w (.cells p.cs 23)
  obtain ⟨W1, e1⟩ : ∃ W, w.alloc (.cells p.cs 23) = W := ⟨_, rfl⟩
  have x1 : Ext w W1 := e1 ▸ (Ext.refl w).alloc _
  have z1 : W1.heap.size = w.heap.size + 1 := by rw [← e1]; simp
  rw [e1] at h0
  have h1 := heap_alloc_new W1 (.cells #[.slice A1 ps.length c1, .string r] 30)
  obtain ⟨W2, e2⟩ : ∃ W, W1.alloc (.cells #[.slice A1 ps.length c1, .string r] 30) = W := ⟨_, rfl⟩
  have x2 : Ext W1 W2 := e2 ▸ (Ext.refl W1).alloc _
  have z2 : W2.heap.size = w.heap.size + 1 + 1 := by rw [← e2]; simp [z1]
  rw [e2] at h1
  have hp2 : PL W2 w.heap.size p := x2.heap h0
  have hn2 : NB W2 W1.heap.size (.slice A1 ps.length c1) r := h1
  have hx2 := x1.trans x2
  obtain ⟨k0, k1, k2, k3, k4, k5, k6, k7, k8, k9⟩ := hp2.cells
  have d0 := hn2.cell0
  have d1 := NBcell1 hn2
  have HP := Lib.hid hp2; have HN := Lib.hid hn2; have HX := Lib.hid hx2; have HS1 := Lib.hid z1; have HZ2 := Lib.hid z2
  have HRS := Lib.hid (hR.ext hx2); have HBS := Lib.hid (hB.ext hx2)
  have HSM := Lib.hid (lsmall_at A1 c1 ps r W2 HRS.out)
  by_cases h60 : 60 < p.nm.size
  · have h60' : (60 : Int) < (p.nm.size : Int) := by omega
    clear h0 h1 hp2 hn2 x1 x2 z1 z2 hx2 hR hB h60
    go_enter Tryz.func5, Tryz.ntmps5
    unfold Pol.v
    unfold Pol.cs at e1
    go_wp2_with fail
    refine (PKnown_at _ (HM.out.ext (HX.out))).mono ?_
    rintro _ wk ⟨rfl, hxk⟩
    have HXk := Lib.hid ((HX.out).trans hxk)
    clear hxk
    go_wp2_with fail
    go_ret
    exact ⟨rfl, HXk.out⟩
  have h60' : decide ((60 : Int) < (p.nm.size : Int)) = false := decide_eq_false (by omega)
  have hs4 : p.nm.size ≤ 4294967280 := by omega
  cases hsm : smlP ps with
  | false =>
    rw [hsm] at HSM
    clear h0 h1 hp2 hn2 x1 x2 z1 z2 hx2 hR hB h60 hsm
    go_enter Tryz.func5, Tryz.ntmps5
    unfold Pol.v
    unfold Pol.cs at e1
    go_wp2_with fail
    refine HSM.out.mono ?_
    rintro _ w3 ⟨rfl, hx3⟩
    have HX3 := Lib.hid (HX.out.trans hx3)
    clear hx3
    go_wp2_with fail
    refine (PKnown_at _ (HM.out.ext (HX3.out))).mono ?_
    rintro _ wk ⟨rfl, hxk⟩
    have HXk := Lib.hid ((HX3.out).trans hxk)
    clear hxk
    go_wp2_with fail
    go_ret
    exact ⟨rfl, HXk.out⟩
  | true =>
  rw [hsm] at HSM
  obtain ⟨hn6, hp40⟩ := smlP_yes hsm
  by_cases h200 : 200 < b.length
  · have h200' : (200 : Int) < (b.length : Int) := by omega
    clear h0 h1 hp2 hn2 x1 x2 z1 z2 hx2 hR hB h60 hsm h200 hp40
    go_enter Tryz.func5, Tryz.ntmps5
    unfold Pol.v
    unfold Pol.cs at e1
    go_wp2_with fail
    refine HSM.out.mono ?_
    rintro _ w3 ⟨rfl, hx3⟩
    have HX3 := Lib.hid (HX.out.trans hx3)
    clear hx3
    go_wp2_with fail
    refine (PKnown_at _ (HM.out.ext (HX3.out))).mono ?_
    rintro _ wk ⟨rfl, hxk⟩
    have HXk := Lib.hid ((HX3.out).trans hxk)
    clear hxk
    go_wp2_with fail
    go_ret
    exact ⟨rfl, HXk.out⟩
  have h200' : (b.length : Int) ≤ 200 := by omega
  have HPS : Hid (∀ p ∈ ps, p.size ≤ 1000) := Lib.hid (fun p hp => Nat.le_trans (hp40 p hp) (by omega))
  have HB1 : Hid (b.length ≤ 1000) := Lib.hid (by omega)
  have HN1 : Hid (ps.length ≤ 1000) := Lib.hid (by omega)
  clear h0 h1 hp2 hn2 x1 x2 z1 z2 hx2 hR hB h60 hsm h200 hp40 hn6
  have HV := Lib.hid (fun W => RPoValid_at p hs4 W)
  have HBR := Lib.hid (fun A c W (hx : Ext W2 W) (hb : BS W (.slice A b.length c) b) => Broken_at p hs4 A1 c1 ps r HN1.out HPS.out A c b HB1.out W (HRS.out.ext hx) hb)
  have HLL := Lib.hid (brkP_len p (datP ps) b)
  cases hok : p.ok with
  | false =>
    have HE := Lib.hid (show brkP p (datP ps) b = [] by unfold brkP; rw [hok]; rfl)
    rw [HE.out] at HBR HLL
    rw [hok] at HV
    clear hok
    go_enter Tryz.func5, Tryz.ntmps5
    unfold Pol.v
    unfold Pol.cs at e1
    go_wp2_with fail
    refine HSM.out.mono ?_
    rintro _ w3 ⟨rfl, hx3⟩
    have HY3 := Lib.hid hx3
    have HO := Lib.hid (OB.lit w3 5 w3.heap.size [] [] rfl 0 rfl (by simp [maxLen]) (Nat.le_refl _) (z := w3.heap.size) rfl)
    clear hx3 k0 k1 k2 k3 k4 k5 k6 k7 k8 k9 d0 d1 e1 e2
    go_upto_region 4 with (at_builtin; refine wpList_append_bs _ rfl (.tmp 28) (.tmp 29) 31 rfl w3.heap.size 5 i0 (.int .u8 0) Tryz.underlying31 hi hz0 hz1 hz2 rfl _ [] rfl HO.out _ b rfl ((HBS.out.ext HY3.out).ext ((Ext.refl w3).alloc _)) ?hd ?he ?_; rotate_right; intro v4 w4 hown4 hg4 hat4)
    case hd => have := HB1.out; simp; omega
    case he => simp
    have hb4 : OB 5 w4 w3.heap.size v4 b := by simpa using hown4
    obtain ⟨A4, c4, rfl⟩ := hb4.shape
    have hx4 := ((Ext.refl w3).alloc (.cells #[] 5)).grown hg4 (fun j hj => OB.lt HO.out j hj)
    have HY4 := Lib.hid (HY3.out.trans hx4); have HOB := Lib.hid hb4; have HZ3 := Lib.hid (show w3.heap.size < w4.heap.size by have := hg4.size; simp at this; omega)
    clear hown4 hg4 hat4 hb4 hx4
    obtain ⟨k0, k1, k2, k3, k4, k5, k6, k7, k8, k9⟩ := (HP.out.ext HY4.out).cells
    have d0 := (HN.out.ext HY4.out).cell0; have d1 := NBcell1 (HN.out.ext HY4.out)
    go_upto_region 5 with fail
    refine (HBR.out _ _ w4 HY4.out HOB.out.bs).mono ?_
    rintro _ w5 ⟨⟨g, A5, c5, rfl, hit5, hg5, ha5⟩, hx5⟩
    have hob5 := HOB.out.ext hx5
    obtain ⟨go, hgo⟩ : ∃ go, w3.heap.size ≤ go ∧ go < w4.heap.size ∧ (0 < b.length → A4 = some ⟨go, 0, none⟩) := by
      rcases HOB.out.2 with ⟨_, h0⟩ | ⟨g, cap, cur, hv, hb, hh, r⟩
      · exact ⟨w3.heap.size, Nat.le_refl _, HZ3.out, fun h => by rw [show b.length = 0 by simpa using h0] at h; omega⟩
      · injection hv with h1
        exact ⟨g, hb, (Array.getElem?_eq_some_iff.1 hh).1, fun _ => h1⟩
    have hstay : ∀ W, w5.grownBy W (some go) → ItR g A5 c5 [] W := fun W hg => ⟨heap_far hg hit5.1 (by omega), hit5.2.far hg (fun ad hd => by have := ha5 ad hd; omega)⟩
    have hext : ∀ W, w5.grownBy W (some go) → Ext W2 W := fun W hg => (HY4.out.trans hx5).grown hg (fun j hj => by injection hj with hj; have := HY3.out.size; omega)
    have HGO := Lib.hid hgo; have HST := Lib.hid hstay; have HEX := Lib.hid hext; have HG5 := Lib.hid (Array.getElem?_eq_some_iff.1 hit5.1).1
    clear hgo hstay hext hit5 hg5 ha5 hx5 k0 k1 k2 k3 k4 k5 k6 k7 k8 k9 d0 d1
    go_wp2_with fail
    go_loopw [11] (fun i wr => ∃ (k : Nat) (X : List UInt8), k ≤ b.length ∧ i = .int .i64 k ∧ X.length = b.length ∧ OB 5 wr w3.heap.size (.slice A4 X.length c4) X ∧ w5.grownBy wr (some go)) (fun i _ => b.length - (intOf i).toNat)
    case atStart => exact ⟨0, b, Nat.zero_le _, rfl, rfl, hob5, grown_refl _ _⟩
    case round =>
      obtain ⟨k, X, hk, rfl, hX, hob, hgr⟩ := hrel
      have hl63 : b.length ≤ 1000 := HB1.out
      by_cases hlt : k < b.length
      · have h3 := HGO.out.2.2 (by omega)
        subst h3
        obtain ⟨hc, hf⟩ := hob.at_ k (by omega)
        have hset := hob.set k 120 120 rfl
        have HS := Lib.hid hset; clear hset
        go_wp2_with fail
        go_roundw
        case rel => exact ⟨k + 1, _, by omega, by go_num, by rw [List.length_set]; exact hX, HS.out.1, grown_trans hgr HS.out.2⟩
        case measure => simp [intOf] <;> omega
      · clear hob5 hob
        have HY6 := Lib.hid (HEX.out _ hgr); have HI6 := Lib.hid (HST.out _ hgr); have HG6 := Lib.hid (Nat.lt_of_lt_of_le HG5.out hgr.size)
        clear hgr hX
        obtain ⟨k0, k1, k2, k3, k4, k5, k6, k7, k8, k9⟩ := (HP.out.ext HY6.out).cells
        have d0 := (HN.out.ext HY6.out).cell0; have d1 := NBcell1 (HN.out.ext HY6.out)
        go_wp2_with fail
        refine (HV.out _).mono ?_
        rintro _ w7 ⟨rfl, hx7⟩
        have HX7 := Lib.hid (HX.out.trans (HY6.out.trans hx7)); have HI7 := Lib.hid (HI6.out.ext hx7); have HG7 := Lib.hid (Nat.lt_of_lt_of_le HG6.out hx7.size)
        clear hx7 k0 k1 k2 k3 k4 k5 k6 k7 k8 k9 d0 d1
        go_wp2_with fail
        refine (over_nil g A5 c5 many _ HG7.out HI7.out).mono ?_
        rintro _ w8 ⟨rfl, hx8⟩
        have HY8 := Lib.hid hx8; have HX8 := Lib.hid (HX7.out.trans hx8)
        clear hx8
        go_wp2_with fail
        refine (over_nil g A5 c5 9 _ (Nat.lt_of_lt_of_le HG7.out HY8.out.size) (HI7.out.ext HY8.out)).mono ?_
        rintro _ w9 ⟨rfl, hx9⟩
        have HX9 := Lib.hid (HX8.out.trans hx9)
        clear hx9
        go_wp2_with fail
        refine (PKnown_at _ (HM.out.ext (HX9.out))).mono ?_
        rintro _ wk ⟨rfl, hxk⟩
        have HXk := Lib.hid ((HX9.out).trans hxk)
        clear hxk
        go_wp2_with fail
        go_ret
        exact ⟨rfl, HXk.out⟩
  | true =>
    have HRB := Lib.hid (fun W (hx : Ext W2 W) => RBroken_at p A1 c1 ps r HN1.out HPS.out A c b HB1.out W (HRS.out.ext hx) (HBS.out.ext hx))
    have HE := Lib.hid (show brkP p (datP ps) b = brk p.len p.cla p.dis (datP ps) b by unfold brkP; rw [if_pos hok])
    rw [HE.out] at HBR HLL
    rw [hok] at HV
    clear hok
    obtain ⟨L, hL⟩ : ∃ L, brk p.len p.cla p.dis (datP ps) b = L := ⟨_, rfl⟩
    rw [hL] at HBR HRB HLL
    clear hL HE
    go_enter Tryz.func5, Tryz.ntmps5
    unfold Pol.v
    unfold Pol.cs at e1
    go_wp2_with fail
    refine HSM.out.mono ?_
    rintro _ w3 ⟨rfl, hx3⟩
    have HY3 := Lib.hid hx3
    have HO := Lib.hid (OB.lit w3 5 w3.heap.size [] [] rfl 0 rfl (by simp [maxLen]) (Nat.le_refl _) (z := w3.heap.size) rfl)
    clear hx3 k0 k1 k2 k3 k4 k5 k6 k7 k8 k9 d0 d1 e1 e2
    go_upto_region 4 with (at_builtin; refine wpList_append_bs _ rfl (.tmp 28) (.tmp 29) 31 rfl w3.heap.size 5 i0 (.int .u8 0) Tryz.underlying31 hi hz0 hz1 hz2 rfl _ [] rfl HO.out _ b rfl ((HBS.out.ext HY3.out).ext ((Ext.refl w3).alloc _)) ?hd ?he ?_; rotate_right; intro v4 w4 hown4 hg4 hat4)
    case hd => have := HB1.out; simp; omega
    case he => simp
    have hb4 : OB 5 w4 w3.heap.size v4 b := by simpa using hown4
    obtain ⟨A4, c4, rfl⟩ := hb4.shape
    have hx4 := ((Ext.refl w3).alloc (.cells #[] 5)).grown hg4 (fun j hj => OB.lt HO.out j hj)
    have HY4 := Lib.hid (HY3.out.trans hx4); have HOB := Lib.hid hb4; have HZ3 := Lib.hid (show w3.heap.size < w4.heap.size by have := hg4.size; simp at this; omega)
    clear hown4 hg4 hat4 hb4 hx4
    obtain ⟨k0, k1, k2, k3, k4, k5, k6, k7, k8, k9⟩ := (HP.out.ext HY4.out).cells
    have d0 := (HN.out.ext HY4.out).cell0; have d1 := NBcell1 (HN.out.ext HY4.out)
    go_upto_region 5 with fail
    refine (HBR.out _ _ w4 HY4.out HOB.out.bs).mono ?_
    rintro _ w5 ⟨⟨g, A5, c5, rfl, hit5, hg5, ha5⟩, hx5⟩
    have hob5 := HOB.out.ext hx5
    obtain ⟨go, hgo⟩ : ∃ go, w3.heap.size ≤ go ∧ go < w4.heap.size ∧ (0 < b.length → A4 = some ⟨go, 0, none⟩) := by
      rcases HOB.out.2 with ⟨_, h0⟩ | ⟨g, cap, cur, hv, hb, hh, r⟩
      · exact ⟨w3.heap.size, Nat.le_refl _, HZ3.out, fun h => by rw [show b.length = 0 by simpa using h0] at h; omega⟩
      · injection hv with h1
        exact ⟨g, hb, (Array.getElem?_eq_some_iff.1 hh).1, fun _ => h1⟩
    have hstay : ∀ W, w5.grownBy W (some go) → ItR g A5 c5 L W := fun W hg => ⟨heap_far hg hit5.1 (by omega), hit5.2.far hg (fun ad hd => by have := ha5 ad hd; omega)⟩
    have hext : ∀ W, w5.grownBy W (some go) → Ext W2 W := fun W hg => (HY4.out.trans hx5).grown hg (fun j hj => by injection hj with hj; have := HY3.out.size; omega)
    have HGO := Lib.hid hgo; have HST := Lib.hid hstay; have HEX := Lib.hid hext; have HG5 := Lib.hid (Array.getElem?_eq_some_iff.1 hit5.1).1
    clear hgo hstay hext hit5 hg5 ha5 hx5 k0 k1 k2 k3 k4 k5 k6 k7 k8 k9 d0 d1
    go_wp2_with fail
    go_loopw [11] (fun i wr => ∃ (k : Nat) (X : List UInt8), k ≤ b.length ∧ i = .int .i64 k ∧ X.length = b.length ∧ OB 5 wr w3.heap.size (.slice A4 X.length c4) X ∧ w5.grownBy wr (some go)) (fun i _ => b.length - (intOf i).toNat)
    case atStart => exact ⟨0, b, Nat.zero_le _, rfl, rfl, hob5, grown_refl _ _⟩
    case round =>
      obtain ⟨k, X, hk, rfl, hX, hob, hgr⟩ := hrel
      have hl63 : b.length ≤ 1000 := HB1.out
      by_cases hlt : k < b.length
      · have h3 := HGO.out.2.2 (by omega)
        subst h3
        obtain ⟨hc, hf⟩ := hob.at_ k (by omega)
        have hset := hob.set k 120 120 rfl
        have HS := Lib.hid hset; clear hset
        go_wp2_with fail
        go_roundw
        case rel => exact ⟨k + 1, _, by omega, by go_num, by rw [List.length_set]; exact hX, HS.out.1, grown_trans hgr HS.out.2⟩
        case measure => simp [intOf] <;> omega
      · clear hob5 hob
        have HY6 := Lib.hid (HEX.out _ hgr); have HI6 := Lib.hid (HST.out _ hgr); have HG6 := Lib.hid (Nat.lt_of_lt_of_le HG5.out hgr.size)
        clear hgr hX
        obtain ⟨k0, k1, k2, k3, k4, k5, k6, k7, k8, k9⟩ := (HP.out.ext HY6.out).cells
        have d0 := (HN.out.ext HY6.out).cell0; have d1 := NBcell1 (HN.out.ext HY6.out)
        go_wp2_with fail
        refine (HV.out _).mono ?_
        rintro _ w7 ⟨rfl, hx7⟩
        have HY7 := Lib.hid (HY6.out.trans hx7); have HI7A := Lib.hid (HI6.out.ext hx7); have HG7A := Lib.hid (Nat.lt_of_lt_of_le HG6.out hx7.size)
        clear hx7 k0 k1 k2 k3 k4 k5 k6 k7 k8 k9 d0 d1
        obtain ⟨k0, k1, k2, k3, k4, k5, k6, k7, k8, k9⟩ := (HP.out.ext HY7.out).cells
        have d0 := (HN.out.ext HY7.out).cell0; have d1 := NBcell1 (HN.out.ext HY7.out)
        go_wp2_with fail
        refine (HRB.out _ HY7.out).mono ?_
        rintro _ wb ⟨⟨A7, c7, rfl, hr7⟩, hxb⟩
        have HX7 := Lib.hid (HX.out.trans (HY7.out.trans hxb)); have HI7 := Lib.hid (HI7A.out.ext hxb); have HG7 := Lib.hid (Nat.lt_of_lt_of_le HG7A.out hxb.size); have HR7 := Lib.hid hr7
        clear hxb hr7 k0 k1 k2 k3 k4 k5 k6 k7 k8 k9 d0 d1
        go_wp2_with fail
        refine (over_at g A5 c5 L HLL.out A7 c7 many _ HG7.out HI7.out HR7.out).mono ?_
        rintro _ w8 ⟨rfl, hx8⟩
        have HY8 := Lib.hid hx8; have HX8 := Lib.hid (HX7.out.trans hx8)
        clear hx8
        go_wp2_with fail
        refine (over_at g A5 c5 L HLL.out A7 c7 9 _ (Nat.lt_of_lt_of_le HG7.out HY8.out.size) (HI7.out.ext HY8.out) (RS.ext HR7.out HY8.out)).mono ?_
        rintro _ w9 ⟨rfl, hx9⟩
        have HX9 := Lib.hid (HX8.out.trans hx9)
        clear hx9
        go_wp2_with fail
        refine (PKnown_at _ (HM.out.ext (HX9.out))).mono ?_
        rintro _ wk ⟨rfl, hxk⟩
        have HXk := Lib.hid ((HX9.out).trans hxk)
        clear hxk
        go_wp2_with fail
        go_ret
        exact ⟨rfl, HXk.out⟩
theorem law_row (p : Pol) (A1 : Option Addr) (c1 : Nat) (ps : List ByteArray) (r : ByteArray) (A : Option Addr) (c : Nat) (b : List UInt8) (many : Int) (w : World) (hs : p.nm.size ≤ maxLen) (hR : RS w (.slice A1 ps.length c1) (svP ps)) (hB : BS w (.slice A b.length c) b) (hm : Env w) :
    Calls Tryz.prog 5 #[p.v, .agg #[.slice A1 ps.length c1, .string r], .slice A b.length c, .int .i64 many] w fun e w' => e = .returned (.bool true) ∧ Ext w w' := by
  exact law_walk p A1 c1 ps r A c b many w hm hR hB
end Go.Proofs.YtgfjmmdkdhodiaaGreatDoor.policyBroken
