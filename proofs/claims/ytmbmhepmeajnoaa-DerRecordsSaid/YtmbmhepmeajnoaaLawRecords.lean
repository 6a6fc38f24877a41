/- DerRecords: the walk of the law. -/
import Derived.Test.YtmbmhepmeajnoaaKnown
import Derived.Test.YtmbmhepmeajnoaaDer15
import Derived.Test.YtmbmhepmeajnoaaRef5
namespace Go.Proofs.Ytmbmhepmeajnoaa.derRecords
open Go Go.RowKit

def VB (L : List UInt8) (v : Value) (w : World) : Prop := ∃ A c, v = .slice A L.length c ∧ BS w (.slice A L.length c) L
theorem VB.str {L : List UInt8} {A : Option Addr} {c : Nat} {w w' : World} (h : BS w (.slice A L.length c) L) (hx : Ext w w') : (convert 24 9 (.slice A L.length c)).run Try.prog w' = .ok (.string ⟨L.toArray⟩) w' :=
  run_str w' _ _ 5 _ _ Try.underlying24 Try.underlying5 Try.underlying9 (h.ext hx)

set_option maxRecDepth 100000 in
set_option maxHeartbeats 4000000 in
theorem law_walk (p v : Int) (A : Option Addr) (c : Nat) (l : List UInt8) (p2 v2 : Int) (A2 : Option Addr) (c2 : Nat) (l2 : List UInt8) (A3 : Option Addr) (c3 : Nat) (xs : List (Int × List UInt8)) (w : World)
    (hB : BS w (.slice A l.length c) l) (hB2 : BS w (.slice A2 l2.length c2) l2) (hD : DS w (.slice A3 xs.length c3) xs) :
    Calls Try.prog 7 #[.agg #[.int .i64 p, .int .i64 v, .slice A l.length c], .agg #[.int .i64 p2, .int .i64 v2, .slice A2 l2.length c2], .slice A3 xs.length c3] w fun e w' => e = .returned (.bool true) ∧ Ext w w' := by
  by_cases h1 : (100 : Int) < l.length
  · go_enter Try.func7, Try.ntmps7
    go_wp2_with (go_at_call 10; refine (known_at _).mono ?_; rintro e w1 ⟨rfl, hx1⟩)
    go_ret
    exact ⟨rfl, (((Ext.refl w).alloc _).alloc _).trans hx1⟩
  by_cases h2 : (100 : Int) < l2.length
  · go_enter Try.func7, Try.ntmps7
    go_wp2_with (go_at_call 10; refine (known_at _).mono ?_; rintro e w1 ⟨rfl, hx1⟩)
    go_ret
    exact ⟨rfl, (((Ext.refl w).alloc _).alloc _).trans hx1⟩
  by_cases h3 : (20 : Int) < xs.length
  · go_enter Try.func7, Try.ntmps7
    go_wp2_with (go_at_call 10; refine (known_at _).mono ?_; rintro e w1 ⟨rfl, hx1⟩)
    go_ret
    exact ⟨rfl, (((Ext.refl w).alloc _).alloc _).trans hx1⟩
  have hk : tripleF p v l = threeF p v l := tripleF_eq p v l (by have := encInt_le p; omega) (by have := encInt_le v; omega) (by omega)
  have hk2 : tripleF p2 v2 l2 = threeF p2 v2 l2 := tripleF_eq p2 v2 l2 (by have := encInt_le p2; omega) (by have := encInt_le v2; omega) (by omega)
  have HK := fun w1 (h : BS w1 (.slice A l.length c) l) => Key_at p v A c l w1 h
  have HT := fun w1 (h : BS w1 (.slice A l.length c) l) => Three_at p v A c l (by omega) w1 h
  have HS := fun w1 (h : BS w1 (.slice A2 l2.length c2) l2) => Sealed_at p2 v2 A2 c2 l2 w1 h
  have HT2 := fun w1 (h : BS w1 (.slice A2 l2.length c2) l2) => Three_at p2 v2 A2 c2 l2 (by omega) w1 h
  simp only [hk] at HK
  simp only [hk2] at HS
  obtain ⟨R1, hR1⟩ : ∃ R1, R1 = threeF p v l := ⟨_, rfl⟩
  obtain ⟨R2, hR2⟩ : ∃ R2, R2 = threeF p2 v2 l2 := ⟨_, rfl⟩
  simp only [← hR1] at HK HT
  simp only [← hR2] at HS HT2
  have HK := Lib.hid HK; have HT := Lib.hid HT; have HS := Lib.hid HS; have HT2 := Lib.hid HT2
  have HX := Lib.hid (show xs.length ≤ 20 by omega)
  clear hk hk2 hR1 hR2
  go_enter Try.func7, Try.ntmps7
  go_wp2
  go_loop [7] (fun i => ∃ k : Nat, k ≤ xs.length ∧ i = .int .i64 k ∧ ∀ x ∈ xs.take k, x.2.length ≤ 50) (fun i => xs.length - (intOf i).toNat)
  case atStart => exact ⟨0, Nat.zero_le _, rfl, by simp⟩
  case round =>
    obtain ⟨k, hk, rfl, hle⟩ := hrel
    by_cases hlt : k < xs.length
    · obtain ⟨A', c', hA', hc1, hc2, hcell⟩ := hD
      injection hA' with e1 _ e3
      subst e1; subst e3
      obtain ⟨ad, B, d, rfl, hc0, hc1', hbk⟩ := hcell k hlt
      have htk : xs.take (k + 1) = xs.take k ++ [xs[k]] := List.take_succ_eq_append_getElem hlt
      obtain ⟨x, hx0⟩ : ∃ x, x = xs[k] := ⟨_, rfl⟩
      rw [← hx0] at hc0 hc1' hbk htk
      obtain ⟨kd, b⟩ := x
      dsimp only at hc0 hc1' hbk
      have hxa : Ext w ((w.alloc (.cells #[.int .i64 p, .int .i64 v, .slice A l.length c] 49)).alloc (.cells #[.int .i64 p2, .int .i64 v2, .slice A2 l2.length c2] 50)) := ((Ext.refl w).alloc _).alloc _
      have hcc : w.cell? ⟨(ad.add (k * 2)).block, (ad.add (k * 2)).off + 1, none⟩ = some (.slice B b.length d) := by rw [cell_add1, add_of_add]; exact hc1'
      have hcw := hxa.cell hcc
      clear hcell hc0 hc1' hbk hx0 hxa hcc
      by_cases h50 : (50 : Int) < b.length
      · clear htk hle
        go_wp2_with (go_at_call 10; refine (known_at _).mono ?_; rintro e w1 ⟨rfl, hx1⟩)
        go_ret
        exact ⟨rfl, (((Ext.refl w).alloc _).alloc _).trans hx1⟩
      have hle2 : ∀ x ∈ xs.take (k + 1), x.2.length ≤ 50 := by
        rw [htk]
        intro y hy
        rcases List.mem_append.1 hy with hy | hy
        · exact hle y hy
        · simp only [List.mem_singleton] at hy; rw [hy]; show b.length ≤ 50; omega
      have HLE := Lib.hid hle2
      clear hle hle2 htk
      go_wp2
      go_round
      case rel => exact ⟨k + 1, by omega, by go_num, HLE.out⟩
      case measure => simp [intOf] <;> omega
    · rw [List.take_of_length_le (by omega)] at hle
      have HDF := fun w1 (h : DS w1 (.slice A3 xs.length c3) xs) => Data_at (.slice A3 xs.length c3) xs w1 h
      have HDR := fun w1 (h : DS w1 (.slice A3 xs.length c3) xs) => RData_at (.slice A3 xs.length c3) xs (fun x hx => by have := hle x hx; omega) (by have := HX.out; omega) w1 h
      have hdd : dataF xs = dataR xs := dataF_eq xs (fun x hx => by have := encInt_le x.1; omega) (fun x hx => by have := hle x hx; omega)
      simp only [hdd] at HDF
      obtain ⟨R3, hR3⟩ : ∃ R3, R3 = dataR xs := ⟨_, rfl⟩
      simp only [← hR3] at HDF HDR
      have HDF := Lib.hid HDF; have HDR := Lib.hid HDR
      clear hR3 hdd hle
      go_upto_region 8 with fail
      obtain ⟨W0, hW0⟩ : ∃ W0, W0 = (w.alloc (.cells #[.int .i64 p, .int .i64 v, .slice A l.length c] 49)).alloc (.cells #[.int .i64 p2, .int .i64 v2, .slice A2 l2.length c2] 50) := ⟨_, rfl⟩
      rw [← hW0]
      have hxw : Ext w W0 := by rw [hW0]; exact ((Ext.refl w).alloc _).alloc _
      have hg1 : W0.heap[w.heap.size]? = some (.cells #[.int .i64 p, .int .i64 v, .slice A l.length c] 49 (0, 0)) := by rw [hW0]; exact ((Ext.refl _).alloc _).heap (heap_alloc_new w _)
      have hg2 : W0.heap[w.heap.size + 1]? = some (.cells #[.int .i64 p2, .int .i64 v2, .slice A2 l2.length c2] 50 (0, 0)) := by
        rw [hW0]
        have h := heap_alloc_new (w.alloc (.cells #[.int .i64 p, .int .i64 v, .slice A l.length c] 49)) (.cells #[.int .i64 p2, .int .i64 v2, .slice A2 l2.length c2] 50)
        rwa [show (w.alloc (.cells #[.int .i64 p, .int .i64 v, .slice A l.length c] 49)).heap.size = w.heap.size + 1 by simp] at h
      have k0 : W0.cell? ⟨w.heap.size, 0, none⟩ = some (.int .i64 p) := by rw [cell_of_row _ _ 0 _ _ (0, 0) hg1]; rfl
      have k1 : W0.cell? ⟨w.heap.size, 1, none⟩ = some (.int .i64 v) := by rw [cell_of_row _ _ 1 _ _ (0, 0) hg1]; rfl
      have k2 : W0.cell? ⟨w.heap.size, 2, none⟩ = some (.slice A l.length c) := by rw [cell_of_row _ _ 2 _ _ (0, 0) hg1]; rfl
      have s0 : W0.cell? ⟨w.heap.size + 1, 0, none⟩ = some (.int .i64 p2) := by rw [cell_of_row _ _ 0 _ _ (0, 0) hg2]; rfl
      have s1 : W0.cell? ⟨w.heap.size + 1, 1, none⟩ = some (.int .i64 v2) := by rw [cell_of_row _ _ 1 _ _ (0, 0) hg2]; rfl
      have s2 : W0.cell? ⟨w.heap.size + 1, 2, none⟩ = some (.slice A2 l2.length c2) := by rw [cell_of_row _ _ 2 _ _ (0, 0) hg2]; rfl
      have hBa := hB.ext hxw
      have hBb := hB2.ext hxw
      have hDa := hD.ext hxw
      clear hW0 hg1 hg2 hB hB2 hD hlt hk h1 h2 h3
      refine wp_region_ext (fun i v' w' => match i with | 1 | 9 => VB R1 v' w' | 14 | 22 => VB R2 v' w' | 28 | 31 => VB R3 v' w' | 36 => v' = .bool true | _ => False) (by kernel_rfl) (by kernel_rfl) ?_
      refine wpE_op rfl rfl (fun w' hw' K' hK' => ?_)
      have hE := hw'.1
      have ck0 := ((Ext.drew W0).trans hE).cell k0
      have ck1 := ((Ext.drew W0).trans hE).cell k1
      have ck2 := ((Ext.drew W0).trans hE).cell k2
      go_step
      refine hK' _ ⟨_, rfl⟩ ?_
      clear hK' K' ck2 ck1 ck0 hE hw' w'
      refine wpE_call 39 rfl (by simp) rfl (fun w' hw' K' hK' => ?_) ?_
      · have hE := hw'.1
        go_step
        refine (HK.out _ (hBa.ext ((Ext.drew W0).trans hE))).mono ?_
        rintro e w2 ⟨A2, c2, rfl, hb, hx⟩
        exact hK' _ _ ⟨_, rfl, A2, c2, rfl, hb.bs⟩ hx
      rintro _ w1 hE1 ⟨B1, d1, rfl, hb1⟩
      simp only [Act.put, List.setIfInBounds_toArray, List.set_cons_succ, List.set_cons_zero]
      refine wpE_op rfl rfl (fun w' hw' K' hK' => ?_)
      have hE := hw'.1
      have hM39 : Ext w1 w' := hw'.2 39 w1 (by simp [adds]) (by decide)
      have hs := VB.str hb1 hM39
      go_step
      refine hK' _ ⟨_, rfl⟩ ?_
      clear hK' K' hs hM39 hE hw' w'
      refine wpE_op rfl rfl (fun w' hw' K' hK' => ?_)
      have hE := hw'.1
      go_step
      refine hK' _ ⟨_, rfl⟩ ?_
      clear hK' K'  hE hw' w'
      refine wpE_op rfl rfl (fun w' hw' K' hK' => ?_)
      have hE := hw'.1
      have ck0 := ((Ext.drew W0).trans hE).cell k0
      go_step
      refine hK' _ ⟨_, rfl⟩ ?_
      clear hK' K' ck0 hE hw' w'
      refine wpE_op rfl rfl (fun w' hw' K' hK' => ?_)
      have hE := hw'.1
      go_step
      refine hK' _ ⟨_, rfl⟩ ?_
      clear hK' K'  hE hw' w'
      refine wpE_op rfl rfl (fun w' hw' K' hK' => ?_)
      have hE := hw'.1
      have ck1 := ((Ext.drew W0).trans hE).cell k1
      go_step
      refine hK' _ ⟨_, rfl⟩ ?_
      clear hK' K' ck1 hE hw' w'
      refine wpE_op rfl rfl (fun w' hw' K' hK' => ?_)
      have hE := hw'.1
      go_step
      refine hK' _ ⟨_, rfl⟩ ?_
      clear hK' K'  hE hw' w'
      refine wpE_op rfl rfl (fun w' hw' K' hK' => ?_)
      have hE := hw'.1
      have ck2 := ((Ext.drew W0).trans hE).cell k2
      go_step
      refine hK' _ ⟨_, rfl⟩ ?_
      clear hK' K' ck2 hE hw' w'
      refine wpE_call 47 rfl (by simp) rfl (fun w' hw' K' hK' => ?_) ?_
      · have hE := hw'.1
        go_step
        refine (HT.out _ (hBa.ext ((Ext.drew W0).trans hE))).mono ?_
        rintro e w2 ⟨A2, c2, rfl, hb, hx⟩
        exact hK' _ _ ⟨_, rfl, A2, c2, rfl, hb.bs⟩ hx
      rintro _ w2 hE2 ⟨B2, d2, rfl, hb2⟩
      simp only [Act.put, List.setIfInBounds_toArray, List.set_cons_succ, List.set_cons_zero]
      refine wpE_op rfl rfl (fun w' hw' K' hK' => ?_)
      have hE := hw'.1
      have hM47 : Ext w2 w' := hw'.2 47 w2 (by simp [adds]) (by decide)
      have hs := VB.str hb2 hM47
      go_step
      refine hK' _ ⟨_, rfl⟩ ?_
      clear hK' K' hs hM47 hE hw' w'
      refine wpE_op rfl rfl (fun w' hw' K' hK' => ?_)
      have hE := hw'.1
      go_step
      refine hK' _ ⟨_, rfl⟩ ?_
      clear hK' K'  hE hw' w'
      refine wpE_op rfl rfl (fun w' hw' K' hK' => ?_)
      have hE := hw'.1
      go_step
      refine hK' _ ⟨_, rfl⟩ ?_
      clear hK' K'  hE hw' w'
      refine wpE_op rfl rfl (fun w' hw' K' hK' => ?_)
      have hE := hw'.1
      have cs0 := ((Ext.drew W0).trans hE).cell s0
      have cs1 := ((Ext.drew W0).trans hE).cell s1
      have cs2 := ((Ext.drew W0).trans hE).cell s2
      go_step
      refine hK' _ ⟨_, rfl⟩ ?_
      clear hK' K' cs2 cs1 cs0 hE hw' w'
      refine wpE_call 52 rfl (by simp) rfl (fun w' hw' K' hK' => ?_) ?_
      · have hE := hw'.1
        go_step
        refine (HS.out _ (hBb.ext ((Ext.drew W0).trans hE))).mono ?_
        rintro e w2 ⟨A2, c2, rfl, hb, hx⟩
        exact hK' _ _ ⟨_, rfl, A2, c2, rfl, hb.bs⟩ hx
      rintro _ w3 hE3 ⟨B3, d3, rfl, hb3⟩
      simp only [Act.put, List.setIfInBounds_toArray, List.set_cons_succ, List.set_cons_zero]
      refine wpE_op rfl rfl (fun w' hw' K' hK' => ?_)
      have hE := hw'.1
      have hM52 : Ext w3 w' := hw'.2 52 w3 (by simp [adds]) (by decide)
      have hs := VB.str hb3 hM52
      go_step
      refine hK' _ ⟨_, rfl⟩ ?_
      clear hK' K' hs hM52 hE hw' w'
      refine wpE_op rfl rfl (fun w' hw' K' hK' => ?_)
      have hE := hw'.1
      go_step
      refine hK' _ ⟨_, rfl⟩ ?_
      clear hK' K'  hE hw' w'
      refine wpE_op rfl rfl (fun w' hw' K' hK' => ?_)
      have hE := hw'.1
      have cs0 := ((Ext.drew W0).trans hE).cell s0
      go_step
      refine hK' _ ⟨_, rfl⟩ ?_
      clear hK' K' cs0 hE hw' w'
      refine wpE_op rfl rfl (fun w' hw' K' hK' => ?_)
      have hE := hw'.1
      go_step
      refine hK' _ ⟨_, rfl⟩ ?_
      clear hK' K'  hE hw' w'
      refine wpE_op rfl rfl (fun w' hw' K' hK' => ?_)
      have hE := hw'.1
      have cs1 := ((Ext.drew W0).trans hE).cell s1
      go_step
      refine hK' _ ⟨_, rfl⟩ ?_
      clear hK' K' cs1 hE hw' w'
      refine wpE_op rfl rfl (fun w' hw' K' hK' => ?_)
      have hE := hw'.1
      go_step
      refine hK' _ ⟨_, rfl⟩ ?_
      clear hK' K'  hE hw' w'
      refine wpE_op rfl rfl (fun w' hw' K' hK' => ?_)
      have hE := hw'.1
      have cs2 := ((Ext.drew W0).trans hE).cell s2
      go_step
      refine hK' _ ⟨_, rfl⟩ ?_
      clear hK' K' cs2 hE hw' w'
      refine wpE_call 60 rfl (by simp) rfl (fun w' hw' K' hK' => ?_) ?_
      · have hE := hw'.1
        go_step
        refine (HT2.out _ (hBb.ext ((Ext.drew W0).trans hE))).mono ?_
        rintro e w2 ⟨A2, c2, rfl, hb, hx⟩
        exact hK' _ _ ⟨_, rfl, A2, c2, rfl, hb.bs⟩ hx
      rintro _ w4 hE4 ⟨B4, d4, rfl, hb4⟩
      simp only [Act.put, List.setIfInBounds_toArray, List.set_cons_succ, List.set_cons_zero]
      refine wpE_op rfl rfl (fun w' hw' K' hK' => ?_)
      have hE := hw'.1
      have hM60 : Ext w4 w' := hw'.2 60 w4 (by simp [adds]) (by decide)
      have hs := VB.str hb4 hM60
      go_step
      refine hK' _ ⟨_, rfl⟩ ?_
      clear hK' K' hs hM60 hE hw' w'
      refine wpE_op rfl rfl (fun w' hw' K' hK' => ?_)
      have hE := hw'.1
      go_step
      refine hK' _ ⟨_, rfl⟩ ?_
      clear hK' K'  hE hw' w'
      refine wpE_op rfl rfl (fun w' hw' K' hK' => ?_)
      have hE := hw'.1
      go_step
      refine hK' _ ⟨_, rfl⟩ ?_
      clear hK' K'  hE hw' w'
      refine wpE_op rfl rfl (fun w' hw' K' hK' => ?_)
      have hE := hw'.1
      go_step
      refine hK' _ ⟨_, rfl⟩ ?_
      clear hK' K'  hE hw' w'
      refine wpE_op rfl rfl (fun w' hw' K' hK' => ?_)
      have hE := hw'.1
      go_step
      refine hK' _ ⟨_, rfl⟩ ?_
      clear hK' K'  hE hw' w'
      refine wpE_call 66 rfl (by simp) rfl (fun w' hw' K' hK' => ?_) ?_
      · have hE := hw'.1
        go_step
        refine (HDF.out _ (hDa.ext ((Ext.drew W0).trans hE))).mono ?_
        rintro e w2 ⟨A2, c2, rfl, hb, hx⟩
        exact hK' _ _ ⟨_, rfl, A2, c2, rfl, hb.bs⟩ hx
      rintro _ w5 hE5 ⟨B5, d5, rfl, hb5⟩
      simp only [Act.put, List.setIfInBounds_toArray, List.set_cons_succ, List.set_cons_zero]
      refine wpE_op rfl rfl (fun w' hw' K' hK' => ?_)
      have hE := hw'.1
      have hM66 : Ext w5 w' := hw'.2 66 w5 (by simp [adds]) (by decide)
      have hs := VB.str hb5 hM66
      go_step
      refine hK' _ ⟨_, rfl⟩ ?_
      clear hK' K' hs hM66 hE hw' w'
      refine wpE_op rfl rfl (fun w' hw' K' hK' => ?_)
      have hE := hw'.1
      go_step
      refine hK' _ ⟨_, rfl⟩ ?_
      clear hK' K'  hE hw' w'
      refine wpE_call 69 rfl (by simp) rfl (fun w' hw' K' hK' => ?_) ?_
      · have hE := hw'.1
        go_step
        refine (HDR.out _ (hDa.ext ((Ext.drew W0).trans hE))).mono ?_
        rintro e w2 ⟨A2, c2, rfl, hb, hx⟩
        exact hK' _ _ ⟨_, rfl, A2, c2, rfl, hb.bs⟩ hx
      rintro _ w6 hE6 ⟨B6, d6, rfl, hb6⟩
      simp only [Act.put, List.setIfInBounds_toArray, List.set_cons_succ, List.set_cons_zero]
      refine wpE_op rfl rfl (fun w' hw' K' hK' => ?_)
      have hE := hw'.1
      have hM69 : Ext w6 w' := hw'.2 69 w6 (by simp [adds]) (by decide)
      have hs := VB.str hb6 hM69
      go_step
      refine hK' _ ⟨_, rfl⟩ ?_
      clear hK' K' hs hM69 hE hw' w'
      refine wpE_op rfl rfl (fun w' hw' K' hK' => ?_)
      have hE := hw'.1
      go_step
      refine hK' _ ⟨_, rfl⟩ ?_
      clear hK' K'  hE hw' w'
      refine wpE_op rfl rfl (fun w' hw' K' hK' => ?_)
      have hE := hw'.1
      go_step
      refine hK' _ ⟨_, rfl⟩ ?_
      clear hK' K'  hE hw' w'
      refine wpE_op rfl rfl (fun w' hw' K' hK' => ?_)
      have hE := hw'.1
      go_step
      refine hK' _ ⟨_, rfl⟩ ?_
      clear hK' K'  hE hw' w'
      refine wpE_call 74 rfl (by simp) rfl (fun w' hw' K' hK' => ?_) ?_
      · have hE := hw'.1
        go_step
        refine (known_at _).mono ?_
        rintro e w2 ⟨rfl, hx⟩
        exact hK' _ _ ⟨_, rfl, rfl⟩ hx
      rintro _ w14 hE14 rfl
      simp only [Act.put, List.setIfInBounds_toArray, List.set_cons_succ, List.set_cons_zero]
      refine wpE_op rfl rfl (fun w' hw' K' hK' => ?_)
      have hE := hw'.1
      go_step
      refine hK' _ ⟨_, rfl⟩ ?_
      clear hK' K'  hE hw' w'
      refine wpE_op rfl rfl (fun w' hw' K' hK' => ?_)
      have hE := hw'.1
      go_step
      refine hK' _ ⟨_, rfl⟩ ?_
      clear hK' K'  hE hw' w'
      refine wpE_nil (fun w15 hw15 => ?_)
      have hx5 : Ext W0 w15 := (Ext.drew W0).trans hw15.1
      clear hw15
      go_wp2_with fail
      go_ret
      exact ⟨rfl, hxw.trans hx5⟩
#print axioms law_walk
end Go.Proofs.Ytmbmhepmeajnoaa.derRecords
