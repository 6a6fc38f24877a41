/- Policy: small functions of the law. -/
import Derived.Test.YtgfjmmdkdhodiaaGreatDoorMg13
import Derived.Test.YtgfjmmdkdhodiaaGreatDoorPo15
import Derived.Outline
namespace Go.Proofs.YtgfjmmdkdhodiaaGreatDoor
open Go Go.RowKit
set_option linter.unusedVariables false

theorem num_at' (v : Int) (w : World) : Calls Tryz.prog 16 #[.int .i64 v] w fun e w' => e = .returned (.int .i64 v) ∧ w' = w := by
  go_enter Tryz.func16, Tryz.ntmps16
  go_wp2
  go_ret
  exact ⟨rfl, rfl⟩
/-- The policy of the examples. -/
def Pol.staff : Pol := ⟨⟨#[115, 116, 97, 102, 102]⟩, 8, 3, 4, 2, 60, 600, 3, 300, 900⟩
theorem staff_at (w : World) : Calls Tryz.prog 27 #[] w fun e w' => e = .returned Pol.staff.v ∧ Ext w w' := by
  have hx := (Ext.refl w).alloc (.cells Pol.zero.cs 23)
  have h0 : PL (w.alloc (.cells Pol.zero.cs 23)) w.heap.size Pol.zero := heap_alloc_new w _
  obtain ⟨W, hW⟩ : ∃ W, w.alloc (.cells Pol.zero.cs 23) = W := ⟨_, rfl⟩
  rw [hW] at hx h0
  have f0 := h0.soft 0; have f1 := h0.soft 1; have f2 := h0.soft 2; have f3 := h0.soft 3; have f4 := h0.soft 4; have f5 := h0.soft 5; have f6 := h0.soft 6; have f7 := h0.soft 7; have f8 := h0.soft 8; have f9 := h0.soft 9
  obtain ⟨k0, k1, k2, k3, k4, k5, k6, k7, k8, k9⟩ := h0.cells
  obtain ⟨WF, hWF, hxF, hpF⟩ := putPL (q := Pol.staff) hx (Nat.le_refl _) h0
  have HXF := Lib.hid hxF; have HPF := Lib.hid hpF
  simp only [Pol.staff] at hWF
  unfold Pol.cs Pol.zero at hW
  clear hx hxF hpF h0
  go_enter Tryz.func27, Tryz.ntmps27
  go_wp2_with fail
  obtain ⟨d0, d1, d2, d3, d4, d5, d6, d7, d8, d9⟩ := HPF.out.cells
  refine bodyPost_ret (v := Pol.staff.v) (by simp [results, Tryz.results27, go_sem, d0, d1, d2, d3, d4, d5, d6, d7, d8, d9, Pol.v]; try rfl) rfl ?_
  exact ⟨rfl, HXF.out⟩
def smlP (ps : List ByteArray) : Bool := ps.all (fun p => decide (p.size ≤ 40)) && decide (ps.length ≤ 6)
theorem smlP_yes {ps : List ByteArray} (h : smlP ps = true) : ps.length ≤ 6 ∧ ∀ p ∈ ps, p.size ≤ 40 := by
  unfold smlP at h
  rw [Bool.and_eq_true, List.all_eq_true, decide_eq_true_iff] at h
  exact ⟨h.2, fun p hp => of_decide_eq_true (h.1 p hp)⟩
set_option maxRecDepth 100000 in
theorem lsmall_at (A : Option Addr) (c : Nat) (ps : List ByteArray) (r : ByteArray) (w : World) (hR : RS w (.slice A ps.length c) (svP ps)) :
    Calls Tryz.prog 14 #[.agg #[.slice A ps.length c, .string r]] w fun e w' => e = .returned (.bool (smlP ps)) ∧ Ext w w' := by
  have hT := heap_alloc_new w (.cells #[.slice A ps.length c, .string r] 30)
  have hX := (Ext.refl w).alloc (.cells #[.slice A ps.length c, .string r] 30)
  obtain ⟨wb, hwb⟩ : ∃ wb, wb = w.alloc (.cells #[.slice A ps.length c, .string r] 30) := ⟨_, rfl⟩
  rw [← hwb] at hT hX
  have HT : Hid (NB wb w.heap.size (.slice A ps.length c) r) := Lib.hid hT
  have HX := Lib.hid hX
  have HRS := Lib.hid (hR.ext hX)
  have q0 := HT.out.cell0
  obtain ⟨b, hb⟩ : ∃ b, smlP ps = b := ⟨_, rfl⟩
  have HB := Lib.hid hb
  rw [hb]
  have hlen : ps.length ≤ 9223372036854775807 := by
    obtain ⟨A', c', he, h1, h2, _⟩ := hR
    rw [svP_length] at h1
    unfold maxLen at h2
    omega
  clear hT hX hR hb
  go_enter Tryz.func14, Tryz.ntmps14
  go_wp2_with fail
  rw [← hwb]
  clear hwb
  go_loopw [3] (fun i wr => ∃ k : Nat, k ≤ ps.length ∧ i = .int .i64 k ∧ Hid ((ps.take k).all (fun p => decide (p.size ≤ 40)) = true) ∧ wr = wb) (fun i _ => ps.length - (intOf i).toNat)
  case atStart => exact ⟨0, Nat.zero_le _, rfl, Lib.hid rfl, rfl⟩
  case round =>
    obtain ⟨k, hk, rfl, HA, rfl⟩ := hrel
    by_cases hlt : k < ps.length
    · obtain ⟨A', c', he, e1, e2, e3⟩ := HRS.out
      rw [svP_length] at e1 e3 he
      injection he with z1 _ z3
      subst z1; subst z3
      obtain ⟨ad, rfl, hblt, hcell⟩ := e3 (by omega)
      have hck := hcell k _ (svP_get ps k hlt)
      have HTK := Lib.hid (show (ps.take (k + 1)).all (fun p => decide (p.size ≤ 40)) = decide (ps[k].size ≤ 40) by
        rw [List.take_succ_eq_append_getElem hlt, List.all_append, HA.out]; simp)
      have HIN := Lib.hid (List.getElem_mem hlt)
      obtain ⟨p, hp⟩ : ∃ p, ps[k] = p := ⟨_, rfl⟩
      rw [hp] at hck HTK HIN
      clear hcell e3 e2 e1 hblt hp
      by_cases hbig : 40 < p.size
      · have hb1 : (40 : Int) < (p.size : Int) := by omega
        have HBT := Lib.hid (show b = false by
          rw [← HB.out]; unfold smlP
          rw [show ps.all (fun p => decide (p.size ≤ 40)) = false from List.all_eq_false.2 ⟨p, HIN.out, by simpa using hbig⟩]; rfl)
        clear hbig
        go_wp2_with fail
        go_ret
        refine ⟨?_, HX.out⟩
        rw [HBT.out]; rfl
      · have hb1 : (p.size : Int) ≤ 40 := by omega
        have HT2 := Lib.hid (show (ps.take (k + 1)).all (fun p => decide (p.size ≤ 40)) = true by rw [HTK.out]; exact decide_eq_true (by omega))
        clear hbig
        go_wp2_with fail
        go_roundw
        case rel => exact ⟨k + 1, by omega, by go_num, HT2, trivial⟩
        case measure => simp [intOf]; omega
    · have HF := Lib.hid (show decide (ps.length ≤ 6) = b by
        have := HA.out
        rw [List.take_of_length_le (by omega)] at this
        rw [← HB.out]; unfold smlP; rw [this, Bool.true_and])
      have h60 : decide ((ps.length : Int) ≤ 6) = b := by
        rw [← HF.out]
        apply decide_eq_decide.2
        omega
      go_wp2_with fail
      go_ret
      exact ⟨rfl, HX.out⟩
#print axioms lsmall_at
end Go.Proofs.YtgfjmmdkdhodiaaGreatDoor
