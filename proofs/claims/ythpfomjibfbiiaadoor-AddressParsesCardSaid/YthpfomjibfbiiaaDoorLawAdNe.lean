/- AddressNetworks: the law. -/
import Derived.Test.YthpfomjibfbiiaaDoorAdL2
import Derived.Test.YthpfomjibfbiiaaDoorAdZb
import Derived.Test.YthpfomjibfbiiaaDoorAdR2
namespace Go.Proofs.YthpfomjibfbiiaaDoor
open Go Go.RowKit
set_option linter.unusedVariables false

/-- A list of two. -/
theorem ds_two (w : World) (k k' : Int) (a b : List UInt8) (A B : Option Addr) (c d : Nat) (ha : BS w (.slice A a.length c) a) (hb : BS w (.slice B b.length d) b) (W : World) (hW : w.alloc (.cells #[.int .i64 k, .slice A a.length c, .int .i64 k', .slice B b.length d] 25) = W) :
    DS W (.slice (some ⟨w.heap.size, 0, none⟩) 2 2) [(k, a), (k', b)] ∧ Ext w W := by
  have x : Ext w W := hW ▸ (Ext.refl w).alloc _
  refine ⟨⟨_, _, rfl, Nat.le_refl _, by unfold maxLen; decide, fun i hi => ?_⟩, x⟩
  have hg := heap_alloc_new w (.cells #[.int .i64 k, .slice A a.length c, .int .i64 k', .slice B b.length d] 25)
  rw [hW] at hg
  have hc : ∀ j v, #[Value.int .i64 k, .slice A a.length c, .int .i64 k', .slice B b.length d][j]? = some v → W.cell? ⟨w.heap.size, j, none⟩ = some v := fun j v hv => by
    rw [cell_of_row _ w.heap.size j _ _ (0, 0) hg]; exact hv
  have hj : i = 0 ∨ i = 1 := by simp at hi; omega
  rcases hj with rfl | rfl
  · exact ⟨_, A, c, rfl, hc 0 _ rfl, hc 1 _ rfl, ha.ext x⟩
  · exact ⟨_, B, d, rfl, hc 2 _ rfl, hc 3 _ rfl, hb.ext x⟩
set_option maxRecDepth 100000 in
set_option maxHeartbeats 4000000 in
theorem lawNe (k : Int) (a : List UInt8) (A : Option Addr) (c : Nat) (k' : Int) (b : List UInt8) (B : Option Addr) (d : Nat) (bits : Int) (w : World) (ha : BS w (.slice A a.length c) a) (hb : BS w (.slice B b.length d) b) (hE : EnvA w) :
    Calls Tryd.prog 4 #[adv k A a.length c, adv k' B b.length d, .int .i64 bits] w fun e w' => e = .returned (.bool true) ∧ Ext w w' := by
  have h0 := AB.new w k A a.length c
  have x0 := (Ext.refl w).alloc (.cells #[.int .i64 k, .slice A a.length c] 25)
  obtain ⟨W1, e1⟩ : ∃ W, w.alloc (.cells #[.int .i64 k, .slice A a.length c] 25) = W := ⟨_, rfl⟩
  rw [e1] at h0 x0
  have h1 := AB.new W1 k' B b.length d
  have x1 := (Ext.refl W1).alloc (.cells #[.int .i64 k', .slice B b.length d] 25)
  obtain ⟨W2, e2⟩ : ∃ W, W1.alloc (.cells #[.int .i64 k', .slice B b.length d] 25) = W := ⟨_, rfl⟩
  rw [e2] at h1 x1
  have z1 : W1.heap.size = w.heap.size + 1 := by rw [← e1]; simp
  have z2 : W2.heap.size = w.heap.size + 2 := by rw [← e2]; simp [z1]
  obtain ⟨W3, e3⟩ : ∃ W, W2.alloc (.cells #[.int .i64 k, .slice A a.length c, .int .i64 k', .slice B b.length d] 25) = W := ⟨_, rfl⟩
  have hw3 := ds_two W2 k k' a b A B c d (ha.ext (x0.trans x1)) (hb.ext (x0.trans x1)) W3 e3
  have HD := Lib.hid (small_at _ _ [(k, a), (k', b)] W3 hw3.1)
  rw [z2] at HD
  have X3 := (x0.trans x1).trans hw3.2
  have HX := Lib.hid X3
  have HBA := Lib.hid ((h0.ext x1).ext hw3.2); have HBB := Lib.hid (z1 ▸ h1.ext hw3.2)
  have HA := Lib.hid (ha.ext X3); have HB := Lib.hid (hb.ext X3); have HE := Lib.hid (hE.ext X3)
  obtain ⟨c0, c1⟩ := (h0.ext x1).cells
  obtain ⟨d0, d1⟩ := h1.cells
  rw [z1] at d0 d1
  obtain ⟨sm, hsm⟩ : ∃ v, smA [(k, a), (k', b)] = v := ⟨_, rfl⟩
  rw [hsm] at HD
  clear h0 h1 x0 x1 hw3 X3 ha hb hE hsm
  unfold adv
  go_enter Tryd.func4, Tryd.ntmps4
  go_wp2_with fail
  refine HD.out.mono ?_
  rintro _ w4 ⟨rfl, hx4⟩
  have HX4 := Lib.hid (HX.out.trans hx4)
  have HE4 := Lib.hid (HE.out.ext hx4); have HA4 := Lib.hid (HA.out.ext hx4); have HB4 := Lib.hid (HB.out.ext hx4)
  obtain ⟨p0, p1⟩ := (HBA.out.ext hx4).cells
  obtain ⟨r0, r1⟩ := (HBB.out.ext hx4).cells
  have HBA4 := Lib.hid (HBA.out.ext hx4); have HBB4 := Lib.hid (HBB.out.ext hx4)
  clear hx4 c0 c1 d0 d1 e1 e2 e3
  cases sm with
  | false =>
    go_wp2_with fail
    refine (AKnown_at _ HE4.out).mono ?_
    rintro _ w5 ⟨rfl, hx5⟩
    have HX5 := Lib.hid (HX4.out.trans hx5)
    clear hx5
    go_wp2_with fail
    go_ret
    exact ⟨rfl, HX5.out⟩
  | true =>
    obtain ⟨P, hP⟩ : ∃ P, netP k a bits k' b = P := ⟨_, rfl⟩
    have HN := Lib.hid (fun W hx => Network_at k a A c bits k' b B d W (HA4.out.ext hx) (HB4.out.ext hx) (HE4.out.ext hx))
    have HR := Lib.hid (fun W hx => RNetwork_at k a A c bits k' b B d W (HA4.out.ext hx) (HB4.out.ext hx))
    rw [hP] at HN HR
    obtain ⟨v, n⟩ := P
    dsimp only at HN HR
    unfold adv at HN HR
    clear hP
    go_wp2_with fail
    refine (HN.out _ (Ext.refl _)).mono ?_
    rintro _ w5 ⟨rfl, hx5⟩
    have HX5 := Lib.hid hx5
    obtain ⟨p0', p1'⟩ := (HBA4.out.ext hx5).cells
    obtain ⟨r0', r1'⟩ := (HBB4.out.ext hx5).cells
    clear hx5 p0 p1 r0 r1
    go_wp2_with fail
    refine (HR.out _ HX5.out).mono ?_
    rintro _ w6 ⟨rfl, hx6⟩
    have HX6 := Lib.hid (HX5.out.trans hx6)
    clear hx6 p0' p1' r0' r1'
    go_wp2_with fail
    refine (numA_at _ _).mono ?_
    rintro _ w7 ⟨rfl, rfl⟩
    go_wp2_with fail
    refine (AKnown_at _ (HE4.out.ext HX6.out)).mono ?_
    rintro _ w8 ⟨rfl, hx8⟩
    have HX8 := Lib.hid ((HX4.out.trans HX6.out).trans hx8)
    clear hx8
    go_wp2_with fail
    go_ret
    exact ⟨rfl, HX8.out⟩
end Go.Proofs.YthpfomjibfbiiaaDoor
