/- Address: the reference's Network. (wip/tools/genadr2.py printed this.) -/
import Derived.Test.YthpfomjibfbiiaaDoorAdR1
namespace Go.Proofs.YthpfomjibfbiiaaDoor
open Go Go.RowKit
set_option linter.unusedVariables false

theorem nb_eq (l : List UInt8) (i r : Nat) (x : UInt8) (hr : i % 8 = r) (hx : l.getD (i / 8) 0 = x) : nb l i = decide (x.toNat / 2 ^ (7 - r) % 2 = 1) := by
  unfold nb
  rw [hr, hx, Nat.testBit_eq_decide_div_mod_eq]
theorem nb_same (a b : List UInt8) (i r p : Nat) (x y : UInt8) (hr : i % 8 = r) (hx : a.getD (i / 8) 0 = x) (hy : b.getD (i / 8) 0 = y) (hp : 2 ^ (7 - r) = p) : nb a i = nb b i ↔ (x.toNat : Int) / (p : Int) % 2 = (y.toNat : Int) / (p : Int) % 2 := by
  rw [nb_eq a i r x hr hx, nb_eq b i r y hr hy, hp]
  have e1 : (x.toNat : Int) / (p : Int) = ((x.toNat / p : Nat) : Int) := by simp
  have e2 : (y.toNat : Int) / (p : Int) = ((y.toNat / p : Nat) : Int) := by simp
  rw [e1, e2]
  rw [decide_eq_decide]
  omega
set_option maxRecDepth 100000 in
set_option maxHeartbeats 2000000 in
theorem RNetwork_at (k : Int) (a : List UInt8) (A : Option Addr) (c : Nat) (bits : Int) (k' : Int) (b : List UInt8) (B : Option Addr) (d : Nat) (w : World) (ha : BS w (.slice A a.length c) a) (hb : BS w (.slice B b.length d) b) :
    Calls Tryd.prog 14 #[adv k A a.length c, .int .i64 bits, adv k' B b.length d] w fun e w' => e = .returned (.tuple #[.bool (netP k a bits k' b).1, .int .i64 (netP k a bits k' b).2]) ∧ Ext w w' := by
  have h0 := AB.new w k A a.length c
  have x0 := (Ext.refl w).alloc (.cells #[.int .i64 k, .slice A a.length c] 25)
  obtain ⟨W1, e1⟩ : ∃ W, w.alloc (.cells #[.int .i64 k, .slice A a.length c] 25) = W := ⟨_, rfl⟩
  rw [e1] at h0 x0
  have h1 := AB.new W1 k' B b.length d
  have x1 := (Ext.refl W1).alloc (.cells #[.int .i64 k', .slice B b.length d] 25)
  obtain ⟨W2, e2⟩ : ∃ W, W1.alloc (.cells #[.int .i64 k', .slice B b.length d] 25) = W := ⟨_, rfl⟩
  rw [e2] at h1 x1
  obtain ⟨c0, c1⟩ := (h0.ext x1).cells
  obtain ⟨d0, d1⟩ := h1.cells
  have HX := Lib.hid (x0.trans x1)
  have HBA := Lib.hid (h0.ext x1); have HBB := Lib.hid h1
  have HA := Lib.hid (ha.ext (x0.trans x1)); have HB := Lib.hid (hb.ext (x0.trans x1))
  clear h0 h1 x0 x1 ha hb
  unfold adv
  by_cases hva : okA k a = false
  · have hP : netP k a bits k' b = (false, 2) := by unfold netP; rw [if_pos (.inl hva)]
    rw [hP]
    have HV := Lib.hid (RAValid_at k a A c W2 HA.out)
    rw [hva] at HV
    unfold adv at HV
    clear hva hP
    go_enter Tryd.func14, Tryd.ntmps14
    go_wp2_with fail
    refine HV.out.mono ?_
    rintro _ w3 ⟨rfl, hx3⟩
    have HX3 := Lib.hid (HX.out.trans hx3)
    obtain ⟨f0, f1⟩ := (HBA.out.ext hx3).cells
    obtain ⟨g0, g1⟩ := (HBB.out.ext hx3).cells
    have HV2 := Lib.hid (RAValid_at k' b B d w3 (HB.out.ext hx3))
    have HBA3 := Lib.hid (HBA.out.ext hx3); have HBB3 := Lib.hid (HBB.out.ext hx3); have HA3 := Lib.hid (HA.out.ext hx3); have HB3 := Lib.hid (HB.out.ext hx3)
    unfold adv at HV2
    clear hx3 c0 c1 d0 d1 e1 e2
    go_wp2_with fail
    go_ret2
    exact ⟨rfl, HX3.out⟩
  have hva : okA k a = true := by cases h : okA k a with | true => rfl | false => exact absurd h hva
  by_cases hvb : okA k' b = false
  · have hP : netP k a bits k' b = (false, 2) := by unfold netP; rw [if_pos (.inr (.inr hvb))]
    rw [hP]
    have HV := Lib.hid (RAValid_at k a A c W2 HA.out)
    rw [hva] at HV
    unfold adv at HV
    clear hva hP
    go_enter Tryd.func14, Tryd.ntmps14
    go_wp2_with fail
    refine HV.out.mono ?_
    rintro _ w3 ⟨rfl, hx3⟩
    have HX3 := Lib.hid (HX.out.trans hx3)
    obtain ⟨f0, f1⟩ := (HBA.out.ext hx3).cells
    obtain ⟨g0, g1⟩ := (HBB.out.ext hx3).cells
    have HV2 := Lib.hid (RAValid_at k' b B d w3 (HB.out.ext hx3))
    have HBA3 := Lib.hid (HBA.out.ext hx3); have HBB3 := Lib.hid (HBB.out.ext hx3); have HA3 := Lib.hid (HA.out.ext hx3); have HB3 := Lib.hid (HB.out.ext hx3)
    unfold adv at HV2
    clear hx3 c0 c1 d0 d1 e1 e2
    rw [hvb] at HV2
    clear hvb
    go_wp2_with fail
    refine HV2.out.mono ?_
    rintro _ w4 ⟨rfl, hx4⟩
    have HX4 := Lib.hid (HX3.out.trans hx4)
    have HBA4 := Lib.hid (HBA3.out.ext hx4); have HBB4 := Lib.hid (HBB3.out.ext hx4); have HA4 := Lib.hid (HA3.out.ext hx4); have HB4 := Lib.hid (HB3.out.ext hx4)
    obtain ⟨p0, p1⟩ := HBA4.out.cells
    obtain ⟨r0, r1⟩ := HBB4.out.cells
    clear hx4 f0 f1 g0 g1
    go_wp2_with fail
    go_ret2
    exact ⟨rfl, HX4.out⟩
  have hvb : okA k' b = true := by cases h : okA k' b with | true => rfl | false => exact absurd h hvb
  by_cases h20 : k = 20
  · have hP : netP k a bits k' b = (false, 2) := by unfold netP; rw [if_pos (.inr (.inl h20))]
    rw [hP]
    have HV := Lib.hid (RAValid_at k a A c W2 HA.out)
    rw [hva] at HV
    unfold adv at HV
    have hq : (k == 20) = true := by rw [h20]; rfl
    clear hva hP h20
    go_enter Tryd.func14, Tryd.ntmps14
    go_wp2_with fail
    refine HV.out.mono ?_
    rintro _ w3 ⟨rfl, hx3⟩
    have HX3 := Lib.hid (HX.out.trans hx3)
    obtain ⟨f0, f1⟩ := (HBA.out.ext hx3).cells
    obtain ⟨g0, g1⟩ := (HBB.out.ext hx3).cells
    have HV2 := Lib.hid (RAValid_at k' b B d w3 (HB.out.ext hx3))
    have HBA3 := Lib.hid (HBA.out.ext hx3); have HBB3 := Lib.hid (HBB.out.ext hx3); have HA3 := Lib.hid (HA.out.ext hx3); have HB3 := Lib.hid (HB.out.ext hx3)
    unfold adv at HV2
    clear hx3 c0 c1 d0 d1 e1 e2
    rw [hvb] at HV2
    clear hvb
    go_wp2_with fail
    refine HV2.out.mono ?_
    rintro _ w4 ⟨rfl, hx4⟩
    have HX4 := Lib.hid (HX3.out.trans hx4)
    have HBA4 := Lib.hid (HBA3.out.ext hx4); have HBB4 := Lib.hid (HBB3.out.ext hx4); have HA4 := Lib.hid (HA3.out.ext hx4); have HB4 := Lib.hid (HB3.out.ext hx4)
    obtain ⟨p0, p1⟩ := HBA4.out.cells
    obtain ⟨r0, r1⟩ := HBB4.out.cells
    clear hx4 f0 f1 g0 g1
    go_wp2_with fail
    go_ret2
    exact ⟨rfl, HX4.out⟩
  have hq : (k == 20) = false := by rw [beq_eq_false_iff_ne]; exact h20
  have hn1 : ¬ (okA k a = false ∨ k = 20 ∨ okA k' b = false) := by rw [hva, hvb]; simp [h20]
  have hal : a.length = 4 ∨ a.length = 16 := by
    rcases okA_kinds hva with ⟨_, h⟩ | ⟨_, h⟩ | ⟨h, _⟩
    · exact .inl h
    · exact .inr h
    · exact absurd h h20
  have ial : (a.length : Int) ≤ 16 := by omega
  by_cases hneg : bits < 0
  · have hP : netP k a bits k' b = (false, 3) := by unfold netP; rw [if_neg hn1, if_pos (.inl hneg)]
    rw [hP]
    have HV := Lib.hid (RAValid_at k a A c W2 HA.out)
    rw [hva] at HV
    unfold adv at HV
    clear hva hP h20 hn1 hal
    go_enter Tryd.func14, Tryd.ntmps14
    go_wp2_with fail
    refine HV.out.mono ?_
    rintro _ w3 ⟨rfl, hx3⟩
    have HX3 := Lib.hid (HX.out.trans hx3)
    obtain ⟨f0, f1⟩ := (HBA.out.ext hx3).cells
    obtain ⟨g0, g1⟩ := (HBB.out.ext hx3).cells
    have HV2 := Lib.hid (RAValid_at k' b B d w3 (HB.out.ext hx3))
    have HBA3 := Lib.hid (HBA.out.ext hx3); have HBB3 := Lib.hid (HBB.out.ext hx3); have HA3 := Lib.hid (HA.out.ext hx3); have HB3 := Lib.hid (HB.out.ext hx3)
    unfold adv at HV2
    clear hx3 c0 c1 d0 d1 e1 e2
    rw [hvb] at HV2
    clear hvb
    go_wp2_with fail
    refine HV2.out.mono ?_
    rintro _ w4 ⟨rfl, hx4⟩
    have HX4 := Lib.hid (HX3.out.trans hx4)
    have HBA4 := Lib.hid (HBA3.out.ext hx4); have HBB4 := Lib.hid (HBB3.out.ext hx4); have HA4 := Lib.hid (HA3.out.ext hx4); have HB4 := Lib.hid (HB3.out.ext hx4)
    obtain ⟨p0, p1⟩ := HBA4.out.cells
    obtain ⟨r0, r1⟩ := HBB4.out.cells
    clear hx4 f0 f1 g0 g1
    go_wp2_with fail
    go_ret2
    exact ⟨rfl, HX4.out⟩
  by_cases hbig : 8 * (a.length : Int) < bits
  · have hP : netP k a bits k' b = (false, 3) := by unfold netP; rw [if_neg hn1, if_pos (.inr hbig)]
    rw [hP]
    have HV := Lib.hid (RAValid_at k a A c W2 HA.out)
    rw [hva] at HV
    unfold adv at HV
    have hnn : 0 ≤ bits := by omega
    clear hva hP h20 hn1 hal hneg
    go_enter Tryd.func14, Tryd.ntmps14
    go_wp2_with fail
    refine HV.out.mono ?_
    rintro _ w3 ⟨rfl, hx3⟩
    have HX3 := Lib.hid (HX.out.trans hx3)
    obtain ⟨f0, f1⟩ := (HBA.out.ext hx3).cells
    obtain ⟨g0, g1⟩ := (HBB.out.ext hx3).cells
    have HV2 := Lib.hid (RAValid_at k' b B d w3 (HB.out.ext hx3))
    have HBA3 := Lib.hid (HBA.out.ext hx3); have HBB3 := Lib.hid (HBB.out.ext hx3); have HA3 := Lib.hid (HA.out.ext hx3); have HB3 := Lib.hid (HB.out.ext hx3)
    unfold adv at HV2
    clear hx3 c0 c1 d0 d1 e1 e2
    rw [hvb] at HV2
    clear hvb
    go_wp2_with fail
    refine HV2.out.mono ?_
    rintro _ w4 ⟨rfl, hx4⟩
    have HX4 := Lib.hid (HX3.out.trans hx4)
    have HBA4 := Lib.hid (HBA3.out.ext hx4); have HBB4 := Lib.hid (HBB3.out.ext hx4); have HA4 := Lib.hid (HA3.out.ext hx4); have HB4 := Lib.hid (HB3.out.ext hx4)
    obtain ⟨p0, p1⟩ := HBA4.out.cells
    obtain ⟨r0, r1⟩ := HBB4.out.cells
    clear hx4 f0 f1 g0 g1
    go_wp2_with fail
    go_ret2
    exact ⟨rfl, HX4.out⟩
  have hn2 : ¬ (bits < 0 ∨ 8 * (a.length : Int) < bits) := by omega
  obtain ⟨n, rfl⟩ : ∃ n : Nat, bits = n := ⟨bits.toNat, by omega⟩
  have hle : (n : Int) ≤ 8 * (a.length : Int) := by omega
  have hnn : 0 ≤ (n : Int) := by omega
  by_cases hkk : k = k'
  · subst hkk
    have hlb : a.length = b.length := by
      rcases okA_kinds hva with ⟨e, h⟩ | ⟨e, h⟩ | ⟨e, _⟩
      · rcases okA_kinds hvb with ⟨e2, h2⟩ | ⟨e2, h2⟩ | ⟨e2, _⟩ <;> omega
      · rcases okA_kinds hvb with ⟨e2, h2⟩ | ⟨e2, h2⟩ | ⟨e2, _⟩ <;> omega
      · exact absurd e h20
    have hP : netP k a n k b = (netN a b n, 0) := by unfold netP; rw [if_neg hn1, if_neg hn2, if_neg (by simp), Int.toNat_natCast]
    rw [hP]
    obtain ⟨R, hR⟩ : ∃ R, netN a b n = R := ⟨_, rfl⟩
    rw [hR]
    have HR := Lib.hid hR
    clear hR
    have hq3 : (k != k) = false := by rw [bne, beq_self_eq_true]; rfl
    have hqk : (k == k) = true := beq_self_eq_true _
    have hle2 : (n : Int) ≤ 8 * (b.length : Int) := by omega
    have hn128 : n ≤ 128 := by omega
    have HLB := Lib.hid hlb
    clear hlb
    have HV := Lib.hid (RAValid_at k a A c W2 HA.out)
    rw [hva] at HV
    unfold adv at HV
    clear hva hP h20 hn1 hal hneg hbig hn2
    go_enter Tryd.func14, Tryd.ntmps14
    go_wp2_with fail
    refine HV.out.mono ?_
    rintro _ w3 ⟨rfl, hx3⟩
    have HX3 := Lib.hid (HX.out.trans hx3)
    obtain ⟨f0, f1⟩ := (HBA.out.ext hx3).cells
    obtain ⟨g0, g1⟩ := (HBB.out.ext hx3).cells
    have HV2 := Lib.hid (RAValid_at k b B d w3 (HB.out.ext hx3))
    have HBA3 := Lib.hid (HBA.out.ext hx3); have HBB3 := Lib.hid (HBB.out.ext hx3); have HA3 := Lib.hid (HA.out.ext hx3); have HB3 := Lib.hid (HB.out.ext hx3)
    unfold adv at HV2
    clear hx3 c0 c1 d0 d1 e1 e2
    rw [hvb] at HV2
    clear hvb
    go_wp2_with fail
    refine HV2.out.mono ?_
    rintro _ w4 ⟨rfl, hx4⟩
    have HX4 := Lib.hid (HX3.out.trans hx4)
    have HBA4 := Lib.hid (HBA3.out.ext hx4); have HBB4 := Lib.hid (HBB3.out.ext hx4); have HA4 := Lib.hid (HA3.out.ext hx4); have HB4 := Lib.hid (HB3.out.ext hx4)
    obtain ⟨p0, p1⟩ := HBA4.out.cells
    obtain ⟨r0, r1⟩ := HBB4.out.cells
    clear hx4 f0 f1 g0 g1
    go_wp2_with fail
    clear p0 p1 r0 r1
    go_loopw [8] (fun i wr => ∃ m : Nat, i = .int .i64 (m : Int) ∧ m ≤ n ∧ Hid (∀ j, j < m → nb a j = nb b j) ∧ Hid (Ext w4 wr)) (fun i _ => n - (intOf i).toNat)
    case atStart => exact ⟨0, rfl, by omega, Lib.hid (fun j hj => absurd hj (Nat.not_lt_zero j)), Lib.hid (Ext.refl _)⟩
    case round =>
      obtain ⟨i, rfl, hi, HJ, HXR⟩ := hrel
      obtain ⟨p0, p1⟩ := (HBA4.out.ext HXR.out).cells
      obtain ⟨r0, r1⟩ := (HBB4.out.ext HXR.out).cells
      by_cases hlt : i < n
      · have hql : i / 8 < a.length := by omega
        have hql2 : i / 8 < b.length := by omega
        obtain ⟨_, _, he, _, _, h3⟩ := (HA4.out.ext HXR.out).open_
        injection he with e1 e2 e3
        subst e1
        obtain ⟨ad, rfl, _, hcell⟩ := h3 (by omega)
        obtain ⟨_, _, he', _, _, h3'⟩ := (HB4.out.ext HXR.out).open_
        injection he' with e1' e2' e3'
        subst e1'
        obtain ⟨bd, rfl, _, hcell'⟩ := h3' (by omega)
        have ca := hcell (i / 8) hql
        have cb := hcell' (i / 8) hql2
        have hxa : a.getD (i / 8) 0 = a[i / 8] := by simp [List.getD_eq_getElem?_getD, List.getElem?_eq_getElem hql]
        have hxb : b.getD (i / 8) 0 = b[i / 8] := by simp [List.getD_eq_getElem?_getD, List.getElem?_eq_getElem hql2]
        generalize a[i / 8] = x at ca hxa
        generalize b[i / 8] = y at cb hxb
        have hx := x.toNat_lt; have hy := y.toNat_lt
        have i1 : (i : Int) / 8 < (a.length : Int) := by omega
        have i2 : (i : Int) / 8 < (b.length : Int) := by omega
        have i3 : 0 ≤ (i : Int) / 8 := by omega
        have HXA := Lib.hid hxa; have HXB := Lib.hid hxb
        clear h3 h3' hcell hcell' e2 e3 e2' e3' hxa hxb
        obtain ⟨q, hqq⟩ : ∃ q, i / 8 = q := ⟨_, rfl⟩
        have hq8 : (i : Int) / 8 = (q : Int) := by omega
        rw [hqq] at ca cb
        rw [hq8] at i1 i2 i3
        have hr8 : (i : Int) % 8 = 0 ∨ (i : Int) % 8 = 1 ∨ (i : Int) % 8 = 2 ∨ (i : Int) % 8 = 3 ∨ (i : Int) % 8 = 4 ∨ (i : Int) % 8 = 5 ∨ (i : Int) % 8 = 6 ∨ (i : Int) % 8 = 7 := by omega
        clear hqq hql hql2
        rcases hr8 with h8 | h8 | h8 | h8 | h8 | h8 | h8 | h8
        · have hs := nb_same a b i 0 128 x y (by omega) HXA.out HXB.out rfl
          by_cases hz : (x.toNat : Int) / 128 % 2 = (y.toNat : Int) / 128 % 2
          · have HJ2 := Lib.hid (show ∀ j, j < i + 1 → nb a j = nb b j from fun j hj => by
              rcases Nat.lt_succ_iff_lt_or_eq.1 hj with h | rfl
              · exact HJ.out j h
              · exact hs.2 hz)
            skip
            have hzb : ((x.toNat : Int) / 128 % 2 == (y.toNat : Int) / 128 % 2) = true := by rw [beq_iff_eq]; exact hz
            clear hs
            go_wp2_with fail
            go_quiet (fail)
            go_wp2_with fail
            go_roundw
            case rel => exact ⟨i + 1, by go_num, by omega, HJ2, Lib.hid (HXR.out.drewN _)⟩
            case measure => simp [intOf]; omega
          · have HF := Lib.hid (show R = false by
              rw [← HR.out]
              cases h : netN a b n with
              | false => rfl
              | true => exact absurd (hs.1 ((netN_iff a b n).1 h i hlt)) hz)
            skip
            have hzb : ((x.toNat : Int) / 128 % 2 == (y.toNat : Int) / 128 % 2) = false := by rw [beq_eq_false_iff_ne]; exact hz
            clear hs
            go_wp2_with fail
            go_quiet (fail)
            go_wp2_with fail
            go_ret2
            rw [HF.out]
            exact ⟨rfl, (HX4.out.trans HXR.out).drewN _⟩
        · have hs := nb_same a b i 1 64 x y (by omega) HXA.out HXB.out rfl
          by_cases hz : (x.toNat : Int) / 64 % 2 = (y.toNat : Int) / 64 % 2
          · have HJ2 := Lib.hid (show ∀ j, j < i + 1 → nb a j = nb b j from fun j hj => by
              rcases Nat.lt_succ_iff_lt_or_eq.1 hj with h | rfl
              · exact HJ.out j h
              · exact hs.2 hz)
            skip
            have hzb : ((x.toNat : Int) / 64 % 2 == (y.toNat : Int) / 64 % 2) = true := by rw [beq_iff_eq]; exact hz
            clear hs
            go_wp2_with fail
            go_quiet (fail)
            go_wp2_with fail
            go_roundw
            case rel => exact ⟨i + 1, by go_num, by omega, HJ2, Lib.hid (HXR.out.drewN _)⟩
            case measure => simp [intOf]; omega
          · have HF := Lib.hid (show R = false by
              rw [← HR.out]
              cases h : netN a b n with
              | false => rfl
              | true => exact absurd (hs.1 ((netN_iff a b n).1 h i hlt)) hz)
            skip
            have hzb : ((x.toNat : Int) / 64 % 2 == (y.toNat : Int) / 64 % 2) = false := by rw [beq_eq_false_iff_ne]; exact hz
            clear hs
            go_wp2_with fail
            go_quiet (fail)
            go_wp2_with fail
            go_ret2
            rw [HF.out]
            exact ⟨rfl, (HX4.out.trans HXR.out).drewN _⟩
        · have hs := nb_same a b i 2 32 x y (by omega) HXA.out HXB.out rfl
          by_cases hz : (x.toNat : Int) / 32 % 2 = (y.toNat : Int) / 32 % 2
          · have HJ2 := Lib.hid (show ∀ j, j < i + 1 → nb a j = nb b j from fun j hj => by
              rcases Nat.lt_succ_iff_lt_or_eq.1 hj with h | rfl
              · exact HJ.out j h
              · exact hs.2 hz)
            skip
            have hzb : ((x.toNat : Int) / 32 % 2 == (y.toNat : Int) / 32 % 2) = true := by rw [beq_iff_eq]; exact hz
            clear hs
            go_wp2_with fail
            go_quiet (fail)
            go_wp2_with fail
            go_roundw
            case rel => exact ⟨i + 1, by go_num, by omega, HJ2, Lib.hid (HXR.out.drewN _)⟩
            case measure => simp [intOf]; omega
          · have HF := Lib.hid (show R = false by
              rw [← HR.out]
              cases h : netN a b n with
              | false => rfl
              | true => exact absurd (hs.1 ((netN_iff a b n).1 h i hlt)) hz)
            skip
            have hzb : ((x.toNat : Int) / 32 % 2 == (y.toNat : Int) / 32 % 2) = false := by rw [beq_eq_false_iff_ne]; exact hz
            clear hs
            go_wp2_with fail
            go_quiet (fail)
            go_wp2_with fail
            go_ret2
            rw [HF.out]
            exact ⟨rfl, (HX4.out.trans HXR.out).drewN _⟩
        · have hs := nb_same a b i 3 16 x y (by omega) HXA.out HXB.out rfl
          by_cases hz : (x.toNat : Int) / 16 % 2 = (y.toNat : Int) / 16 % 2
          · have HJ2 := Lib.hid (show ∀ j, j < i + 1 → nb a j = nb b j from fun j hj => by
              rcases Nat.lt_succ_iff_lt_or_eq.1 hj with h | rfl
              · exact HJ.out j h
              · exact hs.2 hz)
            skip
            have hzb : ((x.toNat : Int) / 16 % 2 == (y.toNat : Int) / 16 % 2) = true := by rw [beq_iff_eq]; exact hz
            clear hs
            go_wp2_with fail
            go_quiet (fail)
            go_wp2_with fail
            go_roundw
            case rel => exact ⟨i + 1, by go_num, by omega, HJ2, Lib.hid (HXR.out.drewN _)⟩
            case measure => simp [intOf]; omega
          · have HF := Lib.hid (show R = false by
              rw [← HR.out]
              cases h : netN a b n with
              | false => rfl
              | true => exact absurd (hs.1 ((netN_iff a b n).1 h i hlt)) hz)
            skip
            have hzb : ((x.toNat : Int) / 16 % 2 == (y.toNat : Int) / 16 % 2) = false := by rw [beq_eq_false_iff_ne]; exact hz
            clear hs
            go_wp2_with fail
            go_quiet (fail)
            go_wp2_with fail
            go_ret2
            rw [HF.out]
            exact ⟨rfl, (HX4.out.trans HXR.out).drewN _⟩
        · have hs := nb_same a b i 4 8 x y (by omega) HXA.out HXB.out rfl
          by_cases hz : (x.toNat : Int) / 8 % 2 = (y.toNat : Int) / 8 % 2
          · have HJ2 := Lib.hid (show ∀ j, j < i + 1 → nb a j = nb b j from fun j hj => by
              rcases Nat.lt_succ_iff_lt_or_eq.1 hj with h | rfl
              · exact HJ.out j h
              · exact hs.2 hz)
            skip
            have hzb : ((x.toNat : Int) / 8 % 2 == (y.toNat : Int) / 8 % 2) = true := by rw [beq_iff_eq]; exact hz
            clear hs
            go_wp2_with fail
            go_quiet (fail)
            go_wp2_with fail
            go_roundw
            case rel => exact ⟨i + 1, by go_num, by omega, HJ2, Lib.hid (HXR.out.drewN _)⟩
            case measure => simp [intOf]; omega
          · have HF := Lib.hid (show R = false by
              rw [← HR.out]
              cases h : netN a b n with
              | false => rfl
              | true => exact absurd (hs.1 ((netN_iff a b n).1 h i hlt)) hz)
            skip
            have hzb : ((x.toNat : Int) / 8 % 2 == (y.toNat : Int) / 8 % 2) = false := by rw [beq_eq_false_iff_ne]; exact hz
            clear hs
            go_wp2_with fail
            go_quiet (fail)
            go_wp2_with fail
            go_ret2
            rw [HF.out]
            exact ⟨rfl, (HX4.out.trans HXR.out).drewN _⟩
        · have hs := nb_same a b i 5 4 x y (by omega) HXA.out HXB.out rfl
          by_cases hz : (x.toNat : Int) / 4 % 2 = (y.toNat : Int) / 4 % 2
          · have HJ2 := Lib.hid (show ∀ j, j < i + 1 → nb a j = nb b j from fun j hj => by
              rcases Nat.lt_succ_iff_lt_or_eq.1 hj with h | rfl
              · exact HJ.out j h
              · exact hs.2 hz)
            skip
            have hzb : ((x.toNat : Int) / 4 % 2 == (y.toNat : Int) / 4 % 2) = true := by rw [beq_iff_eq]; exact hz
            clear hs
            go_wp2_with fail
            go_quiet (fail)
            go_wp2_with fail
            go_roundw
            case rel => exact ⟨i + 1, by go_num, by omega, HJ2, Lib.hid (HXR.out.drewN _)⟩
            case measure => simp [intOf]; omega
          · have HF := Lib.hid (show R = false by
              rw [← HR.out]
              cases h : netN a b n with
              | false => rfl
              | true => exact absurd (hs.1 ((netN_iff a b n).1 h i hlt)) hz)
            skip
            have hzb : ((x.toNat : Int) / 4 % 2 == (y.toNat : Int) / 4 % 2) = false := by rw [beq_eq_false_iff_ne]; exact hz
            clear hs
            go_wp2_with fail
            go_quiet (fail)
            go_wp2_with fail
            go_ret2
            rw [HF.out]
            exact ⟨rfl, (HX4.out.trans HXR.out).drewN _⟩
        · have hs := nb_same a b i 6 2 x y (by omega) HXA.out HXB.out rfl
          by_cases hz : (x.toNat : Int) / 2 % 2 = (y.toNat : Int) / 2 % 2
          · have HJ2 := Lib.hid (show ∀ j, j < i + 1 → nb a j = nb b j from fun j hj => by
              rcases Nat.lt_succ_iff_lt_or_eq.1 hj with h | rfl
              · exact HJ.out j h
              · exact hs.2 hz)
            skip
            have hzb : ((x.toNat : Int) / 2 % 2 == (y.toNat : Int) / 2 % 2) = true := by rw [beq_iff_eq]; exact hz
            clear hs
            go_wp2_with fail
            go_quiet (fail)
            go_wp2_with fail
            go_roundw
            case rel => exact ⟨i + 1, by go_num, by omega, HJ2, Lib.hid (HXR.out.drewN _)⟩
            case measure => simp [intOf]; omega
          · have HF := Lib.hid (show R = false by
              rw [← HR.out]
              cases h : netN a b n with
              | false => rfl
              | true => exact absurd (hs.1 ((netN_iff a b n).1 h i hlt)) hz)
            skip
            have hzb : ((x.toNat : Int) / 2 % 2 == (y.toNat : Int) / 2 % 2) = false := by rw [beq_eq_false_iff_ne]; exact hz
            clear hs
            go_wp2_with fail
            go_quiet (fail)
            go_wp2_with fail
            go_ret2
            rw [HF.out]
            exact ⟨rfl, (HX4.out.trans HXR.out).drewN _⟩
        · have hs := nb_same a b i 7 1 x y (by omega) HXA.out HXB.out rfl
          by_cases hz : (x.toNat : Int) / 1 % 2 = (y.toNat : Int) / 1 % 2
          · have HJ2 := Lib.hid (show ∀ j, j < i + 1 → nb a j = nb b j from fun j hj => by
              rcases Nat.lt_succ_iff_lt_or_eq.1 hj with h | rfl
              · exact HJ.out j h
              · exact hs.2 hz)
            have hz : (x.toNat : Int) % 2 = (y.toNat : Int) % 2 := by omega
            have hzb : ((x.toNat : Int) % 2 == (y.toNat : Int) % 2) = true := by rw [beq_iff_eq]; exact hz
            clear hs
            go_wp2_with fail
            go_quiet (fail)
            go_wp2_with fail
            go_roundw
            case rel => exact ⟨i + 1, by go_num, by omega, HJ2, Lib.hid (HXR.out.drewN _)⟩
            case measure => simp [intOf]; omega
          · have HF := Lib.hid (show R = false by
              rw [← HR.out]
              cases h : netN a b n with
              | false => rfl
              | true => exact absurd (hs.1 ((netN_iff a b n).1 h i hlt)) hz)
            have hz : ¬ (x.toNat : Int) % 2 = (y.toNat : Int) % 2 := by omega
            have hzb : ((x.toNat : Int) % 2 == (y.toNat : Int) % 2) = false := by rw [beq_eq_false_iff_ne]; exact hz
            clear hs
            go_wp2_with fail
            go_quiet (fail)
            go_wp2_with fail
            go_ret2
            rw [HF.out]
            exact ⟨rfl, (HX4.out.trans HXR.out).drewN _⟩
      · obtain rfl : i = n := by omega
        have HF := Lib.hid (show R = true by rw [← HR.out]; exact (netN_iff a b i).2 HJ.out)
        clear hlt
        go_wp2_with fail
        go_ret2
        rw [HF.out]
        exact ⟨rfl, HX4.out.trans HXR.out⟩
  · have hP : netP k a n k' b = (false, 0) := by unfold netP; rw [if_neg hn1, if_neg hn2, if_pos hkk]
    rw [hP]
    have hqk : (k == k') = false := by rw [beq_eq_false_iff_ne]; exact hkk
    have HV := Lib.hid (RAValid_at k a A c W2 HA.out)
    rw [hva] at HV
    unfold adv at HV
    clear hva hP h20 hn1 hal hneg hbig hn2 hkk
    go_enter Tryd.func14, Tryd.ntmps14
    go_wp2_with fail
    refine HV.out.mono ?_
    rintro _ w3 ⟨rfl, hx3⟩
    have HX3 := Lib.hid (HX.out.trans hx3)
    obtain ⟨f0, f1⟩ := (HBA.out.ext hx3).cells
    obtain ⟨g0, g1⟩ := (HBB.out.ext hx3).cells
    have HV2 := Lib.hid (RAValid_at k' b B d w3 (HB.out.ext hx3))
    have HBA3 := Lib.hid (HBA.out.ext hx3); have HBB3 := Lib.hid (HBB.out.ext hx3); have HA3 := Lib.hid (HA.out.ext hx3); have HB3 := Lib.hid (HB.out.ext hx3)
    unfold adv at HV2
    clear hx3 c0 c1 d0 d1 e1 e2
    rw [hvb] at HV2
    clear hvb
    go_wp2_with fail
    refine HV2.out.mono ?_
    rintro _ w4 ⟨rfl, hx4⟩
    have HX4 := Lib.hid (HX3.out.trans hx4)
    have HBA4 := Lib.hid (HBA3.out.ext hx4); have HBB4 := Lib.hid (HBB3.out.ext hx4); have HA4 := Lib.hid (HA3.out.ext hx4); have HB4 := Lib.hid (HB3.out.ext hx4)
    obtain ⟨p0, p1⟩ := HBA4.out.cells
    obtain ⟨r0, r1⟩ := HBB4.out.cells
    clear hx4 f0 f1 g0 g1
    go_wp2_with fail
    go_ret2
    exact ⟨rfl, HX4.out⟩
end Go.Proofs.YthpfomjibfbiiaaDoor
