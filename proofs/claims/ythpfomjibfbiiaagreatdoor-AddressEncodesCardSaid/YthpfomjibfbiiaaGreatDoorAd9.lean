/- Address: Network. (wip/tools/genad9.py printed this.) -/
import Derived.Test.YthpfomjibfbiiaaGreatDoorAd8
namespace Go.Proofs.YthpfomjibfbiiaaGreatDoor
open Go Go.RowKit
set_option linter.unusedVariables false

theorem u8_xor (x y : Nat) (hx : x < 256) (hy : y < 256) : bits .xor .u8 (x : Int) (y : Int) = ((x ^^^ y : Nat) : Int) := by
  show IntKind.u8.wrap ((BitVec.ofInt 8 (x : Int) ^^^ BitVec.ofInt 8 (y : Int)).toNat : Int) = _
  have h1 : (BitVec.ofInt 8 (x : Int)).toNat = x := by
    rw [BitVec.toNat_ofInt]
    have : (x : Int) % ((2 ^ 8 : Nat) : Int) = x := Int.emod_eq_of_lt (by omega) (by omega)
    rw [this]; omega
  have h2 : (BitVec.ofInt 8 (y : Int)).toNat = y := by
    rw [BitVec.toNat_ofInt]
    have : (y : Int) % ((2 ^ 8 : Nat) : Int) = y := Int.emod_eq_of_lt (by omega) (by omega)
    rw [this]; omega
  have h3 : x ^^^ y < 2 ^ 8 := Nat.xor_lt_two_pow hx hy
  rw [BitVec.toNat_xor, h1, h2, IntKind.wrap_u8]
  omega
set_option maxRecDepth 100000 in
set_option maxHeartbeats 2000000 in
theorem Network_at (k : Int) (a : List UInt8) (A : Option Addr) (c : Nat) (bits : Int) (k' : Int) (b : List UInt8) (B : Option Addr) (d : Nat) (w : World) (ha : BS w (.slice A a.length c) a) (hb : BS w (.slice B b.length d) b) (hE : EnvA w) :
    Calls Tryz.prog 27 #[adv k A a.length c, .int .i64 bits, adv k' B b.length d] w fun e w' => e = .returned (.tuple #[.bool (netP k a bits k' b).1, .int .i64 (netP k a bits k' b).2]) ∧ Ext w w' := by
  have h0 := AB.new w k A a.length c
  have x0 := (Ext.refl w).alloc (.cells #[.int .i64 k, .slice A a.length c] 25)
  obtain ⟨W1, e1⟩ : ∃ W, w.alloc (.cells #[.int .i64 k, .slice A a.length c] 25) = W := ⟨_, rfl⟩
  rw [e1] at h0 x0
  have h1 := AB.new W1 k' B b.length d
  have x1 := (Ext.refl W1).alloc (.cells #[.int .i64 k', .slice B b.length d] 25)
  obtain ⟨W2, e2⟩ : ∃ W, W1.alloc (.cells #[.int .i64 k', .slice B b.length d] 25) = W := ⟨_, rfl⟩
  rw [e2] at h1 x1
  obtain ⟨c0, c1⟩ := (h0.ext x1).cells
  obtain ⟨d0, d1⟩ := h1.cells
  have HX := Lib.hid (x0.trans x1)
  have HBA := Lib.hid (h0.ext x1); have HBB := Lib.hid h1
  have HA := Lib.hid (ha.ext (x0.trans x1)); have HB := Lib.hid (hb.ext (x0.trans x1)); have HE := Lib.hid (hE.ext (x0.trans x1))
  clear h0 h1 x0 x1 ha hb hE
  unfold adv
  by_cases hva : okA k a = false
  · have hP : netP k a bits k' b = (false, 2) := by unfold netP; rw [if_pos (.inl hva)]
    rw [hP]
    have HV := Lib.hid (Valid_at' k a A c W2 HA.out HE.out)
    rw [hva] at HV
    unfold adv at HV
    clear hva hP
    go_enter Tryz.func27, Tryz.ntmps27
    go_wp2_with fail
    refine HV.out.mono ?_
    rintro _ w3 ⟨rfl, hx3⟩
    have HX3 := Lib.hid (HX.out.trans hx3)
    obtain ⟨f0, f1⟩ := (HBA.out.ext hx3).cells
    obtain ⟨g0, g1⟩ := (HBB.out.ext hx3).cells
    have HV2 := Lib.hid (Valid_at' k' b B d w3 (HB.out.ext hx3) (HE.out.ext hx3))
    have HBA3 := Lib.hid (HBA.out.ext hx3); have HBB3 := Lib.hid (HBB.out.ext hx3); have HA3 := Lib.hid (HA.out.ext hx3); have HB3 := Lib.hid (HB.out.ext hx3)
    unfold adv at HV2
    clear hx3 c0 c1 d0 d1 e1 e2
    go_wp2_with fail
    go_ret2
    exact ⟨rfl, HX3.out⟩
  have hva : okA k a = true := by cases h : okA k a with | true => rfl | false => exact absurd h hva
  by_cases h20 : k = 20
  · have hP : netP k a bits k' b = (false, 2) := by unfold netP; rw [if_pos (.inr (.inl h20))]
    rw [hP]
    have HV := Lib.hid (Valid_at' k a A c W2 HA.out HE.out)
    rw [hva] at HV
    unfold adv at HV
    have hq : (k == 20) = true := by rw [h20]; rfl
    clear hva hP h20
    go_enter Tryz.func27, Tryz.ntmps27
    go_wp2_with fail
    refine HV.out.mono ?_
    rintro _ w3 ⟨rfl, hx3⟩
    have HX3 := Lib.hid (HX.out.trans hx3)
    obtain ⟨f0, f1⟩ := (HBA.out.ext hx3).cells
    obtain ⟨g0, g1⟩ := (HBB.out.ext hx3).cells
    have HV2 := Lib.hid (Valid_at' k' b B d w3 (HB.out.ext hx3) (HE.out.ext hx3))
    have HBA3 := Lib.hid (HBA.out.ext hx3); have HBB3 := Lib.hid (HBB.out.ext hx3); have HA3 := Lib.hid (HA.out.ext hx3); have HB3 := Lib.hid (HB.out.ext hx3)
    unfold adv at HV2
    clear hx3 c0 c1 d0 d1 e1 e2
    go_wp2_with fail
    go_ret2
    exact ⟨rfl, HX3.out⟩
  have hq : (k == 20) = false := by rw [beq_eq_false_iff_ne]; exact h20
  by_cases hvb : okA k' b = false
  · have hP : netP k a bits k' b = (false, 2) := by unfold netP; rw [if_pos (.inr (.inr hvb))]
    rw [hP]
    have HV := Lib.hid (Valid_at' k a A c W2 HA.out HE.out)
    rw [hva] at HV
    unfold adv at HV
    clear hva hP h20
    go_enter Tryz.func27, Tryz.ntmps27
    go_wp2_with fail
    refine HV.out.mono ?_
    rintro _ w3 ⟨rfl, hx3⟩
    have HX3 := Lib.hid (HX.out.trans hx3)
    obtain ⟨f0, f1⟩ := (HBA.out.ext hx3).cells
    obtain ⟨g0, g1⟩ := (HBB.out.ext hx3).cells
    have HV2 := Lib.hid (Valid_at' k' b B d w3 (HB.out.ext hx3) (HE.out.ext hx3))
    have HBA3 := Lib.hid (HBA.out.ext hx3); have HBB3 := Lib.hid (HBB.out.ext hx3); have HA3 := Lib.hid (HA.out.ext hx3); have HB3 := Lib.hid (HB.out.ext hx3)
    unfold adv at HV2
    clear hx3 c0 c1 d0 d1 e1 e2
    rw [hvb] at HV2
    clear hvb
    go_wp2_with fail
    refine HV2.out.mono ?_
    rintro _ w4 ⟨rfl, hx4⟩
    have HX4 := Lib.hid (HX3.out.trans hx4)
    have HBA4 := Lib.hid (HBA3.out.ext hx4); have HBB4 := Lib.hid (HBB3.out.ext hx4); have HA4 := Lib.hid (HA3.out.ext hx4); have HB4 := Lib.hid (HB3.out.ext hx4)
    obtain ⟨p0, p1⟩ := HBA4.out.cells
    obtain ⟨r0, r1⟩ := HBB4.out.cells
    clear hx4 f0 f1 g0 g1
    go_wp2_with fail
    go_ret2
    exact ⟨rfl, HX4.out⟩
  have hvb : okA k' b = true := by cases h : okA k' b with | true => rfl | false => exact absurd h hvb
  have hn1 : ¬ (okA k a = false ∨ k = 20 ∨ okA k' b = false) := by rw [hva, hvb]; simp [h20]
  have hal : a.length = 4 ∨ a.length = 16 := by
    rcases okA_kinds hva with ⟨_, h⟩ | ⟨_, h⟩ | ⟨h, _⟩
    · exact .inl h
    · exact .inr h
    · exact absurd h h20
  have ial : (a.length : Int) ≤ 16 := by omega
  by_cases hneg : bits < 0
  · have hP : netP k a bits k' b = (false, 3) := by unfold netP; rw [if_neg hn1, if_pos (.inl hneg)]
    rw [hP]
    have HV := Lib.hid (Valid_at' k a A c W2 HA.out HE.out)
    rw [hva] at HV
    unfold adv at HV
    clear hva hP h20 hn1 hal
    go_enter Tryz.func27, Tryz.ntmps27
    go_wp2_with fail
    refine HV.out.mono ?_
    rintro _ w3 ⟨rfl, hx3⟩
    have HX3 := Lib.hid (HX.out.trans hx3)
    obtain ⟨f0, f1⟩ := (HBA.out.ext hx3).cells
    obtain ⟨g0, g1⟩ := (HBB.out.ext hx3).cells
    have HV2 := Lib.hid (Valid_at' k' b B d w3 (HB.out.ext hx3) (HE.out.ext hx3))
    have HBA3 := Lib.hid (HBA.out.ext hx3); have HBB3 := Lib.hid (HBB.out.ext hx3); have HA3 := Lib.hid (HA.out.ext hx3); have HB3 := Lib.hid (HB.out.ext hx3)
    unfold adv at HV2
    clear hx3 c0 c1 d0 d1 e1 e2
    rw [hvb] at HV2
    clear hvb
    go_wp2_with fail
    refine HV2.out.mono ?_
    rintro _ w4 ⟨rfl, hx4⟩
    have HX4 := Lib.hid (HX3.out.trans hx4)
    have HBA4 := Lib.hid (HBA3.out.ext hx4); have HBB4 := Lib.hid (HBB3.out.ext hx4); have HA4 := Lib.hid (HA3.out.ext hx4); have HB4 := Lib.hid (HB3.out.ext hx4)
    obtain ⟨p0, p1⟩ := HBA4.out.cells
    obtain ⟨r0, r1⟩ := HBB4.out.cells
    clear hx4 f0 f1 g0 g1
    go_wp2_with fail
    go_ret2
    exact ⟨rfl, HX4.out⟩
  by_cases hbig : 8 * (a.length : Int) < bits
  · have hP : netP k a bits k' b = (false, 3) := by unfold netP; rw [if_neg hn1, if_pos (.inr hbig)]
    rw [hP]
    have HV := Lib.hid (Valid_at' k a A c W2 HA.out HE.out)
    rw [hva] at HV
    unfold adv at HV
    have hnn : 0 ≤ bits := by omega
    clear hva hP h20 hn1 hal hneg
    go_enter Tryz.func27, Tryz.ntmps27
    go_wp2_with fail
    refine HV.out.mono ?_
    rintro _ w3 ⟨rfl, hx3⟩
    have HX3 := Lib.hid (HX.out.trans hx3)
    obtain ⟨f0, f1⟩ := (HBA.out.ext hx3).cells
    obtain ⟨g0, g1⟩ := (HBB.out.ext hx3).cells
    have HV2 := Lib.hid (Valid_at' k' b B d w3 (HB.out.ext hx3) (HE.out.ext hx3))
    have HBA3 := Lib.hid (HBA.out.ext hx3); have HBB3 := Lib.hid (HBB.out.ext hx3); have HA3 := Lib.hid (HA.out.ext hx3); have HB3 := Lib.hid (HB.out.ext hx3)
    unfold adv at HV2
    clear hx3 c0 c1 d0 d1 e1 e2
    rw [hvb] at HV2
    clear hvb
    go_wp2_with fail
    refine HV2.out.mono ?_
    rintro _ w4 ⟨rfl, hx4⟩
    have HX4 := Lib.hid (HX3.out.trans hx4)
    have HBA4 := Lib.hid (HBA3.out.ext hx4); have HBB4 := Lib.hid (HBB3.out.ext hx4); have HA4 := Lib.hid (HA3.out.ext hx4); have HB4 := Lib.hid (HB3.out.ext hx4)
    obtain ⟨p0, p1⟩ := HBA4.out.cells
    obtain ⟨r0, r1⟩ := HBB4.out.cells
    clear hx4 f0 f1 g0 g1
    go_wp2_with fail
    go_ret2
    exact ⟨rfl, HX4.out⟩
  have hn2 : ¬ (bits < 0 ∨ 8 * (a.length : Int) < bits) := by omega
  obtain ⟨n, rfl⟩ : ∃ n : Nat, bits = n := ⟨bits.toNat, by omega⟩
  have hle : (n : Int) ≤ 8 * (a.length : Int) := by omega
  have hnn : 0 ≤ (n : Int) := by omega
  by_cases hkk : k = k'
  · subst hkk
    have hlb : a.length = b.length := by
      rcases okA_kinds hva with ⟨e, h⟩ | ⟨e, h⟩ | ⟨e, _⟩
      · rcases okA_kinds hvb with ⟨e2, h2⟩ | ⟨e2, h2⟩ | ⟨e2, _⟩ <;> omega
      · rcases okA_kinds hvb with ⟨e2, h2⟩ | ⟨e2, h2⟩ | ⟨e2, _⟩ <;> omega
      · exact absurd e h20
    have hP : netP k a n k b = (netG a b (n / 8) (n % 8), 0) := by unfold netP; rw [if_neg hn1, if_neg hn2, if_neg (by simp), Int.toNat_natCast, netG_eq a b n (by omega) hlb]
    rw [hP]
    obtain ⟨R, hR⟩ : ∃ R, netG a b (n / 8) (n % 8) = R := ⟨_, rfl⟩
    rw [hR]
    have HR := Lib.hid hR
    clear hR
    have hq3 : (k != k) = false := by rw [bne, beq_self_eq_true]; rfl
    have hqk : (k == k) = true := beq_self_eq_true _
    have hle2 : (n : Int) ≤ 8 * (b.length : Int) := by omega
    have HLB := Lib.hid hlb
    clear hlb
    have HV := Lib.hid (Valid_at' k a A c W2 HA.out HE.out)
    rw [hva] at HV
    unfold adv at HV
    clear hva hP h20 hn1 hal hneg hbig hn2
    go_enter Tryz.func27, Tryz.ntmps27
    go_wp2_with fail
    refine HV.out.mono ?_
    rintro _ w3 ⟨rfl, hx3⟩
    have HX3 := Lib.hid (HX.out.trans hx3)
    obtain ⟨f0, f1⟩ := (HBA.out.ext hx3).cells
    obtain ⟨g0, g1⟩ := (HBB.out.ext hx3).cells
    have HV2 := Lib.hid (Valid_at' k b B d w3 (HB.out.ext hx3) (HE.out.ext hx3))
    have HBA3 := Lib.hid (HBA.out.ext hx3); have HBB3 := Lib.hid (HBB.out.ext hx3); have HA3 := Lib.hid (HA.out.ext hx3); have HB3 := Lib.hid (HB.out.ext hx3)
    unfold adv at HV2
    clear hx3 c0 c1 d0 d1 e1 e2
    rw [hvb] at HV2
    clear hvb
    go_wp2_with fail
    refine HV2.out.mono ?_
    rintro _ w4 ⟨rfl, hx4⟩
    have HX4 := Lib.hid (HX3.out.trans hx4)
    have HBA4 := Lib.hid (HBA3.out.ext hx4); have HBB4 := Lib.hid (HBB3.out.ext hx4); have HA4 := Lib.hid (HA3.out.ext hx4); have HB4 := Lib.hid (HB3.out.ext hx4)
    obtain ⟨p0, p1⟩ := HBA4.out.cells
    obtain ⟨r0, r1⟩ := HBB4.out.cells
    clear hx4 f0 f1 g0 g1
    obtain ⟨A2, c2, hb2, hs2⟩ := run_slice23 (P := Tryz.prog) w4 23 A c a (n / 8) (a.take (n / 8)) rfl (by omega) Tryz.underlying23 (info_parts u8inf |>.elim fun i hi => ⟨i, hi.1, hi.2.2.1⟩) HA4.out
    obtain ⟨B2, d2, hb3, hs3⟩ := run_slice23 (P := Tryz.prog) w4 23 B d b (n / 8) (b.take (n / 8)) rfl (by omega) Tryz.underlying23 (info_parts u8inf |>.elim fun i hi => ⟨i, hi.1, hi.2.2.1⟩) HB4.out
    have hcd : ((n / 8 : Nat) : Int) = (n : Int) / 8 := by omega
    obtain ⟨ta, hta⟩ : ∃ ta, a.take (n / 8) = ta := ⟨_, rfl⟩
    obtain ⟨tb, htb⟩ : ∃ tb, b.take (n / 8) = tb := ⟨_, rfl⟩
    rw [hta] at hb2 hs2
    rw [htb] at hb3 hs3
    rw [hcd] at hs2 hs3
    have HBQ := Lib.hid (fun W hx => BEqual_at A2 B2 c2 d2 _ _ W (hb2.ext hx) (hb3.ext hx))
    obtain ⟨v, hv⟩ : ∃ v, (ta == tb) = v := ⟨_, rfl⟩
    have hG : netG a b (n / 8) (n % 8) = (v && (decide (n % 8 = 0) || ((a.getD (n / 8) 0).toNat ^^^ (b.getD (n / 8) 0).toNat) / 2 ^ (8 - n % 8) == 0)) := by unfold netG; rw [hta, htb, hv]
    have HRR := Lib.hid (HR.out.symm.trans hG)
    simp only [hv] at HBQ
    clear hv hb2 hb3 hcd hG hta htb
    go_wp2_with fail
    go_quiet ((go_at_call 51; exact Calls.quiet_of_same (HBQ.out _ ((Ext.refl _).drewN _))))
    cases v with
    | false =>
      have HF := Lib.hid (show R = false by rw [HRR.out, Bool.false_and])
      go_wp2_with fail
      go_ret2
      rw [HF.out]
      exact ⟨rfl, HX4.out.drewN nq⟩
    | true =>
      have HRT := HRR.out
      rw [Bool.true_and] at HRT
      clear HBQ hs2 hs3 HRR
      by_cases hr : n % 8 = 0
      · have hr0 : ((n : Int) % 8 == 0) = true := by rw [beq_iff_eq]; omega
        have HF := Lib.hid (show R = true by rw [HRT, decide_eq_true hr, Bool.true_or])
        clear hr HRT
        go_wp2_with fail
        go_quiet (fail)
        go_wp2_with fail
        go_ret2
        rw [HF.out]
        exact ⟨rfl, (HX4.out.drewN _).drewN _⟩
      · have hr0 : ((n : Int) % 8 == 0) = false := by rw [beq_eq_false_iff_ne]; omega
        have hql : n / 8 < a.length := by omega
        have hql2 : n / 8 < b.length := by omega
        obtain ⟨_, _, he, _, _, h3⟩ := HA4.out.open_
        injection he with e1 e2 e3
        subst e1
        obtain ⟨ad, rfl, _, hcell⟩ := h3 (by omega)
        obtain ⟨_, _, he', _, _, h3'⟩ := HB4.out.open_
        injection he' with e1' e2' e3'
        subst e1'
        obtain ⟨bd, rfl, _, hcell'⟩ := h3' (by omega)
        have ca := hcell (n / 8) hql
        have cb := hcell' (n / 8) hql2
        have hxa : a.getD (n / 8) 0 = a[n / 8] := by simp [List.getD_eq_getElem?_getD, List.getElem?_eq_getElem hql]
        have hxb : b.getD (n / 8) 0 = b[n / 8] := by simp [List.getD_eq_getElem?_getD, List.getElem?_eq_getElem hql2]
        rw [hxa, hxb, decide_eq_false hr, Bool.false_or] at HRT
        generalize a[n / 8] = x at ca HRT
        generalize b[n / 8] = y at cb HRT
        have hx := x.toNat_lt; have hy := y.toNat_lt
        have hxor := u8_xor x.toNat y.toNat hx hy
        have i1 : (n : Int) / 8 < (a.length : Int) := by omega
        have i2 : (n : Int) / 8 < (b.length : Int) := by omega
        have i3 : 0 ≤ (n : Int) / 8 := by omega
        obtain ⟨z, hz⟩ : ∃ z, x.toNat ^^^ y.toNat = z := ⟨_, rfl⟩
        rw [hz] at hxor HRT
        have HF := Lib.hid HRT
        clear HRT
        clear h3 h3' hcell hcell' hxa hxb e2 e3 e2' e3' hz
        obtain ⟨q, hqq⟩ : ∃ q, n / 8 = q := ⟨_, rfl⟩
        have hq8 : (n : Int) / 8 = (q : Int) := by omega
        rw [hqq] at ca cb
        rw [hq8] at i1 i2 i3
        have hr7 : (n : Int) % 8 = 1 ∨ (n : Int) % 8 = 2 ∨ (n : Int) % 8 = 3 ∨ (n : Int) % 8 = 4 ∨ (n : Int) % 8 = 5 ∨ (n : Int) % 8 = 6 ∨ (n : Int) % 8 = 7 := by omega
        clear hqq hql hql2 hr hr0
        rcases hr7 with h8 | h8 | h8 | h8 | h8 | h8 | h8
        · have hn8 : n % 8 = 1 := by omega
          have hF := HF.out
          rw [hn8] at hF
          have e : ((z : Int) / 128 == 0) = (z / 2 ^ (8 - 1) == 0) := by rw [Bool.eq_iff_iff, beq_iff_eq, beq_iff_eq]; omega
          have HF2 := Lib.hid (hF.trans e.symm)
          clear hF hn8 e
          go_wp2_with fail
          go_quiet (fail)
          go_wp2_with fail
          go_ret2
          rw [HF2.out]
          exact ⟨rfl, (HX4.out.drewN _).drewN _⟩
        · have hn8 : n % 8 = 2 := by omega
          have hF := HF.out
          rw [hn8] at hF
          have e : ((z : Int) / 64 == 0) = (z / 2 ^ (8 - 2) == 0) := by rw [Bool.eq_iff_iff, beq_iff_eq, beq_iff_eq]; omega
          have HF2 := Lib.hid (hF.trans e.symm)
          clear hF hn8 e
          go_wp2_with fail
          go_quiet (fail)
          go_wp2_with fail
          go_ret2
          rw [HF2.out]
          exact ⟨rfl, (HX4.out.drewN _).drewN _⟩
        · have hn8 : n % 8 = 3 := by omega
          have hF := HF.out
          rw [hn8] at hF
          have e : ((z : Int) / 32 == 0) = (z / 2 ^ (8 - 3) == 0) := by rw [Bool.eq_iff_iff, beq_iff_eq, beq_iff_eq]; omega
          have HF2 := Lib.hid (hF.trans e.symm)
          clear hF hn8 e
          go_wp2_with fail
          go_quiet (fail)
          go_wp2_with fail
          go_ret2
          rw [HF2.out]
          exact ⟨rfl, (HX4.out.drewN _).drewN _⟩
        · have hn8 : n % 8 = 4 := by omega
          have hF := HF.out
          rw [hn8] at hF
          have e : ((z : Int) / 16 == 0) = (z / 2 ^ (8 - 4) == 0) := by rw [Bool.eq_iff_iff, beq_iff_eq, beq_iff_eq]; omega
          have HF2 := Lib.hid (hF.trans e.symm)
          clear hF hn8 e
          go_wp2_with fail
          go_quiet (fail)
          go_wp2_with fail
          go_ret2
          rw [HF2.out]
          exact ⟨rfl, (HX4.out.drewN _).drewN _⟩
        · have hn8 : n % 8 = 5 := by omega
          have hF := HF.out
          rw [hn8] at hF
          have e : ((z : Int) / 8 == 0) = (z / 2 ^ (8 - 5) == 0) := by rw [Bool.eq_iff_iff, beq_iff_eq, beq_iff_eq]; omega
          have HF2 := Lib.hid (hF.trans e.symm)
          clear hF hn8 e
          go_wp2_with fail
          go_quiet (fail)
          go_wp2_with fail
          go_ret2
          rw [HF2.out]
          exact ⟨rfl, (HX4.out.drewN _).drewN _⟩
        · have hn8 : n % 8 = 6 := by omega
          have hF := HF.out
          rw [hn8] at hF
          have e : ((z : Int) / 4 == 0) = (z / 2 ^ (8 - 6) == 0) := by rw [Bool.eq_iff_iff, beq_iff_eq, beq_iff_eq]; omega
          have HF2 := Lib.hid (hF.trans e.symm)
          clear hF hn8 e
          go_wp2_with fail
          go_quiet (fail)
          go_wp2_with fail
          go_ret2
          rw [HF2.out]
          exact ⟨rfl, (HX4.out.drewN _).drewN _⟩
        · have hn8 : n % 8 = 7 := by omega
          have hF := HF.out
          rw [hn8] at hF
          have e : ((z : Int) / 2 == 0) = (z / 2 ^ (8 - 7) == 0) := by rw [Bool.eq_iff_iff, beq_iff_eq, beq_iff_eq]; omega
          have HF2 := Lib.hid (hF.trans e.symm)
          clear hF hn8 e
          go_wp2_with fail
          go_quiet (fail)
          go_wp2_with fail
          go_ret2
          rw [HF2.out]
          exact ⟨rfl, (HX4.out.drewN _).drewN _⟩
  · have hP : netP k a n k' b = (false, 0) := by unfold netP; rw [if_neg hn1, if_neg hn2, if_pos hkk]
    rw [hP]
    have hq2 : (k == k') = false := by rw [beq_eq_false_iff_ne]; exact hkk
    have hq3 : (k != k') = true := by rw [bne, hq2]; rfl
    have HV := Lib.hid (Valid_at' k a A c W2 HA.out HE.out)
    rw [hva] at HV
    unfold adv at HV
    clear hva hP h20 hn1 hal hneg hbig hn2 hkk
    go_enter Tryz.func27, Tryz.ntmps27
    go_wp2_with fail
    refine HV.out.mono ?_
    rintro _ w3 ⟨rfl, hx3⟩
    have HX3 := Lib.hid (HX.out.trans hx3)
    obtain ⟨f0, f1⟩ := (HBA.out.ext hx3).cells
    obtain ⟨g0, g1⟩ := (HBB.out.ext hx3).cells
    have HV2 := Lib.hid (Valid_at' k' b B d w3 (HB.out.ext hx3) (HE.out.ext hx3))
    have HBA3 := Lib.hid (HBA.out.ext hx3); have HBB3 := Lib.hid (HBB.out.ext hx3); have HA3 := Lib.hid (HA.out.ext hx3); have HB3 := Lib.hid (HB.out.ext hx3)
    unfold adv at HV2
    clear hx3 c0 c1 d0 d1 e1 e2
    rw [hvb] at HV2
    clear hvb
    go_wp2_with fail
    refine HV2.out.mono ?_
    rintro _ w4 ⟨rfl, hx4⟩
    have HX4 := Lib.hid (HX3.out.trans hx4)
    have HBA4 := Lib.hid (HBA3.out.ext hx4); have HBB4 := Lib.hid (HBB3.out.ext hx4); have HA4 := Lib.hid (HA3.out.ext hx4); have HB4 := Lib.hid (HB3.out.ext hx4)
    obtain ⟨p0, p1⟩ := HBA4.out.cells
    obtain ⟨r0, r1⟩ := HBB4.out.cells
    clear hx4 f0 f1 g0 g1
    go_wp2_with fail
    go_ret2
    exact ⟨rfl, HX4.out⟩
end Go.Proofs.YthpfomjibfbiiaaGreatDoor
