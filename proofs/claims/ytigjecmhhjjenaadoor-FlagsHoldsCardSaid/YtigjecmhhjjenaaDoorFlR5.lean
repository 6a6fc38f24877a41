/- Flags: the reference's Grant. (wip/tools/genflr5.py printed this.) -/
import Derived.Test.YtigjecmhhjjenaaDoorFlR4
namespace Go.Proofs.YtigjecmhhjjenaaDoor
open Go Go.RowKit
set_option linter.unusedVariables false

theorem andNot_bit (x y : W32) (k : Nat) (hk : k < 32) : (andNotW x y).getLsbD k = (x.getLsbD k && !y.getLsbD k) := by
  simp [andNotW, hk]
def refGE (x y z v r nv nr i6 r7 m d1 d2 d3 : Bool) : Int :=
  bif !x || !y || !z then 2 else bif (v || r) && (nv && nr) then 150 else bif v != i6 then 152 else bif v then 0 else bif r then (bif !r7 then 151 else 0) else bif m then 151 else bif d1 || d2 || d3 then 151 else 0
def dnB (o t a : W32) (q n : Nat) : Bool := o.getLsbD q && (!t.getLsbD n || !a.getLsbD n)
theorem vB_bit (o : W32) : vB o = o.getLsbD 17 := has_bit o 17 (by decide)
theorem rB_bit (o : W32) : rB o = o.getLsbD 16 := has_bit o 16 (by decide)
theorem ne_of_bit {x y : W32} (k : Nat) (h : x.getLsbD k ≠ y.getLsbD k) : neW x y = true := by
  unfold neW
  have : x ≠ y := fun e => h (by rw [e])
  simp [this]
theorem v_nr (o : W32) (h : o.getLsbD 17 = true) : neW (andNotW o 262144#32) 65536#32 = true := ne_of_bit 17 (by rw [andNot_bit _ _ _ (by decide), h]; decide)
theorem r_nv (o : W32) (h : o.getLsbD 16 = true) : neW (andNotW o 262144#32) 131072#32 = true := ne_of_bit 16 (by rw [andNot_bit _ _ _ (by decide), h]; decide)
theorem m_has (o t : W32) : neW (andNotW (andW o 149#32) t) 0#32 = !hasB t (andW o 149#32) := by
  cases hh : hasB t (andW o 149#32) with
  | true =>
    rw [hasB_iff] at hh
    have : andNotW (andW o 149#32) t = 0#32 := w_ext (fun k hk => by
      rw [andNot_bit _ _ _ hk]
      cases hg : (andW o 149#32).getLsbD k with
      | false => simp
      | true => rw [hh k hk hg]; simp)
    unfold neW
    rw [this]
    rfl
  | false =>
    cases hn : neW (andNotW (andW o 149#32) t) 0#32 with
    | true => rfl
    | false =>
      exfalso
      have he : andNotW (andW o 149#32) t = 0#32 := by
        unfold neW at hn
        simpa using hn
      have : hasB t (andW o 149#32) = true := by
        rw [hasB_iff]
        intro k hk hg
        have hb := congrArg (fun x : W32 => x.getLsbD k) he
        simp only [andNot_bit _ _ _ hk, hg, Bool.true_and, BitVec.getLsbD_zero, Bool.not_eq_false'] at hb
        exact hb
      rw [this] at hh
      cases hh
theorem has_both (t a : W32) (n : Nat) (hn : n < 32) : hasB (andW t a) (bitW n) = (t.getLsbD n && a.getLsbD n) := by
  rw [has_bit _ n hn, and_bits]
theorem den_ref (o t a : W32) (q n : Nat) (hq : q < 32) (hn : n < 32) : denB o t a (bitW q) (bitW n) = (plB o && dnB o t a q n) := by
  unfold denB dnB
  rw [has_bit o q hq, has_both t a n hn]
  cases plB o <;> cases o.getLsbD q <;> cases t.getLsbD n <;> cases a.getLsbD n <;> rfl
theorem grantE_ref (o t a : W32) : grantE o t a = refGE (optB o) (tkB t) (tkB a) (o.getLsbD 17) (o.getLsbD 16) (neW (andNotW o 262144#32) 131072#32) (neW (andNotW o 262144#32) 65536#32) (t.getLsbD 6) (t.getLsbD 7) (neW (andNotW (andW o 149#32) t) 0#32) (dnB o t a 1 0) (dnB o t a 3 2) (dnB o t a 5 4) := by
  have e1 : denB o t a 2#32 1#32 = (plB o && dnB o t a 1 0) := den_ref o t a 1 0 (by decide) (by decide)
  have e2 : denB o t a 8#32 4#32 = (plB o && dnB o t a 3 2) := den_ref o t a 3 2 (by decide) (by decide)
  have e3 : denB o t a 32#32 16#32 = (plB o && dnB o t a 5 4) := den_ref o t a 5 4 (by decide) (by decide)
  have e4 : hasB t 64#32 = t.getLsbD 6 := has_bit t 6 (by decide)
  have e5 : hasB t 128#32 = t.getLsbD 7 := has_bit t 7 (by decide)
  have f1 := v_nr o
  have f2 := r_nv o
  unfold grantE refGE
  rw [e1, e2, e3, e4, e5, m_has]
  unfold plB
  rw [vB_bit, rB_bit]
  generalize optB o = x
  generalize tkB t = y
  generalize tkB a = z
  generalize o.getLsbD 17 = v at f1 ⊢
  generalize o.getLsbD 16 = r at f2 ⊢
  generalize neW (andNotW o 262144#32) 131072#32 = nv at f2 ⊢
  generalize neW (andNotW o 262144#32) 65536#32 = nr at f1 ⊢
  generalize t.getLsbD 6 = i6
  generalize t.getLsbD 7 = r7
  generalize hasB t (andW o 149#32) = m
  generalize dnB o t a 1 0 = d1
  generalize dnB o t a 3 2 = d2
  generalize dnB o t a 5 4 = d3
  cases x
  · rfl
  cases y
  · rfl
  cases z
  · rfl
  cases v
  · cases r
    · cases i6
      · cases m
        · rfl
        · cases d1 <;> cases d2 <;> cases d3 <;> rfl
      · rfl
    · have := f2 rfl
      subst this
      cases nr <;> cases i6 <;> cases r7 <;> rfl
  · have := f1 rfl
    subst this
    cases nv
    · cases r
      · cases i6 <;> rfl
      · have := f2 rfl; cases this
    · cases r <;> rfl
def refGW (o t a : W32) : W32 := orW (orW (orW (andW t 514#32) (wantW o a)) (andW a 2048#32)) (andW o 10#32)
theorem grantW_ref (o t a : W32) : grantW o t a = bif o.getLsbD 17 then andNotW t 64#32 else bif o.getLsbD 16 then t else refGW o t a := by
  unfold grantW
  rw [vB_bit, rB_bit]
  cases o.getLsbD 17
  · cases o.getLsbD 16
    · simp only [Bool.false_eq_true, if_false, cond_false]
      unfold plainW refGW wantW pstW
      rw [has5]
      refine w_ext (fun k hk => ?_)
      cases o.getLsbD 5
      all_goals
        simp only [cond_true, cond_false, unionF, List.foldl_cons, List.foldl_nil, or_bit, BitVec.getLsbD_zero, Bool.false_or, Bool.or_false]
      all_goals
        generalize (andW t 514#32).getLsbD k = p1
        generalize (andW (andW o a) 149#32).getLsbD k = p2
        generalize (andW a 2048#32).getLsbD k = p3
        generalize (andW o 10#32).getLsbD k = p4
        try generalize (96#32 : W32).getLsbD k = p5
        cases p1 <;> cases p2 <;> cases p3 <;> cases p4 <;> (try cases p5) <;> rfl
    · rfl
  · rfl
set_option maxRecDepth 100000 in
set_option maxHeartbeats 4000000 in
theorem RGrant_at (o t a : W32) (w : World) :
    Calls Tryd.prog 28 #[.int .u32 (o.toNat : Int), .int .u32 (t.toNat : Int), .int .u32 (a.toNat : Int)] w fun e w' => e = .returned (.tuple #[.int .u32 ((if grantE o t a = 0 then grantW o t a else 0#32 : W32).toNat : Int), .int .i64 (grantE o t a)]) ∧ Ext w w' := by
  obtain ⟨R, hR⟩ : ∃ R : W32, (if grantE o t a = 0 then grantW o t a else 0#32) = R := ⟨_, rfl⟩
  rw [hR]
  obtain ⟨E, hE⟩ : ∃ E, grantE o t a = E := ⟨_, rfl⟩
  rw [hE] at hR ⊢
  rw [grantE_ref] at hE
  rw [grantW_ref] at hR
  obtain ⟨G, hG⟩ : ∃ G, refGW o t a = G := ⟨_, rfl⟩
  rw [hG] at hR
  have HG := Lib.hid hG
  have f1 := v_nr o
  have f2 := r_nv o
  clear hG
  obtain ⟨x, hx⟩ : ∃ b, optB o = b := ⟨_, rfl⟩
  obtain ⟨y, hy⟩ : ∃ b, tkB t = b := ⟨_, rfl⟩
  obtain ⟨z, hz⟩ : ∃ b, tkB a = b := ⟨_, rfl⟩
  obtain ⟨v, hv⟩ : ∃ b, o.getLsbD 17 = b := ⟨_, rfl⟩
  obtain ⟨r, hr⟩ : ∃ b, o.getLsbD 16 = b := ⟨_, rfl⟩
  obtain ⟨nv, hnv⟩ : ∃ b, neW (andNotW o 262144#32) 131072#32 = b := ⟨_, rfl⟩
  obtain ⟨nr, hnr⟩ : ∃ b, neW (andNotW o 262144#32) 65536#32 = b := ⟨_, rfl⟩
  obtain ⟨i6, hi6⟩ : ∃ b, t.getLsbD 6 = b := ⟨_, rfl⟩
  obtain ⟨r7, hr7⟩ : ∃ b, t.getLsbD 7 = b := ⟨_, rfl⟩
  obtain ⟨m, hm⟩ : ∃ b, neW (andNotW (andW o 149#32) t) 0#32 = b := ⟨_, rfl⟩
  obtain ⟨d1, hd1⟩ : ∃ b, dnB o t a 1 0 = b := ⟨_, rfl⟩
  obtain ⟨d2, hd2⟩ : ∃ b, dnB o t a 3 2 = b := ⟨_, rfl⟩
  obtain ⟨d3, hd3⟩ : ∃ b, dnB o t a 5 4 = b := ⟨_, rfl⟩
  rw [hx, hy, hz, hv, hr, hnv, hnr, hi6, hr7, hm, hd1, hd2, hd3] at hE
  rw [hv, hr] at hR
  rw [hv, hnr] at f1
  rw [hr, hnv] at f2
  have HX_ := Lib.hid (fun W => (show optB o = x from hx) ▸ ROptions_at o W)
  have HY := Lib.hid (fun W => (show tkB t = y from hy) ▸ RTicket_at t W)
  have HZ := Lib.hid (fun W => (show tkB a = z from hz) ▸ RTicket_at a W)
  have HV := Lib.hid (fun W => (show o.getLsbD 17 = v from hv) ▸ RHas_lit o 17 17 rfl (by decide) W)
  have HR := Lib.hid (fun W => (show o.getLsbD 16 = r from hr) ▸ RHas_lit o 16 16 rfl (by decide) W)
  have HI6 := Lib.hid (fun W => (show t.getLsbD 6 = i6 from hi6) ▸ RHas_lit t 6 6 rfl (by decide) W)
  have HR7 := Lib.hid (fun W => (show t.getLsbD 7 = r7 from hr7) ▸ RHas_lit t 7 7 rfl (by decide) W)
  have HD1 := Lib.hid (fun W => (show (o.getLsbD 1 && (!t.getLsbD 0 || !a.getLsbD 0)) = d1 from hd1) ▸ RDenied_at o t a 1 0 1 0 rfl rfl (by decide) (by decide) W)
  have HD2 := Lib.hid (fun W => (show (o.getLsbD 3 && (!t.getLsbD 2 || !a.getLsbD 2)) = d2 from hd2) ▸ RDenied_at o t a 3 2 3 2 rfl rfl (by decide) (by decide) W)
  have HD3 := Lib.hid (fun W => (show (o.getLsbD 5 && (!t.getLsbD 4 || !a.getLsbD 4)) = d3 from hd3) ▸ RDenied_at o t a 5 4 5 4 rfl rfl (by decide) (by decide) W)
  have hu1 := u32_andNot o 262144#32; have hb1 := u32_bne (andNotW o 262144#32) 131072#32; have hb2 := u32_bne (andNotW o 262144#32) 65536#32
  have hu2 := u32_andNot t 64#32; have hu3 := u32_and o 149#32; have hu4 := u32_andNot (andW o 149#32) t; have hb3 := u32_bne (andNotW (andW o 149#32) t) 0#32
  have e1 : ((262144#32 : W32).toNat : Int) = 262144 := rfl; have e2 : ((131072#32 : W32).toNat : Int) = 131072 := rfl; have e3 : ((65536#32 : W32).toNat : Int) = 65536 := rfl; have e4 : ((64#32 : W32).toNat : Int) = 64 := rfl; have e5 : ((149#32 : W32).toNat : Int) = 149 := rfl; have e6 : ((0#32 : W32).toNat : Int) = 0 := rfl
  rw [e1] at hu1
  rw [e2, hnv] at hb1
  rw [e3, hnr] at hb2
  rw [e4] at hu2
  rw [e5] at hu3
  rw [e6, hm] at hb3
  have HE := Lib.hid hE.symm; have HRR := Lib.hid hR; have HF1 := Lib.hid f1; have HF2 := Lib.hid f2
  have HU1 := Lib.hid hu1; have HU2 := Lib.hid hu2; have HU3 := Lib.hid hu3; have HU4 := Lib.hid hu4; have HB1 := Lib.hid hb1; have HB2 := Lib.hid hb2; have HB3 := Lib.hid hb3
  clear hx hy hz hv hr hnv hnr hi6 hr7 hm hd1 hd2 hd3 e1 e2 e3 e4 e5 e6 hE hR f1 f2 hu1 hu2 hu3 hu4 hb1 hb2 hb3
  have HXw := Lib.hid (Ext.refl w)
  go_enter Tryd.func28, Tryd.ntmps28
  cases x with
  | false =>
    go_wp2_with fail
    refine (HX_.out _).mono ?_
    rintro _ wz ⟨rfl, rfl⟩
    go_wp2_with fail
    obtain rfl : 2 = E := by rw [HE.out]; rfl
    obtain rfl : 0#32 = R := by have := HRR.out; rwa [if_neg (by decide)] at this
    go_ret2
    exact ⟨rfl, HXw.out⟩
  | true =>
    go_wp2_with fail
    refine (HX_.out _).mono ?_
    rintro _ wz ⟨rfl, rfl⟩
    cases y with
    | false =>
      go_wp2_with fail
      refine (HY.out _).mono ?_
      rintro _ wz ⟨rfl, rfl⟩
      go_wp2_with fail
      obtain rfl : 2 = E := by rw [HE.out]; rfl
      obtain rfl : 0#32 = R := by have := HRR.out; rwa [if_neg (by decide)] at this
      go_ret2
      exact ⟨rfl, HXw.out⟩
    | true =>
      go_wp2_with fail
      refine (HY.out _).mono ?_
      rintro _ wz ⟨rfl, rfl⟩
      cases z with
      | false =>
        go_wp2_with fail
        refine (HZ.out _).mono ?_
        rintro _ wz ⟨rfl, rfl⟩
        go_wp2_with fail
        obtain rfl : 2 = E := by rw [HE.out]; rfl
        obtain rfl : 0#32 = R := by have := HRR.out; rwa [if_neg (by decide)] at this
        go_ret2
        exact ⟨rfl, HXw.out⟩
      | true =>
        go_wp2_with fail
        refine (HZ.out _).mono ?_
        rintro _ wz ⟨rfl, rfl⟩
        cases v with
        | false =>
          go_wp2_with fail
          refine (HV.out _).mono ?_
          rintro _ wz ⟨rfl, rfl⟩
          cases r with
          | false =>
            go_wp2_with fail
            refine (HR.out _).mono ?_
            rintro _ wz ⟨rfl, rfl⟩
            go_wp2_with fail
            refine (HV.out _).mono ?_
            rintro _ wz ⟨rfl, rfl⟩
            go_wp2_with fail
            refine (HI6.out _).mono ?_
            rintro _ wz ⟨rfl, rfl⟩
            cases i6 with
            | false =>
              go_wp2_with fail
              refine (HV.out _).mono ?_
              rintro _ wz ⟨rfl, rfl⟩
              go_wp2_with fail
              refine (HR.out _).mono ?_
              rintro _ wz ⟨rfl, rfl⟩
              have HXw1 := Lib.hid (HXw.out.alloc (.cells #[.int .i64 0, .int .i64 2, .int .i64 4, .int .i64 7] 3))
              have HOw1 := Lib.hid (of_149 w)
              obtain ⟨w1, hw1⟩ : ∃ W, w.alloc (.cells #[.int .i64 0, .int .i64 2, .int .i64 4, .int .i64 7] 3) = W := ⟨_, rfl⟩
              rw [hw1] at HXw1 HOw1
              go_wp2_with fail
              clear hw1
              refine HOw1.out.mono ?_
              rintro _ wz ⟨rfl, rfl⟩
              have qHU3 := HU3.out
              have qHU4 := HU4.out
              have qHB3 := HB3.out
              cases m with
              | false =>
                cases d1 with
                | false =>
                  go_wp2_with fail
                  refine (HD1.out _).mono ?_
                  rintro _ wz ⟨rfl, rfl⟩
                  cases d2 with
                  | false =>
                    go_wp2_with fail
                    refine (HD2.out _).mono ?_
                    rintro _ wz ⟨rfl, rfl⟩
                    cases d3 with
                    | false =>
                      go_wp2_with fail
                      refine (HD3.out _).mono ?_
                      rintro _ wz ⟨rfl, rfl⟩
                      have HXw2 := Lib.hid (HXw1.out.alloc (.cells #[.int .i64 1, .int .i64 9] 3))
                      have HOw2 := Lib.hid (of_514 w1)
                      obtain ⟨w2, hw2⟩ : ∃ W, w1.alloc (.cells #[.int .i64 1, .int .i64 9] 3) = W := ⟨_, rfl⟩
                      rw [hw2] at HXw2 HOw2
                      go_wp2_with fail
                      clear hw2
                      refine HOw2.out.mono ?_
                      rintro _ wz ⟨rfl, rfl⟩
                      have hv1 := u32_and t 514#32
                      have k1 : ((514#32 : W32).toNat : Int) = 514 := rfl
                      rw [k1] at hv1
                      clear k1
                      go_wp2_with fail
                      refine (RWanted_at o a _).mono ?_
                      rintro _ wq ⟨rfl, hxq⟩
                      have HXwq := Lib.hid (HXw2.out.trans hxq)
                      clear hxq
                      obtain ⟨T, hT⟩ : ∃ T, wantW o a = T := ⟨_, rfl⟩
                      rw [hT]
                      have HGG := Lib.hid (show orW (orW (orW (andW t 514#32) T) (andW a 2048#32)) (andW o 10#32) = G by rw [← HG.out, ← hT]; rfl)
                      clear hT
                      have hv2 := u32_or (andW t 514#32) T
                      have HXw3 := Lib.hid (HXwq.out.alloc (.cells #[.int .i64 11] 3))
                      have HOw3 := Lib.hid (of_2048 wq)
                      obtain ⟨w3, hw3⟩ : ∃ W, wq.alloc (.cells #[.int .i64 11] 3) = W := ⟨_, rfl⟩
                      rw [hw3] at HXw3 HOw3
                      go_wp2_with fail
                      clear hw3
                      refine HOw3.out.mono ?_
                      rintro _ wz ⟨rfl, rfl⟩
                      have hv3 := u32_and a 2048#32
                      have k3 : ((2048#32 : W32).toNat : Int) = 2048 := rfl
                      rw [k3] at hv3
                      clear k3
                      have hv4 := u32_or (orW (andW t 514#32) T) (andW a 2048#32)
                      have HXw4 := Lib.hid (HXw3.out.alloc (.cells #[.int .i64 1, .int .i64 3] 3))
                      have HOw4 := Lib.hid (of_10 w3)
                      obtain ⟨w4, hw4⟩ : ∃ W, w3.alloc (.cells #[.int .i64 1, .int .i64 3] 3) = W := ⟨_, rfl⟩
                      rw [hw4] at HXw4 HOw4
                      go_wp2_with fail
                      clear hw4
                      refine HOw4.out.mono ?_
                      rintro _ wz ⟨rfl, rfl⟩
                      have hv5 := u32_and o 10#32
                      have k5 : ((10#32 : W32).toNat : Int) = 10 := rfl
                      rw [k5] at hv5
                      clear k5
                      have hv6 := u32_or (orW (orW (andW t 514#32) T) (andW a 2048#32)) (andW o 10#32)
                      rw [HGG.out] at hv6
                      go_wp2_with fail
                      obtain rfl : 0 = E := by rw [HE.out]; rfl
                      obtain rfl : G = R := by have := HRR.out; rwa [if_pos rfl] at this
                      go_ret2
                      exact ⟨rfl, HXw4.out⟩
                    | true =>
                      go_wp2_with fail
                      refine (HD3.out _).mono ?_
                      rintro _ wz ⟨rfl, rfl⟩
                      go_wp2_with fail
                      obtain rfl : 151 = E := by rw [HE.out]; rfl
                      obtain rfl : 0#32 = R := by have := HRR.out; rwa [if_neg (by decide)] at this
                      go_ret2
                      exact ⟨rfl, HXw1.out⟩
                  | true =>
                    go_wp2_with fail
                    refine (HD2.out _).mono ?_
                    rintro _ wz ⟨rfl, rfl⟩
                    go_wp2_with fail
                    obtain rfl : 151 = E := by rw [HE.out]; rfl
                    obtain rfl : 0#32 = R := by have := HRR.out; rwa [if_neg (by decide)] at this
                    go_ret2
                    exact ⟨rfl, HXw1.out⟩
                | true =>
                  go_wp2_with fail
                  refine (HD1.out _).mono ?_
                  rintro _ wz ⟨rfl, rfl⟩
                  go_wp2_with fail
                  obtain rfl : 151 = E := by rw [HE.out]; rfl
                  obtain rfl : 0#32 = R := by have := HRR.out; rwa [if_neg (by decide)] at this
                  go_ret2
                  exact ⟨rfl, HXw1.out⟩
              | true =>
                go_wp2_with fail
                obtain rfl : 151 = E := by rw [HE.out]; rfl
                obtain rfl : 0#32 = R := by have := HRR.out; rwa [if_neg (by decide)] at this
                go_ret2
                exact ⟨rfl, HXw1.out⟩
            | true =>
              go_wp2_with fail
              obtain rfl : 152 = E := by rw [HE.out]; rfl
              obtain rfl : 0#32 = R := by have := HRR.out; rwa [if_neg (by decide)] at this
              go_ret2
              exact ⟨rfl, HXw.out⟩
          | true =>
            go_wp2_with fail
            refine (HR.out _).mono ?_
            rintro _ wz ⟨rfl, rfl⟩
            obtain rfl : nv = true := HF2.out (by trivial)
            have HXw5 := Lib.hid (HXw.out.alloc (.cells #[.int .i64 18] 3))
            have HOw5 := Lib.hid (of_262144 w)
            obtain ⟨w5, hw5⟩ : ∃ W, w.alloc (.cells #[.int .i64 18] 3) = W := ⟨_, rfl⟩
            rw [hw5] at HXw5 HOw5
            go_wp2_with fail
            clear hw5
            refine HOw5.out.mono ?_
            rintro _ wz ⟨rfl, rfl⟩
            have qHU1 := HU1.out
            have qHB1 := HB1.out
            have qHB2 := HB2.out
            have HXw6 := Lib.hid (HXw5.out.alloc (.cells #[.int .i64 17] 3))
            have HOw6 := Lib.hid (of_131072 w5)
            obtain ⟨w6, hw6⟩ : ∃ W, w5.alloc (.cells #[.int .i64 17] 3) = W := ⟨_, rfl⟩
            rw [hw6] at HXw6 HOw6
            go_wp2_with fail
            clear hw6
            refine HOw6.out.mono ?_
            rintro _ wz ⟨rfl, rfl⟩
            have HXw7 := Lib.hid (HXw6.out.alloc (.cells #[.int .i64 18] 3))
            have HOw7 := Lib.hid (of_262144 w6)
            obtain ⟨w7, hw7⟩ : ∃ W, w6.alloc (.cells #[.int .i64 18] 3) = W := ⟨_, rfl⟩
            rw [hw7] at HXw7 HOw7
            go_wp2_with fail
            clear hw7
            refine HOw7.out.mono ?_
            rintro _ wz ⟨rfl, rfl⟩
            have HXw8 := Lib.hid (HXw7.out.alloc (.cells #[.int .i64 16] 3))
            have HOw8 := Lib.hid (of_65536 w7)
            obtain ⟨w8, hw8⟩ : ∃ W, w7.alloc (.cells #[.int .i64 16] 3) = W := ⟨_, rfl⟩
            rw [hw8] at HXw8 HOw8
            go_wp2_with fail
            clear hw8
            refine HOw8.out.mono ?_
            rintro _ wz ⟨rfl, rfl⟩
            cases nr with
            | false =>
              go_wp2_with fail
              refine (HV.out _).mono ?_
              rintro _ wz ⟨rfl, rfl⟩
              go_wp2_with fail
              refine (HI6.out _).mono ?_
              rintro _ wz ⟨rfl, rfl⟩
              cases i6 with
              | false =>
                go_wp2_with fail
                refine (HV.out _).mono ?_
                rintro _ wz ⟨rfl, rfl⟩
                go_wp2_with fail
                refine (HR.out _).mono ?_
                rintro _ wz ⟨rfl, rfl⟩
                go_wp2_with fail
                refine (HR7.out _).mono ?_
                rintro _ wz ⟨rfl, rfl⟩
                cases r7 with
                | false =>
                  go_wp2_with fail
                  obtain rfl : 151 = E := by rw [HE.out]; rfl
                  obtain rfl : 0#32 = R := by have := HRR.out; rwa [if_neg (by decide)] at this
                  go_ret2
                  exact ⟨rfl, HXw8.out⟩
                | true =>
                  go_wp2_with fail
                  obtain rfl : 0 = E := by rw [HE.out]; rfl
                  obtain rfl : t = R := by have := HRR.out; rwa [if_pos rfl] at this
                  go_ret2
                  exact ⟨rfl, HXw8.out⟩
              | true =>
                go_wp2_with fail
                obtain rfl : 152 = E := by rw [HE.out]; rfl
                obtain rfl : 0#32 = R := by have := HRR.out; rwa [if_neg (by decide)] at this
                go_ret2
                exact ⟨rfl, HXw8.out⟩
            | true =>
              go_wp2_with fail
              obtain rfl : 150 = E := by rw [HE.out]; rfl
              obtain rfl : 0#32 = R := by have := HRR.out; rwa [if_neg (by decide)] at this
              go_ret2
              exact ⟨rfl, HXw8.out⟩
        | true =>
          go_wp2_with fail
          refine (HV.out _).mono ?_
          rintro _ wz ⟨rfl, rfl⟩
          obtain rfl : nr = true := HF1.out (by trivial)
          have HXw9 := Lib.hid (HXw.out.alloc (.cells #[.int .i64 18] 3))
          have HOw9 := Lib.hid (of_262144 w)
          obtain ⟨w9, hw9⟩ : ∃ W, w.alloc (.cells #[.int .i64 18] 3) = W := ⟨_, rfl⟩
          rw [hw9] at HXw9 HOw9
          go_wp2_with fail
          clear hw9
          refine HOw9.out.mono ?_
          rintro _ wz ⟨rfl, rfl⟩
          have qHU1 := HU1.out
          have qHB1 := HB1.out
          have qHB2 := HB2.out
          have HXw10 := Lib.hid (HXw9.out.alloc (.cells #[.int .i64 17] 3))
          have HOw10 := Lib.hid (of_131072 w9)
          obtain ⟨w10, hw10⟩ : ∃ W, w9.alloc (.cells #[.int .i64 17] 3) = W := ⟨_, rfl⟩
          rw [hw10] at HXw10 HOw10
          go_wp2_with fail
          clear hw10
          refine HOw10.out.mono ?_
          rintro _ wz ⟨rfl, rfl⟩
          cases nv with
          | false =>
            go_wp2_with fail
            refine (HV.out _).mono ?_
            rintro _ wz ⟨rfl, rfl⟩
            go_wp2_with fail
            refine (HI6.out _).mono ?_
            rintro _ wz ⟨rfl, rfl⟩
            cases i6 with
            | false =>
              go_wp2_with fail
              obtain rfl : 152 = E := by rw [HE.out]; rfl
              obtain rfl : 0#32 = R := by have := HRR.out; rwa [if_neg (by decide)] at this
              go_ret2
              exact ⟨rfl, HXw10.out⟩
            | true =>
              go_wp2_with fail
              refine (HV.out _).mono ?_
              rintro _ wz ⟨rfl, rfl⟩
              have qHU2 := HU2.out
              have HXw13 := Lib.hid (HXw10.out.alloc (.cells #[.int .i64 6] 3))
              have HOw13 := Lib.hid (of_64 w10)
              obtain ⟨w13, hw13⟩ : ∃ W, w10.alloc (.cells #[.int .i64 6] 3) = W := ⟨_, rfl⟩
              rw [hw13] at HXw13 HOw13
              go_wp2_with fail
              clear hw13
              refine HOw13.out.mono ?_
              rintro _ wz ⟨rfl, rfl⟩
              go_wp2_with fail
              obtain rfl : 0 = E := by rw [HE.out]; rfl
              obtain rfl : andNotW t 64#32 = R := by have := HRR.out; rwa [if_pos rfl] at this
              go_ret2
              exact ⟨rfl, HXw13.out⟩
          | true =>
            have HXw11 := Lib.hid (HXw10.out.alloc (.cells #[.int .i64 18] 3))
            have HOw11 := Lib.hid (of_262144 w10)
            obtain ⟨w11, hw11⟩ : ∃ W, w10.alloc (.cells #[.int .i64 18] 3) = W := ⟨_, rfl⟩
            rw [hw11] at HXw11 HOw11
            go_wp2_with fail
            clear hw11
            refine HOw11.out.mono ?_
            rintro _ wz ⟨rfl, rfl⟩
            have HXw12 := Lib.hid (HXw11.out.alloc (.cells #[.int .i64 16] 3))
            have HOw12 := Lib.hid (of_65536 w11)
            obtain ⟨w12, hw12⟩ : ∃ W, w11.alloc (.cells #[.int .i64 16] 3) = W := ⟨_, rfl⟩
            rw [hw12] at HXw12 HOw12
            go_wp2_with fail
            clear hw12
            refine HOw12.out.mono ?_
            rintro _ wz ⟨rfl, rfl⟩
            go_wp2_with fail
            obtain rfl : 150 = E := by rw [HE.out]; rfl
            obtain rfl : 0#32 = R := by have := HRR.out; rwa [if_neg (by decide)] at this
            go_ret2
            exact ⟨rfl, HXw12.out⟩
end Go.Proofs.YtigjecmhhjjenaaDoor
