/- Flags: the reference's First and Grant. (wip/tools/genflr4.py printed this.) -/
import Derived.Test.YtigjecmhhjjenaaDoorFlR2
import Derived.Test.YtigjecmhhjjenaaDoorFl10
namespace Go.Proofs.YtigjecmhhjjenaaDoor
open Go Go.RowKit
set_option linter.unusedVariables false

theorem of_149 (W : World) : Calls Tryd.prog 48 #[.slice (some ⟨W.heap.size, 0, none⟩) 4 4] (W.alloc (.cells #[.int .i64 0, .int .i64 2, .int .i64 4, .int .i64 7] 3)) fun e w' => e = .returned (.int .u32 149) ∧ W.alloc (.cells #[.int .i64 0, .int .i64 2, .int .i64 4, .int .i64 7] 3) = w' :=
  ROf_at (some ⟨W.heap.size, 0, none⟩) 4 [0, 2, 4, 7] (by decide) (by decide) _ (RS.new W 3 ([0, 2, 4, 7].map fun k : Nat => Value.int .i64 (k : Int)) (by simp [maxLen]))
theorem of_96 (W : World) : Calls Tryd.prog 48 #[.slice (some ⟨W.heap.size, 0, none⟩) 2 2] (W.alloc (.cells #[.int .i64 5, .int .i64 6] 3)) fun e w' => e = .returned (.int .u32 96) ∧ W.alloc (.cells #[.int .i64 5, .int .i64 6] 3) = w' :=
  ROf_at (some ⟨W.heap.size, 0, none⟩) 2 [5, 6] (by decide) (by decide) _ (RS.new W 3 ([5, 6].map fun k : Nat => Value.int .i64 (k : Int)) (by simp [maxLen]))
theorem of_720906 (W : World) : Calls Tryd.prog 48 #[.slice (some ⟨W.heap.size, 0, none⟩) 5 5] (W.alloc (.cells #[.int .i64 1, .int .i64 3, .int .i64 16, .int .i64 17, .int .i64 19] 3)) fun e w' => e = .returned (.int .u32 720906) ∧ W.alloc (.cells #[.int .i64 1, .int .i64 3, .int .i64 16, .int .i64 17, .int .i64 19] 3) = w' :=
  ROf_at (some ⟨W.heap.size, 0, none⟩) 5 [1, 3, 16, 17, 19] (by decide) (by decide) _ (RS.new W 3 ([1, 3, 16, 17, 19].map fun k : Nat => Value.int .i64 (k : Int)) (by simp [maxLen]))
theorem of_256 (W : World) : Calls Tryd.prog 48 #[.slice (some ⟨W.heap.size, 0, none⟩) 1 1] (W.alloc (.cells #[.int .i64 8] 3)) fun e w' => e = .returned (.int .u32 256) ∧ W.alloc (.cells #[.int .i64 8] 3) = w' :=
  ROf_at (some ⟨W.heap.size, 0, none⟩) 1 [8] (by decide) (by decide) _ (RS.new W 3 ([8].map fun k : Nat => Value.int .i64 (k : Int)) (by simp [maxLen]))
theorem of_512 (W : World) : Calls Tryd.prog 48 #[.slice (some ⟨W.heap.size, 0, none⟩) 1 1] (W.alloc (.cells #[.int .i64 9] 3)) fun e w' => e = .returned (.int .u32 512) ∧ W.alloc (.cells #[.int .i64 9] 3) = w' :=
  ROf_at (some ⟨W.heap.size, 0, none⟩) 1 [9] (by decide) (by decide) _ (RS.new W 3 ([9].map fun k : Nat => Value.int .i64 (k : Int)) (by simp [maxLen]))
theorem of_262144 (W : World) : Calls Tryd.prog 48 #[.slice (some ⟨W.heap.size, 0, none⟩) 1 1] (W.alloc (.cells #[.int .i64 18] 3)) fun e w' => e = .returned (.int .u32 262144) ∧ W.alloc (.cells #[.int .i64 18] 3) = w' :=
  ROf_at (some ⟨W.heap.size, 0, none⟩) 1 [18] (by decide) (by decide) _ (RS.new W 3 ([18].map fun k : Nat => Value.int .i64 (k : Int)) (by simp [maxLen]))
theorem of_131072 (W : World) : Calls Tryd.prog 48 #[.slice (some ⟨W.heap.size, 0, none⟩) 1 1] (W.alloc (.cells #[.int .i64 17] 3)) fun e w' => e = .returned (.int .u32 131072) ∧ W.alloc (.cells #[.int .i64 17] 3) = w' :=
  ROf_at (some ⟨W.heap.size, 0, none⟩) 1 [17] (by decide) (by decide) _ (RS.new W 3 ([17].map fun k : Nat => Value.int .i64 (k : Int)) (by simp [maxLen]))
theorem of_65536 (W : World) : Calls Tryd.prog 48 #[.slice (some ⟨W.heap.size, 0, none⟩) 1 1] (W.alloc (.cells #[.int .i64 16] 3)) fun e w' => e = .returned (.int .u32 65536) ∧ W.alloc (.cells #[.int .i64 16] 3) = w' :=
  ROf_at (some ⟨W.heap.size, 0, none⟩) 1 [16] (by decide) (by decide) _ (RS.new W 3 ([16].map fun k : Nat => Value.int .i64 (k : Int)) (by simp [maxLen]))
theorem of_64 (W : World) : Calls Tryd.prog 48 #[.slice (some ⟨W.heap.size, 0, none⟩) 1 1] (W.alloc (.cells #[.int .i64 6] 3)) fun e w' => e = .returned (.int .u32 64) ∧ W.alloc (.cells #[.int .i64 6] 3) = w' :=
  ROf_at (some ⟨W.heap.size, 0, none⟩) 1 [6] (by decide) (by decide) _ (RS.new W 3 ([6].map fun k : Nat => Value.int .i64 (k : Int)) (by simp [maxLen]))
theorem of_514 (W : World) : Calls Tryd.prog 48 #[.slice (some ⟨W.heap.size, 0, none⟩) 2 2] (W.alloc (.cells #[.int .i64 1, .int .i64 9] 3)) fun e w' => e = .returned (.int .u32 514) ∧ W.alloc (.cells #[.int .i64 1, .int .i64 9] 3) = w' :=
  ROf_at (some ⟨W.heap.size, 0, none⟩) 2 [1, 9] (by decide) (by decide) _ (RS.new W 3 ([1, 9].map fun k : Nat => Value.int .i64 (k : Int)) (by simp [maxLen]))
theorem of_2048 (W : World) : Calls Tryd.prog 48 #[.slice (some ⟨W.heap.size, 0, none⟩) 1 1] (W.alloc (.cells #[.int .i64 11] 3)) fun e w' => e = .returned (.int .u32 2048) ∧ W.alloc (.cells #[.int .i64 11] 3) = w' :=
  ROf_at (some ⟨W.heap.size, 0, none⟩) 1 [11] (by decide) (by decide) _ (RS.new W 3 ([11].map fun k : Nat => Value.int .i64 (k : Int)) (by simp [maxLen]))
theorem of_10 (W : World) : Calls Tryd.prog 48 #[.slice (some ⟨W.heap.size, 0, none⟩) 2 2] (W.alloc (.cells #[.int .i64 1, .int .i64 3] 3)) fun e w' => e = .returned (.int .u32 10) ∧ W.alloc (.cells #[.int .i64 1, .int .i64 3] 3) = w' :=
  ROf_at (some ⟨W.heap.size, 0, none⟩) 2 [1, 3] (by decide) (by decide) _ (RS.new W 3 ([1, 3].map fun k : Nat => Value.int .i64 (k : Int)) (by simp [maxLen]))
theorem RHas_lit (f : W32) (c : Int) (k : Nat) (h : c = (k : Int)) (hk : k < 32) (w : World) :
    Calls Tryd.prog 23 #[.int .u32 (f.toNat : Int), .int .i64 c] w fun e w' => e = .returned (.bool (f.getLsbD k)) ∧ w = w' := by
  subst h; exact RHas_at f k hk w
def wantW (o a : W32) : W32 := bif o.getLsbD 5 then orW (andW (andW o a) 149#32) 96#32 else andW (andW o a) 149#32
theorem RWanted_at (o a : W32) (w : World) :
    Calls Tryd.prog 49 #[.int .u32 (o.toNat : Int), .int .u32 (a.toNat : Int)] w fun e w' => e = .returned (.int .u32 ((wantW o a).toNat : Int)) ∧ Ext w w' := by
  obtain ⟨b, hb⟩ : ∃ b, o.getLsbD 5 = b := ⟨_, rfl⟩
  have HH := Lib.hid (fun W => hb ▸ RHas_lit o 5 5 rfl (by decide) W)
  have HW := Lib.hid (show wantW o a = bif b then orW (andW (andW o a) 149#32) 96#32 else andW (andW o a) 149#32 by unfold wantW; rw [hb])
  clear hb
  have hu1 := u32_and o a; have hu2 := u32_and (andW o a) 149#32; have hu3 := u32_or (andW (andW o a) 149#32) 96#32
  have e1 : ((149#32 : W32).toNat : Int) = 149 := rfl; have e2 : ((96#32 : W32).toNat : Int) = 96 := rfl
  rw [e1] at hu2
  rw [e2] at hu3
  clear e1 e2
  have HX := Lib.hid ((Ext.refl w).alloc (.cells #[.int .i64 0, .int .i64 2, .int .i64 4, .int .i64 7] 3))
  obtain ⟨w1, hw1⟩ : ∃ w1, w.alloc (.cells #[.int .i64 0, .int .i64 2, .int .i64 4, .int .i64 7] 3) = w1 := ⟨_, rfl⟩
  have HO := Lib.hid (of_149 w)
  rw [hw1] at HX HO
  have HO2 := Lib.hid (of_96 w1)
  have HX2 := Lib.hid ((Ext.refl w1).alloc (.cells #[.int .i64 5, .int .i64 6] 3))
  go_enter Tryd.func49, Tryd.ntmps49
  cases b with
  | false =>
    go_wp2_with fail
    clear hw1
    refine HO.out.mono ?_
    rintro _ w2 ⟨rfl, rfl⟩
    go_wp2_with fail
    refine (HH.out _).mono ?_
    rintro _ w2 ⟨rfl, rfl⟩
    go_wp2_with fail
    go_ret
    exact ⟨by rw [HW.out]; rfl, HX.out⟩
  | true =>
    go_wp2_with fail
    clear hw1
    refine HO.out.mono ?_
    rintro _ w2 ⟨rfl, rfl⟩
    go_wp2_with fail
    refine (HH.out _).mono ?_
    rintro _ w2 ⟨rfl, rfl⟩
    go_wp2_with fail
    refine HO2.out.mono ?_
    rintro _ w2 ⟨rfl, rfl⟩
    go_wp2_with fail
    go_ret
    exact ⟨by rw [HW.out]; rfl, HX.out.trans HX2.out⟩
theorem RDenied_at (o t a : W32) (c d : Int) (q n : Nat) (hc : c = (q : Int)) (hd : d = (n : Int)) (hq : q < 32) (hn : n < 32) (w : World) :
    Calls Tryd.prog 57 #[.int .u32 (o.toNat : Int), .int .i64 c, .int .u32 (t.toNat : Int), .int .u32 (a.toNat : Int), .int .i64 d] w fun e w' => e = .returned (.bool (o.getLsbD q && (!t.getLsbD n || !a.getLsbD n))) ∧ w = w' := by
  obtain ⟨x, hx⟩ : ∃ b, o.getLsbD q = b := ⟨_, rfl⟩
  obtain ⟨y, hy⟩ : ∃ b, t.getLsbD n = b := ⟨_, rfl⟩
  obtain ⟨z, hz⟩ : ∃ b, a.getLsbD n = b := ⟨_, rfl⟩
  have H1 := Lib.hid (hx ▸ RHas_lit o c q hc hq w); have H2 := Lib.hid (hy ▸ RHas_lit t d n hd hn w); have H3 := Lib.hid (hz ▸ RHas_lit a d n hd hn w)
  rw [hx, hy, hz]
  clear hx hy hz hc hd
  go_enter Tryd.func57, Tryd.ntmps57
  cases x with
  | false =>
    go_wp2_with fail
    refine H1.out.mono ?_
    rintro _ w2 ⟨rfl, rfl⟩
    go_wp2_with fail
    go_ret
    exact ⟨rfl, rfl⟩
  | true =>
    cases y with
    | false =>
      go_wp2_with fail
      refine H1.out.mono ?_
      rintro _ w2 ⟨rfl, rfl⟩
      go_wp2_with fail
      refine H2.out.mono ?_
      rintro _ w2 ⟨rfl, rfl⟩
      go_wp2_with fail
      go_ret
      exact ⟨rfl, rfl⟩
    | true =>
      go_wp2_with fail
      refine H1.out.mono ?_
      rintro _ w2 ⟨rfl, rfl⟩
      go_wp2_with fail
      refine H2.out.mono ?_
      rintro _ w2 ⟨rfl, rfl⟩
      go_wp2_with fail
      refine H3.out.mono ?_
      rintro _ w2 ⟨rfl, rfl⟩
      go_wp2_with fail
      go_ret
      exact ⟨rfl, rfl⟩
/-! The two ways of saying it are the same. -/
def refIE (x y z b5 b4 : Bool) : Int := bif !x || !y then 2 else bif z then 150 else bif b5 && !b4 then 151 else 0
theorem has5 (o : W32) : hasB o 32#32 = o.getLsbD 5 := has_bit o 5 (by decide)
theorem initE_ref (o a : W32) : initE o a = refIE (optB o) (tkB a) (neW (andW o 720906#32) 0#32) (o.getLsbD 5) (a.getLsbD 4) := by
  have e : fgnW = 720906#32 := by decide
  have h4 : hasB a 16#32 = a.getLsbD 4 := has_bit a 4 (by decide)
  unfold initE refIE
  rw [e, has5, h4]
  cases optB o <;> cases tkB a <;> cases neW (andW o 720906#32) 0#32 <;> cases o.getLsbD 5 <;> cases a.getLsbD 4 <;> rfl
theorem w_ext {x y : W32} (h : ∀ k, k < 32 → x.getLsbD k = y.getLsbD k) : x = y := BitVec.eq_of_getLsbD_eq (fun k hk => h k hk)
theorem initW_ref (o a : W32) (p : Bool) : initW o a p = bif p then orW (orW (wantW o a) 256#32) 512#32 else orW (wantW o a) 256#32 := by
  unfold initW wantW pstW
  rw [has5]
  cases o.getLsbD 5 <;> cases p
  all_goals
    simp only [cond_true, cond_false, unionF, List.foldl_cons, List.foldl_nil]
    refine w_ext (fun k hk => ?_)
    simp only [or_bit, BitVec.getLsbD_zero, Bool.false_or, Bool.or_false]
  · rw [Bool.or_comm]
  · rw [Bool.or_comm ((256#32 : W32).getLsbD k)]
  · rw [Bool.or_assoc, Bool.or_comm]
  · rw [Bool.or_assoc ((256#32 : W32).getLsbD k), Bool.or_comm ((256#32 : W32).getLsbD k)]

set_option maxRecDepth 100000 in
set_option maxHeartbeats 1000000 in
theorem RFirst_at (o a : W32) (p : Bool) (w : World) :
    Calls Tryd.prog 26 #[.int .u32 (o.toNat : Int), .int .u32 (a.toNat : Int), .bool p] w fun e w' => e = .returned (.tuple #[.int .u32 ((if initE o a = 0 then initW o a p else 0#32 : W32).toNat : Int), .int .i64 (initE o a)]) ∧ Ext w w' := by
  obtain ⟨R, hR⟩ : ∃ R : W32, (if initE o a = 0 then initW o a p else 0#32) = R := ⟨_, rfl⟩
  rw [hR]
  obtain ⟨E, hE⟩ : ∃ E, initE o a = E := ⟨_, rfl⟩
  rw [hE] at hR ⊢
  rw [initE_ref] at hE
  rw [initW_ref] at hR
  obtain ⟨x, hx⟩ : ∃ b, optB o = b := ⟨_, rfl⟩
  obtain ⟨y, hy⟩ : ∃ b, tkB a = b := ⟨_, rfl⟩
  obtain ⟨z, hz⟩ : ∃ b, neW (andW o 720906#32) 0#32 = b := ⟨_, rfl⟩
  obtain ⟨b5, h5⟩ : ∃ b, o.getLsbD 5 = b := ⟨_, rfl⟩
  obtain ⟨b4, h4⟩ : ∃ b, a.getLsbD 4 = b := ⟨_, rfl⟩
  rw [hx, hy, hz, h5, h4] at hE
  have H1 := Lib.hid (fun W => hx ▸ ROptions_at o W); have H2 := Lib.hid (fun W => hy ▸ RTicket_at a W)
  have H5 := Lib.hid (fun W => h5 ▸ RHas_lit o 5 5 rfl (by decide) W); have H4 := Lib.hid (fun W => h4 ▸ RHas_lit a 4 4 rfl (by decide) W)
  have hu1 := u32_and o 720906#32; have hb := u32_bne (andW o 720906#32) 0#32
  have e1 : ((720906#32 : W32).toNat : Int) = 720906 := rfl; have e0 : ((0#32 : W32).toNat : Int) = 0 := rfl
  rw [e1] at hu1
  rw [e0, hz] at hb
  have HE := Lib.hid hE.symm; have HRR := Lib.hid hR
  clear hx hy hz h5 h4 e1 e0 hE hR
  have HX0 := Lib.hid ((Ext.refl w).alloc (.cells #[.int .i64 1, .int .i64 3, .int .i64 16, .int .i64 17, .int .i64 19] 3))
  obtain ⟨w1, hw1⟩ : ∃ w1, w.alloc (.cells #[.int .i64 1, .int .i64 3, .int .i64 16, .int .i64 17, .int .i64 19] 3) = w1 := ⟨_, rfl⟩
  have HO := Lib.hid (of_720906 w)
  rw [hw1] at HX0 HO
  go_enter Tryd.func26, Tryd.ntmps26
  cases x with
  | false =>
    go_wp2_with fail
    refine (H1.out _).mono ?_
    rintro _ w2 ⟨rfl, rfl⟩
    go_wp2_with fail
    obtain rfl : 2 = E := by rw [HE.out]; rfl
    obtain rfl : 0#32 = R := by have := HRR.out; rwa [if_neg (by decide)] at this
    go_ret2
    exact ⟨rfl, Ext.refl _⟩
  | true =>
    cases y with
    | false =>
      go_wp2_with fail
      refine (H1.out _).mono ?_
      rintro _ w2 ⟨rfl, rfl⟩
      go_wp2_with fail
      refine (H2.out _).mono ?_
      rintro _ w2 ⟨rfl, rfl⟩
      go_wp2_with fail
      obtain rfl : 2 = E := by rw [HE.out]; rfl
      obtain rfl : 0#32 = R := by have := HRR.out; rwa [if_neg (by decide)] at this
      go_ret2
      exact ⟨rfl, Ext.refl _⟩
    | true =>
      cases z with
      | false =>
        cases b5 with
        | false =>
          go_wp2_with fail
          refine (H1.out _).mono ?_
          rintro _ w2 ⟨rfl, rfl⟩
          go_wp2_with fail
          refine (H2.out _).mono ?_
          rintro _ w2 ⟨rfl, rfl⟩
          go_wp2_with fail
          clear hw1
          refine HO.out.mono ?_
          rintro _ w2 ⟨rfl, rfl⟩
          go_wp2_with fail
          refine (H5.out _).mono ?_
          rintro _ w2 ⟨rfl, rfl⟩
          go_wp2_with fail
          refine (RWanted_at o a _).mono ?_
          rintro _ w3 ⟨rfl, hx3⟩
          have HX3 := Lib.hid (HX0.out.trans hx3)
          clear hx3
          obtain ⟨T, hT⟩ : ∃ T, wantW o a = T := ⟨_, rfl⟩
          rw [hT] at HRR ⊢
          clear hT
          have hu5 := u32_or T 256#32
          have e5 : ((256#32 : W32).toNat : Int) = 256 := rfl
          rw [e5] at hu5
          clear e5
          have HX4 := Lib.hid (HX3.out.alloc (.cells #[.int .i64 8] 3))
          have HO8 := Lib.hid (of_256 w3)
          obtain ⟨w4, hw4⟩ : ∃ w4, w3.alloc (.cells #[.int .i64 8] 3) = w4 := ⟨_, rfl⟩
          rw [hw4] at HX4 HO8
          go_wp2_with fail
          clear hw4
          refine HO8.out.mono ?_
          rintro _ w2 ⟨rfl, rfl⟩
          have hu6 := u32_or (orW T 256#32) 512#32
          have e6 : ((512#32 : W32).toNat : Int) = 512 := rfl
          rw [e6] at hu6
          clear e6
          obtain rfl : 0 = E := by rw [HE.out]; rfl
          cases p with
          | false =>
            obtain rfl : orW T 256#32 = R := by have := HRR.out; rwa [if_pos rfl] at this
            go_wp2_with fail
            go_ret2
            exact ⟨rfl, HX4.out⟩
          | true =>
            obtain rfl : orW (orW T 256#32) 512#32 = R := by have := HRR.out; rwa [if_pos rfl] at this
            have HO9 := Lib.hid (of_512 w4)
            go_wp2_with fail
            refine HO9.out.mono ?_
            rintro _ w2 ⟨rfl, rfl⟩
            go_wp2_with fail
            go_ret2
            exact ⟨rfl, HX4.out.alloc _⟩
        | true =>
          cases b4 with
          | false =>
            go_wp2_with fail
            refine (H1.out _).mono ?_
            rintro _ w2 ⟨rfl, rfl⟩
            go_wp2_with fail
            refine (H2.out _).mono ?_
            rintro _ w2 ⟨rfl, rfl⟩
            go_wp2_with fail
            clear hw1
            refine HO.out.mono ?_
            rintro _ w2 ⟨rfl, rfl⟩
            go_wp2_with fail
            refine (H5.out _).mono ?_
            rintro _ w2 ⟨rfl, rfl⟩
            go_wp2_with fail
            refine (H4.out _).mono ?_
            rintro _ w2 ⟨rfl, rfl⟩
            go_wp2_with fail
            obtain rfl : 151 = E := by rw [HE.out]; rfl
            obtain rfl : 0#32 = R := by have := HRR.out; rwa [if_neg (by decide)] at this
            go_ret2
            exact ⟨rfl, HX0.out⟩
          | true =>
            go_wp2_with fail
            refine (H1.out _).mono ?_
            rintro _ w2 ⟨rfl, rfl⟩
            go_wp2_with fail
            refine (H2.out _).mono ?_
            rintro _ w2 ⟨rfl, rfl⟩
            go_wp2_with fail
            clear hw1
            refine HO.out.mono ?_
            rintro _ w2 ⟨rfl, rfl⟩
            go_wp2_with fail
            refine (H5.out _).mono ?_
            rintro _ w2 ⟨rfl, rfl⟩
            go_wp2_with fail
            refine (H4.out _).mono ?_
            rintro _ w2 ⟨rfl, rfl⟩
            go_wp2_with fail
            refine (RWanted_at o a _).mono ?_
            rintro _ w3 ⟨rfl, hx3⟩
            have HX3 := Lib.hid (HX0.out.trans hx3)
            clear hx3
            obtain ⟨T, hT⟩ : ∃ T, wantW o a = T := ⟨_, rfl⟩
            rw [hT] at HRR ⊢
            clear hT
            have hu5 := u32_or T 256#32
            have e5 : ((256#32 : W32).toNat : Int) = 256 := rfl
            rw [e5] at hu5
            clear e5
            have HX4 := Lib.hid (HX3.out.alloc (.cells #[.int .i64 8] 3))
            have HO8 := Lib.hid (of_256 w3)
            obtain ⟨w4, hw4⟩ : ∃ w4, w3.alloc (.cells #[.int .i64 8] 3) = w4 := ⟨_, rfl⟩
            rw [hw4] at HX4 HO8
            go_wp2_with fail
            clear hw4
            refine HO8.out.mono ?_
            rintro _ w2 ⟨rfl, rfl⟩
            have hu6 := u32_or (orW T 256#32) 512#32
            have e6 : ((512#32 : W32).toNat : Int) = 512 := rfl
            rw [e6] at hu6
            clear e6
            obtain rfl : 0 = E := by rw [HE.out]; rfl
            cases p with
            | false =>
              obtain rfl : orW T 256#32 = R := by have := HRR.out; rwa [if_pos rfl] at this
              go_wp2_with fail
              go_ret2
              exact ⟨rfl, HX4.out⟩
            | true =>
              obtain rfl : orW (orW T 256#32) 512#32 = R := by have := HRR.out; rwa [if_pos rfl] at this
              have HO9 := Lib.hid (of_512 w4)
              go_wp2_with fail
              refine HO9.out.mono ?_
              rintro _ w2 ⟨rfl, rfl⟩
              go_wp2_with fail
              go_ret2
              exact ⟨rfl, HX4.out.alloc _⟩
      | true =>
        go_wp2_with fail
        refine (H1.out _).mono ?_
        rintro _ w2 ⟨rfl, rfl⟩
        go_wp2_with fail
        refine (H2.out _).mono ?_
        rintro _ w2 ⟨rfl, rfl⟩
        go_wp2_with fail
        clear hw1
        refine HO.out.mono ?_
        rintro _ w2 ⟨rfl, rfl⟩
        go_wp2_with fail
        obtain rfl : 150 = E := by rw [HE.out]; rfl
        obtain rfl : 0#32 = R := by have := HRR.out; rwa [if_neg (by decide)] at this
        go_ret2
        exact ⟨rfl, HX0.out⟩
end Go.Proofs.YtigjecmhhjjenaaDoor
