/- The reference's way of reading elements: Elements, Item, GetInt, GetBytes. -/
import Derived.Test.YthpfomjibfbiiaaGreatDoorGt1
import Derived.Test.YthpfomjibfbiiaaGreatDoorDer15
import Derived.Test.YthpfomjibfbiiaaGreatDoorAdD1
namespace Go.Proofs.YthpfomjibfbiiaaGreatDoor
open Go Go.RowKit
set_option linter.unusedVariables false

def slLenG : Value → Nat
  | .slice _ n _ => n
  | _ => 0
theorem bss_at {w : World} {A : Option Addr} {n c : Nat} {ls : List (List UInt8)} (h : BSS w (.slice A n c) ls) (hn : ls.length = n) (i : Nat) (hi : i < ls.length) : ∃ ad B d, A = some ad ∧ w.cell? (ad.add i) = some (.slice B ls[i].length d) ∧ BS w (.slice B ls[i].length d) ls[i] := by
  obtain ⟨vs, hr, hl, hb⟩ := h
  obtain ⟨A', c', he, _, _, h3⟩ := hr.open_
  injection he with e1 e2 e3
  subst e1
  obtain ⟨ad, rfl, _, hc⟩ := h3 (by omega)
  have hb' := hb i (by omega) hi
  obtain ⟨B, d, hv, _⟩ := hb'.open_
  have hc' := hc i vs[i] (List.getElem?_eq_getElem (by omega))
  rw [hv] at hc' hb'
  exact ⟨ad, B, d, rfl, hc', hb'⟩
set_option maxRecDepth 100000 in
set_option maxHeartbeats 2000000 in
theorem Elements_at (A : Option Addr) (c : Nat) (b : List UInt8) (w : World) (hb : BS w (.slice A b.length c) b) (hl : b.length ≤ 1000) :
    Calls Tryz.prog 22 #[.slice A b.length c] w fun e w' => ∃ A' c', e = .returned (.slice A' (els b).length c') ∧ OV 23 w' w.heap.size (.slice A' (els b).length c') (els b) ∧ Ext w w' := by
  obtain ⟨i0, hi, hz0, hz1, hz2⟩ := info_parts bsinfo
  have HB0 := Lib.hid hb
  clear hb
  go_enter Tryz.func22, Tryz.ntmps22
  go_wp2_with fail
  go_loopw [0, 3] (fun vb vl wr => ∃ (m : List UInt8) (don : List (List UInt8)) (A : Option Addr) (c : Nat), vb = .slice A m.length c ∧ m.length ≤ 1000 ∧ don.length ≤ 1000 ∧ Hid (els b = don ++ els m) ∧ Hid (BS w (.slice A m.length c) m) ∧ Hid (OV 23 wr w.heap.size vl don) ∧ Hid (Ext w wr)) (fun vb _ _ => slLenG vb)
  case atStart => exact ⟨b, [], A, c, rfl, hl, by simp, Lib.hid rfl, HB0, Lib.hid (OV.nil _ _ _), Lib.hid (Ext.refl _)⟩
  case round =>
    obtain ⟨m, don, A1, c1, rfl, hm, hdn, HE, HB, HV, HX⟩ := hrel
    have hfl := frst_le m
    have HF := Lib.hid (first_at A1 c1 m wr (HB.out.ext HX.out) hm)
    unfold FirR at HF
    have hstop : (frst m).2.2 = 0 → els m = [] := els_stop
    have hgo : (frst m).2.2 ≠ 0 → els m = m.take (frst m).2.2 :: els (m.drop (frst m).2.2) := els_go
    have hel := els_len b
    generalize frst m = r at *
    obtain ⟨tg, ct, t⟩ := r
    dsimp only at *
    by_cases ht : t = 0
    · subst ht
      have HS := Lib.hid (show els b = don by rw [HE.out, hstop rfl, List.append_nil])
      obtain ⟨VA, vc, rfl⟩ := HV.out.shape
      clear hstop hgo hfl
      go_wp2_with fail
      refine HF.out.mono ?_
      rintro _ w1 ⟨A2, c2, rfl, _, hx1⟩
      have HV1 := Lib.hid (HV.out.ext hx1); have HX1 := Lib.hid (HX.out.trans hx1)
      clear hx1
      go_wp2_with fail
      go_ret
      rw [HS.out]
      exact ⟨VA, vc, rfl, HV1.out, HX1.out⟩
    · have htq : ((t : Int) == 0) = false := by rw [beq_eq_false_iff_ne]; omega
      have htm : t ≤ m.length := hfl.1
      have ht2 : 2 ≤ t := by omega
      have HS := Lib.hid (show els b = (don ++ [m.take t]) ++ els (m.drop t) by rw [HE.out, hgo ht, List.append_assoc]; rfl)
      have hd1 : don.length + 1 ≤ 1000 := by
        have h1 := congrArg List.length HS.out
        simp only [List.length_append, List.length_cons, List.length_nil] at h1
        omega
      obtain ⟨x, hx⟩ : ∃ x, m.take t = x := ⟨_, rfl⟩
      obtain ⟨y, hy⟩ : ∃ y, m.drop t = y := ⟨_, rfl⟩
      obtain ⟨A3, c3, hb3, hs3⟩ := run_slice2 (P := Tryz.prog) w 23 A1 c1 m t x hx htm Tryz.underlying23 (info_parts u8inf |>.elim fun i hi => ⟨i, hi.1, hi.2.2.1⟩) HB.out
      obtain ⟨A4, c4, hb4, hs4⟩ := run_slice1 (P := Tryz.prog) w 23 A1 c1 m t y hy htm Tryz.underlying23 (info_parts u8inf |>.elim fun i hi => ⟨i, hi.1, hi.2.2.1⟩) HB.out
      rw [hx, hy] at HS
      have HB3 := Lib.hid hb3; have HB4 := Lib.hid hb4
      have HYL := Lib.hid (show y.length < m.length ∧ y.length ≤ 1000 by rw [← hy, List.length_drop]; omega)
      have hap : x ≠ [] → ∀ b', (Value.slice A3 x.length c3).ownBlock = some b' → u3.ownBlock ≠ some b' := by
        intro hne b' hb' e
        have h1 := hb3.blockLt hne b' hb'
        have h2 := (HV.out.lt b' e).1
        omega
      have HAP := Lib.hid hap
      have HD1 := Lib.hid hd1
      clear hstop hgo hfl hx hy hb3 hb4 ht hap
      go_wp2_with fail
      refine HF.out.mono ?_
      rintro _ w1 ⟨A2, c2, rfl, _, hx1⟩
      have HX1 := Lib.hid hx1
      clear hx1
      have hxa := HX1.out.alloc (.cells #[.slice A3 x.length c3] 23)
      have HXA := Lib.hid hxa
      have HVA := Lib.hid (HV.out.ext hxa)
      have HRS := Lib.hid (RS.one w1 23 (.slice A3 x.length c3))
      have HBX := Lib.hid (HB3.out.ext (HX.out.trans hxa))
      clear hxa
      go_wp2_with (at_builtin; refine wpList_append_ov _ rfl (.tmp 16) (.tmp 20) 43 rfl w.heap.size 23 i0 (.slice none 0 0) 24 Tryz.underlying43 hi hz0 hz1 hz2 rfl _ don rfl HVA.out _ (.slice A3 x.length c3) x rfl HRS.out HBX.out HAP.out (by have := HD1.out; omega) (by decide) (HX.out.trans HXA.out).size ?_; intro v7 w7 hv7 hg7)
      have HV7 := Lib.hid hv7; have HX7 := Lib.hid (show Ext w w7 from (HX.out.trans HXA.out).grown hg7 (fun j hj => (HV.out.lt j hj).1))
      clear hv7 hg7
      go_wp2_with fail
      go_roundw
      case rel => exact ⟨y, don ++ [x], A4, c4, rfl, HYL.out.2, by have := HD1.out; simp; omega, HS, HB4, HV7, HX7⟩
      case measure => have := HYL.out.1; simp [slLenG]; omega
set_option maxRecDepth 100000 in
set_option maxHeartbeats 2000000 in
theorem Item_at (A : Option Addr) (c : Nat) (b : List UInt8) (k : Nat) (hk30 : k ≤ 30) (w : World) (hb : BS w (.slice A b.length c) b) (hl : b.length ≤ 1000) :
    Calls Tryz.prog 86 #[.slice A b.length c, .int .i64 (k : Int)] w fun e w' => ∃ A' c', e = .returned (.slice A' (itemF b k).length c') ∧ BS w' (.slice A' (itemF b k).length c') (itemF b k) ∧ Ext w w' := by
  have HC := Lib.hid (Contents_at A c b w hb hl)
  have hcl := contF_le b
  clear hb
  obtain ⟨P, hP⟩ : ∃ P : List UInt8 → Bool, P = fun x => (x[0]?.getD 0).toNat == 160 + k := ⟨_, rfl⟩
  have hit : itemF b k = match (els (contF b)).find? P with | none => [] | some x => contF x := by rw [hP]; rfl
  have HPX := Lib.hid (show ∀ x, P x = ((x[0]?.getD 0).toNat == 160 + k) from fun x => by rw [hP])
  have hall := els_all (contF b)
  have hEL := fun (A : Option Addr) (c : Nat) (W : World) (h : BS W (.slice A (contF b).length c) (contF b)) => Elements_at A c (contF b) W h (by omega)
  have hlen := els_len (contF b)
  generalize contF b = cb at *
  generalize itemF b k = R at *
  generalize els cb = E at *
  have HI := Lib.hid hit
  have HALL := Lib.hid hall
  have HE := Lib.hid hEL
  obtain ⟨n, hn⟩ : ∃ n, E.length = n := ⟨_, rfl⟩
  have hn5 : n ≤ 1000 := by omega
  rw [hn] at HE
  have HN := Lib.hid hn
  have HCB := Lib.hid (show cb.length ≤ 1000 by omega)
  clear hit hall hEL hlen hn hcl hP
  go_enter Tryz.func86, Tryz.ntmps86
  go_wp2_with fail
  refine HC.out.mono ?_
  rintro _ w1 ⟨A1, c1, rfl, hb1, hx1⟩
  have HB1 := Lib.hid hb1; have HX1 := Lib.hid hx1
  clear hb1 hx1
  go_wp2_with fail
  refine (HE.out A1 c1 w1 HB1.out).mono ?_
  rintro _ w2 ⟨A2, c2, rfl, hv2, hx2⟩
  have HV2 := Lib.hid hv2.bss; have HX2 := Lib.hid (HX1.out.trans hx2)
  clear hv2 hx2
  go_wp2_with fail
  go_loopw [6] (fun i wr => ∃ q : Nat, i = .int .i64 (q : Int) ∧ q ≤ n ∧ Hid (E.find? P = (E.drop q).find? P) ∧ w2 = wr) (fun i _ => n - (intOf i).toNat)
  case atStart => exact ⟨0, rfl, by omega, Lib.hid (by rw [List.drop_zero]), rfl⟩
  case round =>
    obtain ⟨q, rfl, hq, HF, rfl⟩ := hrel
    by_cases hlt : q < n
    · have hle : q < E.length := by rw [HN.out]; exact hlt
      obtain ⟨ad, B, d, rfl, hc0, hbk⟩ := bss_at HV2.out HN.out q hle
      obtain ⟨hx1, hx2⟩ := HALL.out E[q] (List.getElem_mem hle)
      obtain ⟨B', d', he, k1, k2, k3⟩ := hbk.open_
      injection he with e1 e2 e3
      subst e1; subst e3
      unfold maxLen at k2
      obtain ⟨ae, rfl, _, hcell⟩ := k3 (by omega)
      have hc1 := hcell 0 (by omega)
      rw [show ae.add 0 = ae from by simp [Addr.add]] at hc1
      have hfq : E.find? P = if P E[q] then some E[q] else (E.drop (q + 1)).find? P := by
        rw [HF.out, List.drop_eq_getElem_cons hle, List.find?_cons]
        cases P E[q] <;> rfl
      have HFQ := Lib.hid hfq
      have HPQ := Lib.hid (HPX.out E[q])
      obtain ⟨z, hz⟩ : ∃ z, E[q][0].toNat = z := ⟨_, rfl⟩
      have hzl : z < 256 := by rw [← hz]; exact E[q][0].toNat_lt
      rw [hz] at hc1
      have HZ := Lib.hid (show (E[q][0]?.getD 0).toNat = z by rw [List.getElem?_eq_getElem (by omega), Option.getD_some, hz])
      have HCT := Lib.hid (Contents_at (some ae) d E[q] w2 hbk (by have := HCB.out; omega))
      rw [HZ.out] at HPQ
      clear HZ k3 hcell hz e2 hfq
      generalize E[q] = x at *
      obtain ⟨xl, hxl⟩ : ∃ xl, x.length = xl := ⟨_, rfl⟩
      rw [hxl] at hc0 HCT hx2 hx1 k1
      have hx0 : (0 : Int) < (xl : Int) := by omega
      clear hbk hxl hle
      by_cases hq1 : z = 160 + k
      · have hzq : ((z : Int) == 160 + (k : Int)) = true := by rw [beq_iff_eq]; omega
        have HRR := Lib.hid (show R = contF x by rw [HI.out, HFQ.out, HPQ.out, if_pos (by rw [beq_iff_eq]; exact hq1)])
        clear hq1
        go_wp2_with fail
        refine HCT.out.mono ?_
        rintro _ w3 ⟨A5, c5, rfl, hb5, hx5⟩
        have HB5 := Lib.hid hb5; have HX5 := Lib.hid (HX2.out.trans hx5)
        clear hb5 hx5
        go_wp2_with fail
        go_ret
        rw [HRR.out]
        exact ⟨A5, c5, rfl, HB5.out, HX5.out⟩
      · have hzq : ((z : Int) == 160 + (k : Int)) = false := by rw [beq_eq_false_iff_ne]; omega
        have HFF := Lib.hid (show E.find? P = (E.drop (q + 1)).find? P by rw [HFQ.out, HPQ.out, if_neg (by rw [beq_iff_eq]; exact hq1)])
        clear hq1
        go_wp2_with fail
        go_roundw
        case rel => exact ⟨q + 1, by go_num, by omega, HFF, by first | rfl | trivial⟩
        case measure => simp [intOf]; omega
    · have HRR := Lib.hid (show R = [] by
        rw [HI.out, HF.out, List.drop_eq_nil_of_le (by rw [HN.out]; omega)]; rfl)
      have hge : (n : Int) ≤ (q : Int) := by omega
      clear hlt
      go_wp2_with fail
      go_ret
      rw [HRR.out]
      exact ⟨none, 0, rfl, BS.nil _, HX2.out⟩
set_option maxRecDepth 100000 in
set_option maxHeartbeats 2000000 in
theorem GetInt_at (A : Option Addr) (c : Nat) (b : List UInt8) (w : World) (hb : BS w (.slice A b.length c) b) (hl : b.length ≤ 1000) :
    Calls Tryz.prog 85 #[.slice A b.length c] w fun e w' => e = .returned (.int .i64 (gint b : Nat)) ∧ Ext w w' := by
  have HC := Lib.hid (Contents_at A c b w hb hl)
  have hcl := contF_le b
  clear hb
  unfold gint
  generalize contF b = cb at *
  have hcb : cb.length ≤ 1000 := by omega
  clear hcl
  go_enter Tryz.func85, Tryz.ntmps85
  go_wp2_with fail
  refine HC.out.mono ?_
  rintro _ w1 ⟨A1, c1, rfl, hb1, hx1⟩
  obtain ⟨A', c', he, k1, k2, k3⟩ := hb1.open_
  injection he with e1 e2 e3
  subst e1; subst e3
  unfold maxLen at k2
  have HK := Lib.hid k3; have HX1 := Lib.hid hx1
  clear hb1 hx1 k3 e2
  obtain ⟨n, hn⟩ : ∃ n, cb.length = n := ⟨_, rfl⟩
  rw [hn] at hcb k1 ⊢
  have HN := Lib.hid hn
  clear hn
  go_wp2_with fail
  go_loopw [4, 5] (fun v i wr => ∃ q : Nat, i = .int .i64 (q : Int) ∧ q ≤ n ∧ q ≤ 7 ∧ v = .int .i64 ((nbe (cb.take q) 0 : Nat) : Int) ∧ w1 = wr) (fun _ i _ => n - (intOf i).toNat)
  case atStart => exact ⟨0, rfl, by omega, by omega, rfl, rfl⟩
  case round =>
    obtain ⟨q, rfl, hq, hq7, rfl, rfl⟩ := hrel
    by_cases hlt : q < n
    · have hln : q < cb.length := by rw [HN.out]; exact hlt
      by_cases h7 : q < 7
      · obtain ⟨ad, rfl, _, hcell⟩ := HK.out (by omega)
        have hc0 := hcell q hln
        obtain ⟨y, hy⟩ : ∃ y, cb[q].toNat = y := ⟨_, rfl⟩
        have hyl : y < 256 := by rw [← hy]; exact cb[q].toNat_lt
        rw [hy] at hc0
        obtain ⟨v, hv⟩ : ∃ v, nbe (cb.take q) 0 = v := ⟨_, rfl⟩
        have hvb : v < 281474976710656 := by
          have h1 := nbe_bd (cb.take q) 0 1 (by omega)
          rw [hv] at h1
          have h2 : (cb.take q).length ≤ 6 := by rw [List.length_take]; omega
          have h3 : 256 ^ (cb.take q).length ≤ 256 ^ 6 := Nat.pow_le_pow_right (by omega) h2
          omega
        have HST := Lib.hid (show nbe (cb.take (q + 1)) 0 = 256 * v + y by rw [List.take_succ_eq_append_getElem hln, nbe_snoc, hv, hy])
        have HVB := Lib.hid hvb
        rw [hv]
        have hqi : (q : Int) < 7 := by omega
        clear hv hvb hy hln
        go_wp2_with fail
        go_roundw
        case rel => exact ⟨q + 1, by go_num, by omega, by omega, by rw [HST.out]; exact wrap64_vy HVB.out hyl, by first | rfl | trivial⟩
        case measure => simp [intOf]; omega
      · have h7i : (7 : Int) ≤ (q : Int) := by omega
        have HS := Lib.hid (show nbe (cb.take 7) 0 = nbe (cb.take q) 0 by rw [show q = 7 by omega])
        clear h7 hln
        go_wp2_with fail
        go_ret
        rw [HS.out]
        exact ⟨rfl, HX1.out⟩
    · have HS := Lib.hid (show nbe (cb.take 7) 0 = nbe (cb.take q) 0 by rw [List.take_of_length_le (by rw [HN.out]; omega), List.take_of_length_le (by rw [HN.out]; omega)])
      have hge : (n : Int) ≤ (q : Int) := by omega
      clear hlt
      go_wp2_with fail
      go_ret
      rw [HS.out]
      exact ⟨rfl, HX1.out⟩
set_option maxRecDepth 100000 in
theorem GetBytes_at (A : Option Addr) (c : Nat) (b : List UInt8) (w : World) (hb : BS w (.slice A b.length c) b) (hl : b.length ≤ 1000) :
    Calls Tryz.prog 87 #[.slice A b.length c] w fun e w' => ∃ A' c', e = .returned (.slice A' (contF b).length c') ∧ OB 5 w' w.heap.size (.slice A' (contF b).length c') (contF b) ∧ Ext w w' := by
  obtain ⟨i0, hi, hz0, hz1, hz2⟩ := info_parts u8inf
  have hxa := (Ext.refl w).alloc (.cells #[] 5)
  have hob := OB.lit w 5 w.heap.size [] [] rfl 0 rfl (by simp [maxLen]) (Nat.le_refl _) (z := w.heap.size) rfl
  obtain ⟨W1, e1⟩ : ∃ W, w.alloc (.cells #[] 5) = W := ⟨_, rfl⟩
  have hob' : OB 5 W1 w.heap.size (.slice (some ⟨w.heap.size, 0, none⟩) 0 0) [] := by rw [← e1]; exact hob
  rw [e1] at hxa
  have HC := Lib.hid (Contents_at A c b W1 (hb.ext hxa) hl)
  have HO := Lib.hid hob'; have HX := Lib.hid hxa
  have hcl := contF_le b
  have HCL := Lib.hid (show (contF b).length ≤ 1000 by omega)
  clear hb hl hob hob' hxa hcl
  generalize contF b = cb at *
  go_enter Tryz.func87, Tryz.ntmps87
  go_wp2_with fail
  refine HC.out.mono ?_
  rintro _ w2 ⟨A2, c2, rfl, hb2, hx2⟩
  have HB2 := Lib.hid hb2; have HO2 := Lib.hid (HO.out.ext hx2); have HX2 := Lib.hid (HX.out.trans hx2)
  clear hb2 hx2
  go_wp2_with (at_builtin; refine wpList_append_bs _ rfl (.tmp 3) (.tmp 5) 23 rfl w.heap.size 5 i0 (.int .u8 0) Tryz.underlying23 hi hz0 hz1 hz2 rfl _ [] rfl HO2.out _ cb rfl HB2.out ?hd ?he ?_; rotate_right; intro v3 wr hown3 hg3 hat3)
  case hd => have := HCL.out; simp; omega
  case he => exact HX2.out.size
  rw [List.nil_append] at hown3
  obtain ⟨A4, c4, rfl⟩ := OB.shape hown3
  have HO4 := Lib.hid hown3; have HX4 := Lib.hid (show Ext w wr from HX2.out.grown hg3 (fun j hj => by injection hj with hj; exact Nat.le_of_eq hj))
  clear hown3 hg3 hat3
  go_wp2_with fail
  go_ret
  exact ⟨A4, c4, rfl, HO4.out, HX4.out⟩
end Go.Proofs.YthpfomjibfbiiaaGreatDoor
