/- Texts laid together (wip/tools/automerge.py): Der7, Der8. -/
import Derived.Test.YthpfomjibfbiiaaGreatDoorDer6
import Derived.Test.YthpfomjibfbiiaaGreatDoorMg10
namespace Go.Proofs.YthpfomjibfbiiaaGreatDoor
open Go Go.RowKit

set_option maxRecDepth 100000 in
set_option maxHeartbeats 1000000 in
theorem inTake_at (g : Nat) (l : List UInt8) (k : Nat) (ti : Int) (tag : UInt8) (ht : ti = (tag.toNat : Int)) (m : List UInt8) (hm : l.drop k = m) (cont : List UInt8) (er used : Nat) (hr : takeF tag m = (cont, er, used)) (w : World) (h : RD 72 w g l k) :
    Calls Tryz.prog 107 #[.pointer (some ⟨g, 0, none⟩), .int .u8 ti] w fun e w' => ∃ A c, e = .returned (.tuple #[.slice A cont.length c, .int .i64 (er : Int)]) ∧ BS w' (.slice A cont.length c) cont ∧ RD 72 w' g l (k + used) ∧ w.grownBy w' (some g) := by
  have hk := h.le
  have HR := Lib.hid hr; clear hr
  have HM := Lib.hid hm; clear hm
  have HT := Lib.hid ht
  have ht1 : 0 ≤ ti := by omega
  clear ht
  rcases m with _ | ⟨b, m'⟩
  · have hr := HR.out
    simp only [takeF, if_pos] at hr
    simp only [Prod.mk.injEq] at hr
    obtain ⟨rfl, rfl, rfl⟩ := hr
    go_enter Tryz.func107, Tryz.ntmps107
    go_wp2_with (go_at_call 45; refine (rest_at g l k [] HM.out _ h).mono ?_; rintro e w1 ⟨A1, c1, rfl, hb1, hx1⟩)
    go_ret2
    exact ⟨none, 0, rfl, BS.nil _, h.ext hx1, hx1.but _⟩
  obtain ⟨m, hmm⟩ : ∃ m, m = b :: m' := ⟨_, rfl⟩
  have hml : 0 < m.length := by rw [hmm]; simp
  have hm0 : m[0] = b := by subst hmm; rfl
  rw [← hmm] at HM HR
  have hmle : m.length ≤ l.length := by have := HM.out; rw [← this]; simp
  have hkm : k + m.length = l.length := by have := HM.out; rw [← this]; simp; omega
  have HKM := Lib.hid hkm; clear hkm
  have hl63 : l.length ≤ 9223372036854775807 := by
    obtain ⟨_, A', c', _, hbs⟩ := h
    obtain ⟨A'', c'', he, k1, k2, _⟩ := hbs.open_; unfold maxLen at k2; omega
  clear hmm
  by_cases htag : b = tag
  · subst htag
    have hr := HR.out
    have hne : m ≠ [] := List.length_pos_iff.1 hml
    have h0 : m[0]?.getD 0 = b := by rw [List.getElem?_eq_getElem hml, hm0]; rfl
    unfold takeF at hr
    rw [if_neg hne, if_neg (by rw [h0]; simp)] at hr
    simp only at hr
    obtain ⟨⟨b0, e0, r0⟩, hmr⟩ : ∃ r, measureF m = r := ⟨_, rfl⟩
    rw [hmr] at hr
    simp only at hr
    by_cases hr0 : r0 = 0
    · subst hr0
      simp only [ne_eq, not_true_eq_false, if_false, Prod.mk.injEq] at hr
      obtain ⟨hcont, rfl, rfl⟩ := hr
      obtain ⟨hb0, hbe, hel⟩ := measureF_ok m b0 e0 hmr
      have hke : k + e0 ≤ l.length := by have := HKM.out; omega
      have HC := Lib.hid hcont; have HMR := Lib.hid hmr; clear hcont hmr h0 hne HR
      obtain rfl := HT.out
      go_enter Tryz.func107, Tryz.ntmps107
      go_upto_region 2 with (go_at_call 45; refine (rest_at g l k m HM.out _ h).mono ?_; rintro e w1 ⟨A1, c1, rfl, hb1, hx1⟩)
      have hb1' := hb1.ext hx1
      obtain ⟨A', c', he', _, _, hc⟩ := hb1'.open_
      injection he' with e1 _ e3
      subst e1; subst e3
      obtain ⟨ad, rfl, _, hc⟩ := hc hml
      have hc0 : w1.cell? ad = some (.int .u8 (b.toNat : Int)) := by have := hc 0 hml; rw [hm0] at this; exact this
      clear hc
      have hneq : ((b.toNat : Int) != (b.toNat : Int)) = false := by simp
      have hl0 : ((m.length : Int) == 0) = false := by rw [beq_eq_false_iff_ne]; omega
      go_wp2_with (go_at_call 125; refine (measure_at (some ad) c1 m _ hb1' (b0, e0, 0) HMR.out).mono ?_; rintro e w2 ⟨rfl, hx2⟩; obtain ⟨Ax, cx, hbx, k0, k1, k2, kf⟩ := (h.ext (hx1.trans hx2)).cells; obtain ⟨A5, c5, hb5, hrun⟩ := run_slice3 (P := Tryz.prog) w2 23 (some ad) c1 m b0 e0 cont HC.out hbe hel Tryz.underlying23 (by kernel_rfl) (info_parts u8info |>.elim fun i hi => ⟨i, hi.1, hi.2.2.1⟩) (hb1'.ext hx2))
      go_ret2
      have hrd := h.ext (hx1.trans hx2)
      have hgr : w.grownBy w2 (some g) := (hx1.trans hx2).but _
      exact ⟨A5, c5, rfl, hb5.but hrd.noU8 (grown_set (grown_refl _ _) 1 _), hrd.moved (k + e0) (by have := HKM.out; omega) _ (by simp), grown_set hgr 1 _⟩
    · rw [if_pos hr0] at hr
      simp only [Prod.mk.injEq] at hr
      obtain ⟨rfl, rfl, rfl⟩ := hr
      have hre : ((r0 : Int) != 0) = true := by simp; exact hr0
      have HMR := Lib.hid hmr; clear hmr h0 hne HR
      obtain rfl := HT.out
      go_enter Tryz.func107, Tryz.ntmps107
      go_upto_region 2 with (go_at_call 45; refine (rest_at g l k m HM.out _ h).mono ?_; rintro e w1 ⟨A1, c1, rfl, hb1, hx1⟩)
      have hb1' := hb1.ext hx1
      obtain ⟨A', c', he', _, _, hc⟩ := hb1'.open_
      injection he' with e1 _ e3
      subst e1; subst e3
      obtain ⟨ad, rfl, _, hc⟩ := hc hml
      have hc0 : w1.cell? ad = some (.int .u8 (b.toNat : Int)) := by have := hc 0 hml; rw [hm0] at this; exact this
      clear hc
      have hneq : ((b.toNat : Int) != (b.toNat : Int)) = false := by simp
      have hl0 : ((m.length : Int) == 0) = false := by rw [beq_eq_false_iff_ne]; omega
      go_wp2_with (go_at_call 125; refine (measure_at (some ad) c1 m _ hb1' (b0, e0, r0) HMR.out).mono ?_; rintro e w2 ⟨rfl, hx2⟩)
      go_ret2
      exact ⟨none, 0, rfl, BS.nil _, h.ext (hx1.trans hx2), (hx1.trans hx2).but _⟩
  · have hr := HR.out
    have hne : m ≠ [] := List.length_pos_iff.1 hml
    have h0 : m[0]?.getD 0 = b := by rw [List.getElem?_eq_getElem hml, hm0]; rfl
    unfold takeF at hr
    rw [if_neg hne, if_pos (by rw [h0]; exact htag)] at hr
    simp only [Prod.mk.injEq] at hr
    obtain ⟨rfl, rfl, rfl⟩ := hr
    have hneq : ((b.toNat : Int) != (tag.toNat : Int)) = true := by
      simp only [bne_iff_ne, ne_eq]
      intro e
      exact htag (UInt8.toNat_inj.1 (by omega))
    clear h0 hne HR
    obtain rfl := HT.out
    go_enter Tryz.func107, Tryz.ntmps107
    go_upto_region 2 with (go_at_call 45; refine (rest_at g l k m HM.out _ h).mono ?_; rintro e w1 ⟨A1, c1, rfl, hb1, hx1⟩)
    have hb1' := hb1.ext hx1
    obtain ⟨A', c', he', _, _, hc⟩ := hb1'.open_
    injection he' with e1 _ e3
    subst e1; subst e3
    obtain ⟨ad, rfl, _, hc⟩ := hc hml
    have hc0 : w1.cell? ad = some (.int .u8 (b.toNat : Int)) := by have := hc 0 hml; rw [hm0] at this; exact this
    clear hc
    have hl0 : ((m.length : Int) == 0) = false := by rw [beq_eq_false_iff_ne]; omega
    go_wp2
    go_ret2
    exact ⟨none, 0, rfl, BS.nil _, h.ext hx1, hx1.but _⟩
#print axioms inTake_at
end Go.Proofs.YthpfomjibfbiiaaGreatDoor
namespace Go.Proofs.YthpfomjibfbiiaaGreatDoor
open Go Go.RowKit

set_option maxRecDepth 100000 in
theorem IntClo_bad (A : Option Addr) (c : Nat) (l : List UInt8) (w : World) (h : l.length < 1 ∨ 8 < l.length) :
    Calls Tryz.prog 94 #[.slice A l.length c] w fun e w' => e = .returned (.tuple #[.int .i64 0, .bool false]) ∧ Ext w w' := by
  rcases (show (l.length : Int) < 1 ∨ (¬ (l.length : Int) < 1 ∧ 8 < (l.length : Int)) by omega) with h1 | ⟨h1, h2⟩
  all_goals
    clear h
    go_enter Tryz.func94, Tryz.ntmps94
    go_wp2
    go_ret2
    exact ⟨rfl, Ext.refl _⟩

set_option maxRecDepth 100000 in
set_option maxHeartbeats 1000000 in
theorem IntClo_good (A : Option Addr) (c : Nat) (l : List UInt8) (w : World) (hb : BS w (.slice A l.length c) l) (h1 : 1 ≤ l.length) (h8 : l.length ≤ 8) :
    Calls Tryz.prog 94 #[.slice A l.length c] w fun e w' => e = .returned (.tuple #[.int .i64 (sInt l), .bool (encInt (sInt l) == elem 2 l)]) ∧ Ext w w' := by
  obtain ⟨A', c', he, k1, k2, k3⟩ := hb.open_
  injection he with e1 _ e3
  subst e1; subst e3
  obtain ⟨ad, rfl, _, hc⟩ := k3 (by omega)
  unfold maxLen at k2
  have hc0 : w.cell? ad = some (.int .u8 (l[0].toNat : Int)) := hc 0 (by omega)
  have HC := Lib.hid hc; clear hc k3
  have hml : (l.drop 1).length = l.length - 1 := by simp
  obtain ⟨m, hm⟩ : ∃ m, m = l.drop 1 := ⟨_, rfl⟩
  obtain ⟨A', c', hb', hrun⟩ := run_slice1 (P := Tryz.prog) w 23 (some ad) c l 1 m hm.symm (by omega) Tryz.underlying23 (info_parts u8info |>.elim fun i hi => ⟨i, hi.1, hi.2.2.1⟩) hb
  have hrun1 : ∀ w' : World, (Instr.slice 23 (.slice (some ad) l.length c) (some (.int .i64 1)) none none).run Tryz.prog w' = .ok (.slice A' m.length c') w' := hrun
  clear hrun
  obtain ⟨A'', c'', he', _, _, hcm⟩ := hb'.open_
  injection he' with e1 _ e3
  subst e1; subst e3
  rw [← hm] at hml
  have hm8 : m.length ≤ 7 := by omega
  have hmget : ∀ j (hj : j < m.length), m[j] = l[j + 1]'(by omega) := by
    intro j hj; subst hm; simp
  obtain ⟨q, hq⟩ : ∃ q, q = s8 l[0] := ⟨_, rfl⟩
  have hqb := s8_bd l[0]
  have hw8 : IntKind.i8.wrap (l[0].toNat : Int) = q := by
    have := l[0].toNat_lt
    rw [hq, s8]
    by_cases h : l[0].toNat < 128 <;> simp [IntKind.wrap, IntKind.bits, IntKind.signed, h] <;> omega
  rw [← hq] at hqb
  obtain ⟨hq1, hq2⟩ := hqb
  have HQ := Lib.hid hq; have HM := Lib.hid hm; have HML := Lib.hid hml; have HG : Hid (∀ j (hj : j < m.length), ∃ (hj' : j + 1 < l.length), m[j] = l[j + 1]) := fun j hj => ⟨by omega, hmget j hj⟩
  have HCM := Lib.hid hcm
  clear hq hm hml hmget hcm
  go_enter Tryz.func94, Tryz.ntmps94
  go_wp2
  go_loop [4, 23] (fun v i => ∃ k : Nat, k ≤ m.length ∧ i = .int .i64 k ∧ v = .int .i64 (sInt (l.take (k + 1)))) (fun _ i => m.length - (intOf i).toNat)
  case atStart => exact ⟨0, Nat.zero_le _, rfl, by rw [sInt_one l (by omega), ← HQ.out]⟩
  case round =>
    obtain ⟨k, hk, rfl, rfl⟩ := hrel
    by_cases hlt : k < m.length
    · obtain ⟨ad', rfl, _, hcm⟩ := HCM.out (by omega)
      have hc := hcm k hlt
      clear hcm
      obtain ⟨hj', hg⟩ := HG.out k hlt
      have hbd := sInt_bd l k (by omega)
      have hstep := sInt_succ l k hj'
      rw [← hg] at hstep
      obtain ⟨v, hv⟩ : ∃ v, v = sInt (l.take (k + 1)) := ⟨_, rfl⟩
      rw [← hv] at hbd hstep ⊢
      have hp : (256 : Int) ^ k ≤ 281474976710656 := by
        have h7 : k = 0 ∨ k = 1 ∨ k = 2 ∨ k = 3 ∨ k = 4 ∨ k = 5 ∨ k = 6 := by omega
        rcases h7 with rfl | rfl | rfl | rfl | rfl | rfl | rfl <;> decide
      have hv1 : -36028797018963968 ≤ v := by omega
      have hv2 : v < 36028797018963968 := by omega
      have hmk : m[k].toNat < 256 := m[k].toNat_lt
      have hor : bits .or .i64 (v * 256) (m[k].toNat : Int) = v * 256 + (m[k].toNat : Int) := i64_or_byte v _ hv1 hv2 (by omega) (by omega)
      have HO := Lib.hid hor; have HS := Lib.hid hstep
      have hw : wrap64 (v * 256) = v * 256 := IntWalk.wrap64_in _ (by omega)
      have hmki : (m[k].toNat : Int) ≤ 255 := by omega
      clear hor hstep hbd hp hv hg hv1 hv2 hmk
      go_wp2
      go_round
      case rel => exact ⟨k + 1, by omega, by go_num, by rw [HO.out, HS.out]⟩
      case measure => simp [intOf] <;> omega
    · have hkl : l.take (k + 1) = l := List.take_of_length_le (by have := HML.out; omega)
      rw [hkl]
      obtain ⟨v, hv⟩ : ∃ v, v = sInt l := ⟨_, rfl⟩
      rw [← hv]
      have HV := Lib.hid hv; clear hv hkl
      go_wp2_with (first
        | (go_at_call 55; refine (Integer_at v _).mono ?_; rintro e w1 ⟨A1, c1, rfl, hb1, hx1⟩)
        | (go_at_call 80; refine (element_at 2 2 rfl _ [l] l (by simp) _ (BSS.new1 w1 _ _ _ (hb.ext hx1))).mono ?_; rintro e w2 ⟨A2, c2, rfl, hb2, hx2⟩)
        | (go_at_call 51; refine (Equal_at A1 A2 c1 c2 (encInt v) (elem 2 l) _ (hb1.bs.ext (((Ext.refl w1).alloc _).trans hx2)) hb2.bs).mono ?_; rintro e w3 ⟨rfl, rfl⟩))
      go_ret2
      refine ⟨by rw [HV.out]; rfl, hx1.trans (((Ext.refl w1).alloc _).trans hx2)⟩

theorem IntClo_at (A : Option Addr) (c : Nat) (l : List UInt8) (w : World) (hb : BS w (.slice A l.length c) l) :
    Calls Tryz.prog 94 #[.slice A l.length c] w fun e w' => (∃ v : Int, e = .returned (.tuple #[.int .i64 v, .bool (intOk l)]) ∧ (intOk l = true → v = sInt l)) ∧ Ext w w' := by
  by_cases h : 1 ≤ l.length ∧ l.length ≤ 8
  · refine (IntClo_good A c l w hb h.1 h.2).mono ?_
    rintro e w' ⟨rfl, hx⟩
    refine ⟨⟨sInt l, ?_, fun _ => rfl⟩, hx⟩
    simp [intOk, h.1, h.2]
  · refine (IntClo_bad A c l w (by omega)).mono ?_
    rintro e w' ⟨rfl, hx⟩
    have e0 : intOk l = false := by
      simp only [intOk, Bool.and_eq_false_iff, decide_eq_false_iff_not]
      left; omega
    exact ⟨⟨0, by rw [e0], fun h => by rw [e0] at h; cases h⟩, hx⟩
#print axioms IntClo_at
end Go.Proofs.YthpfomjibfbiiaaGreatDoor
