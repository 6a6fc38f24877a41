/- Texts laid together (wip/tools/automerge.py): LawNmEn, NmOrd, NmInP. -/
import Derived.Test.YtgclchdccgkjaaaDoorNm26
import Derived.Test.YtgclchdccgkjaaaDoorMg30
import Derived.Test.YtgclchdccgkjaaaDoorMg39
import Derived.Test.YtgclchdccgkjaaaDoorNm21
import Derived.IntWalk
namespace Go.Proofs.YtgclchdccgkjaaaDoor.nameEncodes
open Go Go.RowKit
set_option linter.unusedVariables false

set_option maxRecDepth 100000 in
set_option maxHeartbeats 4000000 in
theorem law_walk (A : Option Addr) (c : Nat) (ps : List ByteArray) (r : ByteArray) (w : World) (hR : RS w (.slice A ps.length c) (sv ps)) (hm : MaxN w) :
    Calls Tryd.prog 5 #[.agg #[.slice A ps.length c, .string r]] w fun e w' => e = .returned (.bool true) ∧ Ext w w' := by
  have HM := Lib.hid hm; clear hm
  have hT := heap_alloc_new w (.cells #[.slice A ps.length c, .string r] 24)
  have hX := (Ext.refl w).alloc (.cells #[.slice A ps.length c, .string r] 24)
  obtain ⟨wb, hwb⟩ : ∃ wb, wb = w.alloc (.cells #[.slice A ps.length c, .string r] 24) := ⟨_, rfl⟩
  rw [← hwb] at hT hX
  have HT : Hid (PB wb w.heap.size (.slice A ps.length c) r) := Lib.hid hT
  have HX := Lib.hid hX
  have HRS := Lib.hid (hR.ext hX)
  obtain ⟨q0, q1⟩ := HT.out.cells
  have HBG := big_at A c ps r wb HRS.out
  have HB := Lib.hid HBG; clear HBG
  cases hbig : bigB ps r with
  | true =>
    rw [hbig] at HB
    clear hbig hT hX hR
    go_enter Tryd.func5, Tryd.ntmps5
    go_wp2_with fail
    rw [← hwb]
    clear hwb
    refine HB.out.mono ?_
    rintro _ w1 ⟨rfl, hx1⟩
    have HX1 := Lib.hid (HX.out.trans hx1); clear hx1
    go_wp2_with fail
    refine (known_at _ (HM.out.ext (HX1.out))).mono ?_
    rintro _ wk ⟨rfl, hxk⟩
    go_wp2_with fail
    go_ret
    exact ⟨rfl, (HX1.out).trans hxk⟩
  | false =>
    rw [hbig] at HB
    obtain ⟨hps, hn8, hr60⟩ := bigB_no hbig
    have hps2 : ∀ p ∈ ps, p.size ≤ 1000 := fun p hp => Nat.le_trans (hps p hp) (by omega)
    have hps3 : ∀ p ∈ ps, p.size ≤ 4294967280 := fun p hp => Nat.le_trans (hps p hp) (by omega)
    have HRV := Lib.hid (fun W hW => RValid_at A c ps r (by omega) hps3 (by omega) W (hR.ext (hX.trans hW)))
    clear hbig hT hX hR hps
    cases hv : nameB (dat ps) r.data.toList with
    | false =>
      have HE := Lib.hid (NEncode_no A c ps r hps3 (by omega))
      have HNV := Lib.hid hv
      rw [hv] at HRV
      clear hv
      go_enter Tryd.func5, Tryd.ntmps5
      go_wp2_with fail
      rw [← hwb]
      clear hwb
      refine HB.out.mono ?_
      rintro _ w1 ⟨rfl, hx1⟩
      have HX1 := Lib.hid hx1; clear hx1 q0 q1
      obtain ⟨q0, q1⟩ := (HT.out.ext HX1.out).cells
      go_wp2_with fail
      refine (HE.out _ (HRS.out.ext HX1.out) HNV.out).mono ?_
      rintro _ w2 ⟨rfl, hx2⟩
      have HX2 := Lib.hid (HX1.out.trans hx2); clear hx2 q0 q1
      obtain ⟨q0, q1⟩ := (HT.out.ext HX2.out).cells
      go_wp2_with fail
      refine (HRV.out _ HX2.out).mono ?_
      rintro _ w3 ⟨rfl, hx3⟩
      have HX3 := Lib.hid (HX.out.trans (HX2.out.trans hx3)); clear hx3 q0 q1
      go_wp2_with fail
      refine (known_at _ (HM.out.ext (HX3.out))).mono ?_
      rintro _ wk ⟨rfl, hxk⟩
      go_wp2_with fail
      go_ret
      exact ⟨rfl, (HX3.out).trans hxk⟩
    | true =>
      have HE := Lib.hid (NEncode_yes A c ps r)
      have HNV := Lib.hid hv
      rw [hv] at HRV
      clear hv
      go_enter Tryd.func5, Tryd.ntmps5
      go_wp2_with fail
      rw [← hwb]
      clear hwb
      refine HB.out.mono ?_
      rintro _ w0 ⟨rfl, hx1⟩
      have HX1 := Lib.hid hx1; clear hx1 q0 q1
      obtain ⟨q0, q1⟩ := (HT.out.ext HX1.out).cells
      go_wp2_with fail
      refine (HE.out _ (HRS.out.ext HX1.out) HNV.out).mono ?_
      rintro _ w1 ⟨A3, c3, rfl, hb3, hx2⟩
      have HX2 := Lib.hid (HX1.out.trans hx2); have HB2 := Lib.hid hb3; clear hx2 hb3 q0 q1 HX1
      obtain ⟨q0, q1⟩ := (HT.out.ext HX2.out).cells
      go_wp2_with fail
      refine (HRV.out _ HX2.out).mono ?_
      rintro _ w2 ⟨rfl, hx3⟩
      have HX1 := Lib.hid (HX2.out.trans hx3); have HB3 := Lib.hid (HB2.out.ext hx3); clear hx3 q0 q1 HX2 HB2
      have HX2 := Lib.hid (HX.out.trans HX1.out)
      have HT2 := Lib.hid (HT.out.ext HX1.out)
      obtain ⟨Ln, hLn⟩ : ∃ Ln, encName (dat ps) r.data.toList = Ln := ⟨_, rfl⟩
      have hRE := RNEncode_at A c ps r (by omega) hps2 (by omega)
      rw [hLn] at HB3 hRE ⊢
      have HRE := Lib.hid hRE
      clear hLn hRE
      go_wp2_with fail
      refine wp_region_ext (fun i v' w' => match i with | 3 => VBn Ln v' w' | 11 => v' = .bool true | _ => False) (by kernel_rfl) (by kernel_rfl) ?_
      refine wpE_op rfl rfl (fun w' hw' K' hK' => ?_)
      have hE := hw'.1
      go_step
      refine hK' _ ⟨_, rfl⟩ ?_
      clear hK' K' hE hw' w'
      refine wpE_op rfl rfl (fun w' hw' K' hK' => ?_)
      have hE := hw'.1
      have hcv := run_str (P := Tryd.prog) w' 38 9 5 _ _ Tryd.underlying38 Tryd.underlying5 Tryd.underlying9 (HB3.out.bs.ext ((Ext.drew w2).trans hE))
      go_step
      refine hK' _ ⟨_, rfl⟩ ?_
      clear hK' K' hcv hE hw' w'
      refine wpE_op rfl rfl (fun w' hw' K' hK' => ?_)
      have hE := hw'.1
      obtain ⟨u0, u1⟩ := (HT2.out.ext ((Ext.drew w2).trans hE)).cells
      go_step
      refine hK' _ ⟨_, rfl⟩ ?_
      clear hK' K' u0 u1 hE hw' w'
      refine wpE_call 29 rfl (by simp) rfl (fun w' hw' K' hK' => ?_) ?_
      · have hE := hw'.1
        go_step
        refine (HRE.out w' (HRS.out.ext ((HX1.out.trans (Ext.drew w2)).trans hE))).mono ?_
        rintro _ w2 ⟨A5, c5, rfl, hb5, hx5⟩
        exact hK' _ _ ⟨_, rfl, A5, c5, rfl, hb5.bs⟩ hx5
      rintro v4 w4 _ ⟨A4, c4, rfl, hb4⟩
      simp only [Act.put, List.setIfInBounds_toArray, List.set_cons_succ, List.set_cons_zero]
      refine wpE_op rfl rfl (fun w' hw' K' hK' => ?_)
      have hE := hw'.1
      have hM : Ext w4 w' := hw'.2 29 w4 (by simp [adds]) (by decide)
      have hcv := run_str (P := Tryd.prog) w' 38 9 5 _ _ Tryd.underlying38 Tryd.underlying5 Tryd.underlying9 (hb4.ext hM)
      go_step
      refine hK' _ ⟨_, rfl⟩ ?_
      clear hK' K' hcv hM hE hw' w'
      refine wpE_op rfl rfl (fun w' hw' K' hK' => ?_)
      have hE := hw'.1
      go_step
      refine hK' _ ⟨_, rfl⟩ ?_
      clear hK' K' hE hw' w'
      refine wpE_op rfl rfl (fun w' hw' K' hK' => ?_)
      have hE := hw'.1
      go_step
      refine hK' _ ⟨_, rfl⟩ ?_
      clear hK' K' hE hw' w'
      refine wpE_op (by kernel_rfl) rfl (fun w' hw' K' hK' => ?_)
      have hE := hw'.1
      go_step
      refine hK' _ ⟨_, rfl⟩ ?_
      clear hK' K' hE hw' w'
      refine wpE_op (by kernel_rfl) rfl (fun w' hw' K' hK' => ?_)
      have hE := hw'.1
      go_step
      refine hK' _ ⟨_, rfl⟩ ?_
      clear hK' K' hE hw' w'
      refine wpE_op rfl rfl (fun w' hw' K' hK' => ?_)
      have hE := hw'.1
      go_step
      refine hK' _ ⟨_, rfl⟩ ?_
      clear hK' K' hE hw' w'
      refine wpE_op rfl rfl (fun w' hw' K' hK' => ?_)
      have hE := hw'.1
      go_step
      refine hK' _ ⟨_, rfl⟩ ?_
      clear hK' K' hE hw' w'
      refine wpE_call 37 rfl (by simp) (by kernel_rfl) (fun w' hw' K' hK' => ?_) ?_
      · have hE := hw'.1
        go_step
        refine (known_at w' (HM.out.ext ((HX2.out.trans (Ext.drew w2)).trans hE))).mono ?_
        rintro _ w2 ⟨rfl, hx5⟩
        exact hK' _ _ ⟨_, rfl, rfl⟩ hx5
      rintro _ w5 _ rfl
      simp only [Act.put, List.setIfInBounds_toArray, List.set_cons_succ, List.set_cons_zero]
      refine wpE_op rfl rfl (fun w' hw' K' hK' => ?_)
      have hE := hw'.1
      go_step
      refine hK' _ ⟨_, rfl⟩ ?_
      clear hK' K' hE hw' w'
      refine wpE_op rfl rfl (fun w' hw' K' hK' => ?_)
      have hE := hw'.1
      go_step
      refine hK' _ ⟨_, rfl⟩ ?_
      clear hK' K' hE hw' w'
      refine wpE_nil (fun w' hw' => ?_)
      have hE := hw'.1
      go_wp2_with fail
      go_ret
      exact ⟨rfl, (HX2.out.trans (Ext.drew w2)).trans hE⟩
end Go.Proofs.YtgclchdccgkjaaaDoor.nameEncodes
namespace Go.Proofs.YtgclchdccgkjaaaDoor
set_option linter.unusedVariables false

structure Good {α : Type} (f : α → α → Int) : Prop where
  bd : ∀ a b, -1 ≤ f a b ∧ f a b ≤ 1
  swap : ∀ a b, f b a = - f a b
  zero : ∀ a b, f a b = 0 ↔ a = b
  trans : ∀ a b c, f a b ≤ 0 → f b c ≤ 0 → f a c ≤ 0
def lexL {α : Type} (f : α → α → Int) : List α → List α → Int
  | [], [] => 0
  | [], _ :: _ => -1
  | _ :: _, [] => 1
  | a :: x, b :: y => if f a b ≠ 0 then f a b else lexL f x y
theorem lexL_good {α : Type} {f : α → α → Int} (h : Good f) : Good (lexL f) where
  bd := by
    intro a
    induction a with
    | nil => intro b; cases b <;> simp [lexL]
    | cons a x ih =>
      intro b
      cases b with
      | nil => simp [lexL]
      | cons b y =>
        rw [lexL]
        split
        · exact h.bd a b
        · exact ih y
  swap := by
    intro a
    induction a with
    | nil => intro b; cases b <;> simp [lexL]
    | cons a x ih =>
      intro b
      cases b with
      | nil => simp [lexL]
      | cons b y =>
        rw [lexL, lexL, h.swap a b]
        by_cases hz : f a b = 0
        · rw [if_neg (by omega), if_neg (by omega)]; exact ih y
        · rw [if_pos (by omega), if_pos hz]
  zero := by
    intro a
    induction a with
    | nil => intro b; cases b <;> simp [lexL]
    | cons a x ih =>
      intro b
      cases b with
      | nil => simp [lexL]
      | cons b y =>
        rw [lexL]
        by_cases hz : f a b = 0
        · rw [if_neg (by omega), ih y, List.cons.injEq, (h.zero a b).1 hz]; simp
        · rw [if_pos hz, List.cons.injEq]
          constructor
          · intro e; exact absurd e hz
          · intro e; exact absurd ((h.zero a b).2 e.1) hz
  trans := by
    intro a
    induction a with
    | nil => intro b c; cases c <;> simp [lexL]
    | cons a x ih =>
      intro b c h1 h2
      cases b with
      | nil => simp [lexL] at h1
      | cons b y =>
        cases c with
        | nil => simp [lexL] at h2
        | cons c z =>
          rw [lexL] at h1 h2 ⊢
          have h1' : f a b ≤ 0 := by by_cases e : f a b = 0 <;> simp [e] at h1 <;> omega
          have h2' : f b c ≤ 0 := by by_cases e : f b c = 0 <;> simp [e] at h2 <;> omega
          have h3 := h.trans a b c h1' h2'
          by_cases hz : f a c = 0
          · have hac := (h.zero a c).1 hz
            subst hac
            have hs := h.swap a b
            have e1 : f a b = 0 := by omega
            have e2 : f b a = 0 := by omega
            rw [if_neg (by omega)] at h1 h2 ⊢
            exact ih y z h1 h2
          · rw [if_pos hz]; exact h3
def bcmp (a b : UInt8) : Int := if a < b then -1 else if a = b then 0 else 1
theorem bcmp_good : Good bcmp where
  bd := by intro a b; unfold bcmp; split <;> (try split) <;> omega
  swap := by
    intro a b
    unfold bcmp
    rcases Nat.lt_trichotomy a.toNat b.toNat with h | h | h
    · have h1 : a < b := UInt8.lt_iff_toNat_lt.2 h
      have h2 : ¬ b < a := fun e => by have := UInt8.lt_iff_toNat_lt.1 e; omega
      have h3 : ¬ b = a := fun e => by subst e; omega
      simp [h1, h2, h3]
    · have h1 : a = b := UInt8.toNat_inj.1 h
      subst h1
      have h2 : ¬ a < a := fun e => by have := UInt8.lt_iff_toNat_lt.1 e; omega
      simp [h2]
    · have h1 : b < a := UInt8.lt_iff_toNat_lt.2 h
      have h2 : ¬ a < b := fun e => by have := UInt8.lt_iff_toNat_lt.1 e; omega
      have h3 : ¬ a = b := fun e => by subst e; omega
      simp [h1, h2, h3]
  zero := by
    intro a b
    unfold bcmp
    by_cases h1 : a < b
    · have h3 : ¬ a = b := fun e => by subst e; have := UInt8.lt_iff_toNat_lt.1 h1; omega
      simp [h1, h3]
    · by_cases h2 : a = b <;> simp [h1, h2]
  trans := by
    intro a b c h1 h2
    have key : ∀ x y : UInt8, bcmp x y ≤ 0 ↔ x.toNat ≤ y.toNat := by
      intro x y
      unfold bcmp
      by_cases h : x < y
      · have := UInt8.lt_iff_toNat_lt.1 h
        simp [h]; omega
      · have h' : ¬ x.toNat < y.toNat := fun e => h (UInt8.lt_iff_toNat_lt.2 e)
        by_cases h2 : x = y
        · subst h2; simp [h]
        · have h2' : x.toNat ≠ y.toNat := fun e => h2 (UInt8.toNat_inj.1 e)
          simp [h, h2]; omega
    rw [key] at h1 h2 ⊢
    omega
theorem ordB_lex : ∀ (a b : List UInt8), ordB a b = lexL bcmp a b
  | [], [] => by simp [ordB, lexL, Op.bytesLess]
  | [], _ :: _ => by simp [ordB, lexL, Op.bytesLess]
  | _ :: _, [] => by simp [ordB, lexL, Op.bytesLess]
  | a :: x, b :: y => by
    have ih := ordB_lex x y
    rw [lexL, ← ih]
    unfold ordB bcmp
    rw [Op.bytesLess]
    by_cases h1 : a < b
    · simp [h1]
    · by_cases h2 : a = b
      · subst h2
        simp [h1]
      · simp [h1, h2]
theorem cmpL_lex : ∀ (a b : List (List UInt8)), cmpL a b = lexL ordB a b
  | [], [] => rfl
  | [], _ :: _ => rfl
  | _ :: _, [] => rfl
  | a :: x, b :: y => by rw [cmpL, lexL, cmpL_lex x y]
theorem ordB_good : Good ordB := by
  rw [show ordB = lexL bcmp from funext fun a => funext fun b => ordB_lex a b]
  exact lexL_good bcmp_good
theorem cmpL_good : Good cmpL := by
  rw [show cmpL = lexL ordB from funext fun a => funext fun b => cmpL_lex a b]
  exact lexL_good ordB_good
abbrev Nm := List (List UInt8) × List UInt8
def cmpP (a b : Nm) : Int := cmpN a.1 a.2 b.1 b.2
theorem cmpP_good : Good cmpP where
  bd := by
    intro a b
    unfold cmpP cmpN
    split
    · exact ordB_good.bd _ _
    · exact cmpL_good.bd _ _
  swap := by
    intro a b
    unfold cmpP cmpN
    rw [ordB_good.swap a.2 b.2, cmpL_good.swap a.1 b.1]
    by_cases hz : ordB a.2 b.2 = 0
    · rw [if_neg (by omega), if_neg (by omega)]
    · rw [if_pos (by omega), if_pos hz]
  zero := by
    intro a b
    unfold cmpP
    rw [cmpN_zero]
    constructor
    · intro h; exact Prod.ext h.1 h.2
    · rintro rfl; exact ⟨rfl, rfl⟩
  trans := by
    intro a b c h1 h2
    unfold cmpP cmpN at h1 h2 ⊢
    have h1' : ordB a.2 b.2 ≤ 0 := by by_cases e : ordB a.2 b.2 = 0 <;> simp [e] at h1 <;> omega
    have h2' : ordB b.2 c.2 ≤ 0 := by by_cases e : ordB b.2 c.2 = 0 <;> simp [e] at h2 <;> omega
    have h3 := ordB_good.trans _ _ _ h1' h2'
    by_cases hz : ordB a.2 c.2 = 0
    · have hac := (ordB_good.zero _ _).1 hz
      have hs := ordB_good.swap a.2 b.2
      rw [← hac] at h2 h2' ⊢
      rw [if_neg (by omega)] at h1 h2
      rw [if_neg (by rw [(ordB_good.zero a.2 a.2).2 rfl]; omega)]
      exact cmpL_good.trans _ _ _ h1 h2
    · rw [if_pos hz]; exact h3
/-- What the law asks of the order. -/
theorem cmp_total (a b c : Nm) : cmpP a b = - cmpP b a ∧ cmpP a a = 0 ∧ (cmpP a b ≤ 0 → cmpP b c ≤ 0 → cmpP a c ≤ 0 ∧ (cmpP a b + cmpP b c < 0 → cmpP a c = -1)) ∧ (cmpP a b = 0 → cmpP b c = cmpP a c) := by
  have hs := cmpP_good.swap a b
  refine ⟨by omega, (cmpP_good.zero a a).2 rfl, fun h1 h2 => ?_, fun h => ?_⟩
  · have h3 := cmpP_good.trans a b c h1 h2
    refine ⟨h3, fun h4 => ?_⟩
    have hb := cmpP_good.bd a c
    by_cases hz : cmpP a c = 0
    · have hac := (cmpP_good.zero a c).1 hz
      subst hac
      omega
    · omega
  · rw [(cmpP_good.zero a b).1 h]
end Go.Proofs.YtgclchdccgkjaaaDoor
namespace Go.Proofs.YtgclchdccgkjaaaDoor
open Go Go.RowKit
set_option linter.unusedVariables false

theorem encName_E (ls : List (List UInt8)) (r : List UInt8) : encName ls r = nameE ls r := by
  simp [encName, nameE, nameX, encSeq, encTag, strs]
theorem nameE_inj {ls ls' : List (List UInt8)} {r r' : List UInt8} (hv : nameB ls r = true) (hv' : nameB ls' r' = true) (h : nameE ls r = nameE ls' r') : ls = ls' ∧ r = r' := by
  have a := name_seq hv []
  have b := name_seq hv' []
  have hl : ∀ l ∈ ls, l.length < 16777216 := fun l hl => by have := (name_parts hv).2.1 l hl; omega
  have e1 := is_front a (name_f0 hv) hl rfl hv' (by rw [List.append_nil, List.append_nil]; exact h.symm)
  refine ⟨by first | exact e1 | exact e1.symm, ?_⟩
  obtain rfl : ls = ls' := by first | exact e1 | exact e1.symm
  rw [h, b] at a
  simp only [Prod.mk.injEq, Option.some.injEq] at a
  have f1 := name_f1 hv
  have f2 := name_f1 hv'
  rw [a.1, f1] at f2
  simp only [Prod.mk.injEq] at f2
  first | exact f2.1 | exact f2.1.symm
theorem nameE_len {ls : List (List UInt8)} {r : List UInt8} (h : nameB ls r = true) : (nameE ls r).length ≤ 900 := by
  obtain ⟨h1, h2, h3⟩ := name_parts h
  have a := strs_len ls h2
  have b := elem_le 27 r
  have c := elem_le 48 (strs ls)
  have d := encTag_shape 0 (elem 48 (strs ls)) (by omega) (elem_ne _ _ (by omega))
  have e := encTag_shape 1 (encString r) (by omega) (encS_ne r (by omega))
  have f := elem_le (tagB 0) (elem 48 (strs ls))
  have g := elem_le (tagB 1) (encString r)
  have i : encString r = elem 27 r := rfl
  rw [← i] at b
  have k := elem_le 48 (nameX ls r)
  have m : (nameX ls r).length ≤ 300 := by
    unfold nameX
    rw [List.length_append, d, e]
    omega
  unfold nameE
  omega
theorem text_len {ls : List (List UInt8)} {r : List UInt8} (h : nameB ls r = true) : (textN ls r).length ≤ 1000 := by
  obtain ⟨v1, v2, v3, v4⟩ := nameB_parts h
  have a := partsT_len ls v1
  have b := realmB_len v4
  unfold textN
  rw [List.length_append, List.length_cons]
  omega
theorem ne_of_name {ls : List (List UInt8)} {r : List UInt8} (h : nameB ls r = true) : ls ≠ [] := by
  rintro rfl
  have := (nameB_parts h).2.1
  simp at this
theorem lab_prt : ∀ (l : List UInt8) (n : Nat), labB n l = true → l.all prtc = true
  | [], _, _ => rfl
  | c :: r, n, h => by
    unfold labB at h
    rw [List.all_cons, Bool.and_eq_true]
    split at h
    · rename_i hc
      exact ⟨by unfold prtc; rw [hc]; decide, lab_prt r 0 (by rw [Bool.and_eq_true] at h; exact h.2)⟩
    · rw [Bool.and_eq_true] at h
      refine ⟨?_, lab_prt r _ h.2⟩
      have := h.1
      unfold okc at this
      unfold prtc
      simp only [decide_eq_true_eq] at this ⊢
      omega
theorem realm_part {l : List UInt8} (h : realmB l = true) : partB l = true := by
  unfold realmB at h
  unfold partB
  rw [Bool.and_eq_true] at h ⊢
  exact ⟨h.1, lab_prt l 0 h.2⟩
theorem krb_name {r : ByteArray} (h : realmB r.data.toList = true) : nameB (dat [krb, r]) r.data.toList = true := by
  have hk : partB krb.data.toList = true := by decide
  simp [nameB, dat, h, hk, realm_part h]
theorem NEqual_yes (A : Option Addr) (c : Nat) (ps : List ByteArray) (r : ByteArray) (B : Option Addr) (d : Nat) (qs : List ByteArray) (t : ByteArray) (hn : ps.length ≤ 1000) (hm : qs.length ≤ 1000) (he : dat ps = dat qs ∧ r.data.toList = t.data.toList) (w : World) (hR : RS w (.slice A ps.length c) (sv ps)) (hQ : RS w (.slice B qs.length d) (sv qs)) :
    Calls Tryd.prog 29 #[.agg #[.slice A ps.length c, .string r], .agg #[.slice B qs.length d, .string t]] w fun e w' => e = .returned (.bool true) ∧ Ext w w' := by
  have h := NEqual_at A c ps r B d qs t hn hm w hR hQ
  rwa [decide_eq_true he] at h
theorem TG_yes (a b : ByteArray) (ha : realmB a.data.toList = true) (hb : realmB b.data.toList = true) (w : World) :
    Calls Tryd.prog 25 #[.string a, .string b] w fun e w' => (∃ A c, e = .returned (.tuple #[.agg #[.slice A 2 c, .string b], .int .i64 0]) ∧ RS w' (.slice A 2 c) (sv [krb, a])) ∧ Ext w w' := by
  have la := realmB_len ha
  have lb := realmB_len hb
  rw [size_list] at la lb
  refine (TG_at a b (by omega) (by omega) w).mono ?_
  rintro e w' ⟨h, hx⟩
  rw [ha, hb] at h
  rcases h with ⟨_, h⟩ | ⟨h, _⟩
  · exact ⟨h, hx⟩
  · cases h
theorem Target_yes (A : Option Addr) (c : Nat) (q : ByteArray) (hq : realmB q.data.toList = true) (w : World) (hR : RS w (.slice A 2 c) (sv [krb, q])) :
    Calls Tryd.prog 26 #[.agg #[.slice A 2 c, .string q]] w fun e w' => e = .returned (.tuple #[.string q, .bool true]) ∧ Ext w w' := by
  have lq := realmB_len hq
  rw [size_list] at lq
  refine Target_good A c krb q q ?_ (by omega) w hR (krb_name hq) rfl hq
  intro x hx
  simp only [List.mem_cons, List.not_mem_nil, or_false] at hx
  rcases hx with rfl | rfl
  · decide
  · omega
theorem dat_len1000 {ps : List ByteArray} {r : List UInt8} (h : nameB (dat ps) r = true) : ps.length ≤ 1000 := by
  have := (nameB_parts h).2.2.1
  rw [dat_length] at this
  omega
end Go.Proofs.YtgclchdccgkjaaaDoor
