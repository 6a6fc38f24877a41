/- Texts laid together (wip/tools/automerge.py): Der7, Pure4. -/
import Derived.Test.YthpfomjibfbiiaaGreatDoorDer6
import Derived.Test.YthpfomjibfbiiaaGreatDoorMg14
namespace Go.Proofs.YthpfomjibfbiiaaGreatDoor
open Go Go.RowKit

set_option maxRecDepth 100000 in
set_option maxHeartbeats 1000000 in
theorem inTake_at (g : Nat) (l : List UInt8) (k : Nat) (ti : Int) (tag : UInt8) (ht : ti = (tag.toNat : Int)) (m : List UInt8) (hm : l.drop k = m) (cont : List UInt8) (er used : Nat) (hr : takeF tag m = (cont, er, used)) (w : World) (h : RD 72 w g l k) :
    Calls Tryz.prog 107 #[.pointer (some ⟨g, 0, none⟩), .int .u8 ti] w fun e w' => ∃ A c, e = .returned (.tuple #[.slice A cont.length c, .int .i64 (er : Int)]) ∧ BS w' (.slice A cont.length c) cont ∧ RD 72 w' g l (k + used) ∧ w.grownBy w' (some g) := by
  have hk := h.le
  have HR := Lib.hid hr; clear hr
  have HM := Lib.hid hm; clear hm
  have HT := Lib.hid ht
  have ht1 : 0 ≤ ti := by omega
  clear ht
  rcases m with _ | ⟨b, m'⟩
  · have hr := HR.out
    simp only [takeF, if_pos] at hr
    simp only [Prod.mk.injEq] at hr
    obtain ⟨rfl, rfl, rfl⟩ := hr
    go_enter Tryz.func107, Tryz.ntmps107
    go_wp2_with (go_at_call 45; refine (rest_at g l k [] HM.out _ h).mono ?_; rintro e w1 ⟨A1, c1, rfl, hb1, hx1⟩)
    go_ret2
    exact ⟨none, 0, rfl, BS.nil _, h.ext hx1, hx1.but _⟩
  obtain ⟨m, hmm⟩ : ∃ m, m = b :: m' := ⟨_, rfl⟩
  have hml : 0 < m.length := by rw [hmm]; simp
  have hm0 : m[0] = b := by subst hmm; rfl
  rw [← hmm] at HM HR
  have hmle : m.length ≤ l.length := by have := HM.out; rw [← this]; simp
  have hkm : k + m.length = l.length := by have := HM.out; rw [← this]; simp; omega
  have HKM := Lib.hid hkm; clear hkm
  have hl63 : l.length ≤ 9223372036854775807 := by
    obtain ⟨_, A', c', _, hbs⟩ := h
    obtain ⟨A'', c'', he, k1, k2, _⟩ := hbs.open_; unfold maxLen at k2; omega
  clear hmm
  by_cases htag : b = tag
  · subst htag
    have hr := HR.out
    have hne : m ≠ [] := List.length_pos_iff.1 hml
    have h0 : m[0]?.getD 0 = b := by rw [List.getElem?_eq_getElem hml, hm0]; rfl
    unfold takeF at hr
    rw [if_neg hne, if_neg (by rw [h0]; simp)] at hr
    simp only at hr
    obtain ⟨⟨b0, e0, r0⟩, hmr⟩ : ∃ r, measureF m = r := ⟨_, rfl⟩
    rw [hmr] at hr
    simp only at hr
    by_cases hr0 : r0 = 0
    · subst hr0
      simp only [ne_eq, not_true_eq_false, if_false, Prod.mk.injEq] at hr
      obtain ⟨hcont, rfl, rfl⟩ := hr
      obtain ⟨hb0, hbe, hel⟩ := measureF_ok m b0 e0 hmr
      have hke : k + e0 ≤ l.length := by have := HKM.out; omega
      have HC := Lib.hid hcont; have HMR := Lib.hid hmr; clear hcont hmr h0 hne HR
      obtain rfl := HT.out
      go_enter Tryz.func107, Tryz.ntmps107
      go_upto_region 2 with (go_at_call 45; refine (rest_at g l k m HM.out _ h).mono ?_; rintro e w1 ⟨A1, c1, rfl, hb1, hx1⟩)
      have hb1' := hb1.ext hx1
      obtain ⟨A', c', he', _, _, hc⟩ := hb1'.open_
      injection he' with e1 _ e3
      subst e1; subst e3
      obtain ⟨ad, rfl, _, hc⟩ := hc hml
      have hc0 : w1.cell? ad = some (.int .u8 (b.toNat : Int)) := by have := hc 0 hml; rw [hm0] at this; exact this
      clear hc
      have hneq : ((b.toNat : Int) != (b.toNat : Int)) = false := by simp
      have hl0 : ((m.length : Int) == 0) = false := by rw [beq_eq_false_iff_ne]; omega
      go_wp2_with (go_at_call 125; refine (measure_at (some ad) c1 m _ hb1' (b0, e0, 0) HMR.out).mono ?_; rintro e w2 ⟨rfl, hx2⟩; obtain ⟨Ax, cx, hbx, k0, k1, k2, kf⟩ := (h.ext (hx1.trans hx2)).cells; obtain ⟨A5, c5, hb5, hrun⟩ := run_slice3 (P := Tryz.prog) w2 23 (some ad) c1 m b0 e0 cont HC.out hbe hel Tryz.underlying23 (by kernel_rfl) (info_parts u8info |>.elim fun i hi => ⟨i, hi.1, hi.2.2.1⟩) (hb1'.ext hx2))
      go_ret2
      have hrd := h.ext (hx1.trans hx2)
      have hgr : w.grownBy w2 (some g) := (hx1.trans hx2).but _
      exact ⟨A5, c5, rfl, hb5.but hrd.noU8 (grown_set (grown_refl _ _) 1 _), hrd.moved (k + e0) (by have := HKM.out; omega) _ (by simp), grown_set hgr 1 _⟩
    · rw [if_pos hr0] at hr
      simp only [Prod.mk.injEq] at hr
      obtain ⟨rfl, rfl, rfl⟩ := hr
      have hre : ((r0 : Int) != 0) = true := by simp; exact hr0
      have HMR := Lib.hid hmr; clear hmr h0 hne HR
      obtain rfl := HT.out
      go_enter Tryz.func107, Tryz.ntmps107
      go_upto_region 2 with (go_at_call 45; refine (rest_at g l k m HM.out _ h).mono ?_; rintro e w1 ⟨A1, c1, rfl, hb1, hx1⟩)
      have hb1' := hb1.ext hx1
      obtain ⟨A', c', he', _, _, hc⟩ := hb1'.open_
      injection he' with e1 _ e3
      subst e1; subst e3
      obtain ⟨ad, rfl, _, hc⟩ := hc hml
      have hc0 : w1.cell? ad = some (.int .u8 (b.toNat : Int)) := by have := hc 0 hml; rw [hm0] at this; exact this
      clear hc
      have hneq : ((b.toNat : Int) != (b.toNat : Int)) = false := by simp
      have hl0 : ((m.length : Int) == 0) = false := by rw [beq_eq_false_iff_ne]; omega
      go_wp2_with (go_at_call 125; refine (measure_at (some ad) c1 m _ hb1' (b0, e0, r0) HMR.out).mono ?_; rintro e w2 ⟨rfl, hx2⟩)
      go_ret2
      exact ⟨none, 0, rfl, BS.nil _, h.ext (hx1.trans hx2), (hx1.trans hx2).but _⟩
  · have hr := HR.out
    have hne : m ≠ [] := List.length_pos_iff.1 hml
    have h0 : m[0]?.getD 0 = b := by rw [List.getElem?_eq_getElem hml, hm0]; rfl
    unfold takeF at hr
    rw [if_neg hne, if_pos (by rw [h0]; exact htag)] at hr
    simp only [Prod.mk.injEq] at hr
    obtain ⟨rfl, rfl, rfl⟩ := hr
    have hneq : ((b.toNat : Int) != (tag.toNat : Int)) = true := by
      simp only [bne_iff_ne, ne_eq]
      intro e
      exact htag (UInt8.toNat_inj.1 (by omega))
    clear h0 hne HR
    obtain rfl := HT.out
    go_enter Tryz.func107, Tryz.ntmps107
    go_upto_region 2 with (go_at_call 45; refine (rest_at g l k m HM.out _ h).mono ?_; rintro e w1 ⟨A1, c1, rfl, hb1, hx1⟩)
    have hb1' := hb1.ext hx1
    obtain ⟨A', c', he', _, _, hc⟩ := hb1'.open_
    injection he' with e1 _ e3
    subst e1; subst e3
    obtain ⟨ad, rfl, _, hc⟩ := hc hml
    have hc0 : w1.cell? ad = some (.int .u8 (b.toNat : Int)) := by have := hc 0 hml; rw [hm0] at this; exact this
    clear hc
    have hl0 : ((m.length : Int) == 0) = false := by rw [beq_eq_false_iff_ne]; omega
    go_wp2
    go_ret2
    exact ⟨none, 0, rfl, BS.nil _, h.ext hx1, hx1.but _⟩
#print axioms inTake_at
end Go.Proofs.YthpfomjibfbiiaaGreatDoor
namespace Go.Proofs.YthpfomjibfbiiaaGreatDoor
/-- A byte with its sign. -/
def s8 (b : UInt8) : Int := if b.toNat < 128 then (b.toNat : Int) else (b.toNat : Int) - 256
/-- The integer in bytes, the highest first, with its sign. -/
def sInt : List UInt8 → Int
  | [] => 0
  | b :: t => t.foldl (fun v c => v * 256 + (c.toNat : Int)) (s8 b)
theorem sInt_one (l : List UInt8) (h : 0 < l.length) : sInt (l.take 1) = s8 l[0] := by
  match l, h with
  | b :: t, _ => simp [sInt]
theorem sInt_succ (l : List UInt8) (k : Nat) (h : k + 1 < l.length) : sInt (l.take (k + 1 + 1)) = sInt (l.take (k + 1)) * 256 + (l[k + 1].toNat : Int) := by
  match l, h with
  | b :: t, h =>
    have ht : k < t.length := by simpa using h
    rw [List.take_succ_cons, List.take_succ_cons, List.take_succ_eq_append_getElem ht]
    simp only [sInt, List.foldl_append, List.foldl_cons, List.foldl_nil, List.getElem_cons_succ]
theorem s8_bd (b : UInt8) : -128 ≤ s8 b ∧ s8 b < 128 := by
  have := b.toNat_lt
  unfold s8; split <;> omega
theorem sInt_bd (l : List UInt8) : ∀ k, k < l.length → -(128 * 256 ^ k) ≤ sInt (l.take (k + 1)) ∧ sInt (l.take (k + 1)) < 128 * 256 ^ k
  | 0, h => by
    rw [sInt_one l h]
    have := s8_bd l[0]
    simpa using this
  | k + 1, h => by
    have ih := sInt_bd l k (by omega)
    rw [sInt_succ l k h, Int.pow_succ]
    have := l[k + 1].toNat_lt
    generalize (256 : Int) ^ k = p at *
    omega
/-- What the closure of Integer hands back. -/
def intOk (l : List UInt8) : Bool := decide (1 ≤ l.length) && decide (l.length ≤ 8) && (encInt (sInt l) == elem 2 l)
/-- A value read by its contents: the value, the error, the bytes passed. -/
def readF {α : Type} (tag : UInt8) (z : α) (ok : List UInt8 → Bool) (val : List UInt8 → α) (m : List UInt8) : α × Nat × Nat :=
  if (takeF tag m).2.1 ≠ 0 then (z, (takeF tag m).2.1, 0) else if ok (takeF tag m).1 then (val (takeF tag m).1, 0, (takeF tag m).2.2) else (z, 6, 0)
def readIntF : List UInt8 → Int × Nat × Nat := readF 2 0 intOk sInt
end Go.Proofs.YthpfomjibfbiiaaGreatDoor
