/- Flags: Encode, Read, Decode, and the reference's Read and Decode. -/
import Derived.Test.YtigjecmhhjjenaaDoorFlD0
import Derived.Test.YtigjecmhhjjenaaDoorFl3
import Derived.Test.YtigjecmhhjjenaaDoorFlR2
import Derived.Test.YtigjecmhhjjenaaDoorMg32
namespace Go.Proofs.YtigjecmhhjjenaaDoor
open Go Go.RowKit
set_option linter.unusedVariables false

/-- The word of a number. -/
def wOf (v : Int) : W32 := BitVec.ofInt 32 v
theorem wOf_nat (f : W32) : wOf (f.toNat : Int) = f := by
  unfold wOf
  rw [BitVec.ofInt_natCast, BitVec.ofNat_toNat, BitVec.setWidth_eq]
theorem readBits_bd (m : List UInt8) : ∃ f : W32, (readBitsF m).1 = (f.toNat : Int) := by
  unfold readBitsF readF
  split
  · exact ⟨0#32, rfl⟩
  · split
    · rename_i h
      have h5 : (takeF 3 m).1.length = 5 := by
        unfold bitsOk at h
        rw [Bool.and_eq_true, decide_eq_true_eq] at h
        exact h.1
      have hb := beNat_take_lt ((takeF 3 m).1.drop 1) 4 (by rw [List.length_drop]; omega)
      rw [List.take_of_length_le (by rw [List.length_drop]; omega)] at hb
      exact u32_of _ (by unfold bitsVal; omega) (by unfold bitsVal; omega)
    · exact ⟨0#32, rfl⟩
theorem readBits_no (m : List UInt8) (h : (readBitsF m).2.1 ≠ 0) : readBitsF m = (0, (readBitsF m).2.1, 0) := by
  unfold readBitsF readF at h ⊢
  split
  · rfl
  · split
    · rename_i h1 h2
      rw [if_neg h1, if_pos h2] at h
      exact absurd rfl h
    · rfl
/-- What Read hands back: the number, the error, how many bytes are used. -/
def flRd (m : List UInt8) : Int × Nat × Nat := if (readBitsF m).2.1 = 0 ∧ nmB (wOf (readBitsF m).1) = false then (0, 6, 0) else readBitsF m
/-- The cases of Read. -/
theorem flRd_cases (m : List UInt8) : (∃ (er : Nat), er ≠ 0 ∧ readBitsF m = (0, er, 0) ∧ flRd m = (0, er, 0)) ∨
    (∃ (f : W32) (us : Nat), nmB f = false ∧ readBitsF m = ((f.toNat : Int), 0, us) ∧ flRd m = (0, 6, 0)) ∨
    (∃ (f : W32) (us : Nat), nmB f = true ∧ readBitsF m = ((f.toNat : Int), 0, us) ∧ flRd m = ((f.toNat : Int), 0, us)) := by
  obtain ⟨f, hf⟩ := readBits_bd m
  obtain ⟨v, er, us, hr⟩ : ∃ v er us, readBitsF m = (v, er, us) := ⟨_, _, _, rfl⟩
  unfold flRd
  rw [hr] at hf
  simp only at hf
  subst hf
  by_cases h0 : er = 0
  · subst h0
    cases hn : nmB f with
    | false => exact .inr (.inl ⟨f, us, hn, hr, by rw [hr, if_pos ⟨rfl, by rw [wOf_nat]; exact hn⟩]⟩)
    | true => exact .inr (.inr ⟨f, us, hn, hr, by rw [hr, if_neg (fun h => by have := h.2; rw [wOf_nat, hn] at this; cases this)]⟩)
  · have := readBits_no m (by rw [hr]; exact h0)
    rw [hr] at this
    refine .inl ⟨er, h0, by rw [hr]; exact this, ?_⟩
    rw [hr, if_neg (fun h => h0 h.1)]
    exact this

theorem Encode_no (f : W32) (hv : nmB f = false) (w : World) :
    Calls Tryd.prog 29 #[.int .u32 (f.toNat : Int)] w fun e w' => e = .returned (.tuple #[.slice none 0 0, .int .i64 2]) ∧ Ext w w' := by
  have H := Lib.hid (hv ▸ named_at f w)
  clear hv
  go_enter Tryd.func29, Tryd.ntmps29
  go_wp2_with fail
  refine H.out.mono ?_
  rintro _ w1 ⟨rfl, hx1⟩
  have HX := Lib.hid hx1
  clear hx1
  go_wp2_with fail
  go_ret2
  exact ⟨rfl, HX.out⟩
theorem Encode_yes (f : W32) (hv : nmB f = true) (w : World) :
    Calls Tryd.prog 29 #[.int .u32 (f.toNat : Int)] w fun e w' => ∃ A c, e = .returned (.tuple #[.slice A (encBits (f.toNat : Int)).length c, .int .i64 0]) ∧ BS w' (.slice A (encBits (f.toNat : Int)).length c) (encBits (f.toNat : Int)) ∧ Ext w w' := by
  have H := Lib.hid (hv ▸ named_at f w)
  have hB := fun W => Bits_at (f.toNat : Int) (by omega) (by have := f.isLt; omega) W
  obtain ⟨L, hL⟩ : ∃ L, encBits (f.toNat : Int) = L := ⟨_, rfl⟩
  simp only [hL] at hB ⊢
  have HB := Lib.hid hB
  clear hv hB hL
  go_enter Tryd.func29, Tryd.ntmps29
  go_wp2_with fail
  refine H.out.mono ?_
  rintro _ w1 ⟨rfl, hx1⟩
  have HX := Lib.hid hx1
  clear hx1
  go_wp2_with fail
  refine (HB.out _).mono ?_
  rintro _ w2 ⟨A, c, rfl, hob, hx2⟩
  have HOB := Lib.hid hob.bs; have HX2 := Lib.hid (HX.out.trans hx2)
  clear hob hx2
  go_wp2_with fail
  go_ret2
  exact ⟨A, c, rfl, HOB.out, HX2.out⟩
set_option maxRecDepth 100000 in
theorem FCopy_at (g : Nat) (l : List UInt8) (k : Nat) (w : World) (h : RD 65 w g l k) :
    Calls Tryd.prog 62 #[.pointer (some ⟨g, 0, none⟩)] w fun e w' => ∃ g', e = .returned (.pointer (some ⟨g', 0, none⟩)) ∧ w.heap.size ≤ g' ∧ RD 65 w' g' l k ∧ Ext w w' := by
  obtain ⟨hk, A, c, hg, hb⟩ := h
  have c0 : w.cell? ⟨g, 0, none⟩ = some (.slice A l.length c) := by rw [cell_of_row w g 0 _ _ (0, 0) hg]; rfl
  have c1 : w.cell? ⟨g, 1, none⟩ = some (.int .i64 (k : Int)) := by rw [cell_of_row w g 1 _ _ (0, 0) hg]; rfl
  have c2 : w.cell? ⟨g, 2, none⟩ = some (.bool true) := by rw [cell_of_row w g 2 _ _ (0, 0) hg]; rfl
  have HG := Lib.hid hg; clear hg
  go_enter Tryd.func62, Tryd.ntmps62
  go_wp2
  go_ret
  exact ⟨w.heap.size, rfl, Nat.le_refl _, ⟨hk, A, c, heap_alloc_new w _, hb.ext ((Ext.refl w).alloc _)⟩, (Ext.refl w).alloc _⟩
/-- A reader is set back to what another one holds. -/
theorem RD.setback {w : World} {g : Nat} {l : List UInt8} {k' k : Nat} {A : Option Addr} {c : Nat} (h : RD 65 w g l k') (hk : k ≤ l.length) (hb : BS w (.slice A l.length c) l) :
    RD 65 (((w.setCell ⟨g, 0, none⟩ (.slice A l.length c)).setCell ⟨g, 1, none⟩ (.int .i64 (k : Int))).setCell ⟨g, 2, none⟩ (.bool true)) g l k ∧
    w.grownBy (((w.setCell ⟨g, 0, none⟩ (.slice A l.length c)).setCell ⟨g, 1, none⟩ (.int .i64 (k : Int))).setCell ⟨g, 2, none⟩ (.bool true)) (some g) := by
  have hn := h.noU8
  obtain ⟨_, Ax, cx, hg0, _⟩ := h
  have hB3 : B3 65 w g (.slice Ax l.length cx) (.int .i64 (k' : Int)) (.bool true) := hg0
  have g1 : w.grownBy (((w.setCell ⟨g, 0, none⟩ (.slice A l.length c)).setCell ⟨g, 1, none⟩ (.int .i64 (k : Int))).setCell ⟨g, 2, none⟩ (.bool true)) (some g) := grown_set (grown_set (grown_set (grown_refl _ _) 0 _) 1 _) 2 _
  exact ⟨⟨hk, A, c, ((hB3.set0 _).set1 _).set2 _, hb.but hn g1⟩, g1⟩
set_option maxRecDepth 100000 in
set_option maxHeartbeats 1000000 in
theorem FRead_at (g : Nat) (l : List UInt8) (k : Nat) (v : Int) (er used : Nat) (hr : flRd (l.drop k) = (v, er, used)) (w : World) (h : RD 65 w g l k) :
    Calls Tryd.prog 33 #[.pointer (some ⟨g, 0, none⟩)] w fun e w' => e = .returned (.tuple #[.int .u32 v, .int .i64 (er : Int)]) ∧ RD 65 w' g l (k + used) ∧ w.grownBy w' (some g) := by
  have hgl := h.lt
  have hkl := h.le
  have HC := Lib.hid (FCopy_at g l k w h)
  have HRD := Lib.hid h
  clear h
  rcases flRd_cases (l.drop k) with ⟨e0, hne, hb, hf⟩ | ⟨f, us, hn, hb, hf⟩ | ⟨f, us, hn, hb, hf⟩
  · rw [hf] at hr
    simp only [Prod.mk.injEq] at hr
    obtain ⟨rfl, rfl, rfl⟩ := hr
    have hne2 : ((e0 : Int) != 0) = true := by rw [bne_iff_ne]; omega
    have HB := Lib.hid (fun W hW => RdBits_at g l k _ rfl 0 e0 0 hb W hW)
    clear hb hf hne
    go_enter Tryd.func33, Tryd.ntmps33
    go_wp2_with fail
    refine HC.out.mono ?_
    rintro _ w1 ⟨g', rfl, hg', hr1, hx1⟩
    have HX1 := Lib.hid hx1; have HG1 := Lib.hid hg'
    clear hx1 hr1 hg'
    go_wp2_with fail
    refine (HB.out _ (HRD.out.ext HX1.out)).mono ?_
    rintro _ w2 ⟨rfl, hr2, hg2⟩
    have HR2 := Lib.hid hr2; have HG2 := Lib.hid hg2
    clear hr2 hg2
    go_wp2_with fail
    go_ret2
    exact ⟨rfl, HR2.out, grown_trans (HX1.out.but g) HG2.out⟩
  · rw [hf] at hr
    simp only [Prod.mk.injEq] at hr
    obtain ⟨rfl, rfl, rfl⟩ := hr
    have HB := Lib.hid (fun W hW => RdBits_at g l k _ rfl _ 0 us hb W hW)
    have HN := Lib.hid (fun W => hn ▸ named_at f W)
    clear hb hf hn
    go_enter Tryd.func33, Tryd.ntmps33
    go_wp2_with fail
    refine HC.out.mono ?_
    rintro _ w1 ⟨g', rfl, hg', hr1, hx1⟩
    have HX1 := Lib.hid hx1; have HG1 := Lib.hid hg'; have HR1 := Lib.hid hr1
    clear hx1 hr1 hg'
    go_wp2_with fail
    refine (HB.out _ (HRD.out.ext HX1.out)).mono ?_
    rintro _ w2 ⟨rfl, hr2, hg2⟩
    have HR2 := Lib.hid hr2; have HG2 := Lib.hid hg2
    clear hr2 hg2
    go_wp2_with fail
    refine (HN.out _).mono ?_
    rintro _ w3 ⟨rfl, hx3⟩
    have hne : g' ≠ g := by have := HG1.out; omega
    have hrb := (HR1.out.but (HRD.out.ext HX1.out) hne HG2.out).ext hx3
    obtain ⟨A, c, hbs, q0, q1, q2, _⟩ := hrb.cells
    have HR3 := Lib.hid (HR2.out.ext hx3)
    obtain ⟨Ay, cy, _, p0, p1, p2, _⟩ := HR3.out.cells
    have f0 : w3.frozen? ⟨g, 0, none⟩ = false := by obtain ⟨_, A', c', hg0, _⟩ := HR3.out; exact frozen_of_row w3 g 0 _ _ hg0
    have f1 : w3.frozen? ⟨g, 1, none⟩ = false := by obtain ⟨_, A', c', hg0, _⟩ := HR3.out; exact frozen_of_row w3 g 1 _ _ hg0
    have f2 : w3.frozen? ⟨g, 2, none⟩ = false := by obtain ⟨_, A', c', hg0, _⟩ := HR3.out; exact frozen_of_row w3 g 2 _ _ hg0
    have HSB := Lib.hid (RD.setback HR3.out hkl hbs)
    have HX3 := Lib.hid hx3
    clear hrb hbs hx3
    go_wp2_with fail
    go_ret2
    exact ⟨rfl, HSB.out.1, grown_trans (grown_trans (HX1.out.but g) (grown_ext HG2.out HX3.out)) HSB.out.2⟩
  · rw [hf] at hr
    simp only [Prod.mk.injEq] at hr
    obtain ⟨rfl, rfl, rfl⟩ := hr
    have HB := Lib.hid (fun W hW => RdBits_at g l k _ rfl _ 0 us hb W hW)
    have HN := Lib.hid (fun W => hn ▸ named_at f W)
    clear hb hf hn
    go_enter Tryd.func33, Tryd.ntmps33
    go_wp2_with fail
    refine HC.out.mono ?_
    rintro _ w1 ⟨g', rfl, hg', hr1, hx1⟩
    have HX1 := Lib.hid hx1
    clear hx1 hr1 hg'
    go_wp2_with fail
    refine (HB.out _ (HRD.out.ext HX1.out)).mono ?_
    rintro _ w2 ⟨rfl, hr2, hg2⟩
    have HR2 := Lib.hid hr2; have HG2 := Lib.hid hg2
    clear hr2 hg2
    go_wp2_with fail
    refine (HN.out _).mono ?_
    rintro _ w3 ⟨rfl, hx3⟩
    have HX3 := Lib.hid hx3
    clear hx3
    go_wp2_with fail
    go_ret2
    exact ⟨rfl, HR2.out.ext HX3.out, grown_trans (HX1.out.but g) (grown_ext HG2.out HX3.out)⟩
/-- What Decode hands back. -/
def flDec (b : List UInt8) : Int × Nat := if (flRd b).2.1 = 0 ∧ (flRd b).2.2 < b.length then (0, 5) else ((flRd b).1, (flRd b).2.1)
theorem flRd_used (m : List UInt8) : (flRd m).2.2 ≤ m.length := by
  rcases flRd_cases m with ⟨er, _, _, hf⟩ | ⟨f, us, _, _, hf⟩ | ⟨f, us, _, hr, hf⟩
  · rw [hf]; exact Nat.zero_le _
  · rw [hf]; exact Nat.zero_le _
  · rw [hf]
    exact readF_used 3 0 bitsOk bitsVal m _ _ _ hr
set_option maxRecDepth 100000 in
set_option maxHeartbeats 1000000 in
theorem FDecode_at (A : Option Addr) (c : Nat) (b : List UInt8) (hl : b.length ≤ 140737488355328) (v : Int) (er : Nat) (hd : flDec b = (v, er)) (w : World) (hB : BS w (.slice A b.length c) b) :
    Calls Tryd.prog 30 #[.slice A b.length c] w fun e w' => e = .returned (.tuple #[.int .u32 v, .int .i64 (er : Int)]) ∧ Ext w w' := by
  have HN := Lib.hid (New_at A c b w hB hl)
  obtain ⟨v1, e1, us, hr⟩ : ∃ v1 e1 us, flRd b = (v1, e1, us) := ⟨_, _, _, rfl⟩
  have hus := flRd_used b
  unfold flDec at hd
  rw [hr] at hd hus
  simp only at hd hus
  have HRD := Lib.hid (fun g W hW => FRead_at g b 0 v1 e1 us hr W hW)
  have h0 : e1 ≠ 0 → v1 = 0 := fun hne => by
    rcases flRd_cases b with ⟨er', _, _, hf⟩ | ⟨f, us', _, _, hf⟩ | ⟨f, us', _, _, hf⟩
    · rw [hf] at hr; simp only [Prod.mk.injEq] at hr; exact hr.1.symm
    · rw [hf] at hr; simp only [Prod.mk.injEq] at hr; exact hr.1.symm
    · rw [hf] at hr; simp only [Prod.mk.injEq] at hr; exact absurd hr.2.1.symm hne
  clear hr
  go_enter Tryd.func30, Tryd.ntmps30
  go_wp2_with fail
  refine HN.out.mono ?_
  rintro _ w1 ⟨g, rfl, hg, hr1, hx1⟩
  have HR1 := Lib.hid hr1; have HX1 := Lib.hid hx1; have HG := Lib.hid hg
  clear hr1 hx1 hg
  go_wp2_with fail
  refine (HRD.out g _ HR1.out).mono ?_
  rintro _ w2 ⟨rfl, hr2, hg2⟩
  have HR2 := Lib.hid hr2
  have HX2 := Lib.hid (show Ext w w2 from HX1.out.grown hg2 (fun j hj => by injection hj with hj; have := HG.out; omega))
  clear hr2 hg2
  by_cases he : e1 = 0
  · subst he
    have HE := Lib.hid (End_at g b us)
    by_cases hlt : us < b.length
    · rw [if_pos ⟨rfl, hlt⟩] at hd
      simp only [Prod.mk.injEq] at hd
      obtain ⟨rfl, rfl⟩ := hd
      have HLT := Lib.hid hlt
      clear hlt h0
      go_wp2_with fail
      refine (HE.out _ (by have := HR2.out; rwa [Nat.zero_add] at this)).mono ?_
      rintro _ w3 ⟨rfl, hx3⟩
      rw [if_pos HLT.out]
      have HX3 := Lib.hid (HX2.out.trans hx3)
      clear hx3
      go_wp2_with fail
      go_ret2
      exact ⟨rfl, HX3.out⟩
    · rw [if_neg (fun h => hlt h.2)] at hd
      simp only [Prod.mk.injEq] at hd
      obtain ⟨rfl, rfl⟩ := hd
      have HLT := Lib.hid hlt
      clear hlt h0
      go_wp2_with fail
      refine (HE.out _ (by have := HR2.out; rwa [Nat.zero_add] at this)).mono ?_
      rintro _ w3 ⟨rfl, hx3⟩
      rw [if_neg HLT.out]
      have HX3 := Lib.hid (HX2.out.trans hx3)
      clear hx3
      go_wp2_with fail
      go_ret2
      exact ⟨rfl, HX3.out⟩
  · rw [if_neg (fun h => he h.1)] at hd
    simp only [Prod.mk.injEq] at hd
    obtain ⟨rfl, rfl⟩ := hd
    obtain rfl := h0 he
    have hne1 : ((e1 : Int) == 0) = false := by rw [beq_eq_false_iff_ne]; omega
    have hne2 : ((e1 : Int) != 0) = true := by rw [bne_iff_ne]; omega
    clear he h0
    go_wp2_with fail
    go_ret2
    exact ⟨rfl, HX2.out⟩
set_option maxRecDepth 100000 in
theorem RRead_at (A : Option Addr) (c : Nat) (l : List UInt8) (p : Nat) (hp : p ≤ 900000000000) (v : Int) (er used : Nat) (hr : flRd (l.drop p) = (v, er, used)) (w : World) (hb : BS w (.slice A l.length c) l) :
    Calls Tryd.prog 34 #[.slice A l.length c, .int .i64 (p : Int)] w fun e w' => e = .returned (.tuple #[.int .u32 v, .int .i64 ((p + used : Nat) : Int), .int .i64 (er : Int)]) ∧ Ext w w' := by
  rcases flRd_cases (l.drop p) with ⟨e0, hne, hq, hf⟩ | ⟨f, us, hn, hq, hf⟩ | ⟨f, us, hn, hq, hf⟩
  · rw [hf] at hr
    simp only [Prod.mk.injEq] at hr
    obtain ⟨rfl, rfl, rfl⟩ := hr
    have HB := Lib.hid (DBits_at A c l p hp 0 e0 0 hq w hb)
    have hne1 : ((e0 : Int) == 0) = false := by rw [beq_eq_false_iff_ne]; omega
    clear hq hf hne
    go_enter Tryd.func34, Tryd.ntmps34
    go_wp2_with fail
    refine HB.out.mono ?_
    rintro _ w1 ⟨rfl, hx1⟩
    have HX1 := Lib.hid hx1
    clear hx1
    go_wp2_with fail
    go_ret3
    exact ⟨rfl, HX1.out⟩
  · rw [hf] at hr
    simp only [Prod.mk.injEq] at hr
    obtain ⟨rfl, rfl, rfl⟩ := hr
    have HB := Lib.hid (DBits_at A c l p hp _ 0 us hq w hb)
    have HN := Lib.hid (fun W => hn ▸ RNamed_at f W)
    clear hq hf hn
    go_enter Tryd.func34, Tryd.ntmps34
    go_wp2_with fail
    refine HB.out.mono ?_
    rintro _ w1 ⟨rfl, hx1⟩
    have HX1 := Lib.hid hx1
    clear hx1
    go_wp2_with fail
    refine (HN.out _).mono ?_
    rintro _ w2 ⟨rfl, hx2⟩
    have HX2 := Lib.hid (HX1.out.trans hx2)
    clear hx2
    go_wp2_with fail
    go_ret3
    exact ⟨rfl, HX2.out⟩
  · rw [hf] at hr
    simp only [Prod.mk.injEq] at hr
    obtain ⟨rfl, rfl, rfl⟩ := hr
    have HB := Lib.hid (DBits_at A c l p hp _ 0 us hq w hb)
    have HN := Lib.hid (fun W => hn ▸ RNamed_at f W)
    clear hq hf hn
    go_enter Tryd.func34, Tryd.ntmps34
    go_wp2_with fail
    refine HB.out.mono ?_
    rintro _ w1 ⟨rfl, hx1⟩
    have HX1 := Lib.hid hx1
    clear hx1
    go_wp2_with fail
    refine (HN.out _).mono ?_
    rintro _ w2 ⟨rfl, hx2⟩
    have HX2 := Lib.hid (HX1.out.trans hx2)
    clear hx2
    go_wp2_with fail
    go_ret3
    exact ⟨rfl, HX2.out⟩
set_option maxRecDepth 100000 in
theorem RDecode_at (A : Option Addr) (c : Nat) (b : List UInt8) (v : Int) (er : Nat) (hd : flDec b = (v, er)) (w : World) (hB : BS w (.slice A b.length c) b) :
    Calls Tryd.prog 31 #[.slice A b.length c] w fun e w' => e = .returned (.tuple #[.int .u32 v, .int .i64 (er : Int)]) ∧ Ext w w' := by
  obtain ⟨v1, e1, us, hr⟩ : ∃ v1 e1 us, flRd b = (v1, e1, us) := ⟨_, _, _, rfl⟩
  unfold flDec at hd
  rw [hr] at hd
  simp only at hd
  have HR := Lib.hid (RRead_at A c b 0 (by decide) v1 e1 us (by rw [List.drop_zero]; exact hr) w hB)
  clear hr
  go_enter Tryd.func31, Tryd.ntmps31
  go_wp2_with fail
  refine HR.out.mono ?_
  rintro _ w1 ⟨rfl, hx1⟩
  rw [Nat.zero_add]
  have HX1 := Lib.hid hx1
  clear hx1
  by_cases he : e1 = 0
  · subst he
    by_cases hlt : us < b.length
    · rw [if_pos ⟨rfl, hlt⟩] at hd
      simp only [Prod.mk.injEq] at hd
      obtain ⟨rfl, rfl⟩ := hd
      have h3 : decide (us < b.length) = true := decide_eq_true hlt
      clear hlt
      go_wp2_with fail
      go_ret2
      exact ⟨rfl, HX1.out⟩
    · rw [if_neg (fun h => hlt h.2)] at hd
      simp only [Prod.mk.injEq] at hd
      obtain ⟨rfl, rfl⟩ := hd
      have h3 : decide (us < b.length) = false := decide_eq_false hlt
      clear hlt
      go_wp2_with fail
      go_ret2
      exact ⟨rfl, HX1.out⟩
  · rw [if_neg (fun h => he h.1)] at hd
    simp only [Prod.mk.injEq] at hd
    obtain ⟨rfl, rfl⟩ := hd
    have hne1 : ((e1 : Int) == 0) = false := by rw [beq_eq_false_iff_ne]; omega
    clear he
    go_wp2_with fail
    go_ret2
    exact ⟨rfl, HX1.out⟩
end Go.Proofs.YtigjecmhhjjenaaDoor
