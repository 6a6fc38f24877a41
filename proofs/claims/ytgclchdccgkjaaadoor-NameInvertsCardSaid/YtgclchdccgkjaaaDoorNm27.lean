/- Names: must and field. (wip/tools/gennm27.py printed this, out of XLtD1.) -/
import Derived.Test.YtgclchdccgkjaaaDoorMg22
import Derived.Test.YtgclchdccgkjaaaDoorMg33
namespace Go.Proofs.YtgclchdccgkjaaaDoor
open Go Go.RowKit
set_option linter.unusedVariables false

theorem readIn_some (tag : UInt8) (x : List UInt8) (h : (readInF tag x).2.1 = 0) : ¬ (readInF tag x).1 = none := by
  rcases readIn_cases tag x with ⟨y, hy, _⟩ | ⟨er, he, hy⟩
  · rw [hy]; simp
  · rw [hy] at h; exact absurd h he
set_option maxRecDepth 100000 in
theorem nm_must_reader_ok (p : Value) (w : World) : Calls Tryd.prog 69 #[p, .int .i64 0] w fun e w' => e = .returned p ∧ w = w' := by
  go_enter Tryd.func69, Tryd.ntmps69
  go_wp2
  go_ret
  exact ⟨rfl, rfl⟩
set_option maxRecDepth 100000 in
theorem nm_must_reader_no (p : Value) (er : Nat) (h : er ≠ 0) (w : World) : Calls Tryd.prog 69 #[p, .int .i64 (er : Int)] w fun e w' => e = erp er ∧ w = w' := by
  have hne : ((er : Int) != 0) = true := by rw [bne_iff_ne]; omega
  have H := Lib.hid h; clear h
  go_enter Tryd.func69, Tryd.ntmps69
  go_wp2
  exact ⟨rfl, rfl, rfl⟩
set_option maxRecDepth 100000 in
theorem nm_must_str_ok (p : Value) (w : World) : Calls Tryd.prog 73 #[p, .int .i64 0] w fun e w' => e = .returned p ∧ w = w' := by
  go_enter Tryd.func73, Tryd.ntmps73
  go_wp2
  go_ret
  exact ⟨rfl, rfl⟩
set_option maxRecDepth 100000 in
theorem nm_must_str_no (p : Value) (er : Nat) (h : er ≠ 0) (w : World) : Calls Tryd.prog 73 #[p, .int .i64 (er : Int)] w fun e w' => e = erp er ∧ w = w' := by
  have hne : ((er : Int) != 0) = true := by rw [bne_iff_ne]; omega
  have H := Lib.hid h; clear h
  go_enter Tryd.func73, Tryd.ntmps73
  go_wp2
  exact ⟨rfl, rfl, rfl⟩

set_option maxRecDepth 100000 in
set_option maxHeartbeats 1000000 in
theorem nm_field_str (g : Nat) (l : List UInt8) (k : Nat) (m : List UInt8) (hm : l.drop k = m) (n : Nat) (hn : n ≤ 30) (v : List UInt8) (er used : Nat) (hr : fieldF [] readStringF n m = (v, er, used)) (w : World) (h : RD 86 w g l k) :
    Calls Tryd.prog 75 #[.pointer (some ⟨g, 0, none⟩), .int .i64 (n : Int), .func (.func 74) #[] #[]] w (FieldPost w g l k er used (fun V _ => V = .string ⟨v.toArray⟩)) := by
  have hml : l.length - k = m.length := by rw [← hm]; simp
  have hgl := h.lt
  rcases field_cases ([] : List UInt8) readStringF n m with ⟨ht, hf⟩ | ⟨e0, he0, ht, hf⟩ | ⟨x, u, ht, hl, hrd, hm0, ⟨h1, hf⟩ | ⟨h1, h2, hf⟩ | ⟨h1, h2, hf⟩⟩
  · have HT := Lib.hid (RdTagged_at g l k m hm n hn _ _ _ _ ht w h)
    rw [hf] at hr
    simp only [Prod.mk.injEq] at hr
    obtain ⟨rfl, rfl, rfl⟩ := hr
    have HML := Lib.hid hml
    by_cases hm0 : m = []
    · have hl0 : ((m.length : Int) == 0) = true := by rw [hm0]; rfl
      rw [if_pos hm0]
      clear hf ht hm hml hm0
      go_enter Tryd.func75, Tryd.ntmps75
      go_wp2_with fail
      refine HT.out.mono ?_
      rintro e w1 ⟨p, rfl, hg1, hr1, ⟨_, rfl⟩ | ⟨x, g', hx, _⟩⟩
      · go_wp2_with fail
        refine (Left_at g l _ w1 hr1).mono ?_
        rintro e w2 ⟨rfl, hx2⟩
        rw [Nat.add_zero, HML.out]
        go_wp2_with fail
        exact ⟨rfl, grown_ext hg1 hx2, .inr ⟨by omega, ⟨_, hr1.ext hx2⟩, rfl⟩⟩
      · cases hx
    · have hl0 : ((m.length : Int) == 0) = false := by simpa using hm0
      rw [if_neg hm0]
      clear hf ht hm hml hm0
      go_enter Tryd.func75, Tryd.ntmps75
      go_wp2_with fail
      refine HT.out.mono ?_
      rintro e w1 ⟨p, rfl, hg1, hr1, ⟨_, rfl⟩ | ⟨x, g', hx, _⟩⟩
      · go_wp2_with fail
        refine (Left_at g l _ w1 hr1).mono ?_
        rintro e w2 ⟨rfl, hx2⟩
        rw [Nat.add_zero, HML.out]
        go_wp2_with fail
        exact ⟨rfl, grown_ext hg1 hx2, .inr ⟨by omega, ⟨_, hr1.ext hx2⟩, rfl⟩⟩
      · cases hx
  · have HT := Lib.hid (RdTagged_at g l k m hm n hn _ _ _ _ ht w h)
    rw [hf] at hr
    simp only [Prod.mk.injEq] at hr
    obtain ⟨rfl, rfl, rfl⟩ := hr
    have hne : ((e0 : Int) != 0) = true := by rw [bne_iff_ne]; omega
    have HE := Lib.hid he0
    clear hf ht hm hml he0
    go_enter Tryd.func75, Tryd.ntmps75
    go_wp2_with fail
    refine HT.out.mono ?_
    rintro e w1 ⟨p, rfl, hg1, hr1, ⟨_, rfl⟩ | ⟨x, g', hx, _⟩⟩
    · go_wp2_with fail
      exact ⟨rfl, hg1, .inr ⟨HE.out, ⟨_, hr1⟩, rfl⟩⟩
    · cases hx
  · have HT := Lib.hid (RdTagged_at g l k m hm n hn _ _ _ _ ht w h)
    rw [hf] at hr
    simp only [Prod.mk.injEq] at hr
    obtain ⟨rfl, rfl, rfl⟩ := hr
    have HE := Lib.hid h1
    obtain ⟨v1, e1, u1, hrx⟩ : ∃ v1 e1 u1, readStringF x = (v1, e1, u1) := ⟨_, _, _, rfl⟩
    have he1 : (readStringF x).2.1 = e1 := by rw [hrx]
    have HRI := Lib.hid (fun (W : World) (g' : Nat) => RdString_at g' x 0 x rfl _ _ _ hrx W)
    rw [he1] at HE ⊢
    clear hf ht hm hml h1 hm0 hrx he1
    go_enter Tryd.func75, Tryd.ntmps75
    go_wp2_with fail
    refine HT.out.mono ?_
    rintro e w1 ⟨p, rfl, hg1, hr1, ⟨hx, _⟩ | ⟨x1, g', hx, rfl, hB1, hr1'⟩⟩
    · cases hx
    · injection hx with hx
      subst hx
      go_wp2_with fail
      refine (HRI.out w1 g' hr1').mono ?_
      rintro e w2 ⟨rfl, hr2', hg2⟩
      go_wp2_with fail
      refine (nm_must_str_no _ _ HE.out _).mono ?_
      unfold erp
      rintro e w3 ⟨rfl, rfl⟩
      go_wp2_with fail
      exact ⟨rfl, grown_new hg1 hg2 hB1, .inr ⟨HE.out, ⟨_, hr1.but hr1' (by omega) hg2⟩, rfl⟩⟩
  · have HT := Lib.hid (RdTagged_at g l k m hm n hn _ _ _ _ ht w h)
    rw [hf] at hr
    simp only [Prod.mk.injEq] at hr
    obtain ⟨rfl, rfl, rfl⟩ := hr
    have hrx : readStringF x = ((readStringF x).1, 0, (readStringF x).2.2) := triple_eta _ (by simpa using h1)
    obtain ⟨rn, hrn⟩ : ∃ rn, x.length - (0 + (readStringF x).2.2) = rn := ⟨_, rfl⟩
    have hrp : (0 : Int) < rn := by omega
    have HRI := Lib.hid (fun (W : World) (g' : Nat) => RdString_at g' x 0 x rfl _ _ _ hrx W)
    have HRN := Lib.hid hrn
    clear hf ht hm hml h1 hm0 hrx h2 hrn
    go_enter Tryd.func75, Tryd.ntmps75
    go_wp2_with fail
    refine HT.out.mono ?_
    rintro e w1 ⟨p, rfl, hg1, hr1, ⟨hx, _⟩ | ⟨x1, g', hx, rfl, hB1, hr1'⟩⟩
    · cases hx
    · injection hx with hx
      subst hx
      go_wp2_with fail
      refine (HRI.out w1 g' hr1').mono ?_
      rintro e w2 ⟨rfl, hr2', hg2⟩
      go_wp2_with fail
      refine (nm_must_str_ok _ _).mono ?_
      rintro e w3 ⟨rfl, rfl⟩
      go_wp2_with fail
      refine (Left_at g' x _ w2 hr2').mono ?_
      rintro e w3 ⟨rfl, hx3⟩
      rw [HRN.out]
      go_wp2_with fail
      exact ⟨rfl, grown_ext (grown_new hg1 hg2 hB1) hx3, .inr ⟨by omega, ⟨_, (hr1.but hr1' (by omega) hg2).ext hx3⟩, rfl⟩⟩
  · have HT := Lib.hid (RdTagged_at g l k m hm n hn _ _ _ _ ht w h)
    rw [hf] at hr
    simp only [Prod.mk.injEq] at hr
    obtain ⟨rfl, rfl, rfl⟩ := hr
    have hrx : readStringF x = ((readStringF x).1, 0, (readStringF x).2.2) := triple_eta _ (by simpa using h1)
    obtain ⟨rn, hrn⟩ : ∃ rn, x.length - (0 + (readStringF x).2.2) = rn := ⟨_, rfl⟩
    have hrp : ¬ (0 : Int) < rn := by omega
    have HRI := Lib.hid (fun (W : World) (g' : Nat) => RdString_at g' x 0 x rfl _ _ _ hrx W)
    have HRN := Lib.hid hrn
    clear hf ht hm hml h1 hm0 hrx h2 hrn
    go_enter Tryd.func75, Tryd.ntmps75
    go_wp2_with fail
    refine HT.out.mono ?_
    rintro e w1 ⟨p, rfl, hg1, hr1, ⟨hx, _⟩ | ⟨x1, g', hx, rfl, hB1, hr1'⟩⟩
    · cases hx
    · injection hx with hx
      subst hx
      go_wp2_with fail
      refine (HRI.out w1 g' hr1').mono ?_
      rintro e w2 ⟨rfl, hr2', hg2⟩
      go_wp2_with fail
      refine (nm_must_str_ok _ _).mono ?_
      rintro e w3 ⟨rfl, rfl⟩
      go_wp2_with fail
      refine (Left_at g' x _ w2 hr2').mono ?_
      rintro e w3 ⟨rfl, hx3⟩
      rw [HRN.out]
      go_wp2_with fail
      go_ret
      exact ⟨grown_ext (grown_new hg1 hg2 hB1) hx3, .inl ⟨rfl, (hr1.but hr1' (by omega) hg2).ext hx3, _, rfl, rfl⟩⟩

set_option maxRecDepth 100000 in
set_option maxHeartbeats 1000000 in
theorem nm_field_rd (g : Nat) (l : List UInt8) (k : Nat) (m : List UInt8) (hm : l.drop k = m) (n : Nat) (hn : n ≤ 30) (v : Option (List UInt8)) (er used : Nat) (hr : fieldF none (readInF 48) n m = (v, er, used)) (w : World) (h : RD 86 w g l k) :
    Calls Tryd.prog 71 #[.pointer (some ⟨g, 0, none⟩), .int .i64 (n : Int), .func (.func 70) #[] #[]] w (FieldPost w g l k er used (fun V W => ∃ y g2, v = some y ∧ V = .pointer (some ⟨g2, 0, none⟩) ∧ w.heap.size ≤ g2 ∧ RD 86 W g2 y 0)) := by
  have hml : l.length - k = m.length := by rw [← hm]; simp
  have hgl := h.lt
  rcases field_cases (none : Option (List UInt8)) (readInF 48) n m with ⟨ht, hf⟩ | ⟨e0, he0, ht, hf⟩ | ⟨x, u, ht, hl, hrd, hm0, ⟨h1, hf⟩ | ⟨h1, h2, hf⟩ | ⟨h1, h2, hf⟩⟩
  · have HT := Lib.hid (RdTagged_at g l k m hm n hn _ _ _ _ ht w h)
    rw [hf] at hr
    simp only [Prod.mk.injEq] at hr
    obtain ⟨rfl, rfl, rfl⟩ := hr
    have HML := Lib.hid hml
    by_cases hm0 : m = []
    · have hl0 : ((m.length : Int) == 0) = true := by rw [hm0]; rfl
      rw [if_pos hm0]
      clear hf ht hm hml hm0
      go_enter Tryd.func71, Tryd.ntmps71
      go_wp2_with fail
      refine HT.out.mono ?_
      rintro e w1 ⟨p, rfl, hg1, hr1, ⟨_, rfl⟩ | ⟨x, g', hx, _⟩⟩
      · go_wp2_with fail
        refine (Left_at g l _ w1 hr1).mono ?_
        rintro e w2 ⟨rfl, hx2⟩
        rw [Nat.add_zero, HML.out]
        go_wp2_with fail
        exact ⟨rfl, grown_ext hg1 hx2, .inr ⟨by omega, ⟨_, hr1.ext hx2⟩, rfl⟩⟩
      · cases hx
    · have hl0 : ((m.length : Int) == 0) = false := by simpa using hm0
      rw [if_neg hm0]
      clear hf ht hm hml hm0
      go_enter Tryd.func71, Tryd.ntmps71
      go_wp2_with fail
      refine HT.out.mono ?_
      rintro e w1 ⟨p, rfl, hg1, hr1, ⟨_, rfl⟩ | ⟨x, g', hx, _⟩⟩
      · go_wp2_with fail
        refine (Left_at g l _ w1 hr1).mono ?_
        rintro e w2 ⟨rfl, hx2⟩
        rw [Nat.add_zero, HML.out]
        go_wp2_with fail
        exact ⟨rfl, grown_ext hg1 hx2, .inr ⟨by omega, ⟨_, hr1.ext hx2⟩, rfl⟩⟩
      · cases hx
  · have HT := Lib.hid (RdTagged_at g l k m hm n hn _ _ _ _ ht w h)
    rw [hf] at hr
    simp only [Prod.mk.injEq] at hr
    obtain ⟨rfl, rfl, rfl⟩ := hr
    have hne : ((e0 : Int) != 0) = true := by rw [bne_iff_ne]; omega
    have HE := Lib.hid he0
    clear hf ht hm hml he0
    go_enter Tryd.func71, Tryd.ntmps71
    go_wp2_with fail
    refine HT.out.mono ?_
    rintro e w1 ⟨p, rfl, hg1, hr1, ⟨_, rfl⟩ | ⟨x, g', hx, _⟩⟩
    · go_wp2_with fail
      exact ⟨rfl, hg1, .inr ⟨HE.out, ⟨_, hr1⟩, rfl⟩⟩
    · cases hx
  · have HT := Lib.hid (RdTagged_at g l k m hm n hn _ _ _ _ ht w h)
    rw [hf] at hr
    simp only [Prod.mk.injEq] at hr
    obtain ⟨rfl, rfl, rfl⟩ := hr
    have HE := Lib.hid h1
    obtain ⟨v1, e1, u1, hrx⟩ : ∃ v1 e1 u1, readInF 48 x = (v1, e1, u1) := ⟨_, _, _, rfl⟩
    have he1 : (readInF 48 x).2.1 = e1 := by rw [hrx]
    have HRI := Lib.hid (fun (W : World) (g' : Nat) => RdSequence_at g' x 0 x rfl _ _ _ hrx W)
    rw [he1] at HE ⊢
    clear hf ht hm hml h1 hm0 hrx he1
    go_enter Tryd.func71, Tryd.ntmps71
    go_wp2_with fail
    refine HT.out.mono ?_
    rintro e w1 ⟨p, rfl, hg1, hr1, ⟨hx, _⟩ | ⟨x1, g', hx, rfl, hB1, hr1'⟩⟩
    · cases hx
    · injection hx with hx
      subst hx
      go_wp2_with fail
      refine (HRI.out w1 g' hr1').mono ?_
      rintro e w2 ⟨p2, rfl, hg2, hr2', hin⟩
      go_wp2_with fail
      refine (nm_must_reader_no _ _ HE.out _).mono ?_
      unfold erp
      rintro e w3 ⟨rfl, rfl⟩
      go_wp2_with fail
      exact ⟨rfl, grown_new hg1 hg2 hB1, .inr ⟨HE.out, ⟨_, hr1.but hr1' (by omega) hg2⟩, rfl⟩⟩
  · have HT := Lib.hid (RdTagged_at g l k m hm n hn _ _ _ _ ht w h)
    rw [hf] at hr
    simp only [Prod.mk.injEq] at hr
    obtain ⟨rfl, rfl, rfl⟩ := hr
    have hrx : readInF 48 x = ((readInF 48 x).1, 0, (readInF 48 x).2.2) := triple_eta _ (by simpa using h1)
    obtain ⟨rn, hrn⟩ : ∃ rn, x.length - (0 + (readInF 48 x).2.2) = rn := ⟨_, rfl⟩
    have hrp : (0 : Int) < rn := by omega
    have HRI := Lib.hid (fun (W : World) (g' : Nat) => RdSequence_at g' x 0 x rfl _ _ _ hrx W)
    have HRN := Lib.hid hrn
    clear hf ht hm hml h1 hm0 hrx h2 hrn
    go_enter Tryd.func71, Tryd.ntmps71
    go_wp2_with fail
    refine HT.out.mono ?_
    rintro e w1 ⟨p, rfl, hg1, hr1, ⟨hx, _⟩ | ⟨x1, g', hx, rfl, hB1, hr1'⟩⟩
    · cases hx
    · injection hx with hx
      subst hx
      go_wp2_with fail
      refine (HRI.out w1 g' hr1').mono ?_
      rintro e w2 ⟨p2, rfl, hg2, hr2', hin⟩
      go_wp2_with fail
      refine (nm_must_reader_ok _ _).mono ?_
      rintro e w3 ⟨rfl, rfl⟩
      go_wp2_with fail
      refine (Left_at g' x _ w2 hr2').mono ?_
      rintro e w3 ⟨rfl, hx3⟩
      rw [HRN.out]
      go_wp2_with fail
      exact ⟨rfl, grown_ext (grown_new hg1 hg2 hB1) hx3, .inr ⟨by omega, ⟨_, (hr1.but hr1' (by omega) hg2).ext hx3⟩, rfl⟩⟩
  · have HT := Lib.hid (RdTagged_at g l k m hm n hn _ _ _ _ ht w h)
    rw [hf] at hr
    simp only [Prod.mk.injEq] at hr
    obtain ⟨rfl, rfl, rfl⟩ := hr
    have hrx : readInF 48 x = ((readInF 48 x).1, 0, (readInF 48 x).2.2) := triple_eta _ (by simpa using h1)
    obtain ⟨rn, hrn⟩ : ∃ rn, x.length - (0 + (readInF 48 x).2.2) = rn := ⟨_, rfl⟩
    have hrp : ¬ (0 : Int) < rn := by omega
    have HRI := Lib.hid (fun (W : World) (g' : Nat) => RdSequence_at g' x 0 x rfl _ _ _ hrx W)
    have HNN := Lib.hid (readIn_some 48 x (by simpa using h1))
    have HRN := Lib.hid hrn
    clear hf ht hm hml h1 hm0 hrx h2 hrn
    go_enter Tryd.func71, Tryd.ntmps71
    go_wp2_with fail
    refine HT.out.mono ?_
    rintro e w1 ⟨p, rfl, hg1, hr1, ⟨hx, _⟩ | ⟨x1, g', hx, rfl, hB1, hr1'⟩⟩
    · cases hx
    · injection hx with hx
      subst hx
      go_wp2_with fail
      refine (HRI.out w1 g' hr1').mono ?_
      rintro e w2 ⟨p2, rfl, hg2, hr2', hin⟩
      go_wp2_with fail
      refine (nm_must_reader_ok _ _).mono ?_
      rintro e w3 ⟨rfl, rfl⟩
      go_wp2_with fail
      refine (Left_at g' x _ w2 hr2').mono ?_
      rintro e w3 ⟨rfl, hx3⟩
      rw [HRN.out]
      go_wp2_with fail
      go_ret
      rcases hin with ⟨hv0, _⟩ | ⟨y, g2, hv, _, rfl, hB2, hry⟩
      · exact absurd hv0 HNN.out
      · exact ⟨grown_ext (grown_new hg1 hg2 hB1) hx3, .inl ⟨rfl, (hr1.but hr1' (by omega) hg2).ext hx3, _, rfl, y, g2, hv, rfl, Nat.le_trans hg1.size hB2, hry.ext hx3⟩⟩

end Go.Proofs.YtgclchdccgkjaaaDoor
