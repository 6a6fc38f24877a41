/- Lifetimes: must and field. -/
import Derived.Test.YtfgmmjpejlpdoaaGreatDoorDer17
import Derived.Test.YtfgmmjpejlpdoaaGreatDoorPureAll
namespace Go.Proofs.YtfgmmjpejlpdoaaGreatDoor
open Go Go.RowKit
set_option linter.unusedVariables false

set_option maxRecDepth 100000 in
theorem lt_must_reader_ok (p : Value) (w : World) : Calls Tryz.prog 49 #[p, .int .i64 0] w fun e w' => e = .returned p ∧ w = w' := by
  go_enter Tryz.func49, Tryz.ntmps49
  go_wp2
  go_ret
  exact ⟨rfl, rfl⟩
set_option maxRecDepth 100000 in
theorem lt_must_reader_no (p : Value) (er : Nat) (h : er ≠ 0) (w : World) : Calls Tryz.prog 49 #[p, .int .i64 (er : Int)] w fun e w' => e = erp er ∧ w = w' := by
  have hne : ((er : Int) != 0) = true := by rw [bne_iff_ne]; omega
  have H := Lib.hid h; clear h
  go_enter Tryz.func49, Tryz.ntmps49
  go_wp2
  exact ⟨rfl, rfl, rfl⟩
set_option maxRecDepth 100000 in
theorem lt_must_int_ok (p : Value) (w : World) : Calls Tryz.prog 74 #[p, .int .i64 0] w fun e w' => e = .returned p ∧ w = w' := by
  go_enter Tryz.func74, Tryz.ntmps74
  go_wp2
  go_ret
  exact ⟨rfl, rfl⟩
set_option maxRecDepth 100000 in
theorem lt_must_int_no (p : Value) (er : Nat) (h : er ≠ 0) (w : World) : Calls Tryz.prog 74 #[p, .int .i64 (er : Int)] w fun e w' => e = erp er ∧ w = w' := by
  have hne : ((er : Int) != 0) = true := by rw [bne_iff_ne]; omega
  have H := Lib.hid h; clear h
  go_enter Tryz.func74, Tryz.ntmps74
  go_wp2
  exact ⟨rfl, rfl, rfl⟩

set_option maxRecDepth 100000 in
set_option maxHeartbeats 1000000 in
theorem lt_field_at (nd : Bool) (g : Nat) (l : List UInt8) (k : Nat) (m : List UInt8) (hm : l.drop k = m) (n : Nat) (hn : n ≤ 30) (hnd : nd = true ∨ taggedF n m ≠ (none, false, 0, 0)) (v : Int) (er used : Nat) (hr : fieldF 0 readTimeF n m = (v, er, used)) (w : World) (h : RD 94 w g l k) :
    Calls Tryz.prog 51 #[.pointer (some ⟨g, 0, none⟩), .int .i64 (n : Int), .bool nd, .func (.func 52) #[] #[]] w (FieldPost w g l k er used (fun V _ => V = .tuple #[.int .i64 v, .bool true])) := by
  have hml : l.length - k = m.length := by rw [← hm]; simp
  have hgl := h.lt
  rcases field_cases (0 : Int) readTimeF n m with ⟨ht, hf⟩ | ⟨e0, he0, ht, hf⟩ | ⟨x, u, ht, hl, hrd, hm0, ⟨h1, hf⟩ | ⟨h1, h2, hf⟩ | ⟨h1, h2, hf⟩⟩
  · have hndt : nd = true := by
      rcases hnd with h | h
      · exact h
      · exact absurd ht h
    subst hndt
    clear hnd
    have HT := Lib.hid (RdTagged_at g l k m hm n hn _ _ _ _ ht w h)
    rw [hf] at hr
    simp only [Prod.mk.injEq] at hr
    obtain ⟨rfl, rfl, rfl⟩ := hr
    have HML := Lib.hid hml
    by_cases hm0 : m = []
    · have hl0 : ((m.length : Int) == 0) = true := by rw [hm0]; rfl
      rw [if_pos hm0]
      clear hf ht hm hml hm0
      go_enter Tryz.func51, Tryz.ntmps51
      go_wp2_with fail
      refine HT.out.mono ?_
      rintro e w1 ⟨p, rfl, hg1, hr1, ⟨_, rfl⟩ | ⟨x, g', hx, _⟩⟩
      · go_wp2_with fail
        refine (Left_at g l _ w1 hr1).mono ?_
        rintro e w2 ⟨rfl, hx2⟩
        rw [Nat.add_zero, HML.out]
        go_wp2_with fail
        exact ⟨rfl, grown_ext hg1 hx2, .inr ⟨by omega, ⟨_, hr1.ext hx2⟩, rfl⟩⟩
      · cases hx
    · have hl0 : ((m.length : Int) == 0) = false := by simpa using hm0
      rw [if_neg hm0]
      clear hf ht hm hml hm0
      go_enter Tryz.func51, Tryz.ntmps51
      go_wp2_with fail
      refine HT.out.mono ?_
      rintro e w1 ⟨p, rfl, hg1, hr1, ⟨_, rfl⟩ | ⟨x, g', hx, _⟩⟩
      · go_wp2_with fail
        refine (Left_at g l _ w1 hr1).mono ?_
        rintro e w2 ⟨rfl, hx2⟩
        rw [Nat.add_zero, HML.out]
        go_wp2_with fail
        exact ⟨rfl, grown_ext hg1 hx2, .inr ⟨by omega, ⟨_, hr1.ext hx2⟩, rfl⟩⟩
      · cases hx
  all_goals clear hnd
  · have HT := Lib.hid (RdTagged_at g l k m hm n hn _ _ _ _ ht w h)
    rw [hf] at hr
    simp only [Prod.mk.injEq] at hr
    obtain ⟨rfl, rfl, rfl⟩ := hr
    have hne : ((e0 : Int) != 0) = true := by rw [bne_iff_ne]; omega
    have HE := Lib.hid he0
    clear hf ht hm hml he0
    go_enter Tryz.func51, Tryz.ntmps51
    go_wp2_with fail
    refine HT.out.mono ?_
    rintro e w1 ⟨p, rfl, hg1, hr1, ⟨_, rfl⟩ | ⟨x, g', hx, _⟩⟩
    · go_wp2_with fail
      exact ⟨rfl, hg1, .inr ⟨HE.out, ⟨_, hr1⟩, rfl⟩⟩
    · cases hx
  · have HT := Lib.hid (RdTagged_at g l k m hm n hn _ _ _ _ ht w h)
    rw [hf] at hr
    simp only [Prod.mk.injEq] at hr
    obtain ⟨rfl, rfl, rfl⟩ := hr
    have HE := Lib.hid h1
    obtain ⟨v1, e1, u1, hrx⟩ : ∃ v1 e1 u1, readTimeF x = (v1, e1, u1) := ⟨_, _, _, rfl⟩
    have he1 : (readTimeF x).2.1 = e1 := by rw [hrx]
    have HRI := Lib.hid (fun (W : World) (g' : Nat) => RdTime_at g' x 0 x rfl _ _ _ hrx W)
    rw [he1] at HE ⊢
    clear hf ht hm hml h1 hm0 hrx he1
    go_enter Tryz.func51, Tryz.ntmps51
    go_wp2_with fail
    refine HT.out.mono ?_
    rintro e w1 ⟨p, rfl, hg1, hr1, ⟨hx, _⟩ | ⟨x1, g', hx, rfl, hB1, hr1'⟩⟩
    · cases hx
    · injection hx with hx
      subst hx
      go_wp2_with fail
      refine (HRI.out w1 g' hr1').mono ?_
      rintro e w2 ⟨rfl, hr2', hg2⟩
      go_wp2_with fail
      refine (lt_must_int_no _ _ HE.out _).mono ?_
      unfold erp
      rintro e w3 ⟨rfl, rfl⟩
      go_wp2_with fail
      exact ⟨rfl, grown_new hg1 hg2 hB1, .inr ⟨HE.out, ⟨_, hr1.but hr1' (by omega) hg2⟩, rfl⟩⟩
  · have HT := Lib.hid (RdTagged_at g l k m hm n hn _ _ _ _ ht w h)
    rw [hf] at hr
    simp only [Prod.mk.injEq] at hr
    obtain ⟨rfl, rfl, rfl⟩ := hr
    have hrx : readTimeF x = ((readTimeF x).1, 0, (readTimeF x).2.2) := triple_eta _ (by simpa using h1)
    obtain ⟨rn, hrn⟩ : ∃ rn, x.length - (0 + (readTimeF x).2.2) = rn := ⟨_, rfl⟩
    have hrp : (0 : Int) < rn := by omega
    have HRI := Lib.hid (fun (W : World) (g' : Nat) => RdTime_at g' x 0 x rfl _ _ _ hrx W)
    have HRN := Lib.hid hrn
    clear hf ht hm hml h1 hm0 hrx h2 hrn
    go_enter Tryz.func51, Tryz.ntmps51
    go_wp2_with fail
    refine HT.out.mono ?_
    rintro e w1 ⟨p, rfl, hg1, hr1, ⟨hx, _⟩ | ⟨x1, g', hx, rfl, hB1, hr1'⟩⟩
    · cases hx
    · injection hx with hx
      subst hx
      go_wp2_with fail
      refine (HRI.out w1 g' hr1').mono ?_
      rintro e w2 ⟨rfl, hr2', hg2⟩
      go_wp2_with fail
      refine (lt_must_int_ok _ _).mono ?_
      rintro e w3 ⟨rfl, rfl⟩
      go_wp2_with fail
      refine (Left_at g' x _ w2 hr2').mono ?_
      rintro e w3 ⟨rfl, hx3⟩
      rw [HRN.out]
      go_wp2_with fail
      exact ⟨rfl, grown_ext (grown_new hg1 hg2 hB1) hx3, .inr ⟨by omega, ⟨_, (hr1.but hr1' (by omega) hg2).ext hx3⟩, rfl⟩⟩
  · have HT := Lib.hid (RdTagged_at g l k m hm n hn _ _ _ _ ht w h)
    rw [hf] at hr
    simp only [Prod.mk.injEq] at hr
    obtain ⟨rfl, rfl, rfl⟩ := hr
    have hrx : readTimeF x = ((readTimeF x).1, 0, (readTimeF x).2.2) := triple_eta _ (by simpa using h1)
    obtain ⟨rn, hrn⟩ : ∃ rn, x.length - (0 + (readTimeF x).2.2) = rn := ⟨_, rfl⟩
    have hrp : ¬ (0 : Int) < rn := by omega
    have HRI := Lib.hid (fun (W : World) (g' : Nat) => RdTime_at g' x 0 x rfl _ _ _ hrx W)
    have HRN := Lib.hid hrn
    clear hf ht hm hml h1 hm0 hrx h2 hrn
    go_enter Tryz.func51, Tryz.ntmps51
    go_wp2_with fail
    refine HT.out.mono ?_
    rintro e w1 ⟨p, rfl, hg1, hr1, ⟨hx, _⟩ | ⟨x1, g', hx, rfl, hB1, hr1'⟩⟩
    · cases hx
    · injection hx with hx
      subst hx
      go_wp2_with fail
      refine (HRI.out w1 g' hr1').mono ?_
      rintro e w2 ⟨rfl, hr2', hg2⟩
      go_wp2_with fail
      refine (lt_must_int_ok _ _).mono ?_
      rintro e w3 ⟨rfl, rfl⟩
      go_wp2_with fail
      refine (Left_at g' x _ w2 hr2').mono ?_
      rintro e w3 ⟨rfl, hx3⟩
      rw [HRN.out]
      go_wp2_with fail
      go_ret2
      exact ⟨grown_ext (grown_new hg1 hg2 hB1) hx3, .inl ⟨rfl, (hr1.but hr1' (by omega) hg2).ext hx3, _, rfl, rfl⟩⟩

set_option maxRecDepth 100000 in
/-- The field that may be absent, and is. -/
theorem lt_field_absent (g : Nat) (l : List UInt8) (k : Nat) (m : List UInt8) (hm : l.drop k = m) (n : Nat) (hn : n ≤ 30) (ht : taggedF n m = (none, false, 0, 0)) (w : World) (h : RD 94 w g l k) :
    Calls Tryz.prog 51 #[.pointer (some ⟨g, 0, none⟩), .int .i64 (n : Int), .bool false, .func (.func 52) #[] #[]] w (FieldPost w g l k 0 0 (fun V _ => V = .tuple #[.int .i64 0, .bool false])) := by
  have HT := Lib.hid (RdTagged_at g l k m hm n hn _ _ _ _ ht w h)
  clear ht hm
  go_enter Tryz.func51, Tryz.ntmps51
  go_wp2_with fail
  refine HT.out.mono ?_
  rintro e w1 ⟨p, rfl, hg1, hr1, ⟨_, rfl⟩ | ⟨x, g', hx, _⟩⟩
  · go_wp2_with fail
    go_ret2
    exact ⟨hg1, .inl ⟨rfl, hr1, _, rfl, rfl⟩⟩
  · cases hx
end Go.Proofs.YtfgmmjpejlpdoaaGreatDoor
