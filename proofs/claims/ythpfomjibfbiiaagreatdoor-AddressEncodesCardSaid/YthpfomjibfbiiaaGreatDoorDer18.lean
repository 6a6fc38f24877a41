/- field at bytes. -/
import Derived.Test.YthpfomjibfbiiaaGreatDoorDer17
namespace Go.Proofs.YthpfomjibfbiiaaGreatDoor
open Go Go.RowKit

set_option maxRecDepth 100000 in
set_option maxHeartbeats 1000000 in
theorem field_bytes_at (g : Nat) (l : List UInt8) (k : Nat) (m : List UInt8) (hm : l.drop k = m) (n : Nat) (hn : n ≤ 30) (v : List UInt8) (er used : Nat) (hr : fieldF [] readOctetsF n m = (v, er, used)) (hl0 : m.length ≤ 140737488355328) (w : World) (h : RD 72 w g l k) :
    Calls Tryz.prog 69 #[.pointer (some ⟨g, 0, none⟩), .int .i64 (n : Int), .func (.func 70) #[] #[]] w (FieldPost w g l k er used (fun V W => ∃ A c, V = .slice A v.length c ∧ OB 5 W w.heap.size (.slice A v.length c) v)) := by
  have hml : l.length - k = m.length := by rw [← hm]; simp
  have hgl := h.lt
  rcases field_cases ([] : List UInt8) readOctetsF n m with ⟨ht, hf⟩ | ⟨e0, he0, ht, hf⟩ | ⟨x, u, ht, hl, hrd, hm0, ⟨h1, hf⟩ | ⟨h1, h2, hf⟩ | ⟨h1, h2, hf⟩⟩
  · have HT := Lib.hid (RdTagged_at g l k m hm n hn _ _ _ _ ht w h)
    rw [hf] at hr
    simp only [Prod.mk.injEq] at hr
    obtain ⟨rfl, rfl, rfl⟩ := hr
    have HML := Lib.hid hml
    by_cases hm0 : m = []
    · have hl0 : ((m.length : Int) == 0) = true := by rw [hm0]; rfl
      rw [if_pos hm0]
      clear hf ht hm hml hm0
      go_enter Tryz.func69, Tryz.ntmps69
      go_wp2_with fail
      refine HT.out.mono ?_
      rintro e w1 ⟨p, rfl, hg1, hr1, ⟨_, rfl⟩ | ⟨x, g', hx, _⟩⟩
      · go_wp2_with fail
        refine (Left_at g l _ w1 hr1).mono ?_
        rintro e w2 ⟨rfl, hx2⟩
        rw [Nat.add_zero, HML.out]
        go_wp2_with fail
        exact ⟨rfl, grown_ext hg1 hx2, .inr ⟨by omega, ⟨_, hr1.ext hx2⟩, rfl⟩⟩
      · cases hx
    · have hl0 : ((m.length : Int) == 0) = false := by simpa using hm0
      rw [if_neg hm0]
      clear hf ht hm hml hm0
      go_enter Tryz.func69, Tryz.ntmps69
      go_wp2_with fail
      refine HT.out.mono ?_
      rintro e w1 ⟨p, rfl, hg1, hr1, ⟨_, rfl⟩ | ⟨x, g', hx, _⟩⟩
      · go_wp2_with fail
        refine (Left_at g l _ w1 hr1).mono ?_
        rintro e w2 ⟨rfl, hx2⟩
        rw [Nat.add_zero, HML.out]
        go_wp2_with fail
        exact ⟨rfl, grown_ext hg1 hx2, .inr ⟨by omega, ⟨_, hr1.ext hx2⟩, rfl⟩⟩
      · cases hx
  · have HT := Lib.hid (RdTagged_at g l k m hm n hn _ _ _ _ ht w h)
    rw [hf] at hr
    simp only [Prod.mk.injEq] at hr
    obtain ⟨rfl, rfl, rfl⟩ := hr
    have hne : ((e0 : Int) != 0) = true := by rw [bne_iff_ne]; omega
    have HE := Lib.hid he0
    clear hf ht hm hml he0
    go_enter Tryz.func69, Tryz.ntmps69
    go_wp2_with fail
    refine HT.out.mono ?_
    rintro e w1 ⟨p, rfl, hg1, hr1, ⟨_, rfl⟩ | ⟨x, g', hx, _⟩⟩
    · go_wp2_with fail
      exact ⟨rfl, hg1, .inr ⟨HE.out, ⟨_, hr1⟩, rfl⟩⟩
    · cases hx
  · have HT := Lib.hid (RdTagged_at g l k m hm n hn _ _ _ _ ht w h)
    rw [hf] at hr
    simp only [Prod.mk.injEq] at hr
    obtain ⟨rfl, rfl, rfl⟩ := hr
    have HE := Lib.hid h1
    obtain ⟨v1, e1, u1, hrx⟩ : ∃ v1 e1 u1, readOctetsF x = (v1, e1, u1) := ⟨_, _, _, rfl⟩
    have he1 : (readOctetsF x).2.1 = e1 := by rw [hrx]
    have HRI := Lib.hid (fun (W : World) (g' : Nat) => RdOctets_at g' x 0 x rfl _ _ _ hrx (Nat.le_trans hl hl0) W)
    rw [he1] at HE ⊢
    clear hf ht hm hml h1 hm0 hrx he1
    go_enter Tryz.func69, Tryz.ntmps69
    go_wp2_with fail
    refine HT.out.mono ?_
    rintro e w1 ⟨p, rfl, hg1, hr1, ⟨hx, _⟩ | ⟨x1, g', hx, rfl, hB1, hr1'⟩⟩
    · cases hx
    · injection hx with hx
      subst hx
      go_wp2_with fail
      refine (HRI.out w1 g' hr1').mono ?_
      rintro e w2 ⟨A2, c2, rfl, hob2, hr2', hg2⟩
      go_wp2_with fail
      refine (must_bytes_no _ _ HE.out _).mono ?_
      unfold erp
      rintro e w3 ⟨rfl, rfl⟩
      go_wp2_with fail
      exact ⟨rfl, grown_new hg1 hg2 hB1, .inr ⟨HE.out, ⟨_, hr1.but hr1' (by omega) hg2⟩, rfl⟩⟩
  · have HT := Lib.hid (RdTagged_at g l k m hm n hn _ _ _ _ ht w h)
    rw [hf] at hr
    simp only [Prod.mk.injEq] at hr
    obtain ⟨rfl, rfl, rfl⟩ := hr
    have hrx : readOctetsF x = ((readOctetsF x).1, 0, (readOctetsF x).2.2) := triple_eta _ (by simpa using h1)
    have HRI := Lib.hid (fun (W : World) (g' : Nat) => RdOctets_at g' x 0 x rfl _ _ _ hrx (Nat.le_trans hl hl0) W)
    have H2 := Lib.hid h2
    clear hf ht hm hml h1 hm0 hrx h2
    go_enter Tryz.func69, Tryz.ntmps69
    go_wp2_with fail
    refine HT.out.mono ?_
    rintro e w1 ⟨p, rfl, hg1, hr1, ⟨hx, _⟩ | ⟨x1, g', hx, rfl, hB1, hr1'⟩⟩
    · cases hx
    · injection hx with hx
      subst hx
      go_wp2_with fail
      refine (HRI.out w1 g' hr1').mono ?_
      rintro e w2 ⟨A2, c2, rfl, hob2, hr2', hg2⟩
      go_wp2_with fail
      refine (must_bytes_ok _ _).mono ?_
      rintro e w3 ⟨rfl, rfl⟩
      go_wp2_with fail
      refine (end_no g' x _ (by rw [Nat.zero_add]; exact H2.out) _ hr2').mono ?_
      unfold erp
      rintro e w3 ⟨rfl, hx3⟩
      go_wp2_with fail
      exact ⟨rfl, grown_ext (grown_new hg1 hg2 hB1) hx3, .inr ⟨by omega, ⟨_, (hr1.but hr1' (by omega) hg2).ext hx3⟩, rfl⟩⟩
  · have HT := Lib.hid (RdTagged_at g l k m hm n hn _ _ _ _ ht w h)
    rw [hf] at hr
    simp only [Prod.mk.injEq] at hr
    obtain ⟨rfl, rfl, rfl⟩ := hr
    have hrx : readOctetsF x = ((readOctetsF x).1, 0, (readOctetsF x).2.2) := triple_eta _ (by simpa using h1)
    have HRI := Lib.hid (fun (W : World) (g' : Nat) => RdOctets_at g' x 0 x rfl _ _ _ hrx (Nat.le_trans hl hl0) W)
    have H2 := Lib.hid h2
    clear hf ht hm hml h1 hm0 hrx h2
    go_enter Tryz.func69, Tryz.ntmps69
    go_wp2_with fail
    refine HT.out.mono ?_
    rintro e w1 ⟨p, rfl, hg1, hr1, ⟨hx, _⟩ | ⟨x1, g', hx, rfl, hB1, hr1'⟩⟩
    · cases hx
    · injection hx with hx
      subst hx
      go_wp2_with fail
      refine (HRI.out w1 g' hr1').mono ?_
      rintro e w2 ⟨A2, c2, rfl, hob2, hr2', hg2⟩
      go_wp2_with fail
      refine (must_bytes_ok _ _).mono ?_
      rintro e w3 ⟨rfl, rfl⟩
      go_wp2_with fail
      refine (end_ok g' x _ (by rw [Nat.zero_add]; exact H2.out) _ hr2').mono ?_
      rintro e w3 ⟨rfl, hx3⟩
      go_wp2_with fail
      go_ret
      exact ⟨grown_ext (grown_new hg1 hg2 hB1) hx3, .inl ⟨rfl, (hr1.but hr1' (by omega) hg2).ext hx3, _, rfl, A2, c2, rfl, (hob2.mono hg1.size).ext hx3⟩⟩
end Go.Proofs.YthpfomjibfbiiaaGreatDoor
