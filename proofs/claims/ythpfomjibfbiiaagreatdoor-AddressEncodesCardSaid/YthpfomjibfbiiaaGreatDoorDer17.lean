/- Tagged, must, end, field: they leave by a panic with an error, or hand back a value. -/
import Derived.Test.YthpfomjibfbiiaaGreatDoorMg38
import Derived.Test.YthpfomjibfbiiaaGreatDoorMg10
namespace Go.Proofs.YthpfomjibfbiiaaGreatDoor
open Go Go.RowKit

/-- A panic with an error's number. -/
def erp (er : Nat) : Ending := .panicked [{ v := .iface 31 (.int .i64 (er : Int)), recovered := false }]

set_option maxRecDepth 100000 in
theorem must_reader_ok (p : Value) (w : World) : Calls Tryz.prog 65 #[p, .int .i64 0] w fun e w' => e = .returned p ∧ w = w' := by
  go_enter Tryz.func65, Tryz.ntmps65
  go_wp2
  go_ret
  exact ⟨rfl, rfl⟩
set_option maxRecDepth 100000 in
theorem must_reader_no (p : Value) (er : Nat) (h : er ≠ 0) (w : World) : Calls Tryz.prog 65 #[p, .int .i64 (er : Int)] w fun e w' => e = erp er ∧ w = w' := by
  have hne : ((er : Int) != 0) = true := by rw [bne_iff_ne]; omega
  have H := Lib.hid h; clear h
  go_enter Tryz.func65, Tryz.ntmps65
  go_wp2
  exact ⟨rfl, rfl, rfl⟩

set_option maxRecDepth 100000 in
theorem end_ok (g : Nat) (l : List UInt8) (k : Nat) (hk : ¬ k < l.length) (w : World) (h : RD 72 w g l k) :
    Calls Tryz.prog 71 #[.pointer (some ⟨g, 0, none⟩)] w fun e w' => e = .returned (.tuple #[]) ∧ Ext w w' := by
  obtain ⟨n, hn⟩ : ∃ n, n = l.length - k := ⟨_, rfl⟩
  have h0 : ¬ (0 : Int) < n := by omega
  have HL := Lib.hid (Left_at g l k w h)
  have HN := Lib.hid hn; clear hn hk
  go_enter Tryz.func71, Tryz.ntmps71
  go_wp2_with fail
  refine HL.out.mono ?_
  rintro e w1 ⟨rfl, hx1⟩
  rw [← HN.out]
  go_wp2
  go_end0
  exact ⟨rfl, hx1⟩
set_option maxRecDepth 100000 in
theorem end_no (g : Nat) (l : List UInt8) (k : Nat) (hk : k < l.length) (w : World) (h : RD 72 w g l k) :
    Calls Tryz.prog 71 #[.pointer (some ⟨g, 0, none⟩)] w fun e w' => e = erp 6 ∧ Ext w w' := by
  obtain ⟨n, hn⟩ : ∃ n, n = l.length - k := ⟨_, rfl⟩
  have h0 : (0 : Int) < n := by omega
  have HL := Lib.hid (Left_at g l k w h)
  have HN := Lib.hid hn; clear hn hk
  go_enter Tryz.func71, Tryz.ntmps71
  go_wp2_with fail
  refine HL.out.mono ?_
  rintro e w1 ⟨rfl, hx1⟩
  rw [← HN.out]
  go_wp2
  exact ⟨rfl, rfl, hx1⟩

/-- What Tagged leaves. -/
def TagPost (w : World) (g : Nat) (l : List UInt8) (k : Nat) (v : Option (List UInt8)) (used : Nat) (p : Value) (w' : World) : Prop :=
  w.grownBy w' (some g) ∧ RD 72 w' g l (k + used) ∧ ((v = none ∧ p = .pointer none) ∨ ∃ x g', v = some x ∧ p = .pointer (some ⟨g', 0, none⟩) ∧ w.heap.size ≤ g' ∧ RD 72 w' g' x 0)

theorem first_cell {w : World} {A : Option Addr} {c : Nat} {m : List UInt8} (hb : BS w (.slice A m.length c) m) (hm : m ≠ []) : ∃ ad, A = some ad ∧ w.cell? ad = some (.int .u8 ((m[0]?.getD 0).toNat : Int)) := by
  obtain ⟨A', c', he, k1, k2, k3⟩ := hb.open_
  injection he with e1 _ e3
  subst e1; subst e3
  have hl : 0 < m.length := List.length_pos_iff.2 hm
  obtain ⟨ad, rfl, _, hc⟩ := k3 hl
  refine ⟨ad, rfl, ?_⟩
  have := hc 0 hl
  rw [show ad.add 0 = ad from rfl] at this
  rw [this, List.getElem?_eq_getElem hl]
  rfl

set_option maxRecDepth 100000 in
theorem Tagged_absent (g : Nat) (l : List UInt8) (k : Nat) (m : List UInt8) (hm : l.drop k = m) (n : Nat) (hn : n ≤ 30) (hr : m = [] ∨ m[0]?.getD 0 ≠ tagB n) (w : World) (h : RD 72 w g l k) :
    Calls Tryz.prog 91 #[.pointer (some ⟨g, 0, none⟩), .int .i64 (n : Int)] w fun e w' => e = .returned (.tuple #[.pointer none, .bool false, .int .i64 0]) ∧ Ext w w' := by
  obtain ⟨Ax, cx, hbx, k0, k1, k2, kf⟩ := h.cells
  have HM := Lib.hid hm; clear hm
  have hn0 : (0 : Int) ≤ n := by omega
  have hn1 : (n : Int) ≤ 30 := by omega
  by_cases hm0 : m = []
  · have hl0 : ((m.length : Int) == 0) = true := by rw [hm0]; rfl
    have HR := Lib.hid hr; clear hr hm0
    go_enter Tryz.func91, Tryz.ntmps91
    go_wp2_with fail
    refine (rest_at g l k m HM.out w h).mono ?_
    rintro e w1 ⟨A1, c1, rfl, hb1, hx1⟩
    go_wp2_with fail
    go_ret3
    exact ⟨rfl, hx1⟩
  · have hl0 : ((m.length : Int) == 0) = false := by simpa using hm0
    have hlp : (0 : Int) < m.length := by have := List.length_pos_iff.2 hm0; omega
    have hne : m[0]?.getD 0 ≠ tagB n := by rcases hr with h | h; exact absurd h hm0; exact h
    obtain ⟨x, hx⟩ : ∃ x : Int, x = ((m[0]?.getD 0).toNat : Int) := ⟨_, rfl⟩
    have hxn : (x != 160 + (n : Int)) = true := by
      rw [bne_iff_ne, hx]
      intro e
      apply hne
      apply UInt8.toNat_inj.1
      rw [tagB_nat n hn]
      omega
    have HM0 := Lib.hid hm0; have HX := Lib.hid hx
    clear hr hm0 hne hx
    go_enter Tryz.func91, Tryz.ntmps91
    go_wp2_with fail
    refine (rest_at g l k m HM.out w h).mono ?_
    rintro e w1 ⟨A1, c1, rfl, hb1, hx1⟩
    obtain ⟨ad, rfl, hc0⟩ := first_cell (hb1.ext hx1) HM0.out
    rw [← HX.out] at hc0
    go_wp2_with fail
    go_ret3
    exact ⟨rfl, hx1⟩

set_option maxRecDepth 100000 in
theorem Tagged_there (g : Nat) (l : List UInt8) (k : Nat) (m : List UInt8) (hm : l.drop k = m) (n : Nat) (hn : n ≤ 30) (hm0 : m ≠ []) (hr : m[0]?.getD 0 = tagB n) (v : Option (List UInt8)) (er used : Nat) (hrd : readInF (tagB n) m = (v, er, used)) (w : World) (h : RD 72 w g l k) :
    Calls Tryz.prog 91 #[.pointer (some ⟨g, 0, none⟩), .int .i64 (n : Int)] w fun e w' => ∃ p, e = .returned (.tuple #[p, .bool (decide (er = 0)), .int .i64 (er : Int)]) ∧ TagPost w g l k v used p w' := by
  obtain ⟨Ax, cx, hbx, k0, k1, k2, kf⟩ := h.cells
  have hRd := fun (W : World) (hW : RD 72 W g l k) => read_reader_at g l k (160 + (n : Int)) (tagB n) (by rw [tagB_nat n hn]; omega) m hm (takeF (tagB n) m).1 (takeF (tagB n) m).2.1 (takeF (tagB n) m).2.2 rfl _ _ W (contained_says _ _) hW
  have HRD := Lib.hid hRd
  have HR := Lib.hid hrd; clear hrd hRd
  have HM := Lib.hid hm; clear hm
  have hn0 : (0 : Int) ≤ n := by omega
  have hn1 : (n : Int) ≤ 30 := by omega
  have hl0 : ((m.length : Int) == 0) = false := by simpa using hm0
  have hlp : (0 : Int) < m.length := by have := List.length_pos_iff.2 hm0; omega
  obtain ⟨x, hx⟩ : ∃ x : Int, x = ((m[0]?.getD 0).toNat : Int) := ⟨_, rfl⟩
  have hxn : (x != 160 + (n : Int)) = false := by
    rw [bne_eq_false_iff_eq, hx, hr, tagB_nat n hn]
    omega
  have HM0 := Lib.hid hm0; have HX := Lib.hid hx
  clear hr hm0 hx
  go_enter Tryz.func91, Tryz.ntmps91
  go_wp2_with fail
  refine (rest_at g l k m HM.out w h).mono ?_
  rintro e w1 ⟨A1, c1, rfl, hb1, hx1⟩
  obtain ⟨ad, rfl, hc0⟩ := first_cell (hb1.ext hx1) HM0.out
  rw [← HX.out] at hc0
  have HX1 := Lib.hid hx1
  go_wp2_with fail
  refine (HRD.out w1 (h.ext hx1)).mono ?_
  have hr := HR.out
  unfold readInF readF at hr
  rintro e w2 ⟨hg, ⟨her, rfl, hr1⟩ | ⟨her, hok, rfl, hr1⟩ | ⟨her, hok, v', rfl, ⟨g', rfl, hB', hv⟩, hr1⟩⟩
  · rw [if_pos her] at hr
    simp only [Prod.mk.injEq] at hr
    obtain ⟨rfl, rfl, rfl⟩ := hr
    have hd0 : (((takeF (tagB n) m).2.1 : Int) == 0) = false := by rw [beq_eq_false_iff_ne]; omega
    have HE := Lib.hid her; clear her
    go_wp2_with fail
    go_ret3
    exact ⟨.pointer none, by simp [HE.out], grown_trans (HX1.out.but _) hg, hr1, .inl ⟨rfl, rfl⟩⟩
  · cases hok
  · rw [if_neg (by omega), if_pos rfl] at hr
    simp only [Prod.mk.injEq] at hr
    obtain ⟨rfl, rfl, rfl⟩ := hr
    clear hok
    go_wp2_with fail
    go_ret3
    exact ⟨_, rfl, grown_trans (HX1.out.but _) hg, hr1, .inr ⟨_, g', rfl, rfl, Nat.le_trans HX1.out.size hB', hv⟩⟩

/-- Tagged, in one: what it leaves. -/
theorem RdTagged_at (g : Nat) (l : List UInt8) (k : Nat) (m : List UInt8) (hm : l.drop k = m) (n : Nat) (hn : n ≤ 30) (v : Option (List UInt8)) (pr : Bool) (er used : Nat) (hr : taggedF n m = (v, pr, er, used)) (w : World) (h : RD 72 w g l k) :
    Calls Tryz.prog 91 #[.pointer (some ⟨g, 0, none⟩), .int .i64 (n : Int)] w fun e w' => ∃ p, e = .returned (.tuple #[p, .bool pr, .int .i64 (er : Int)]) ∧ TagPost w g l k v used p w' := by
  rcases tagged_cases n m with ⟨h1, h2⟩ | ⟨⟨h1, h2⟩, ⟨x, u, h3, h4, _⟩ | ⟨e0, h3, h4, h5⟩⟩
  · rw [h1] at hr
    simp only [Prod.mk.injEq] at hr
    obtain ⟨rfl, rfl, rfl, rfl⟩ := hr
    refine (Tagged_absent g l k m hm n hn h2 w h).mono ?_
    rintro e w' ⟨rfl, hx⟩
    exact ⟨_, rfl, hx.but _, h.ext hx, .inl ⟨rfl, rfl⟩⟩
  · rw [h3] at hr
    simp only [Prod.mk.injEq] at hr
    obtain ⟨rfl, rfl, rfl, rfl⟩ := hr
    refine (Tagged_there g l k m hm n hn h1 h2 _ _ _ h4 w h).mono ?_
    rintro e w' ⟨p, rfl, hp⟩
    exact ⟨p, rfl, hp⟩
  · rw [h4] at hr
    simp only [Prod.mk.injEq] at hr
    obtain ⟨rfl, rfl, rfl, rfl⟩ := hr
    refine (Tagged_there g l k m hm n hn h1 h2 _ _ _ h5 w h).mono ?_
    rintro e w' ⟨p, rfl, hp⟩
    exact ⟨p, by rw [decide_eq_false h3], hp⟩
theorem grown_new {a b c : World} {g : Option Nat} {g' : Nat} (h : a.grownBy b g) (k : b.grownBy c (some g')) (hl : a.heap.size ≤ g') : a.grownBy c g :=
  ⟨k.os.trans h.os, k.tape.trans h.tape, k.output.trans h.output, Nat.le_trans h.size k.size, fun j hj hne => by
    have h1 := h.block j hj hne
    exact (k.block j (Nat.lt_of_lt_of_le hj h.size) (by intro e; cases e; omega)).trans h1⟩

/-- What a field leaves: its value, or a panic with the error. -/
def FieldPost (w : World) (g : Nat) (l : List UInt8) (k er used : Nat) (V : Value → World → Prop) (e : Ending) (w' : World) : Prop :=
  w.grownBy w' (some g) ∧ ((er = 0 ∧ RD 72 w' g l (k + used) ∧ ∃ v, e = .returned v ∧ V v w') ∨ (er ≠ 0 ∧ (∃ k', RD 72 w' g l k') ∧ e = erp er))
set_option maxRecDepth 100000 in
theorem must_int_ok (p : Value) (w : World) : Calls Tryz.prog 92 #[p, .int .i64 0] w fun e w' => e = .returned p ∧ w = w' := by
  go_enter Tryz.func92, Tryz.ntmps92
  go_wp2
  go_ret
  exact ⟨rfl, rfl⟩
set_option maxRecDepth 100000 in
theorem must_int_no (p : Value) (er : Nat) (h : er ≠ 0) (w : World) : Calls Tryz.prog 92 #[p, .int .i64 (er : Int)] w fun e w' => e = erp er ∧ w = w' := by
  have hne : ((er : Int) != 0) = true := by rw [bne_iff_ne]; omega
  have H := Lib.hid h; clear h
  go_enter Tryz.func92, Tryz.ntmps92
  go_wp2
  exact ⟨rfl, rfl, rfl⟩
set_option maxRecDepth 100000 in
theorem must_bytes_ok (p : Value) (w : World) : Calls Tryz.prog 95 #[p, .int .i64 0] w fun e w' => e = .returned p ∧ w = w' := by
  go_enter Tryz.func95, Tryz.ntmps95
  go_wp2
  go_ret
  exact ⟨rfl, rfl⟩
set_option maxRecDepth 100000 in
theorem must_bytes_no (p : Value) (er : Nat) (h : er ≠ 0) (w : World) : Calls Tryz.prog 95 #[p, .int .i64 (er : Int)] w fun e w' => e = erp er ∧ w = w' := by
  have hne : ((er : Int) != 0) = true := by rw [bne_iff_ne]; omega
  have H := Lib.hid h; clear h
  go_enter Tryz.func95, Tryz.ntmps95
  go_wp2
  exact ⟨rfl, rfl, rfl⟩

set_option maxRecDepth 100000 in
set_option maxHeartbeats 1000000 in
theorem field_int_at (g : Nat) (l : List UInt8) (k : Nat) (m : List UInt8) (hm : l.drop k = m) (n : Nat) (hn : n ≤ 30) (v : Int) (er used : Nat) (hr : fieldF 0 readIntF n m = (v, er, used)) (w : World) (h : RD 72 w g l k) :
    Calls Tryz.prog 67 #[.pointer (some ⟨g, 0, none⟩), .int .i64 (n : Int), .func (.func 68) #[] #[]] w (FieldPost w g l k er used (fun V _ => V = .int .i64 v)) := by
  have hml : l.length - k = m.length := by rw [← hm]; simp
  have hgl := h.lt
  rcases field_cases (0 : Int) readIntF n m with ⟨ht, hf⟩ | ⟨e0, he0, ht, hf⟩ | ⟨x, u, ht, hl, hrd, hm0, ⟨h1, hf⟩ | ⟨h1, h2, hf⟩ | ⟨h1, h2, hf⟩⟩
  · have HT := Lib.hid (RdTagged_at g l k m hm n hn _ _ _ _ ht w h)
    rw [hf] at hr
    simp only [Prod.mk.injEq] at hr
    obtain ⟨rfl, rfl, rfl⟩ := hr
    have HML := Lib.hid hml
    by_cases hm0 : m = []
    · have hl0 : ((m.length : Int) == 0) = true := by rw [hm0]; rfl
      rw [if_pos hm0]
      clear hf ht hm hml hm0
      go_enter Tryz.func67, Tryz.ntmps67
      go_wp2_with fail
      refine HT.out.mono ?_
      rintro e w1 ⟨p, rfl, hg1, hr1, ⟨_, rfl⟩ | ⟨x, g', hx, _⟩⟩
      · go_wp2_with fail
        refine (Left_at g l _ w1 hr1).mono ?_
        rintro e w2 ⟨rfl, hx2⟩
        rw [Nat.add_zero, HML.out]
        go_wp2_with fail
        exact ⟨rfl, grown_ext hg1 hx2, .inr ⟨by omega, ⟨_, hr1.ext hx2⟩, rfl⟩⟩
      · cases hx
    · have hl0 : ((m.length : Int) == 0) = false := by simpa using hm0
      rw [if_neg hm0]
      clear hf ht hm hml hm0
      go_enter Tryz.func67, Tryz.ntmps67
      go_wp2_with fail
      refine HT.out.mono ?_
      rintro e w1 ⟨p, rfl, hg1, hr1, ⟨_, rfl⟩ | ⟨x, g', hx, _⟩⟩
      · go_wp2_with fail
        refine (Left_at g l _ w1 hr1).mono ?_
        rintro e w2 ⟨rfl, hx2⟩
        rw [Nat.add_zero, HML.out]
        go_wp2_with fail
        exact ⟨rfl, grown_ext hg1 hx2, .inr ⟨by omega, ⟨_, hr1.ext hx2⟩, rfl⟩⟩
      · cases hx
  · have HT := Lib.hid (RdTagged_at g l k m hm n hn _ _ _ _ ht w h)
    rw [hf] at hr
    simp only [Prod.mk.injEq] at hr
    obtain ⟨rfl, rfl, rfl⟩ := hr
    have hne : ((e0 : Int) != 0) = true := by rw [bne_iff_ne]; omega
    have HE := Lib.hid he0
    clear hf ht hm hml he0
    go_enter Tryz.func67, Tryz.ntmps67
    go_wp2_with fail
    refine HT.out.mono ?_
    rintro e w1 ⟨p, rfl, hg1, hr1, ⟨_, rfl⟩ | ⟨x, g', hx, _⟩⟩
    · go_wp2_with fail
      exact ⟨rfl, hg1, .inr ⟨HE.out, ⟨_, hr1⟩, rfl⟩⟩
    · cases hx
  · have HT := Lib.hid (RdTagged_at g l k m hm n hn _ _ _ _ ht w h)
    rw [hf] at hr
    simp only [Prod.mk.injEq] at hr
    obtain ⟨rfl, rfl, rfl⟩ := hr
    have HE := Lib.hid h1
    obtain ⟨v1, e1, u1, hrx⟩ : ∃ v1 e1 u1, readIntF x = (v1, e1, u1) := ⟨_, _, _, rfl⟩
    have he1 : (readIntF x).2.1 = e1 := by rw [hrx]
    have HRI := Lib.hid (fun (W : World) (g' : Nat) => RdInteger_at g' x 0 x rfl _ _ _ hrx W)
    rw [he1] at HE ⊢
    clear hf ht hm hml h1 hm0 hrx he1
    go_enter Tryz.func67, Tryz.ntmps67
    go_wp2_with fail
    refine HT.out.mono ?_
    rintro e w1 ⟨p, rfl, hg1, hr1, ⟨hx, _⟩ | ⟨x1, g', hx, rfl, hB1, hr1'⟩⟩
    · cases hx
    · injection hx with hx
      subst hx
      go_wp2_with fail
      refine (HRI.out w1 g' hr1').mono ?_
      rintro e w2 ⟨rfl, hr2', hg2⟩
      go_wp2_with fail
      refine (must_int_no _ _ HE.out _).mono ?_
      unfold erp
      rintro e w3 ⟨rfl, rfl⟩
      go_wp2_with fail
      exact ⟨rfl, grown_new hg1 hg2 hB1, .inr ⟨HE.out, ⟨_, hr1.but hr1' (by omega) hg2⟩, rfl⟩⟩
  · have HT := Lib.hid (RdTagged_at g l k m hm n hn _ _ _ _ ht w h)
    rw [hf] at hr
    simp only [Prod.mk.injEq] at hr
    obtain ⟨rfl, rfl, rfl⟩ := hr
    have hrx : readIntF x = ((readIntF x).1, 0, (readIntF x).2.2) := triple_eta _ (by simpa using h1)
    have HRI := Lib.hid (fun (W : World) (g' : Nat) => RdInteger_at g' x 0 x rfl _ _ _ hrx W)
    have H2 := Lib.hid h2
    clear hf ht hm hml h1 hm0 hrx h2
    go_enter Tryz.func67, Tryz.ntmps67
    go_wp2_with fail
    refine HT.out.mono ?_
    rintro e w1 ⟨p, rfl, hg1, hr1, ⟨hx, _⟩ | ⟨x1, g', hx, rfl, hB1, hr1'⟩⟩
    · cases hx
    · injection hx with hx
      subst hx
      go_wp2_with fail
      refine (HRI.out w1 g' hr1').mono ?_
      rintro e w2 ⟨rfl, hr2', hg2⟩
      go_wp2_with fail
      refine (must_int_ok _ _).mono ?_
      rintro e w3 ⟨rfl, rfl⟩
      go_wp2_with fail
      refine (end_no g' x _ (by rw [Nat.zero_add]; exact H2.out) _ hr2').mono ?_
      unfold erp
      rintro e w3 ⟨rfl, hx3⟩
      go_wp2_with fail
      exact ⟨rfl, grown_ext (grown_new hg1 hg2 hB1) hx3, .inr ⟨by omega, ⟨_, (hr1.but hr1' (by omega) hg2).ext hx3⟩, rfl⟩⟩
  · have HT := Lib.hid (RdTagged_at g l k m hm n hn _ _ _ _ ht w h)
    rw [hf] at hr
    simp only [Prod.mk.injEq] at hr
    obtain ⟨rfl, rfl, rfl⟩ := hr
    have hrx : readIntF x = ((readIntF x).1, 0, (readIntF x).2.2) := triple_eta _ (by simpa using h1)
    have HRI := Lib.hid (fun (W : World) (g' : Nat) => RdInteger_at g' x 0 x rfl _ _ _ hrx W)
    have H2 := Lib.hid h2
    clear hf ht hm hml h1 hm0 hrx h2
    go_enter Tryz.func67, Tryz.ntmps67
    go_wp2_with fail
    refine HT.out.mono ?_
    rintro e w1 ⟨p, rfl, hg1, hr1, ⟨hx, _⟩ | ⟨x1, g', hx, rfl, hB1, hr1'⟩⟩
    · cases hx
    · injection hx with hx
      subst hx
      go_wp2_with fail
      refine (HRI.out w1 g' hr1').mono ?_
      rintro e w2 ⟨rfl, hr2', hg2⟩
      go_wp2_with fail
      refine (must_int_ok _ _).mono ?_
      rintro e w3 ⟨rfl, rfl⟩
      go_wp2_with fail
      refine (end_ok g' x _ (by rw [Nat.zero_add]; exact H2.out) _ hr2').mono ?_
      rintro e w3 ⟨rfl, hx3⟩
      go_wp2_with fail
      go_ret
      exact ⟨grown_ext (grown_new hg1 hg2 hB1) hx3, .inl ⟨rfl, (hr1.but hr1' (by omega) hg2).ext hx3, _, rfl, rfl⟩⟩
end Go.Proofs.YthpfomjibfbiiaaGreatDoor
