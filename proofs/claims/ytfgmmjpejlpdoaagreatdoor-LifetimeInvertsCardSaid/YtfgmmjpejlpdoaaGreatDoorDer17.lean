/- Tagged, must, end, field: they leave by a panic with an error, or hand back a value. -/
import Derived.Test.YtfgmmjpejlpdoaaGreatDoorDer12
import Derived.Test.YtfgmmjpejlpdoaaGreatDoorPureAll
namespace Go.Proofs.YtfgmmjpejlpdoaaGreatDoor
open Go Go.RowKit

/-- A panic with an error's number. -/
def erp (er : Nat) : Ending := .panicked [{ v := .iface 27 (.int .i64 (er : Int)), recovered := false }]

/-- What Tagged leaves. -/
def TagPost (w : World) (g : Nat) (l : List UInt8) (k : Nat) (v : Option (List UInt8)) (used : Nat) (p : Value) (w' : World) : Prop :=
  w.grownBy w' (some g) ∧ RD 94 w' g l (k + used) ∧ ((v = none ∧ p = .pointer none) ∨ ∃ x g', v = some x ∧ p = .pointer (some ⟨g', 0, none⟩) ∧ w.heap.size ≤ g' ∧ RD 94 w' g' x 0)

theorem first_cell {w : World} {A : Option Addr} {c : Nat} {m : List UInt8} (hb : BS w (.slice A m.length c) m) (hm : m ≠ []) : ∃ ad, A = some ad ∧ w.cell? ad = some (.int .u8 ((m[0]?.getD 0).toNat : Int)) := by
  obtain ⟨A', c', he, k1, k2, k3⟩ := hb.open_
  injection he with e1 _ e3
  subst e1; subst e3
  have hl : 0 < m.length := List.length_pos_iff.2 hm
  obtain ⟨ad, rfl, _, hc⟩ := k3 hl
  refine ⟨ad, rfl, ?_⟩
  have := hc 0 hl
  rw [show ad.add 0 = ad from rfl] at this
  rw [this, List.getElem?_eq_getElem hl]
  rfl

set_option maxRecDepth 100000 in
theorem Tagged_absent (g : Nat) (l : List UInt8) (k : Nat) (m : List UInt8) (hm : l.drop k = m) (n : Nat) (hn : n ≤ 30) (hr : m = [] ∨ m[0]?.getD 0 ≠ tagB n) (w : World) (h : RD 94 w g l k) :
    Calls Tryz.prog 73 #[.pointer (some ⟨g, 0, none⟩), .int .i64 (n : Int)] w fun e w' => e = .returned (.tuple #[.pointer none, .bool false, .int .i64 0]) ∧ Ext w w' := by
  obtain ⟨Ax, cx, hbx, k0, k1, k2, kf⟩ := h.cells
  have HM := Lib.hid hm; clear hm
  have hn0 : (0 : Int) ≤ n := by omega
  have hn1 : (n : Int) ≤ 30 := by omega
  by_cases hm0 : m = []
  · have hl0 : ((m.length : Int) == 0) = true := by rw [hm0]; rfl
    have HR := Lib.hid hr; clear hr hm0
    go_enter Tryz.func73, Tryz.ntmps73
    go_wp2_with fail
    refine (rest_at g l k m HM.out w h).mono ?_
    rintro e w1 ⟨A1, c1, rfl, hb1, hx1⟩
    go_wp2_with fail
    go_ret3
    exact ⟨rfl, hx1⟩
  · have hl0 : ((m.length : Int) == 0) = false := by simpa using hm0
    have hlp : (0 : Int) < m.length := by have := List.length_pos_iff.2 hm0; omega
    have hne : m[0]?.getD 0 ≠ tagB n := by rcases hr with h | h; exact absurd h hm0; exact h
    obtain ⟨x, hx⟩ : ∃ x : Int, x = ((m[0]?.getD 0).toNat : Int) := ⟨_, rfl⟩
    have hxn : (x != 160 + (n : Int)) = true := by
      rw [bne_iff_ne, hx]
      intro e
      apply hne
      apply UInt8.toNat_inj.1
      rw [tagB_nat n hn]
      omega
    have HM0 := Lib.hid hm0; have HX := Lib.hid hx
    clear hr hm0 hne hx
    go_enter Tryz.func73, Tryz.ntmps73
    go_wp2_with fail
    refine (rest_at g l k m HM.out w h).mono ?_
    rintro e w1 ⟨A1, c1, rfl, hb1, hx1⟩
    obtain ⟨ad, rfl, hc0⟩ := first_cell (hb1.ext hx1) HM0.out
    rw [← HX.out] at hc0
    go_wp2_with fail
    go_ret3
    exact ⟨rfl, hx1⟩

set_option maxRecDepth 100000 in
theorem Tagged_there (g : Nat) (l : List UInt8) (k : Nat) (m : List UInt8) (hm : l.drop k = m) (n : Nat) (hn : n ≤ 30) (hm0 : m ≠ []) (hr : m[0]?.getD 0 = tagB n) (v : Option (List UInt8)) (er used : Nat) (hrd : readInF (tagB n) m = (v, er, used)) (w : World) (h : RD 94 w g l k) :
    Calls Tryz.prog 73 #[.pointer (some ⟨g, 0, none⟩), .int .i64 (n : Int)] w fun e w' => ∃ p, e = .returned (.tuple #[p, .bool (decide (er = 0)), .int .i64 (er : Int)]) ∧ TagPost w g l k v used p w' := by
  obtain ⟨Ax, cx, hbx, k0, k1, k2, kf⟩ := h.cells
  have hRd := fun (W : World) (hW : RD 94 W g l k) => read_reader_at g l k (160 + (n : Int)) (tagB n) (by rw [tagB_nat n hn]; omega) m hm (takeF (tagB n) m).1 (takeF (tagB n) m).2.1 (takeF (tagB n) m).2.2 rfl _ _ W (contained_says _ _) hW
  have HRD := Lib.hid hRd
  have HR := Lib.hid hrd; clear hrd hRd
  have HM := Lib.hid hm; clear hm
  have hn0 : (0 : Int) ≤ n := by omega
  have hn1 : (n : Int) ≤ 30 := by omega
  have hl0 : ((m.length : Int) == 0) = false := by simpa using hm0
  have hlp : (0 : Int) < m.length := by have := List.length_pos_iff.2 hm0; omega
  obtain ⟨x, hx⟩ : ∃ x : Int, x = ((m[0]?.getD 0).toNat : Int) := ⟨_, rfl⟩
  have hxn : (x != 160 + (n : Int)) = false := by
    rw [bne_eq_false_iff_eq, hx, hr, tagB_nat n hn]
    omega
  have HM0 := Lib.hid hm0; have HX := Lib.hid hx
  clear hr hm0 hx
  go_enter Tryz.func73, Tryz.ntmps73
  go_wp2_with fail
  refine (rest_at g l k m HM.out w h).mono ?_
  rintro e w1 ⟨A1, c1, rfl, hb1, hx1⟩
  obtain ⟨ad, rfl, hc0⟩ := first_cell (hb1.ext hx1) HM0.out
  rw [← HX.out] at hc0
  have HX1 := Lib.hid hx1
  go_wp2_with fail
  refine (HRD.out w1 (h.ext hx1)).mono ?_
  have hr := HR.out
  unfold readInF readF at hr
  rintro e w2 ⟨hg, ⟨her, rfl, hr1⟩ | ⟨her, hok, rfl, hr1⟩ | ⟨her, hok, v', rfl, ⟨g', rfl, hB', hv⟩, hr1⟩⟩
  · rw [if_pos her] at hr
    simp only [Prod.mk.injEq] at hr
    obtain ⟨rfl, rfl, rfl⟩ := hr
    have hd0 : (((takeF (tagB n) m).2.1 : Int) == 0) = false := by rw [beq_eq_false_iff_ne]; omega
    have HE := Lib.hid her; clear her
    go_wp2_with fail
    go_ret3
    exact ⟨.pointer none, by simp [HE.out], grown_trans (HX1.out.but _) hg, hr1, .inl ⟨rfl, rfl⟩⟩
  · cases hok
  · rw [if_neg (by omega), if_pos rfl] at hr
    simp only [Prod.mk.injEq] at hr
    obtain ⟨rfl, rfl, rfl⟩ := hr
    clear hok
    go_wp2_with fail
    go_ret3
    exact ⟨_, rfl, grown_trans (HX1.out.but _) hg, hr1, .inr ⟨_, g', rfl, rfl, Nat.le_trans HX1.out.size hB', hv⟩⟩

/-- Tagged, in one: what it leaves. -/
theorem RdTagged_at (g : Nat) (l : List UInt8) (k : Nat) (m : List UInt8) (hm : l.drop k = m) (n : Nat) (hn : n ≤ 30) (v : Option (List UInt8)) (pr : Bool) (er used : Nat) (hr : taggedF n m = (v, pr, er, used)) (w : World) (h : RD 94 w g l k) :
    Calls Tryz.prog 73 #[.pointer (some ⟨g, 0, none⟩), .int .i64 (n : Int)] w fun e w' => ∃ p, e = .returned (.tuple #[p, .bool pr, .int .i64 (er : Int)]) ∧ TagPost w g l k v used p w' := by
  rcases tagged_cases n m with ⟨h1, h2⟩ | ⟨⟨h1, h2⟩, ⟨x, u, h3, h4, _⟩ | ⟨e0, h3, h4, h5⟩⟩
  · rw [h1] at hr
    simp only [Prod.mk.injEq] at hr
    obtain ⟨rfl, rfl, rfl, rfl⟩ := hr
    refine (Tagged_absent g l k m hm n hn h2 w h).mono ?_
    rintro e w' ⟨rfl, hx⟩
    exact ⟨_, rfl, hx.but _, h.ext hx, .inl ⟨rfl, rfl⟩⟩
  · rw [h3] at hr
    simp only [Prod.mk.injEq] at hr
    obtain ⟨rfl, rfl, rfl, rfl⟩ := hr
    refine (Tagged_there g l k m hm n hn h1 h2 _ _ _ h4 w h).mono ?_
    rintro e w' ⟨p, rfl, hp⟩
    exact ⟨p, rfl, hp⟩
  · rw [h4] at hr
    simp only [Prod.mk.injEq] at hr
    obtain ⟨rfl, rfl, rfl, rfl⟩ := hr
    refine (Tagged_there g l k m hm n hn h1 h2 _ _ _ h5 w h).mono ?_
    rintro e w' ⟨p, rfl, hp⟩
    exact ⟨p, by rw [decide_eq_false h3], hp⟩
theorem grown_new {a b c : World} {g : Option Nat} {g' : Nat} (h : a.grownBy b g) (k : b.grownBy c (some g')) (hl : a.heap.size ≤ g') : a.grownBy c g :=
  ⟨k.os.trans h.os, k.tape.trans h.tape, k.output.trans h.output, Nat.le_trans h.size k.size, fun j hj hne => by
    have h1 := h.block j hj hne
    exact (k.block j (Nat.lt_of_lt_of_le hj h.size) (by intro e; cases e; omega)).trans h1⟩

/-- What a field leaves: its value, or a panic with the error. -/
def FieldPost (w : World) (g : Nat) (l : List UInt8) (k er used : Nat) (V : Value → World → Prop) (e : Ending) (w' : World) : Prop :=
  w.grownBy w' (some g) ∧ ((er = 0 ∧ RD 94 w' g l (k + used) ∧ ∃ v, e = .returned v ∧ V v w') ∨ (er ≠ 0 ∧ (∃ k', RD 94 w' g l k') ∧ e = erp er))
end Go.Proofs.YtfgmmjpejlpdoaaGreatDoor
