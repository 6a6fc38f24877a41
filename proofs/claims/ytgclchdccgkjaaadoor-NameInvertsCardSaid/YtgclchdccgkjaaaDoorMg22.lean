/- Texts laid together (wip/tools/automerge.py): Pure10, Der17. -/
import Derived.Test.YtgclchdccgkjaaaDoorPure9
import Derived.Test.YtgclchdccgkjaaaDoorMg17
namespace Go.Proofs.YtgclchdccgkjaaaDoor

theorem readF_nil {α : Type} (tag : UInt8) (z : α) (ok : List UInt8 → Bool) (val : List UInt8 → α) : readF tag z ok val [] = (z, 4, 0) := by
  unfold readF takeF
  simp
/-- The ways of a field. -/
theorem field_cases {α : Type} (z : α) (rd : List UInt8 → α × Nat × Nat) (n : Nat) (m : List UInt8) :
    (taggedF n m = (none, false, 0, 0) ∧ fieldF z rd n m = (z, if m = [] then 4 else 6, 0)) ∨
    (∃ er, er ≠ 0 ∧ taggedF n m = (none, false, er, 0) ∧ fieldF z rd n m = (z, er, 0)) ∨
    (∃ x used, taggedF n m = (some x, true, 0, used) ∧ x.length ≤ m.length ∧ readInF (tagB n) m = (some x, 0, used) ∧ m ≠ [] ∧
      (((rd x).2.1 ≠ 0 ∧ fieldF z rd n m = (z, (rd x).2.1, 0)) ∨ ((rd x).2.1 = 0 ∧ (rd x).2.2 < x.length ∧ fieldF z rd n m = (z, 6, 0)) ∨ ((rd x).2.1 = 0 ∧ ¬ (rd x).2.2 < x.length ∧ fieldF z rd n m = ((rd x).1, 0, used)))) := by
  rcases tagged_cases n m with ⟨h, _⟩ | ⟨⟨hm, _⟩, ⟨x, used, h, hr, hl⟩ | ⟨er, he, h, _⟩⟩
  · left
    refine ⟨h, ?_⟩
    unfold fieldF
    rw [h]
    simp
  · right; right
    refine ⟨x, used, h, hl, hr, hm, ?_⟩
    unfold fieldF
    rw [h]
    simp only [Option.getD_some, ne_eq, not_true_eq_false, if_false, Bool.true_eq_false]
    by_cases h1 : (rd x).2.1 = 0
    · right
      rw [if_neg (by simpa using h1)]
      by_cases h2 : (rd x).2.2 < x.length
      · left; rw [if_pos h2]; exact ⟨h1, h2, rfl⟩
      · right; rw [if_neg h2]; exact ⟨h1, h2, rfl⟩
    · left
      rw [if_pos (by simpa using h1)]
      exact ⟨h1, rfl⟩
  · right; left
    refine ⟨er, he, h, ?_⟩
    unfold fieldF
    rw [h]
    simp [he]
theorem field_enc {α : Type} (z : α) (rd : List UInt8 → α × Nat × Nat) (n : Nat) (x rest : List UInt8) (v : α) (hn : n ≤ 30) (hne : x ≠ []) (hl : x.length < 16777216) (hrd : rd x = (v, 0, x.length)) :
    fieldF z rd n (encTag n x ++ rest) = (v, 0, (encTag n x).length) := by
  unfold fieldF
  rw [tagged_enc n x rest hn hne hl]
  simp only [Option.getD_some, hrd]
  simp
theorem field_inv {α : Type} (z : α) (rd : List UInt8 → α × Nat × Nat) (enc : α → List UInt8) (hinv : ∀ m v u, rd m = (v, 0, u) → u ≤ m.length ∧ m.take u = enc v) (hnil : (rd []).2.1 ≠ 0) (n : Nat) (hn : n ≤ 30) (m : List UInt8) (v : α) (used : Nat) (h : fieldF z rd n m = (v, 0, used)) :
    used ≤ m.length ∧ m.take used = encTag n (enc v) ∧ enc v ≠ [] ∧ (enc v).length < 16777216 := by
  rcases field_cases z rd n m with ⟨_, he⟩ | ⟨er, hne, _, he⟩ | ⟨x, u, ht, hl, hr, _, ⟨h1, he⟩ | ⟨h1, h2, he⟩ | ⟨h1, h2, he⟩⟩
  · rw [h] at he
    simp only [Prod.mk.injEq] at he
    split at he <;> simp at he
  · rw [h] at he
    simp only [Prod.mk.injEq] at he
    exact absurd he.2.1.symm hne
  · rw [h] at he
    simp only [Prod.mk.injEq] at he
    exact absurd he.2.1.symm h1
  · rw [h] at he
    simp at he
  · rw [h] at he
    simp only [Prod.mk.injEq] at he
    obtain ⟨rfl, _, rfl⟩ := he
    have hrd : rd x = ((rd x).1, 0, (rd x).2.2) := by rw [← h1]
    obtain ⟨k1, k2⟩ := hinv _ _ _ hrd
    have hx : x.take (rd x).2.2 = x := List.take_of_length_le (by omega)
    rw [hx] at k2
    obtain ⟨j1, j2, j3⟩ := readIn_inv _ _ _ _ hr
    have hxe : x ≠ [] := by
      rintro rfl
      exact hnil h1
    rw [← k2, encTag_shape n x hn hxe]
    exact ⟨j1, j3, hxe, j2⟩
theorem triple_eta {α : Type} (t : α × Nat × Nat) (h : ¬ t.2.1 ≠ 0) : t = (t.1, 0, t.2.2) := by
  obtain ⟨a, b, c⟩ := t
  simp only [ne_eq, Decidable.not_not] at h
  subst h
  rfl
theorem take_add {α : Type} (l : List α) (i j : Nat) : l.take (i + j) = l.take i ++ (l.drop i).take j := by
  rw [List.take_add]

theorem tripleIn_inv (x : List UInt8) (p v : Int) (b : List UInt8) (h : tripleIn x = ((p, v, b), 0)) : x = encTag 0 (encInt p) ++ (encTag 1 (encInt v) ++ encTag 2 (encOctets b)) ∧ encInt p ≠ [] ∧ encInt v ≠ [] ∧ encOctets b ≠ [] ∧ (encOctets b).length < 16777216 := by
  unfold tripleIn at h
  simp only at h
  by_cases h1 : (fieldF 0 readIntF 0 x).2.1 ≠ 0
  · rw [if_pos h1] at h; simp only [Prod.mk.injEq] at h; exact absurd h.2 h1
  rw [if_neg h1] at h
  by_cases h2 : (fieldF 0 readIntF 1 (x.drop (fieldF 0 readIntF 0 x).2.2)).2.1 ≠ 0
  · rw [if_pos h2] at h; simp only [Prod.mk.injEq] at h; exact absurd h.2 h2
  rw [if_neg h2] at h
  by_cases h3 : (fieldF [] readOctetsF 2 (x.drop ((fieldF 0 readIntF 0 x).2.2 + (fieldF 0 readIntF 1 (x.drop (fieldF 0 readIntF 0 x).2.2)).2.2))).2.1 ≠ 0
  · rw [if_pos h3] at h; simp only [Prod.mk.injEq] at h; exact absurd h.2 h3
  rw [if_neg h3] at h
  have e1 : fieldF 0 readIntF 0 x = ((fieldF 0 readIntF 0 x).1, 0, (fieldF 0 readIntF 0 x).2.2) := triple_eta _ h1
  generalize hp : (fieldF 0 readIntF 0 x).1 = p' at *
  generalize hu1 : (fieldF 0 readIntF 0 x).2.2 = u1 at *
  have e2 : fieldF 0 readIntF 1 (x.drop u1) = ((fieldF 0 readIntF 1 (x.drop u1)).1, 0, (fieldF 0 readIntF 1 (x.drop u1)).2.2) := triple_eta _ h2
  generalize hp2 : (fieldF 0 readIntF 1 (x.drop u1)).1 = v' at *
  generalize hu2 : (fieldF 0 readIntF 1 (x.drop u1)).2.2 = u2 at *
  have e3 : fieldF [] readOctetsF 2 (x.drop (u1 + u2)) = ((fieldF [] readOctetsF 2 (x.drop (u1 + u2))).1, 0, (fieldF [] readOctetsF 2 (x.drop (u1 + u2))).2.2) := triple_eta _ h3
  generalize hp3 : (fieldF [] readOctetsF 2 (x.drop (u1 + u2))).1 = b' at *
  generalize hu3 : (fieldF [] readOctetsF 2 (x.drop (u1 + u2))).2.2 = u3 at *
  have i1 := field_inv 0 readIntF encInt (fun m v u h => readInt_inv m v u h) (by unfold readIntF; rw [readF_nil]; simp) 0 (by omega) x p' u1 e1
  have i2 := field_inv 0 readIntF encInt (fun m v u h => readInt_inv m v u h) (by unfold readIntF; rw [readF_nil]; simp) 1 (by omega) (x.drop u1) v' u2 e2
  have i3 := field_inv [] readOctetsF encOctets (fun m v u h => readOctets_inv m v u h) (by unfold readOctetsF; rw [readF_nil]; simp) 2 (by omega) (x.drop (u1 + u2)) b' u3 e3
  by_cases h4 : u1 + u2 + u3 < x.length
  · rw [if_pos h4] at h; simp at h
  rw [if_neg h4] at h
  simp only [Prod.mk.injEq, and_true] at h
  obtain ⟨rfl, rfl, rfl⟩ := h
  refine ⟨?_, i1.2.2.1, i2.2.2.1, i3.2.2.1, i3.2.2.2⟩
  have hx : x = x.take (u1 + (u2 + u3)) := (List.take_of_length_le (by omega)).symm
  rw [hx, take_add, take_add, i1.2.1, i2.2.1, List.drop_drop, i3.2.1]
theorem tripleRd_inv (m : List UInt8) (p v : Int) (b : List UInt8) (used : Nat) (hm : m.length ≤ 900) (h : tripleRd m = ((p, v, b), 0, used)) : used ≤ m.length ∧ m.take used = tripleF p v b ∧ tripleF p v b ≠ [] := by
  unfold tripleRd at h
  rcases readIn_cases 48 m with ⟨x, hx, hl⟩ | ⟨er, he, hx⟩
  · rw [hx] at h
    simp only [Option.getD_some, ne_eq, not_true_eq_false, if_false] at h
    by_cases h1 : (tripleIn x).2 ≠ 0
    · rw [if_pos h1] at h; simp only [Prod.mk.injEq] at h; exact absurd h.2.1 h1
    rw [if_neg h1] at h
    simp only [Prod.mk.injEq] at h
    obtain ⟨hv, _, rfl⟩ := h
    have ht : tripleIn x = ((p, v, b), 0) := by
      have h0 : (tripleIn x).2 = 0 := by simpa using h1
      rw [← hv, ← h0]
    obtain ⟨hx2, hp, hv2, h5, h7⟩ := tripleIn_inv x p v b ht
    obtain ⟨j1, j2, j3⟩ := readIn_inv _ _ _ _ hx
    have hlx : x.length = (encTag 0 (encInt p)).length + ((encTag 1 (encInt v)).length + (encTag 2 (encOctets b)).length) := by rw [hx2]; simp
    have lb : ∀ (n : Nat) (l : List UInt8), n ≤ 30 → l.length < 16777216 → l ≠ [] → l.length ≤ (encTag n l).length := by
      intro n l hn hl hne
      rw [encTag_shape n l hn hne, elem_shape _ _ hl]
      simp; omega
    have hI : ∀ v, (encInt v).length < 1000 := by
      intro v
      unfold encInt
      split
      · have := elem_le 2 (beBytes v (intSize v))
        rw [beBytes_length] at this
        have := intSize_le v
        omega
      · simp
    have hbl : b.length ≤ 1000 := by
      have hb : b.length < 16777216 := by
        apply Classical.byContradiction
        intro hb
        apply h5
        unfold encOctets elem
        rw [if_neg hb]
      have h6 : b.length ≤ (encOctets b).length := by unfold encOctets; rw [elem_shape _ _ hb]; simp; omega
      have := lb 2 (encOctets b) (by omega) h7 h5
      omega
    have e3 := tripleF_eq p v b (by have := hI p; omega) (by have := hI v; omega) hbl
    rw [e3]
    unfold threeF
    rw [if_neg (by intro h; rcases h with h | h <;> contradiction)]
    refine ⟨j1, ?_, ?_⟩
    · rw [j3, hx2]
      unfold encSeq
      simp
    · unfold encSeq
      apply elem_ne
      simp
      have := encTag_le 0 (encInt p); have := encTag_le 1 (encInt v); have := encTag_le 2 (encOctets b)
      omega
  · rw [hx] at h
    simp only at h
    rw [if_pos he] at h
    simp only [Prod.mk.injEq] at h
    exact absurd h.2.1 he
end Go.Proofs.YtgclchdccgkjaaaDoor
namespace Go.Proofs.YtgclchdccgkjaaaDoor
open Go Go.RowKit

/-- A panic with an error's number. -/
def erp (er : Nat) : Ending := .panicked [{ v := .iface 28 (.int .i64 (er : Int)), recovered := false }]

/-- What Tagged leaves. -/
def TagPost (w : World) (g : Nat) (l : List UInt8) (k : Nat) (v : Option (List UInt8)) (used : Nat) (p : Value) (w' : World) : Prop :=
  w.grownBy w' (some g) ∧ RD 86 w' g l (k + used) ∧ ((v = none ∧ p = .pointer none) ∨ ∃ x g', v = some x ∧ p = .pointer (some ⟨g', 0, none⟩) ∧ w.heap.size ≤ g' ∧ RD 86 w' g' x 0)

theorem first_cell {w : World} {A : Option Addr} {c : Nat} {m : List UInt8} (hb : BS w (.slice A m.length c) m) (hm : m ≠ []) : ∃ ad, A = some ad ∧ w.cell? ad = some (.int .u8 ((m[0]?.getD 0).toNat : Int)) := by
  obtain ⟨A', c', he, k1, k2, k3⟩ := hb.open_
  injection he with e1 _ e3
  subst e1; subst e3
  have hl : 0 < m.length := List.length_pos_iff.2 hm
  obtain ⟨ad, rfl, _, hc⟩ := k3 hl
  refine ⟨ad, rfl, ?_⟩
  have := hc 0 hl
  rw [show ad.add 0 = ad from rfl] at this
  rw [this, List.getElem?_eq_getElem hl]
  rfl

set_option maxRecDepth 100000 in
theorem Tagged_absent (g : Nat) (l : List UInt8) (k : Nat) (m : List UInt8) (hm : l.drop k = m) (n : Nat) (hn : n ≤ 30) (hr : m = [] ∨ m[0]?.getD 0 ≠ tagB n) (w : World) (h : RD 86 w g l k) :
    Calls Tryd.prog 83 #[.pointer (some ⟨g, 0, none⟩), .int .i64 (n : Int)] w fun e w' => e = .returned (.tuple #[.pointer none, .bool false, .int .i64 0]) ∧ Ext w w' := by
  obtain ⟨Ax, cx, hbx, k0, k1, k2, kf⟩ := h.cells
  have HM := Lib.hid hm; clear hm
  have hn0 : (0 : Int) ≤ n := by omega
  have hn1 : (n : Int) ≤ 30 := by omega
  by_cases hm0 : m = []
  · have hl0 : ((m.length : Int) == 0) = true := by rw [hm0]; rfl
    have HR := Lib.hid hr; clear hr hm0
    go_enter Tryd.func83, Tryd.ntmps83
    go_wp2_with fail
    refine (rest_at g l k m HM.out w h).mono ?_
    rintro e w1 ⟨A1, c1, rfl, hb1, hx1⟩
    go_wp2_with fail
    go_ret3
    exact ⟨rfl, hx1⟩
  · have hl0 : ((m.length : Int) == 0) = false := by simpa using hm0
    have hlp : (0 : Int) < m.length := by have := List.length_pos_iff.2 hm0; omega
    have hne : m[0]?.getD 0 ≠ tagB n := by rcases hr with h | h; exact absurd h hm0; exact h
    obtain ⟨x, hx⟩ : ∃ x : Int, x = ((m[0]?.getD 0).toNat : Int) := ⟨_, rfl⟩
    have hxn : (x != 160 + (n : Int)) = true := by
      rw [bne_iff_ne, hx]
      intro e
      apply hne
      apply UInt8.toNat_inj.1
      rw [tagB_nat n hn]
      omega
    have HM0 := Lib.hid hm0; have HX := Lib.hid hx
    clear hr hm0 hne hx
    go_enter Tryd.func83, Tryd.ntmps83
    go_wp2_with fail
    refine (rest_at g l k m HM.out w h).mono ?_
    rintro e w1 ⟨A1, c1, rfl, hb1, hx1⟩
    obtain ⟨ad, rfl, hc0⟩ := first_cell (hb1.ext hx1) HM0.out
    rw [← HX.out] at hc0
    go_wp2_with fail
    go_ret3
    exact ⟨rfl, hx1⟩

set_option maxRecDepth 100000 in
theorem Tagged_there (g : Nat) (l : List UInt8) (k : Nat) (m : List UInt8) (hm : l.drop k = m) (n : Nat) (hn : n ≤ 30) (hm0 : m ≠ []) (hr : m[0]?.getD 0 = tagB n) (v : Option (List UInt8)) (er used : Nat) (hrd : readInF (tagB n) m = (v, er, used)) (w : World) (h : RD 86 w g l k) :
    Calls Tryd.prog 83 #[.pointer (some ⟨g, 0, none⟩), .int .i64 (n : Int)] w fun e w' => ∃ p, e = .returned (.tuple #[p, .bool (decide (er = 0)), .int .i64 (er : Int)]) ∧ TagPost w g l k v used p w' := by
  obtain ⟨Ax, cx, hbx, k0, k1, k2, kf⟩ := h.cells
  have hRd := fun (W : World) (hW : RD 86 W g l k) => read_reader_at g l k (160 + (n : Int)) (tagB n) (by rw [tagB_nat n hn]; omega) m hm (takeF (tagB n) m).1 (takeF (tagB n) m).2.1 (takeF (tagB n) m).2.2 rfl _ _ W (contained_says _ _) hW
  have HRD := Lib.hid hRd
  have HR := Lib.hid hrd; clear hrd hRd
  have HM := Lib.hid hm; clear hm
  have hn0 : (0 : Int) ≤ n := by omega
  have hn1 : (n : Int) ≤ 30 := by omega
  have hl0 : ((m.length : Int) == 0) = false := by simpa using hm0
  have hlp : (0 : Int) < m.length := by have := List.length_pos_iff.2 hm0; omega
  obtain ⟨x, hx⟩ : ∃ x : Int, x = ((m[0]?.getD 0).toNat : Int) := ⟨_, rfl⟩
  have hxn : (x != 160 + (n : Int)) = false := by
    rw [bne_eq_false_iff_eq, hx, hr, tagB_nat n hn]
    omega
  have HM0 := Lib.hid hm0; have HX := Lib.hid hx
  clear hr hm0 hx
  go_enter Tryd.func83, Tryd.ntmps83
  go_wp2_with fail
  refine (rest_at g l k m HM.out w h).mono ?_
  rintro e w1 ⟨A1, c1, rfl, hb1, hx1⟩
  obtain ⟨ad, rfl, hc0⟩ := first_cell (hb1.ext hx1) HM0.out
  rw [← HX.out] at hc0
  have HX1 := Lib.hid hx1
  go_wp2_with fail
  refine (HRD.out w1 (h.ext hx1)).mono ?_
  have hr := HR.out
  unfold readInF readF at hr
  rintro e w2 ⟨hg, ⟨her, rfl, hr1⟩ | ⟨her, hok, rfl, hr1⟩ | ⟨her, hok, v', rfl, ⟨g', rfl, hB', hv⟩, hr1⟩⟩
  · rw [if_pos her] at hr
    simp only [Prod.mk.injEq] at hr
    obtain ⟨rfl, rfl, rfl⟩ := hr
    have hd0 : (((takeF (tagB n) m).2.1 : Int) == 0) = false := by rw [beq_eq_false_iff_ne]; omega
    have HE := Lib.hid her; clear her
    go_wp2_with fail
    go_ret3
    exact ⟨.pointer none, by simp [HE.out], grown_trans (HX1.out.but _) hg, hr1, .inl ⟨rfl, rfl⟩⟩
  · cases hok
  · rw [if_neg (by omega), if_pos rfl] at hr
    simp only [Prod.mk.injEq] at hr
    obtain ⟨rfl, rfl, rfl⟩ := hr
    clear hok
    go_wp2_with fail
    go_ret3
    exact ⟨_, rfl, grown_trans (HX1.out.but _) hg, hr1, .inr ⟨_, g', rfl, rfl, Nat.le_trans HX1.out.size hB', hv⟩⟩

/-- Tagged, in one: what it leaves. -/
theorem RdTagged_at (g : Nat) (l : List UInt8) (k : Nat) (m : List UInt8) (hm : l.drop k = m) (n : Nat) (hn : n ≤ 30) (v : Option (List UInt8)) (pr : Bool) (er used : Nat) (hr : taggedF n m = (v, pr, er, used)) (w : World) (h : RD 86 w g l k) :
    Calls Tryd.prog 83 #[.pointer (some ⟨g, 0, none⟩), .int .i64 (n : Int)] w fun e w' => ∃ p, e = .returned (.tuple #[p, .bool pr, .int .i64 (er : Int)]) ∧ TagPost w g l k v used p w' := by
  rcases tagged_cases n m with ⟨h1, h2⟩ | ⟨⟨h1, h2⟩, ⟨x, u, h3, h4, _⟩ | ⟨e0, h3, h4, h5⟩⟩
  · rw [h1] at hr
    simp only [Prod.mk.injEq] at hr
    obtain ⟨rfl, rfl, rfl, rfl⟩ := hr
    refine (Tagged_absent g l k m hm n hn h2 w h).mono ?_
    rintro e w' ⟨rfl, hx⟩
    exact ⟨_, rfl, hx.but _, h.ext hx, .inl ⟨rfl, rfl⟩⟩
  · rw [h3] at hr
    simp only [Prod.mk.injEq] at hr
    obtain ⟨rfl, rfl, rfl, rfl⟩ := hr
    refine (Tagged_there g l k m hm n hn h1 h2 _ _ _ h4 w h).mono ?_
    rintro e w' ⟨p, rfl, hp⟩
    exact ⟨p, rfl, hp⟩
  · rw [h4] at hr
    simp only [Prod.mk.injEq] at hr
    obtain ⟨rfl, rfl, rfl, rfl⟩ := hr
    refine (Tagged_there g l k m hm n hn h1 h2 _ _ _ h5 w h).mono ?_
    rintro e w' ⟨p, rfl, hp⟩
    exact ⟨p, by rw [decide_eq_false h3], hp⟩
theorem grown_new {a b c : World} {g : Option Nat} {g' : Nat} (h : a.grownBy b g) (k : b.grownBy c (some g')) (hl : a.heap.size ≤ g') : a.grownBy c g :=
  ⟨k.os.trans h.os, k.tape.trans h.tape, k.output.trans h.output, Nat.le_trans h.size k.size, fun j hj hne => by
    have h1 := h.block j hj hne
    exact (k.block j (Nat.lt_of_lt_of_le hj h.size) (by intro e; cases e; omega)).trans h1⟩

/-- What a field leaves: its value, or a panic with the error. -/
def FieldPost (w : World) (g : Nat) (l : List UInt8) (k er used : Nat) (V : Value → World → Prop) (e : Ending) (w' : World) : Prop :=
  w.grownBy w' (some g) ∧ ((er = 0 ∧ RD 86 w' g l (k + used) ∧ ∃ v, e = .returned v ∧ V v w') ∨ (er ≠ 0 ∧ (∃ k', RD 86 w' g l k') ∧ e = erp er))
end Go.Proofs.YtgclchdccgkjaaaDoor
