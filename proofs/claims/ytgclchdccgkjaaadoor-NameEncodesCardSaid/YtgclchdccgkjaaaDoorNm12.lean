/- Names: the program's TicketGranting; the reference's Equal. -/
import Derived.Test.YtgclchdccgkjaaaDoorNm11
namespace Go.Proofs.YtgclchdccgkjaaaDoor
open Go Go.RowKit
set_option linter.unusedVariables false

def krb : ByteArray := ⟨#[107, 114, 98, 116, 103, 116]⟩
theorem bless_irr : ∀ (l : List UInt8), Op.bytesLess l l = false
  | [] => rfl
  | c :: r => by
    have h := bless_irr r
    unfold Op.bytesLess
    simp [h]
theorem ordB_zero {a b : List UInt8} : ordB a b = 0 ↔ a = b := by
  unfold ordB
  constructor
  · intro h
    split at h
    · omega
    · split at h
      · rename_i h2; exact eq_of_beq h2
      · omega
  · rintro rfl
    rw [if_neg (by rw [bless_irr]; simp), if_pos (beq_self_eq_true _)]
theorem cmpL_zero : ∀ {la lb : List (List UInt8)}, cmpL la lb = 0 ↔ la = lb
  | [], [] => by simp [cmpL]
  | [], _ :: _ => by simp [cmpL]
  | _ :: _, [] => by simp [cmpL]
  | a :: la, b :: lb => by
    rw [cmpL]
    by_cases h : ordB a b = 0
    · rw [if_neg (by simp [h]), cmpL_zero (la := la) (lb := lb), ordB_zero.1 h]
      simp
    · rw [if_pos h]
      constructor
      · intro e; exact absurd e h
      · intro e; injection e with e1 _; exact absurd (ordB_zero.2 e1) h
theorem cmpN_zero {ps qs : List (List UInt8)} {r t : List UInt8} : cmpN ps r qs t = 0 ↔ ps = qs ∧ r = t := by
  unfold cmpN
  by_cases h : ordB r t = 0
  · rw [if_neg (by simp [h]), cmpL_zero]
    exact ⟨fun e => ⟨e, ordB_zero.1 h⟩, fun e => e.1⟩
  · rw [if_pos h]
    exact ⟨fun e => absurd e h, fun e => absurd (ordB_zero.2 e.2) h⟩

set_option maxRecDepth 100000 in
theorem REqual_at (A : Option Addr) (c : Nat) (ps : List ByteArray) (r : ByteArray) (B : Option Addr) (d : Nat) (qs : List ByteArray) (t : ByteArray) (hn : ps.length ≤ 1000) (hm : qs.length ≤ 1000) (w : World) (hR : RS w (.slice A ps.length c) (sv ps)) (hQ : RS w (.slice B qs.length d) (sv qs)) :
    Calls Tryd.prog 22 #[.agg #[.slice A ps.length c, .string r], .agg #[.slice B qs.length d, .string t]] w fun e w' => e = .returned (.bool (decide (dat ps = dat qs ∧ r.data.toList = t.data.toList))) ∧ Ext w w' := by
  have hT := heap_alloc_new w (.cells #[.slice A ps.length c, .string r] 24)
  have hU := heap_alloc_new (w.alloc (.cells #[.slice A ps.length c, .string r] 24)) (.cells #[.slice B qs.length d, .string t] 24)
  rw [World.size_alloc] at hU
  have x1 := (Ext.refl w).alloc (.cells #[.slice A ps.length c, .string r] 24)
  have x2 := (Ext.refl (w.alloc (.cells #[.slice A ps.length c, .string r] 24))).alloc (.cells #[.slice B qs.length d, .string t] 24)
  have hT2 := x2.heap hT
  have hx := x1.trans x2
  obtain ⟨wb, hwb⟩ : ∃ wb, wb = (w.alloc (.cells #[.slice A ps.length c, .string r] 24)).alloc (.cells #[.slice B qs.length d, .string t] 24) := ⟨_, rfl⟩
  rw [← hwb] at hT2 hU hx
  have HT : Hid (PB wb w.heap.size (.slice A ps.length c) r) := Lib.hid hT2
  have HU : Hid (PB wb (w.heap.size + 1) (.slice B qs.length d) t) := Lib.hid hU
  have HXB := Lib.hid hx
  have HC := Lib.hid (RCompare_at A c ps r B d qs t hn hm wb (hR.ext hx) (hQ.ext hx))
  have HZ := Lib.hid (cmpN_zero (ps := dat ps) (qs := dat qs) (r := r.data.toList) (t := t.data.toList))
  obtain ⟨q0, q1⟩ := HT.out.cells
  obtain ⟨q2, q3⟩ := HU.out.cells
  obtain ⟨X, hX⟩ : ∃ X, cmpN (dat ps) r.data.toList (dat qs) t.data.toList = X := ⟨_, rfl⟩
  rw [hX] at HC HZ
  obtain ⟨b, hb⟩ : ∃ b, decide (dat ps = dat qs ∧ r.data.toList = t.data.toList) = b := ⟨_, rfl⟩
  rw [hb]
  clear hT hT2 hU hx x1 x2 hR hQ hX
  by_cases hx0 : X = 0
  · have HBT := Lib.hid (show b = true by rw [← hb]; exact decide_eq_true (HZ.out.1 hx0))
    subst hx0
    clear hb
    go_enter Tryd.func22, Tryd.ntmps22
    go_wp2_with fail
    rw [← hwb]
    clear hwb
    refine HC.out.mono ?_
    rintro _ w2 ⟨rfl, hx2⟩
    have HX2 := Lib.hid (HXB.out.trans hx2); clear hx2
    go_wp2_with fail
    go_ret
    refine ⟨?_, HX2.out⟩
    rw [HBT.out]; rfl
  · have HBT := Lib.hid (show b = false by rw [← hb]; exact decide_eq_false (fun h => hx0 (HZ.out.2 h)))
    have e0 : (X == 0) = false := by rw [beq_eq_false_iff_ne]; exact hx0
    clear hb hx0
    go_enter Tryd.func22, Tryd.ntmps22
    go_wp2_with fail
    rw [← hwb]
    clear hwb
    refine HC.out.mono ?_
    rintro _ w2 ⟨rfl, hx2⟩
    have HX2 := Lib.hid (HXB.out.trans hx2); clear hx2
    go_wp2_with fail
    go_ret
    refine ⟨?_, HX2.out⟩
    rw [HBT.out]; rfl

/-- What TicketGranting hands back. -/
def TGp (v : Bool) (a b : ByteArray) (e : Ending) (w' : World) : Prop :=
  (v = true ∧ ∃ A c, e = .returned (.tuple #[.agg #[.slice A 2 c, .string b], .int .i64 0]) ∧ RS w' (.slice A 2 c) (sv [krb, a])) ∨
  (v = false ∧ e = .returned (.tuple #[.agg #[.slice none 0 0, .string ⟨#[]⟩], .int .i64 2]))
set_option maxRecDepth 100000 in
set_option maxHeartbeats 1000000 in
theorem TG_at (a b : ByteArray) (ha : a.size ≤ 4294967280) (hb : b.size ≤ 4294967280) (w : World) :
    Calls Tryd.prog 25 #[.string a, .string b] w fun e w' => TGp (realmB a.data.toList && realmB b.data.toList) a b e w' ∧ Ext w w' := by
  have h0 := heap_alloc_new w (.cells #[.slice none 0 0, .string ⟨#[]⟩] 24)
  have hx := (Ext.refl w).alloc (.cells #[.slice none 0 0, .string ⟨#[]⟩] 24)
  obtain ⟨wb, hwb⟩ : ∃ wb, wb = w.alloc (.cells #[.slice none 0 0, .string ⟨#[]⟩] 24) := ⟨_, rfl⟩
  rw [← hwb] at h0 hx
  have H0 := Lib.hid h0; have HX := Lib.hid hx; clear h0 hx
  obtain ⟨b1, h1⟩ : ∃ b1, realmB a.data.toList = b1 := ⟨_, rfl⟩
  obtain ⟨b2, h2⟩ : ∃ b2, realmB b.data.toList = b2 := ⟨_, rfl⟩
  have H1 := Lib.hid (Realm_at a ha wb)
  have H2 := Lib.hid (fun W => Realm_at b hb W)
  rw [h1] at H1 ⊢
  rw [h2] at H2 ⊢
  obtain ⟨b3, h3⟩ : ∃ b3, (b1 && b2) = b3 := ⟨_, rfl⟩
  rw [h3]
  have H3 := Lib.hid h3
  clear h1 h2 h3
  go_enter Tryd.func25, Tryd.ntmps25
  go_wp2_with fail
  rw [← hwb]
  clear hwb
  refine H1.out.mono ?_
  rintro _ w1 ⟨rfl, hx1⟩
  have HX1 := Lib.hid (HX.out.trans hx1); have H01 := Lib.hid (hx1.heap H0.out); clear hx1
  go_wp2_with fail
  refine (H2.out _).mono ?_
  rintro _ w2 ⟨rfl, hx2⟩
  have HX2 := Lib.hid (HX1.out.trans hx2); have H02 := Lib.hid (hx2.heap H01.out); clear hx2
  have hall := all_at (some ⟨w2.heap.size, 0, none⟩) 2 [b1, b2] (w2.alloc (.cells #[.bool b1, .bool b2] 4)) (RS.new w2 4 [.bool b1, .bool b2] (by simp [maxLen]))
  rw [show ([b1, b2].all id) = (b1 && b2) by simp] at hall
  rw [H3.out] at hall
  have HALL := Lib.hid hall
  have HX3 := Lib.hid (HX2.out.alloc (.cells #[.bool b1, .bool b2] 4))
  have H03 := Lib.hid (((Ext.refl w2).alloc (.cells #[.bool b1, .bool b2] 4)).heap H02.out)
  clear hall
  go_wp2_with fail
  refine HALL.out.mono ?_
  rintro _ w3 ⟨rfl, rfl⟩
  cases b3 with
  | false =>
    obtain ⟨z0, z1, y0, y1, WF, hWF, hxF, d0, d1⟩ := put_end (n := w.heap.size) H03.out HX3.out (.slice none 0 0) (.string ⟨#[]⟩)
    have HXF := Lib.hid hxF; clear hxF
    go_wp2_with fail
    refine bodyPost_ret (v := .tuple #[.agg #[.slice none 0 0, .string ⟨#[]⟩], .int .i64 2]) (by simp [results, Tryd.results25, go_sem, d0, d1]; try rfl) rfl ?_
    exact ⟨.inr ⟨rfl, rfl⟩, HXF.out⟩
  | true =>
    obtain ⟨W, hW⟩ : ∃ W, w2.alloc (.cells #[.bool b1, .bool b2] 4) = W := ⟨_, rfl⟩
    rw [hW] at H03 HX3 ⊢
    clear hW HALL
    have hrs := RS.new W 9 [.string krb, .string a] (by simp [maxLen])
    have hg := heap_alloc_new W (.cells #[.string krb, .string a] 9)
    have how : (W.alloc (.cells #[.string krb, .string a] 9)).ownsRow (w.heap.size + 1) 9 1 (.slice (some ⟨W.heap.size, 0, none⟩) 2 2) (sv [krb, a]).length (sv [krb, a]) :=
      ⟨rfl, .inr ⟨W.heap.size, 2, #[.string krb, .string a], rfl, (Array.getElem?_eq_some_iff.1 H03.out).1, hg, Nat.le_refl _, by simp [maxLen], rfl, rfl⟩⟩
    have H04 := ((Ext.refl W).alloc (.cells #[.string krb, .string a] 9)).heap H03.out
    obtain ⟨z0, z1, y0, y1, WF, hWF, hxF, d0, d1⟩ := put_end (n := w.heap.size) H04 (HX3.out.alloc (.cells #[.string krb, .string a] 9)) (.slice (some ⟨W.heap.size, 0, none⟩) 2 2) (.string b)
    have HRF := Lib.hid (show RS WF (.slice (some ⟨W.heap.size, 0, none⟩) 2 2) (sv [krb, a]) from hWF ▸ rs_put H04 (Ext.refl _) (RS.of_own how) ⟨how, by omega⟩)
    have HXF := Lib.hid hxF; clear hxF hrs hg how H04
    unfold krb at hWF z0 z1 y0 y1
    go_wp2_with fail
    refine bodyPost_ret (v := .tuple #[.agg #[.slice (some ⟨W.heap.size, 0, none⟩) 2 2, .string b], .int .i64 0]) (by simp [results, Tryd.results25, go_sem, d0, d1]; try rfl) rfl ?_
    exact ⟨.inl ⟨rfl, _, _, rfl, HRF.out⟩, HXF.out⟩
end Go.Proofs.YtgclchdccgkjaaaDoor
