/- Texts laid together (wip/tools/automerge.py): Nm12, Nm15, Nm16, Nm17, Nm18. -/
import Derived.Test.YtgclchdccgkjaaaDoorNm11
namespace Go.Proofs.YtgclchdccgkjaaaDoor
open Go Go.RowKit
set_option linter.unusedVariables false

def krb : ByteArray := ⟨#[107, 114, 98, 116, 103, 116]⟩
theorem bless_irr : ∀ (l : List UInt8), Op.bytesLess l l = false
  | [] => rfl
  | c :: r => by
    have h := bless_irr r
    unfold Op.bytesLess
    simp [h]
theorem ordB_zero {a b : List UInt8} : ordB a b = 0 ↔ a = b := by
  unfold ordB
  constructor
  · intro h
    split at h
    · omega
    · split at h
      · rename_i h2; exact eq_of_beq h2
      · omega
  · rintro rfl
    rw [if_neg (by rw [bless_irr]; simp), if_pos (beq_self_eq_true _)]
theorem cmpL_zero : ∀ {la lb : List (List UInt8)}, cmpL la lb = 0 ↔ la = lb
  | [], [] => by simp [cmpL]
  | [], _ :: _ => by simp [cmpL]
  | _ :: _, [] => by simp [cmpL]
  | a :: la, b :: lb => by
    rw [cmpL]
    by_cases h : ordB a b = 0
    · rw [if_neg (by simp [h]), cmpL_zero (la := la) (lb := lb), ordB_zero.1 h]
      simp
    · rw [if_pos h]
      constructor
      · intro e; exact absurd e h
      · intro e; injection e with e1 _; exact absurd (ordB_zero.2 e1) h
theorem cmpN_zero {ps qs : List (List UInt8)} {r t : List UInt8} : cmpN ps r qs t = 0 ↔ ps = qs ∧ r = t := by
  unfold cmpN
  by_cases h : ordB r t = 0
  · rw [if_neg (by simp [h]), cmpL_zero]
    exact ⟨fun e => ⟨e, ordB_zero.1 h⟩, fun e => e.1⟩
  · rw [if_pos h]
    exact ⟨fun e => absurd e h, fun e => absurd (ordB_zero.2 e.2) h⟩

set_option maxRecDepth 100000 in
theorem REqual_at (A : Option Addr) (c : Nat) (ps : List ByteArray) (r : ByteArray) (B : Option Addr) (d : Nat) (qs : List ByteArray) (t : ByteArray) (hn : ps.length ≤ 1000) (hm : qs.length ≤ 1000) (w : World) (hR : RS w (.slice A ps.length c) (sv ps)) (hQ : RS w (.slice B qs.length d) (sv qs)) :
    Calls Tryd.prog 22 #[.agg #[.slice A ps.length c, .string r], .agg #[.slice B qs.length d, .string t]] w fun e w' => e = .returned (.bool (decide (dat ps = dat qs ∧ r.data.toList = t.data.toList))) ∧ Ext w w' := by
  have hT := heap_alloc_new w (.cells #[.slice A ps.length c, .string r] 24)
  have hU := heap_alloc_new (w.alloc (.cells #[.slice A ps.length c, .string r] 24)) (.cells #[.slice B qs.length d, .string t] 24)
  rw [World.size_alloc] at hU
  have x1 := (Ext.refl w).alloc (.cells #[.slice A ps.length c, .string r] 24)
  have x2 := (Ext.refl (w.alloc (.cells #[.slice A ps.length c, .string r] 24))).alloc (.cells #[.slice B qs.length d, .string t] 24)
  have hT2 := x2.heap hT
  have hx := x1.trans x2
  obtain ⟨wb, hwb⟩ : ∃ wb, wb = (w.alloc (.cells #[.slice A ps.length c, .string r] 24)).alloc (.cells #[.slice B qs.length d, .string t] 24) := ⟨_, rfl⟩
  rw [← hwb] at hT2 hU hx
  have HT : Hid (PB wb w.heap.size (.slice A ps.length c) r) := Lib.hid hT2
  have HU : Hid (PB wb (w.heap.size + 1) (.slice B qs.length d) t) := Lib.hid hU
  have HXB := Lib.hid hx
  have HC := Lib.hid (RCompare_at A c ps r B d qs t hn hm wb (hR.ext hx) (hQ.ext hx))
  have HZ := Lib.hid (cmpN_zero (ps := dat ps) (qs := dat qs) (r := r.data.toList) (t := t.data.toList))
  obtain ⟨q0, q1⟩ := HT.out.cells
  obtain ⟨q2, q3⟩ := HU.out.cells
  obtain ⟨X, hX⟩ : ∃ X, cmpN (dat ps) r.data.toList (dat qs) t.data.toList = X := ⟨_, rfl⟩
  rw [hX] at HC HZ
  obtain ⟨b, hb⟩ : ∃ b, decide (dat ps = dat qs ∧ r.data.toList = t.data.toList) = b := ⟨_, rfl⟩
  rw [hb]
  clear hT hT2 hU hx x1 x2 hR hQ hX
  by_cases hx0 : X = 0
  · have HBT := Lib.hid (show b = true by rw [← hb]; exact decide_eq_true (HZ.out.1 hx0))
    subst hx0
    clear hb
    go_enter Tryd.func22, Tryd.ntmps22
    go_wp2_with fail
    rw [← hwb]
    clear hwb
    refine HC.out.mono ?_
    rintro _ w2 ⟨rfl, hx2⟩
    have HX2 := Lib.hid (HXB.out.trans hx2); clear hx2
    go_wp2_with fail
    go_ret
    refine ⟨?_, HX2.out⟩
    rw [HBT.out]; rfl
  · have HBT := Lib.hid (show b = false by rw [← hb]; exact decide_eq_false (fun h => hx0 (HZ.out.2 h)))
    have e0 : (X == 0) = false := by rw [beq_eq_false_iff_ne]; exact hx0
    clear hb hx0
    go_enter Tryd.func22, Tryd.ntmps22
    go_wp2_with fail
    rw [← hwb]
    clear hwb
    refine HC.out.mono ?_
    rintro _ w2 ⟨rfl, hx2⟩
    have HX2 := Lib.hid (HXB.out.trans hx2); clear hx2
    go_wp2_with fail
    go_ret
    refine ⟨?_, HX2.out⟩
    rw [HBT.out]; rfl

/-- What TicketGranting hands back. -/
def TGp (v : Bool) (a b : ByteArray) (e : Ending) (w' : World) : Prop :=
  (v = true ∧ ∃ A c, e = .returned (.tuple #[.agg #[.slice A 2 c, .string b], .int .i64 0]) ∧ RS w' (.slice A 2 c) (sv [krb, a])) ∨
  (v = false ∧ e = .returned (.tuple #[.agg #[.slice none 0 0, .string ⟨#[]⟩], .int .i64 2]))
set_option maxRecDepth 100000 in
set_option maxHeartbeats 1000000 in
theorem TG_at (a b : ByteArray) (ha : a.size ≤ 4294967280) (hb : b.size ≤ 4294967280) (w : World) :
    Calls Tryd.prog 25 #[.string a, .string b] w fun e w' => TGp (realmB a.data.toList && realmB b.data.toList) a b e w' ∧ Ext w w' := by
  have h0 := heap_alloc_new w (.cells #[.slice none 0 0, .string ⟨#[]⟩] 24)
  have hx := (Ext.refl w).alloc (.cells #[.slice none 0 0, .string ⟨#[]⟩] 24)
  obtain ⟨wb, hwb⟩ : ∃ wb, wb = w.alloc (.cells #[.slice none 0 0, .string ⟨#[]⟩] 24) := ⟨_, rfl⟩
  rw [← hwb] at h0 hx
  have H0 := Lib.hid h0; have HX := Lib.hid hx; clear h0 hx
  obtain ⟨b1, h1⟩ : ∃ b1, realmB a.data.toList = b1 := ⟨_, rfl⟩
  obtain ⟨b2, h2⟩ : ∃ b2, realmB b.data.toList = b2 := ⟨_, rfl⟩
  have H1 := Lib.hid (Realm_at a ha wb)
  have H2 := Lib.hid (fun W => Realm_at b hb W)
  rw [h1] at H1 ⊢
  rw [h2] at H2 ⊢
  obtain ⟨b3, h3⟩ : ∃ b3, (b1 && b2) = b3 := ⟨_, rfl⟩
  rw [h3]
  have H3 := Lib.hid h3
  clear h1 h2 h3
  go_enter Tryd.func25, Tryd.ntmps25
  go_wp2_with fail
  rw [← hwb]
  clear hwb
  refine H1.out.mono ?_
  rintro _ w1 ⟨rfl, hx1⟩
  have HX1 := Lib.hid (HX.out.trans hx1); have H01 := Lib.hid (hx1.heap H0.out); clear hx1
  go_wp2_with fail
  refine (H2.out _).mono ?_
  rintro _ w2 ⟨rfl, hx2⟩
  have HX2 := Lib.hid (HX1.out.trans hx2); have H02 := Lib.hid (hx2.heap H01.out); clear hx2
  have hall := all_at (some ⟨w2.heap.size, 0, none⟩) 2 [b1, b2] (w2.alloc (.cells #[.bool b1, .bool b2] 4)) (RS.new w2 4 [.bool b1, .bool b2] (by simp [maxLen]))
  rw [show ([b1, b2].all id) = (b1 && b2) by simp] at hall
  rw [H3.out] at hall
  have HALL := Lib.hid hall
  have HX3 := Lib.hid (HX2.out.alloc (.cells #[.bool b1, .bool b2] 4))
  have H03 := Lib.hid (((Ext.refl w2).alloc (.cells #[.bool b1, .bool b2] 4)).heap H02.out)
  clear hall
  go_wp2_with fail
  refine HALL.out.mono ?_
  rintro _ w3 ⟨rfl, rfl⟩
  cases b3 with
  | false =>
    obtain ⟨z0, z1, y0, y1, WF, hWF, hxF, d0, d1⟩ := put_end (n := w.heap.size) H03.out HX3.out (.slice none 0 0) (.string ⟨#[]⟩)
    have HXF := Lib.hid hxF; clear hxF
    go_wp2_with fail
    refine bodyPost_ret (v := .tuple #[.agg #[.slice none 0 0, .string ⟨#[]⟩], .int .i64 2]) (by simp [results, Tryd.results25, go_sem, d0, d1]; try rfl) rfl ?_
    exact ⟨.inr ⟨rfl, rfl⟩, HXF.out⟩
  | true =>
    obtain ⟨W, hW⟩ : ∃ W, w2.alloc (.cells #[.bool b1, .bool b2] 4) = W := ⟨_, rfl⟩
    rw [hW] at H03 HX3 ⊢
    clear hW HALL
    have hrs := RS.new W 9 [.string krb, .string a] (by simp [maxLen])
    have hg := heap_alloc_new W (.cells #[.string krb, .string a] 9)
    have how : (W.alloc (.cells #[.string krb, .string a] 9)).ownsRow (w.heap.size + 1) 9 1 (.slice (some ⟨W.heap.size, 0, none⟩) 2 2) (sv [krb, a]).length (sv [krb, a]) :=
      ⟨rfl, .inr ⟨W.heap.size, 2, #[.string krb, .string a], rfl, (Array.getElem?_eq_some_iff.1 H03.out).1, hg, Nat.le_refl _, by simp [maxLen], rfl, rfl⟩⟩
    have H04 := ((Ext.refl W).alloc (.cells #[.string krb, .string a] 9)).heap H03.out
    obtain ⟨z0, z1, y0, y1, WF, hWF, hxF, d0, d1⟩ := put_end (n := w.heap.size) H04 (HX3.out.alloc (.cells #[.string krb, .string a] 9)) (.slice (some ⟨W.heap.size, 0, none⟩) 2 2) (.string b)
    have HRF := Lib.hid (show RS WF (.slice (some ⟨W.heap.size, 0, none⟩) 2 2) (sv [krb, a]) from hWF ▸ rs_put H04 (Ext.refl _) (RS.of_own how) ⟨how, by omega⟩)
    have HXF := Lib.hid hxF; clear hxF hrs hg how H04
    unfold krb at hWF z0 z1 y0 y1
    go_wp2_with fail
    refine bodyPost_ret (v := .tuple #[.agg #[.slice (some ⟨W.heap.size, 0, none⟩) 2 2, .string b], .int .i64 0]) (by simp [results, Tryd.results25, go_sem, d0, d1]; try rfl) rfl ?_
    exact ⟨.inl ⟨rfl, _, _, rfl, HRF.out⟩, HXF.out⟩
end Go.Proofs.YtgclchdccgkjaaaDoor
namespace Go.Proofs.YtgclchdccgkjaaaDoor
open Go Go.RowKit
set_option linter.unusedVariables false

theorem isNaN_at (a : ByteArray) (w : World) :
    Calls Tryd.prog 64 #[.string a] w fun e w' => e = .returned (.bool false) ∧ w = w' := by
  have hb : (a.toList == a.toList) = true := beq_self_eq_true _
  go_enter Tryd.func64, Tryd.ntmps64
  go_wp2
  go_ret
  exact ⟨rfl, rfl⟩
theorem cmpS_at (a b : ByteArray) (w : World) :
    Calls Tryd.prog 50 #[.string a, .string b] w fun e w' => e = .returned (.int .i64 (ordB a.data.toList b.data.toList)) ∧ w = w' := by
  obtain ⟨x, hx⟩ : ∃ x, ordB a.data.toList b.data.toList = x := ⟨_, rfl⟩
  rw [hx]
  unfold ordB at hx
  have HA := Lib.hid (isNaN_at a w)
  have HB := Lib.hid (isNaN_at b w)
  cases h1 : Op.bytesLess a.data.toList b.data.toList with
  | true =>
    rw [if_pos h1] at hx
    have e1 : Op.bytesLess a.toList b.toList = true := by rw [ByteArray.toList_eq, ByteArray.toList_eq]; exact h1
    subst hx
    clear h1
    go_enter Tryd.func50, Tryd.ntmps50
    go_wp2_with fail
    refine HA.out.mono ?_
    rintro _ w1 ⟨rfl, rfl⟩
    go_wp2_with fail
    refine HB.out.mono ?_
    rintro _ w2 ⟨rfl, rfl⟩
    go_wp2_with fail
    go_ret
    exact ⟨rfl, rfl⟩
  | false =>
    rw [if_neg (by rw [h1]; simp)] at hx
    have e1 : Op.bytesLess a.toList b.toList = false := by rw [ByteArray.toList_eq, ByteArray.toList_eq]; exact h1
    cases h2 : (a.data.toList == b.data.toList) with
    | true =>
      rw [if_pos h2] at hx
      have e2 : (a.toList == b.toList) = true := by rw [ByteArray.toList_eq, ByteArray.toList_eq]; exact h2
      subst hx
      clear h1 h2
      go_enter Tryd.func50, Tryd.ntmps50
      go_wp2_with fail
      refine HA.out.mono ?_
      rintro _ w1 ⟨rfl, rfl⟩
      go_wp2_with fail
      refine HB.out.mono ?_
      rintro _ w2 ⟨rfl, rfl⟩
      go_wp2_with fail
      go_ret
      exact ⟨rfl, rfl⟩
    | false =>
      rw [if_neg (by rw [h2]; simp)] at hx
      have e2 : (a.toList == b.toList) = false := by rw [ByteArray.toList_eq, ByteArray.toList_eq]; exact h2
      subst hx
      clear h1 h2
      go_enter Tryd.func50, Tryd.ntmps50
      go_wp2_with fail
      refine HA.out.mono ?_
      rintro _ w1 ⟨rfl, rfl⟩
      go_wp2_with fail
      refine HB.out.mono ?_
      rintro _ w2 ⟨rfl, rfl⟩
      go_wp2_with fail
      go_ret
      exact ⟨rfl, rfl⟩
end Go.Proofs.YtgclchdccgkjaaaDoor
namespace Go.Proofs.YtgclchdccgkjaaaDoor
open Go Go.RowKit
set_option linter.unusedVariables false

set_option maxRecDepth 100000 in
set_option maxHeartbeats 1000000 in
theorem sCompare_at (A : Option Addr) (c : Nat) (ps : List ByteArray) (B : Option Addr) (d : Nat) (qs : List ByteArray) (hn : ps.length ≤ 1000) (hm : qs.length ≤ 1000) (w : World) (hR : RS w (.slice A ps.length c) (sv ps)) (hQ : RS w (.slice B qs.length d) (sv qs)) :
    Calls Tryd.prog 51 #[.slice A ps.length c, .slice B qs.length d] w fun e w' => e = .returned (.int .i64 (cmpL (dat ps) (dat qs))) ∧ w = w' := by
  obtain ⟨X, hX⟩ : ∃ X, cmpL (dat ps) (dat qs) = X := ⟨_, rfl⟩
  rw [hX]
  have HX := Lib.hid hX
  have HR := Lib.hid hR; have HQ := Lib.hid hQ
  clear hX hR hQ
  go_enter Tryd.func51, Tryd.ntmps51
  go_wp2_with fail
  go_loopw [11] (fun i wr => ∃ k : Nat, k ≤ ps.length ∧ k ≤ qs.length ∧ i = .int .i64 k ∧ Hid (cmpL ((dat ps).drop k) ((dat qs).drop k) = X) ∧ wr = w) (fun i _ => ps.length - (intOf i).toNat)
  case atStart => exact ⟨0, Nat.zero_le _, Nat.zero_le _, rfl, HX, rfl⟩
  case round =>
    obtain ⟨k, hk1, hk2, rfl, HC, rfl⟩ := hrel
    by_cases h1 : k < ps.length
    · obtain ⟨A', c', he, e1, e2, e3⟩ := HR.out
      rw [sv_length] at e1 e3 he
      injection he with z1 _ z3
      subst z1; subst z3
      obtain ⟨ad, rfl, _, hcell⟩ := e3 (by omega)
      have g1 := hcell k _ (sv_get ps k h1)
      by_cases h2 : k < qs.length
      · obtain ⟨B', d', he', e1', e2', e3'⟩ := HQ.out
        rw [sv_length] at e1' e3' he'
        injection he' with z1' _ z3'
        subst z1'; subst z3'
        obtain ⟨bd, rfl, _, hcell'⟩ := e3' (by omega)
        have g2 := hcell' k _ (sv_get qs k h2)
        have hlt : ¬ (qs.length : Int) ≤ (k : Int) := by omega
        have HO := Lib.hid (cmpS_at ps[k] qs[k] wr)
        have HD := Lib.hid (show (if ordB ps[k].data.toList qs[k].data.toList ≠ 0 then ordB ps[k].data.toList qs[k].data.toList else cmpL ((dat ps).drop (k + 1)) ((dat qs).drop (k + 1))) = X by
          rw [← HC.out, cmpL_drop (k := k) (la := dat ps) (lb := dat qs) (by rw [dat_length]; exact h1) (by rw [dat_length]; exact h2)]
          simp [dat])
        obtain ⟨z, hz⟩ : ∃ z, ordB ps[k].data.toList qs[k].data.toList = z := ⟨_, rfl⟩
        rw [hz] at HO HD
        clear hcell hcell' e1 e2 e3 e1' e2' e3' hz
        go_wp2_with fail
        refine HO.out.mono ?_
        rintro _ w' ⟨rfl, rfl⟩
        by_cases hz0 : z = 0
        · subst hz0
          have HD2 := Lib.hid (show cmpL ((dat ps).drop (k + 1)) ((dat qs).drop (k + 1)) = X by have := HD.out; rwa [if_neg (by simp)] at this)
          go_wp2_with fail
          go_roundw
          case rel => exact ⟨k + 1, by omega, by omega, by go_num, HD2, trivial⟩
          case measure => simp [intOf]; omega
        · have hzb : (z != 0) = true := by rw [bne_iff_ne]; exact hz0
          have HD2 := Lib.hid (show z = X by have := HD.out; rwa [if_pos hz0] at this)
          clear hz0
          go_wp2_with fail
          go_ret
          refine ⟨?_, rfl⟩
          rw [← HD2.out]; rfl
      · have HF := Lib.hid (show (1 : Int) = X by rw [← HC.out, cmpL_end (by rw [dat_length]; exact hk1) (by rw [dat_length]; exact hk2) (by rw [dat_length, dat_length]; omega), dat_length, dat_length, if_neg (by omega), if_pos (by omega)])
        have hkq : k = qs.length := by omega
        subst hkq
        clear hcell e1 e2 e3
        go_wp2_with fail
        go_ret
        refine ⟨?_, rfl⟩
        rw [← HF.out]; rfl
    · have hkp : k = ps.length := by omega
      subst hkp
      by_cases h3 : ps.length < qs.length
      · have HF := Lib.hid (show (-1 : Int) = X by rw [← HC.out, cmpL_end (by rw [dat_length]; exact hk1) (by rw [dat_length]; exact hk2) (by rw [dat_length, dat_length]; omega), dat_length, dat_length, if_pos h3])
        go_wp2_with fail
        go_ret
        refine ⟨?_, rfl⟩
        rw [← HF.out]; rfl
      · have HF := Lib.hid (show (0 : Int) = X by rw [← HC.out, cmpL_end (by rw [dat_length]; exact hk1) (by rw [dat_length]; exact hk2) (by rw [dat_length, dat_length]; omega), dat_length, dat_length, if_neg h3, if_neg (by omega)])
        have heq : qs.length = ps.length := by omega
        go_wp2_with fail
        go_ret
        refine ⟨?_, rfl⟩
        rw [← HF.out]; rfl
end Go.Proofs.YtgclchdccgkjaaaDoor
namespace Go.Proofs.YtgclchdccgkjaaaDoor
open Go Go.RowKit
set_option linter.unusedVariables false

/-- Reads alone: the draw under its own name. -/
theorem still_all {P : Program} {id : Nat} {Q : Exit → Act → World → Prop} {a : Act} {w : World} {l : List Oper} (hm : P.follows .mixedOrders = true) (hB : Region.lexB .any l.toArray = true)
    (h : wpStill P l.toArray w.drew (fun a' => Q .normal a' w.drew) l a) : (Code.region id l.toArray true).wp P Q a w := wp_region_still_lit hm hB h

theorem eqL_drop {la lb : List (List UInt8)} {k : Nat} (h1 : k < la.length) (h2 : k < lb.length) : (la.drop k = lb.drop k) ↔ (la[k] = lb[k] ∧ la.drop (k + 1) = lb.drop (k + 1)) := by
  rw [List.drop_eq_getElem_cons h1, List.drop_eq_getElem_cons h2, List.cons.injEq]

set_option maxRecDepth 100000 in
set_option maxHeartbeats 1000000 in
theorem sEqual_at (A : Option Addr) (c : Nat) (ps : List ByteArray) (B : Option Addr) (d : Nat) (qs : List ByteArray) (hn : ps.length ≤ 1000) (hm : qs.length ≤ 1000) (w : World) (hR : RS w (.slice A ps.length c) (sv ps)) (hQ : RS w (.slice B qs.length d) (sv qs)) :
    Calls Tryd.prog 48 #[.slice A ps.length c, .slice B qs.length d] w fun e w' => e = .returned (.bool (decide (dat ps = dat qs))) ∧ Ext w w' := by
  obtain ⟨X, hX⟩ : ∃ X, decide (dat ps = dat qs) = X := ⟨_, rfl⟩
  rw [hX]
  have HX := Lib.hid (show decide ((dat ps).drop 0 = (dat qs).drop 0) = X by rw [List.drop_zero, List.drop_zero]; exact hX)
  have HR := Lib.hid hR; have HQ := Lib.hid hQ
  by_cases hl : ps.length = qs.length
  · clear hX hR hQ
    have HL := Lib.hid hl
    obtain ⟨n, hn0⟩ : ∃ n, qs.length = n := ⟨_, rfl⟩
    have HN := Lib.hid hn0
    rw [hn0] at hl HQ hm ⊢
    rw [hl] at HR ⊢
    clear hl hn0 hn
    go_enter Tryd.func48, Tryd.ntmps48
    go_wp2_with fail
    go_loopw [13] (fun i wr => ∃ k : Nat, k ≤ n ∧ i = .int .i64 k ∧ Hid (decide ((dat ps).drop k = (dat qs).drop k) = X) ∧ Hid (Ext w wr)) (fun i _ => n - (intOf i).toNat)
    case atStart => exact ⟨0, Nat.zero_le _, rfl, HX, Lib.hid (Ext.refl _)⟩
    case round =>
      obtain ⟨k, hk1, rfl, HC, HE⟩ := hrel
      by_cases h1 : k < n
      · have hp : k < ps.length := by have := HL.out; have := HN.out; omega
        have hq : k < qs.length := by have := HN.out; omega
        obtain ⟨A', c', he, e1, e2, e3⟩ := (HR.out.ext HE.out).ext (Ext.drew wr)
        obtain ⟨B', d', he', e1', e2', e3'⟩ := (HQ.out.ext HE.out).ext (Ext.drew wr)
        rw [sv_length, HL.out, HN.out] at he
        rw [sv_length, HN.out] at he'
        injection he with z1 _ z3
        injection he' with z1' _ z3'
        subst z1; subst z3; subst z1'; subst z3'
        obtain ⟨ad, rfl, _, hcell⟩ := e3 (by rw [sv_length]; omega)
        obtain ⟨bd, rfl, _, hcell'⟩ := e3' (by rw [sv_length]; omega)
        have g1 := hcell k _ (sv_get ps k hp)
        have g2 := hcell' k _ (sv_get qs k hq)
        have HD := Lib.hid (show decide (ps[k].data.toList = qs[k].data.toList ∧ (dat ps).drop (k + 1) = (dat qs).drop (k + 1)) = X by
          rw [← HC.out]
          apply decide_eq_decide.2
          rw [eqL_drop (k := k) (la := dat ps) (lb := dat qs) (by rw [dat_length]; exact hp) (by rw [dat_length]; exact hq)]
          simp [dat])
        clear hcell hcell' e1 e2 e3 e1' e2' e3'
        generalize hpk : ps[k] = p at g1 HD
        generalize hqk : qs[k] = q at g2 HD
        clear hpk hqk hp hq
        by_cases hz : p.data.toList = q.data.toList
        · have e0 : (p.toList == q.toList) = true := by rw [ByteArray.toList_eq, ByteArray.toList_eq, hz]; exact beq_self_eq_true _
          have HD2 := Lib.hid (show decide ((dat ps).drop (k + 1) = (dat qs).drop (k + 1)) = X by
            rw [← HD.out]; apply decide_eq_decide.2; exact ⟨fun h => ⟨hz, h⟩, fun h => h.2⟩)
          clear hz
          go_wp2_with fail
          refine still_all (by kernel_rfl) (by kernel_rfl) ?_
          repeat still_step
          refine wpStill_nil ?_
          go_wp2_with fail
          go_roundw
          case rel => exact ⟨k + 1, by omega, by go_num, HD2, Lib.hid (HE.out.trans (Ext.drew wr))⟩
          case measure => simp [intOf]; omega
        · have e0 : (p.toList == q.toList) = false := by
            rw [ByteArray.toList_eq, ByteArray.toList_eq, beq_eq_false_iff_ne]; exact hz
          have HD2 := Lib.hid (show false = X by
            rw [← HD.out]; symm; apply decide_eq_false; exact fun h => hz h.1)
          clear hz
          go_wp2_with fail
          refine still_all (by kernel_rfl) (by kernel_rfl) ?_
          repeat still_step
          refine wpStill_nil ?_
          go_wp2_with fail
          go_ret
          refine ⟨?_, HE.out.trans (Ext.drew wr)⟩
          rw [← HD2.out]; rfl
      · have hkp : k = n := by omega
        subst hkp
        have HF := Lib.hid (show true = X by
          rw [← HC.out]; symm; apply decide_eq_true
          rw [List.drop_eq_nil_of_le (by rw [dat_length, HL.out, HN.out]; exact Nat.le_refl _), List.drop_eq_nil_of_le (by rw [dat_length, HN.out]; exact Nat.le_refl _)])
        go_wp2_with fail
        go_ret
        refine ⟨?_, HE.out⟩
        rw [← HF.out]; rfl
  · have HF := Lib.hid (show false = X by
      rw [← hX]; symm; apply decide_eq_false
      intro h
      have := congrArg List.length h
      rw [dat_length, dat_length] at this
      exact hl this)
    have hz : ((ps.length : Int) != (qs.length : Int)) = true := by rw [bne_iff_ne]; omega
    clear hX hR hQ hl
    go_enter Tryd.func48, Tryd.ntmps48
    go_wp2_with fail
    go_ret
    refine ⟨?_, Ext.refl _⟩
    rw [← HF.out]; rfl
end Go.Proofs.YtgclchdccgkjaaaDoor
namespace Go.Proofs.YtgclchdccgkjaaaDoor
open Go Go.RowKit
set_option linter.unusedVariables false

set_option maxRecDepth 100000 in
set_option maxHeartbeats 1000000 in
theorem NEqual_at (A : Option Addr) (c : Nat) (ps : List ByteArray) (r : ByteArray) (B : Option Addr) (d : Nat) (qs : List ByteArray) (t : ByteArray) (hn : ps.length ≤ 1000) (hm : qs.length ≤ 1000) (w : World) (hR : RS w (.slice A ps.length c) (sv ps)) (hQ : RS w (.slice B qs.length d) (sv qs)) :
    Calls Tryd.prog 29 #[.agg #[.slice A ps.length c, .string r], .agg #[.slice B qs.length d, .string t]] w fun e w' => e = .returned (.bool (decide (dat ps = dat qs ∧ r.data.toList = t.data.toList))) ∧ Ext w w' := by
  have hT := heap_alloc_new w (.cells #[.slice A ps.length c, .string r] 24)
  have hU := heap_alloc_new (w.alloc (.cells #[.slice A ps.length c, .string r] 24)) (.cells #[.slice B qs.length d, .string t] 24)
  rw [World.size_alloc] at hU
  have x1 := (Ext.refl w).alloc (.cells #[.slice A ps.length c, .string r] 24)
  have x2 := (Ext.refl (w.alloc (.cells #[.slice A ps.length c, .string r] 24))).alloc (.cells #[.slice B qs.length d, .string t] 24)
  have hT2 := x2.heap hT
  have hx := x1.trans x2
  obtain ⟨wb, hwb⟩ : ∃ wb, wb = (w.alloc (.cells #[.slice A ps.length c, .string r] 24)).alloc (.cells #[.slice B qs.length d, .string t] 24) := ⟨_, rfl⟩
  rw [← hwb] at hT2 hU hx
  have HT : Hid (PB wb w.heap.size (.slice A ps.length c) r) := Lib.hid hT2
  have HU : Hid (PB wb (w.heap.size + 1) (.slice B qs.length d) t) := Lib.hid hU
  have HXB := Lib.hid hx
  have HC := Lib.hid (sEqual_at A c ps B d qs hn hm wb (hR.ext hx) (hQ.ext hx))
  obtain ⟨q0, q1⟩ := HT.out.cells
  obtain ⟨q2, q3⟩ := HU.out.cells
  obtain ⟨X, hX⟩ : ∃ X, decide (dat ps = dat qs) = X := ⟨_, rfl⟩
  rw [hX] at HC
  obtain ⟨b, hb⟩ : ∃ b, decide (dat ps = dat qs ∧ r.data.toList = t.data.toList) = b := ⟨_, rfl⟩
  rw [hb]
  clear hT hT2 hU hx x1 x2 hR hQ
  by_cases hz : r.data.toList = t.data.toList
  · have e0 : (r.toList == t.toList) = true := by rw [ByteArray.toList_eq, ByteArray.toList_eq, hz]; exact beq_self_eq_true _
    have HBT := Lib.hid (show X = b by
      rw [← hb, ← hX]; apply decide_eq_decide.2; exact ⟨fun h => ⟨h, hz⟩, fun h => h.1⟩)
    clear hb hX hz
    go_enter Tryd.func29, Tryd.ntmps29
    go_wp2_with fail
    rw [← hwb]
    clear hwb
    refine HC.out.mono ?_
    rintro _ w2 ⟨rfl, hx2⟩
    have HX2 := Lib.hid (HXB.out.trans hx2); clear hx2
    go_wp2_with fail
    go_ret
    refine ⟨?_, HX2.out⟩
    rw [← HBT.out]; rfl
  · have e0 : (r.toList == t.toList) = false := by
      rw [ByteArray.toList_eq, ByteArray.toList_eq, beq_eq_false_iff_ne]; exact hz
    have HBT := Lib.hid (show b = false by rw [← hb]; exact decide_eq_false (fun h => hz h.2))
    clear hb hX hz
    go_enter Tryd.func29, Tryd.ntmps29
    go_wp2_with fail
    go_ret
    refine ⟨?_, hwb ▸ HXB.out⟩
    rw [HBT.out]; rfl
end Go.Proofs.YtgclchdccgkjaaaDoor
