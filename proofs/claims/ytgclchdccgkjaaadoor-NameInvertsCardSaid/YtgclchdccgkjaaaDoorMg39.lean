/- Texts laid together (wip/tools/automerge.py): Nm25, Nm31. -/
import Derived.Test.YtgclchdccgkjaaaDoorMg33
import Derived.Test.YtgclchdccgkjaaaDoorNm30
namespace Go.Proofs.YtgclchdccgkjaaaDoor
open Go Go.RowKit
set_option linter.unusedVariables false

def bigB (ps : List ByteArray) (r : ByteArray) : Bool := ps.any (fun p => decide (60 < p.size)) || (decide (8 < ps.length) || decide (60 < r.size))
theorem bigB_no {ps : List ByteArray} {r : ByteArray} (h : bigB ps r = false) : (∀ p ∈ ps, p.size ≤ 60) ∧ ps.length ≤ 8 ∧ r.size ≤ 60 := by
  unfold bigB at h
  rw [Bool.or_eq_false_iff, Bool.or_eq_false_iff, List.any_eq_false] at h
  refine ⟨fun p hp => ?_, ?_, ?_⟩
  · have := h.1 p hp; simp at this; omega
  · have := h.2.1; simp at this; omega
  · have := h.2.2; simp at this; omega

set_option maxRecDepth 100000 in
set_option maxHeartbeats 1000000 in
theorem big_at (A : Option Addr) (c : Nat) (ps : List ByteArray) (r : ByteArray) (w : World) (hR : RS w (.slice A ps.length c) (sv ps)) :
    Calls Tryd.prog 10 #[.agg #[.slice A ps.length c, .string r]] w fun e w' => e = .returned (.bool (bigB ps r)) ∧ Ext w w' := by
  have hT := heap_alloc_new w (.cells #[.slice A ps.length c, .string r] 24)
  have hX := (Ext.refl w).alloc (.cells #[.slice A ps.length c, .string r] 24)
  obtain ⟨wb, hwb⟩ : ∃ wb, wb = w.alloc (.cells #[.slice A ps.length c, .string r] 24) := ⟨_, rfl⟩
  rw [← hwb] at hT hX
  have HT : Hid (PB wb w.heap.size (.slice A ps.length c) r) := Lib.hid hT
  have HX := Lib.hid hX
  have HRS := Lib.hid (hR.ext hX)
  obtain ⟨q0, q1⟩ := HT.out.cells
  obtain ⟨b, hb⟩ : ∃ b, bigB ps r = b := ⟨_, rfl⟩
  have HB := Lib.hid hb
  rw [hb]
  have hlen : ps.length ≤ 9223372036854775807 := by
    obtain ⟨A', c', he, h1, h2, _⟩ := hR
    rw [sv_length] at h1
    unfold maxLen at h2
    omega
  clear hT hX hR hb
  go_enter Tryd.func10, Tryd.ntmps10
  go_wp2_with fail
  rw [← hwb]
  clear hwb
  go_loopw [3] (fun i wr => ∃ k : Nat, k ≤ ps.length ∧ i = .int .i64 k ∧ Hid ((ps.take k).any (fun p => decide (60 < p.size)) = false) ∧ wr = wb) (fun i _ => ps.length - (intOf i).toNat)
  case atStart => exact ⟨0, Nat.zero_le _, rfl, Lib.hid rfl, rfl⟩
  case round =>
    obtain ⟨k, hk, rfl, HA, rfl⟩ := hrel
    by_cases hlt : k < ps.length
    · obtain ⟨A', c', he, e1, e2, e3⟩ := HRS.out
      rw [sv_length] at e1 e3 he
      injection he with z1 _ z3
      subst z1; subst z3
      obtain ⟨ad, rfl, hblt, hcell⟩ := e3 (by omega)
      have hck := hcell k _ (sv_get ps k hlt)
      have HTK := Lib.hid (show (ps.take (k + 1)).any (fun p => decide (60 < p.size)) = decide (60 < ps[k].size) by
        rw [List.take_succ_eq_append_getElem hlt, List.any_append, HA.out]; simp)
      have HIN := Lib.hid (List.getElem_mem hlt)
      obtain ⟨p, hp⟩ : ∃ p, ps[k] = p := ⟨_, rfl⟩
      rw [hp] at hck HTK HIN
      clear hcell e3 e2 e1 hblt hp
      by_cases hbig : 60 < p.size
      · have hb1 : (60 : Int) < (p.size : Int) := by omega
        have HBT := Lib.hid (show b = true by
          rw [← HB.out]; unfold bigB
          rw [show ps.any (fun p => decide (60 < p.size)) = true from List.any_eq_true.2 ⟨p, HIN.out, decide_eq_true hbig⟩]; rfl)
        clear hbig
        go_wp2_with fail
        go_ret
        refine ⟨?_, HX.out⟩
        rw [HBT.out]; rfl
      · have hb1 : (p.size : Int) ≤ 60 := by omega
        have HT2 := Lib.hid (show (ps.take (k + 1)).any (fun p => decide (60 < p.size)) = false by rw [HTK.out]; exact decide_eq_false hbig)
        clear hbig
        go_wp2_with fail
        go_roundw
        case rel => exact ⟨k + 1, by omega, by go_num, HT2, trivial⟩
        case measure => simp [intOf]; omega
    · have HF := Lib.hid (show (decide (8 < ps.length) || decide (60 < r.size)) = b by
        have := HA.out
        rw [List.take_of_length_le (by omega)] at this
        rw [← HB.out]; unfold bigB; rw [this, Bool.false_or])
      by_cases h8 : 8 < ps.length
      · have h8' : (8 : Int) < (ps.length : Int) := by omega
        have HBT := Lib.hid (show b = true by rw [← HF.out, decide_eq_true h8]; rfl)
        go_wp2_with fail
        go_ret
        refine ⟨?_, HX.out⟩
        rw [HBT.out]; rfl
      · have h8' : decide ((8 : Int) < (ps.length : Int)) = false := decide_eq_false (by omega)
        have h60 : decide ((60 : Int) < (r.size : Int)) = b := by
          rw [← HF.out, decide_eq_false h8, Bool.false_or]
          apply decide_eq_decide.2
          omega
        go_wp2_with fail
        go_ret
        exact ⟨rfl, HX.out⟩

/-- A principal of the law's own. -/
theorem let_p (w1 : World) (a : Value) (r : ByteArray) : ∃ WF, w1.alloc (.cells #[a, .string r] 24) = WF ∧ Ext w1 WF ∧ PB WF w1.heap.size a r := ⟨_, rfl, (Ext.refl w1).alloc _, heap_alloc_new w1 _⟩

set_option maxRecDepth 100000 in
set_option maxHeartbeats 1000000 in
theorem parses_yes (s t : ByteArray) (A : Option Addr) (c : Nat) (ps : List ByteArray) (hs : s.size ≤ 1000) (w : World) (hR : RS w (.slice A ps.length c) (sv ps)) (hv : nameB (dat ps) t.data.toList = true) (ht : textN (dat ps) t.data.toList = s.data.toList) :
    Calls Tryd.prog 34 #[.string s, .string t, .slice A ps.length c] w fun e w' => e = .returned (.bool true) ∧ Ext w w' := by
  have h4 := nameB_parts hv
  rw [dat_length] at h4
  have hn4 : ps.length ≤ 4 := h4.2.2.1
  have hn1 : 1 ≤ ps.length := h4.2.1
  have HV := Lib.hid hv; have HT := Lib.hid ht; have HR := Lib.hid hR
  have hz : ((ps.length : Int) == 0) = false := by rw [beq_eq_false_iff_ne]; omega
  clear h4 hv ht hR
  go_enter Tryd.func34, Tryd.ntmps34
  go_wp2_with fail
  refine (NParse_at s hs w).mono ?_
  rintro e w1 ⟨hp, hx1⟩
  rcases hp with ⟨A1, c1, ps1, r1, hv1, ht1, rfl, hr1⟩ | ⟨hno, rfl⟩
  · have hinj := textN_inj (nameB_ne hv1) (nameB_ne HV.out) (ht1.trans HT.out.symm)
    have h14 := (nameB_parts hv1).2.2.1
    rw [dat_length] at h14
    obtain ⟨WF, hWF, hxF, hPB⟩ := let_p w1 (.slice A1 ps1.length c1) r1
    have hEQ := REqual_at A1 c1 ps1 r1 A c ps t (by omega) (by omega) WF (hr1.ext hxF) (HR.out.ext (hx1.trans hxF))
    rw [show decide (dat ps1 = dat ps ∧ r1.data.toList = t.data.toList) = true from decide_eq_true hinj] at hEQ
    have HEQ := Lib.hid hEQ
    have HX := Lib.hid (hx1.trans hxF)
    obtain ⟨q0, q1⟩ := hPB.cells
    clear hinj h14 hEQ hPB hxF hx1 hr1 hv1 ht1
    go_wp2_with fail
    refine HEQ.out.mono ?_
    rintro _ w2 ⟨rfl, hx2⟩
    have HX2 := Lib.hid (HX.out.trans hx2); clear hx2
    go_wp2_with fail
    go_ret
    exact ⟨rfl, HX2.out⟩
  · exact absurd HT.out (hno _ _ HV.out)

set_option maxRecDepth 100000 in
set_option maxHeartbeats 1000000 in
theorem parses_no (s : ByteArray) (hs : s.size ≤ 1000) (w : World) (hno : ∀ (ls : List (List UInt8)) (r : List UInt8), nameB ls r = true → textN ls r ≠ s.data.toList) :
    Calls Tryd.prog 34 #[.string s, .string ⟨#[]⟩, .slice none 0 0] w fun e w' => e = .returned (.bool true) ∧ Ext w w' := by
  have HNO := Lib.hid hno; clear hno
  go_enter Tryd.func34, Tryd.ntmps34
  go_wp2_with fail
  refine (NParse_at s hs w).mono ?_
  rintro e w1 ⟨hp, hx1⟩
  rcases hp with ⟨A1, c1, ps1, r1, hv1, ht1, rfl, hr1⟩ | ⟨_, rfl⟩
  · exact absurd ht1 (HNO.out _ _ hv1)
  · have HX := Lib.hid (hx1.alloc (.cells #[.slice none 0 0, .string ⟨#[]⟩] 24))
    clear hx1
    go_wp2_with fail
    go_ret
    exact ⟨rfl, HX.out⟩
end Go.Proofs.YtgclchdccgkjaaaDoor
namespace Go.Proofs.YtgclchdccgkjaaaDoor
open Go Go.RowKit
set_option linter.unusedVariables false

/-- What Decode hands back. -/
def DecN (b : List UInt8) (e : Ending) (w' : World) : Prop :=
  (∃ (ps : List ByteArray) (r : ByteArray) (A : Option Addr) (c : Nat), nameB (dat ps) r.data.toList = true ∧ b = nameE (dat ps) r.data.toList ∧ e = .returned (.tuple #[.agg #[.slice A ps.length c, .string r], .int .i64 0]) ∧ RS w' (.slice A ps.length c) (sv ps)) ∨
  ((∀ (ls : List (List UInt8)) (r : List UInt8), nameB ls r = true → nameE ls r ≠ b) ∧ ∃ er : Nat, er ≠ 0 ∧ e = .returned (.tuple #[.agg #[.slice none 0 0, .string ⟨#[]⟩], .int .i64 (er : Int)]))
theorem not_more {b : List UInt8} {us : Nat} {ls : List (List UInt8)} {r : List UInt8} (hv : nameB ls r = true) (ht : b.take us = nameE ls r) (hlt : us < b.length) : ∀ (ls' : List (List UInt8)) (r' : List UInt8), nameB ls' r' = true → nameE ls' r' ≠ b := fun ls' r' hv' e => by
  have a := name_seq hv (b.drop us)
  rw [← ht, List.take_append_drop] at a
  have c := name_seq hv' []
  rw [List.append_nil, e, a] at c
  simp only [Prod.mk.injEq] at c
  have h3 := c.2.2
  rw [List.length_take] at h3
  omega
theorem End_yes' (g : Nat) (l : List UInt8) (k : Nat) (hk : ¬ k < l.length) (w : World) (h : RD 86 w g l k) :
    Calls Tryd.prog 56 #[.pointer (some ⟨g, 0, none⟩)] w fun e w' => e = .returned (.int .i64 0) ∧ Ext w w' := by
  have := End_at g l k w h
  rw [if_neg hk] at this
  exact this
theorem End_no' (g : Nat) (l : List UInt8) (k : Nat) (hk : k < l.length) (w : World) (h : RD 86 w g l k) :
    Calls Tryd.prog 56 #[.pointer (some ⟨g, 0, none⟩)] w fun e w' => e = .returned (.int .i64 5) ∧ Ext w w' := by
  have := End_at g l k w h
  rw [if_pos hk] at this
  exact this
set_option maxRecDepth 100000 in
set_option maxHeartbeats 1000000 in
theorem NDecode_at (A0 : Option Addr) (c0 : Nat) (b : List UInt8) (hl : b.length ≤ 900) (w : World) (hB : BS w (.slice A0 b.length c0) b) :
    Calls Tryd.prog 33 #[.slice A0 b.length c0] w fun e w' => DecN b e w' ∧ Ext w w' := by
  have h0 := heap_alloc_new w (.cells #[.slice none 0 0, .string ⟨#[]⟩] 24)
  have HX0 := Lib.hid ((Ext.refl w).alloc (.cells #[.slice none 0 0, .string ⟨#[]⟩] 24))
  have hB1 := hB.ext HX0.out
  have H0 := Lib.hid h0; clear h0 hB
  go_enter Tryd.func33, Tryd.ntmps33
  go_wp2_with fail
  refine (New_at A0 c0 b _ hB1 (by omega)).mono ?_
  rintro en w2 ⟨g, rfl, hBg, hr2, hx2⟩
  have hgw : w.heap.size < g := by simp at hBg; omega
  have hz2 : w.heap.size < w2.heap.size := by have := hr2.lt; omega
  go_wp2_with fail
  refine (NRead_at g b 0 b rfl hl w2 hr2).mono ?_
  rintro en w3 ⟨hg3, ⟨ps, r, A, c, us, hv, hul, htk, rfl, how, hr3⟩ | ⟨hnot, er, her, rfl, hr3⟩⟩
  · rw [Nat.zero_add] at hr3
    have h03 := heap_far hg3 (hx2.heap H0.out) (by omega)
    have hx3 := Ext.of_grown (HX0.out.trans hx2) hg3 (by omega)
    obtain ⟨V, hV, hxV, hPV⟩ := let_p w3 (.slice A ps.length c) r
    have HR4 := Lib.hid (hr3.ext hxV); have H04 := Lib.hid (hxV.heap h03); have HX4 := Lib.hid (hx3.trans hxV); have HP4 := Lib.hid hPV
    have HO4 := Lib.hid (ownsRow_ext8 how hxV)
    have HV := Lib.hid hv; have HTK := Lib.hid htk; have HUL := Lib.hid hul
    clear hr2 hx2 hg3 hr3 h03 hx3 hxV hPV hB1 hBg how hv htk hul
    by_cases hlt : us < b.length
    · have HLT := Lib.hid hlt
      go_wp2_with fail
      refine (End_no' g b us HLT.out V HR4.out).mono ?_
      rintro en w5 ⟨rfl, hx5⟩
      obtain ⟨z0, z1, y0, y1, WF, hWF, hxF, d0, d1⟩ := put_end (n := w.heap.size) (hx5.heap H04.out) (HX4.out.trans hx5) (.slice none 0 0) (.string ⟨#[]⟩)
      have HXF := Lib.hid hxF
      clear hx5 hxF hV hlt
      go_wp2_with fail
      refine bodyPost_ret (v := .tuple #[.agg #[.slice none 0 0, .string ⟨#[]⟩], .int .i64 5]) (by simp [results, Tryd.results33, go_sem, d0, d1]; try rfl) rfl ?_
      exact ⟨.inr ⟨not_more HV.out HTK.out HLT.out, 5, by decide, rfl⟩, HXF.out⟩
    · have HLT := Lib.hid hlt
      go_wp2_with fail
      refine (End_yes' g b us HLT.out V HR4.out).mono ?_
      rintro en w5 ⟨rfl, hx5⟩
      obtain ⟨q0, q1⟩ := (HP4.out.ext hx5).cells
      obtain ⟨z0, z1, y0, y1, WF, hWF, hxF, d0, d1⟩ := put_end (n := w.heap.size) (hx5.heap H04.out) (HX4.out.trans hx5) (.slice A ps.length c) (.string r)
      have HXF := Lib.hid hxF
      have HRF := Lib.hid (show RS WF (.slice A ps.length c) (sv ps) from hWF ▸ RS.of_own (rs_set (rs_set (ownsRow_ext8 HO4.out hx5) hz2) hz2))
      clear hx5 hxF hV hlt
      go_wp2_with fail
      refine bodyPost_ret (v := .tuple #[.agg #[.slice A ps.length c, .string r], .int .i64 0]) (by simp [results, Tryd.results33, go_sem, d0, d1]; try rfl) rfl ?_
      exact ⟨.inl ⟨ps, r, A, c, HV.out, by have := HTK.out; rwa [List.take_of_length_le (by have := HLT.out; omega)] at this, rfl, HRF.out⟩, HXF.out⟩
  · have h03 := heap_far hg3 (hx2.heap H0.out) (by omega)
    have hx3 := Ext.of_grown (HX0.out.trans hx2) hg3 (by omega)
    have hxa := (Ext.refl w3).alloc (.cells #[.slice none 0 0, .string ⟨#[]⟩] 24)
    obtain ⟨z0, z1, y0, y1, WF, hWF, hxF, d0, d1⟩ := put_end (n := w.heap.size) (hxa.heap h03) (hx3.trans hxa) (.slice none 0 0) (.string ⟨#[]⟩)
    have HXF := Lib.hid hxF; have HNOT := Lib.hid hnot; have HER := Lib.hid her
    have hne : ((er : Int) != 0) = true := by rw [bne_iff_ne]; omega
    have hne2 : ((er : Int) == 0) = false := by rw [beq_eq_false_iff_ne]; omega
    clear hr2 hx2 hg3 hr3 h03 hx3 hxa hxF hB1 hBg hnot her
    go_wp2_with fail
    refine bodyPost_ret (v := .tuple #[.agg #[.slice none 0 0, .string ⟨#[]⟩], .int .i64 (er : Int)]) (by simp [results, Tryd.results33, go_sem, d0, d1]; try rfl) rfl ?_
    exact ⟨.inr ⟨fun ls r hv e => HNOT.out ls r [] hv (by rw [List.append_nil]; exact e), er, HER.out, rfl⟩, HXF.out⟩
end Go.Proofs.YtgclchdccgkjaaaDoor
