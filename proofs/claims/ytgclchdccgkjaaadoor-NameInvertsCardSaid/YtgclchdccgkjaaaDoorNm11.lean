/- Names: the reference's Parse. (wip/tools/gennm11.py printed this.) -/
import Derived.Test.YtgclchdccgkjaaaDoorNm10
namespace Go.Proofs.YtgclchdccgkjaaaDoor
open Go Go.RowKit
set_option linter.unusedVariables false

/-- The result, the principal, the row of components; the last one is under way. -/
structure NRS (w0 W : World) (g m cap : Nat) (front : List ByteArray) (lst : ByteArray) : Prop where
  r0 : W.heap[w0.heap.size]? = some (.cells #[.slice none 0 0, .string ⟨#[]⟩] 24 (0, 0))
  r1 : W.heap[w0.heap.size + 1 + 1]? = some (.cells #[.slice (some ⟨g, 0, none⟩) (m + 1) cap, .string ⟨#[]⟩] 24 (0, 0))
  ow : W.ownsRow (w0.heap.size + 1) 9 1 (.slice (some ⟨g, 0, none⟩) (m + 1) cap) (m + 1) (sv (front ++ [lst]))
  hm : front.length = m
  ex : Ext w0 W
theorem NRS.ext {w0 W W' : World} {g m cap : Nat} {front : List ByteArray} {lst : ByteArray} (h : NRS w0 W g m cap front lst) (hx : Ext W W') : NRS w0 W' g m cap front lst :=
  ⟨hx.heap h.r0, hx.heap h.r1, ownsRow_ext8 h.ow hx, h.hm, h.ex.trans hx⟩
theorem NRS.gne {w0 W : World} {g m cap : Nat} {front : List ByteArray} {lst : ByteArray} (h : NRS w0 W g m cap front lst) : g ≠ w0.heap.size + 1 + 1 ∧ w0.heap.size + 1 ≤ g ∧ g < W.heap.size := by
  have hl := World.ownsRow.lt h.ow g rfl
  refine ⟨fun e => ?_, hl.1, hl.2⟩
  obtain ⟨cur, hc⟩ := row_type h.ow (k := g) rfl
  rw [e, h.r1] at hc
  injection hc with e3
  injection e3 with _ e4 _
  exact absurd e4 (by decide)
theorem NRS.ow' {w0 W : World} {g m cap : Nat} {front : List ByteArray} {lst : ByteArray} (h : NRS w0 W g m cap front lst) : W.ownsRow (w0.heap.size + 1) 9 1 (.slice (some ⟨g, 0, none⟩) (m + 1) cap) (sv (front ++ [lst])).length (sv (front ++ [lst])) := by
  rw [sv_length, List.length_append, List.length_singleton, h.hm]; exact h.ow
theorem NRS.last {w0 W : World} {g m cap : Nat} {front : List ByteArray} {lst : ByteArray} (h : NRS w0 W g m cap front lst) : W.cell? ⟨g, m, none⟩ = some (.string lst) ∧ W.frozen? ⟨g, m, none⟩ = false :=
  ⟨(h.ow.cellAt m (by omega)).trans (by rw [← h.hm]; simp [sv]), h.ow.frozenAt m⟩
/-- Bytes are put to the last component. -/
theorem NRS.put {w0 W : World} {g m cap : Nat} {front : List ByteArray} {lst : ByteArray} (h : NRS w0 W g m cap front lst) (x : ByteArray) : NRS w0 (W.setCell ⟨g, m, none⟩ (.string x)) g m cap front x := by
  obtain ⟨g1, g2, g3⟩ := h.gne
  have hs := h.ow.stored m (.string x)
  refine ⟨heap_far hs.2 h.r0 (by omega), heap_far hs.2 h.r1 (Ne.symm g1), ?_, h.hm, h.ex.grown hs.2 (fun j hj => by injection hj with hj; omega)⟩
  have e : (sv (front ++ [lst])).set m (.string x) = sv (front ++ [x]) := by rw [← h.hm]; simp [sv]
  rw [← e]; exact hs.1
/-- A new component begins. -/
theorem NRS.next {w0 W W1 W2 : World} {g m cap : Nat} {front : List ByteArray} {lst : ByteArray} (h : NRS w0 W g m cap front lst) (hx : Ext W W1) {g' cap' : Nat} (hg : W1.grownBy W2 (some g)) (ho : W2.ownsRow (w0.heap.size + 1) 9 1 (.slice (some ⟨g', 0, none⟩) (m + 1 + 1) cap') (m + 1 + 1) (sv ((front ++ [lst]) ++ [⟨#[]⟩]))) :
    NRS w0 (W2.setCell ⟨w0.heap.size + 1 + 1, 0, none⟩ (.slice (some ⟨g', 0, none⟩) (m + 1 + 1) cap')) g' (m + 1) cap' (front ++ [lst]) ⟨#[]⟩ := by
  have h1 := h.ext hx
  obtain ⟨g1, g2, g3⟩ := h1.gne
  have k0 := heap_far hg h1.r0 (by omega)
  have k1 := heap_far hg h1.r1 (Ne.symm g1)
  have gs := grown_set1 W2 (w0.heap.size + 1 + 1) (.slice (some ⟨g', 0, none⟩) (m + 1 + 1) cap')
  have hne : g' ≠ w0.heap.size + 1 + 1 := fun e => by
    obtain ⟨cur, hc⟩ := row_type ho (k := g') rfl
    rw [e, k1] at hc
    injection hc with e3
    injection e3 with _ e4 _
    exact absurd e4 (by decide)
  refine ⟨heap_far gs k0 (by omega), by rw [heap_setCell_same W2 _ 0 _ _ _ k1]; rfl, ho.kept gs (.inr (fun e => hne (Option.some.inj e))), by rw [List.length_append, List.length_singleton, h.hm], (h1.ex.grown hg (fun j hj => by injection hj with hj; omega)).setCell (p := ⟨w0.heap.size + 1 + 1, 0, none⟩) (show w0.heap.size ≤ w0.heap.size + 1 + 1 by omega) _⟩
theorem run_one (s : ByteArray) (i : Nat) (h : i < s.size) (x : UInt8) (hx : s[i] = x) (I J : Int) (hI : I = (i : Int)) (hJ : J = (i : Int) + 1) (W : World) : (Instr.slice 9 (.string s) (some (.int .i64 I)) (some (.int .i64 J)) none).run Tryd.prog W = .ok (.string ⟨#[x]⟩) W := by
  subst hI; subst hJ; subst hx
  rw [run_slice_string_if W _ _ _ _ _ _ Tryd.underlying9, if_pos (by omega), if_pos (by omega), show ((i : Int)).toNat = i by omega, show ((i : Int) + 1).toNat = i + 1 by omega, extract_one s i h]
theorem next_row {W : World} {B m : Nat} {v : Value} {front : List ByteArray} {lst : ByteArray} (hm : front.length = m) (h : W.ownsRow B 9 1 v (sv (front ++ [lst]) ++ [Value.string ⟨#[]⟩]).length (sv (front ++ [lst]) ++ [Value.string ⟨#[]⟩])) :
    ∃ g' cap', v = .slice (some ⟨g', 0, none⟩) (m + 1 + 1) cap' ∧ W.ownsRow B 9 1 (.slice (some ⟨g', 0, none⟩) (m + 1 + 1) cap') (m + 1 + 1) (sv ((front ++ [lst]) ++ [⟨#[]⟩])) := by
  obtain ⟨g', cap', hv⟩ := shape_app h
  have hl : (sv (front ++ [lst])).length = m + 1 := by rw [sv_length, List.length_append, List.length_singleton, hm]
  have e : sv (front ++ [lst]) ++ [Value.string ⟨#[]⟩] = sv ((front ++ [lst]) ++ [⟨#[]⟩]) := by simp [sv]
  rw [hl] at hv
  subst hv
  rw [e, sv_length, List.length_append, List.length_append, List.length_singleton, List.length_singleton, hm] at h
  exact ⟨g', cap', rfl, h⟩
theorem next_cells {w0 W W1 W2 : World} {g m cap : Nat} {front : List ByteArray} {lst : ByteArray} (h : NRS w0 W g m cap front lst) (hx : Ext W W1) (hg : W1.grownBy W2 (some g)) :
    W2.cell? ⟨w0.heap.size + 1 + 1, 0, none⟩ = some (.slice (some ⟨g, 0, none⟩) (m + 1) cap) ∧ W2.frozen? ⟨w0.heap.size + 1 + 1, 0, none⟩ = false := by
  have k1 := heap_far hg (h.ext hx).r1 (Ne.symm h.gne.1)
  exact ⟨by rw [cell_of_row _ _ 0 _ _ (0, 0) k1]; rfl, frozen_of_row W2 _ 0 _ _ k1⟩
theorem scanR_none {l : List UInt8} (h : scanR [] [] l = none) : ∀ (ls : List (List UInt8)) (r : List UInt8), nameB ls r = true → textN ls r ≠ l := fun ls r hv ht => by
  rw [← ht, textN, scanR_parts ls [] r (nameB_ne hv)] at h
  cases h
theorem scanR_bad {l : List UInt8} {p : List (List UInt8)} {r : List UInt8} (h : scanR [] [] l = some (p, r)) (hb : ¬ (nameB p r = true ∧ textN p r = l)) : ∀ (ls : List (List UInt8)) (r : List UInt8), nameB ls r = true → textN ls r ≠ l := fun ls t hv ht => by
  have h' := h
  rw [← ht, textN, scanR_parts ls [] t (nameB_ne hv), List.nil_append] at h'
  simp only [Option.some.injEq, Prod.mk.injEq] at h'
  obtain ⟨rfl, rfl⟩ := h'
  exact hb ⟨hv, ht⟩

set_option maxRecDepth 100000 in
set_option maxHeartbeats 2000000 in
theorem RNParse_at (s : ByteArray) (hs : s.size ≤ 999) (w : World) :
    Calls Tryd.prog 21 #[.string s] w fun e w' => PNm s.data.toList e w' ∧ Ext w w' := by
  obtain ⟨i0, hi, hz0, hz1, hz2⟩ := info_parts sinfo'
  have hN0 : NRS w (((w.alloc (.cells #[.slice none 0 0, .string ⟨#[]⟩] 24)).alloc (.cells #[.string ⟨#[]⟩] 9)).alloc (.cells #[.slice (some ⟨w.heap.size + 1, 0, none⟩) 1 1, .string ⟨#[]⟩] 24)) (w.heap.size + 1) 0 1 [] ⟨#[]⟩ := by
    have a0 := heap_alloc_new w (.cells #[.slice none 0 0, .string ⟨#[]⟩] 24)
    have a1 := heap_alloc_new (w.alloc (.cells #[.slice none 0 0, .string ⟨#[]⟩] 24)) (.cells #[.string ⟨#[]⟩] 9)
    have a2 := heap_alloc_new ((w.alloc (.cells #[.slice none 0 0, .string ⟨#[]⟩] 24)).alloc (.cells #[.string ⟨#[]⟩] 9)) (.cells #[.slice (some ⟨w.heap.size + 1, 0, none⟩) 1 1, .string ⟨#[]⟩] 24)
    rw [World.size_alloc] at a1
    rw [World.size_alloc, World.size_alloc] at a2
    have x1 := (Ext.refl (w.alloc (.cells #[.slice none 0 0, .string ⟨#[]⟩] 24))).alloc (.cells #[.string ⟨#[]⟩] 9)
    have x2 := (Ext.refl ((w.alloc (.cells #[.slice none 0 0, .string ⟨#[]⟩] 24)).alloc (.cells #[.string ⟨#[]⟩] 9))).alloc (.cells #[.slice (some ⟨w.heap.size + 1, 0, none⟩) 1 1, .string ⟨#[]⟩] 24)
    exact ⟨(x1.trans x2).heap a0, a2, ⟨rfl, .inr ⟨w.heap.size + 1, 1, #[.string ⟨#[]⟩], rfl, Nat.le_refl _, x2.heap a1, Nat.le_refl _, by simp [maxLen], rfl, rfl⟩⟩, rfl, (((Ext.refl w).alloc _).alloc _).alloc _⟩
  have HN0 := Lib.hid hN0; clear hN0
  go_enter Tryd.func21, Tryd.ntmps21
  go_wp2_with fail
  go_loopw [5] (fun i wr => ∃ (k g m cap : Nat) (front : List ByteArray) (lst : ByteArray), k ≤ s.size ∧ i = .int .i64 k ∧ m ≤ k ∧ lst.size ≤ k ∧ Hid (scanR [] [] s.data.toList = scanR (dat front) lst.data.toList (s.data.toList.drop k)) ∧ Hid (∀ p ∈ front, p.size ≤ 1000) ∧ Hid (NRS w wr g m cap front lst)) (fun i _ => s.size - (intOf i).toNat)
  case atStart => exact ⟨0, _, 0, 1, [], ⟨#[]⟩, Nat.zero_le _, rfl, Nat.zero_le _, Nat.le_refl _, Lib.hid rfl, Lib.hid (by simp), HN0⟩
  case round =>
    obtain ⟨k, g, m, cap, front, lst, hk, rfl, hmk, hlk, HSC, HPB, HN⟩ := hrel
    clear HN0
    have k1 : wr.cell? ⟨w.heap.size + 1 + 1, 0, none⟩ = some (.slice (some ⟨g, 0, none⟩) (m + 1) cap) := by rw [cell_of_row _ _ 0 _ _ (0, 0) HN.out.r1]; rfl
    have f1 := frozen_of_row wr (w.heap.size + 1 + 1) 0 _ _ HN.out.r1
    have k2 : wr.cell? ⟨w.heap.size + 1 + 1, 1, none⟩ = some (.string ⟨#[]⟩) := by rw [cell_of_row _ _ 1 _ _ (0, 0) HN.out.r1]; rfl
    have f2 := frozen_of_row wr (w.heap.size + 1 + 1) 1 _ _ HN.out.r1
    by_cases hlt : k < s.size
    · have HD := Lib.hid (drop_byte s k hlt)
      obtain ⟨ch, hch⟩ : ∃ ch, s[k] = ch := ⟨_, rfl⟩
      rw [hch] at HD
      by_cases h64 : ch.toNat = 64
      · have e64 : ((ch.toNat : Int) == 64) = true := by rw [h64]; rfl
        have hsc6 := (show scanR [] [] s.data.toList = some (dat (front ++ [lst]), (s.extract (k + 1) s.size).data.toList) by rw [HSC.out, HD.out, extract_drop]; simpa [dat] using scanR_at (parts := dat front) (part := lst.data.toList) (r := s.data.toList.drop (k + 1)) h64)
        obtain ⟨ps6, hps6⟩ : ∃ ps6, front ++ [lst] = ps6 := ⟨_, rfl⟩
        obtain ⟨R6, hR6⟩ : ∃ R6, s.extract (k + 1) s.size = R6 := ⟨_, rfl⟩
        have HLN := Lib.hid (show ps6.length ≤ 1000 by rw [← hps6, List.length_append, List.length_singleton, HN.out.hm]; omega)
        have HPB6 := Lib.hid (show ∀ p ∈ ps6, p.size ≤ 1000 from fun p hm => by
          rw [← hps6] at hm
          rcases List.mem_append.1 hm with hm | hm
          · exact HPB.out p hm
          · simp only [List.mem_singleton] at hm; subst hm; omega)
        have HR6 := Lib.hid (show R6.size ≤ 1000 by rw [← hR6, ByteArray.size_extract]; omega)
        rw [hps6, hR6] at hsc6
        have HSC6 := Lib.hid hsc6
        have how0 := HN.out.ow'
        rw [hps6] at how0
        obtain ⟨W6, hW6⟩ : ∃ W6, wr.setCell ⟨w.heap.size + 1 + 1, 1, none⟩ (.string R6) = W6 := ⟨_, rfl⟩
        have g6 : wr.grownBy W6 (some (w.heap.size + 1 + 1)) := hW6 ▸ grown_set (grown_refl _ _) 1 _
        obtain ⟨pv2, hpv2⟩ : ∃ pv2, Value.slice (some ⟨g, 0, none⟩) (m + 1) cap = pv2 := ⟨_, rfl⟩
        have h61 : W6.heap[w.heap.size + 1 + 1]? = some (.cells #[pv2, .string R6] 24 (0, 0)) := by rw [← hW6, heap_setCell_same wr _ 1 _ _ _ HN.out.r1, ← hpv2]; rfl
        have h60 := heap_far g6 HN.out.r0 (by omega)
        have hx6 : Ext w W6 := HN.out.ex.grown g6 (fun j hj => by injection hj with hj; omega)
        have how6 := how0.kept g6 (.inr (fun e => HN.out.gne.1 (Option.some.inj e)))
        rw [hpv2] at how6
        have hrs6 := RS.of_own how6
        have HOW6 := Lib.hid (show W6.ownsRow (w.heap.size + 1) 9 1 pv2 (sv ps6).length (sv ps6) ∧ w.heap.size < w.heap.size + 1 from ⟨how6, by omega⟩)
        clear g6 how6 how0 hps6 hpv2 h64 hsc6
        obtain ⟨A6, c6, rfl⟩ := rs_shape8 hrs6
        have HRS6 := Lib.hid hrs6
        obtain ⟨k60, k61⟩ := (show PB W6 (w.heap.size + 1 + 1) _ _ from h61).cells
        have H61 := Lib.hid h61; have H60 := Lib.hid h60; have HX6 := Lib.hid hx6
        clear hrs6 h61 h60 hx6
        have hV := RValid_at A6 c6 ps6 R6 (by have := HLN.out; omega) (fun p hp => by have := HPB6.out p hp; omega) (by have := HR6.out; omega) W6 HRS6.out
        cases hnb : nameB (dat ps6) R6.data.toList with
        | false =>
          have HNB := Lib.hid hnb
          rw [hnb] at hV
          have HV := Lib.hid hV
          clear hV hnb
          go_wp2_with fail
          refine HV.out.mono ?_
          rintro _ w7 ⟨rfl, hx7⟩
          obtain ⟨z0, z1, y0, y1, WF, hWF, hxF, d0, d1⟩ := put_end (n := w.heap.size) (hx7.heap H60.out) (HX6.out.trans hx7) (.slice none 0 0) (.string ⟨#[]⟩)
          have HXF := Lib.hid hxF; clear hxF
          go_wp2_with fail
          refine bodyPost_ret (v := .tuple #[.agg #[.slice none 0 0, .string ⟨#[]⟩], .int .i64 6]) (by simp [results, Tryd.results21, go_sem, d0, d1]; try rfl) rfl ?_
          exact ⟨.inr ⟨scanR_bad HSC6.out (fun h => by rw [HNB.out] at h; cases h.1), rfl⟩, HXF.out⟩
        | true =>
          have HNB := Lib.hid hnb
          rw [hnb] at hV
          have HV := Lib.hid hV
          clear hV hnb
          by_cases htx : textN (dat ps6) R6.data.toList = s.data.toList
          · have htb : (textN (dat ps6) R6.data.toList == s.toList) = true := by rw [ByteArray.toList_eq, htx]; exact beq_self_eq_true _
            have HTX := Lib.hid htx; clear htx
            go_wp2_with fail
            refine HV.out.mono ?_
            rintro _ w7 ⟨rfl, hx7⟩
            obtain ⟨k70, k71⟩ := (show PB w7 (w.heap.size + 1 + 1) _ _ from hx7.heap H61.out).cells
            have HX7 := Lib.hid hx7
            go_wp2_with fail
            refine (RNText_at A6 c6 ps6 R6 (by have := HLN.out; omega) HPB6.out HR6.out w7 (HRS6.out.ext hx7)).mono ?_
            rintro _ w8 ⟨rfl, hx8⟩
            have hx9 := HX7.out.trans hx8
            obtain ⟨k80, k81⟩ := (show PB w8 (w.heap.size + 1 + 1) _ _ from hx9.heap H61.out).cells
            obtain ⟨z0, z1, y0, y1, WF, hWF, hxF, d0, d1⟩ := put_end (n := w.heap.size) (hx9.heap H60.out) (HX6.out.trans hx9) (.slice A6 ps6.length c6) (.string R6)
            have HXF := Lib.hid hxF
            have HRF := Lib.hid (show RS WF (.slice A6 ps6.length c6) (sv ps6) from hWF ▸ rs_put (H60.out) hx9 HRS6.out (HOW6.out))
            clear hxF hx9 hx8 hx7
            go_wp2_with fail
            refine bodyPost_ret (v := .tuple #[.agg #[.slice A6 ps6.length c6, .string R6], .int .i64 0]) (by simp [results, Tryd.results21, go_sem, d0, d1]; try rfl) rfl ?_
            exact ⟨.inl ⟨A6, c6, ps6, R6, HNB.out, HTX.out, rfl, HRF.out⟩, HXF.out⟩
          · have htb : (textN (dat ps6) R6.data.toList == s.toList) = false := by rw [ByteArray.toList_eq, beq_eq_false_iff_ne]; exact htx
            have HTX := Lib.hid htx; clear htx
            go_wp2_with fail
            refine HV.out.mono ?_
            rintro _ w7 ⟨rfl, hx7⟩
            obtain ⟨k70, k71⟩ := (show PB w7 (w.heap.size + 1 + 1) _ _ from hx7.heap H61.out).cells
            have HX7 := Lib.hid hx7
            go_wp2_with fail
            refine (RNText_at A6 c6 ps6 R6 (by have := HLN.out; omega) HPB6.out HR6.out w7 (HRS6.out.ext hx7)).mono ?_
            rintro _ w8 ⟨rfl, hx8⟩
            have hx9 := HX7.out.trans hx8
            obtain ⟨z0, z1, y0, y1, WF, hWF, hxF, d0, d1⟩ := put_end (n := w.heap.size) (hx9.heap H60.out) (HX6.out.trans hx9) (.slice none 0 0) (.string ⟨#[]⟩)
            have HXF := Lib.hid hxF; clear hxF
            go_wp2_with fail
            refine bodyPost_ret (v := .tuple #[.agg #[.slice none 0 0, .string ⟨#[]⟩], .int .i64 6]) (by simp [results, Tryd.results21, go_sem, d0, d1]; try rfl) rfl ?_
            exact ⟨.inr ⟨scanR_bad HSC6.out (fun h => HTX.out h.2), rfl⟩, HXF.out⟩
      · have e64 : ((ch.toNat : Int) == 64) = false := by rw [beq_eq_false_iff_ne]; omega
        by_cases h47 : ch.toNat = 47
        · have e47 : ((ch.toNat : Int) == 47) = true := by rw [h47]; rfl
          have HS2 := Lib.hid (show scanR [] [] s.data.toList = scanR (dat (front ++ [lst])) [] (s.data.toList.drop (k + 1)) by rw [HSC.out, HD.out]; simpa [dat] using scanR_sl (parts := dat front) (part := lst.data.toList) (r := s.data.toList.drop (k + 1)) h47)
          clear h47 h64
          go_wp2_with (at_builtin; refine wpList_append_rs _ rfl (.tmp 33) (.tmp 34) 22 rfl (w.heap.size + 1) 9 i0 (.string ⟨#[]⟩) 16 Tryd.underlying22 hi hz0 hz1 hz2 rfl _ (sv (front ++ [lst])) rfl (ownsRow_ext8 HN.out.ow' ((Ext.refl wr).alloc _)) _ [.string ⟨#[]⟩] rfl (RS.one _ _ _) (by simp [Value.oneCell']) ?hb (by omega) ?hm ?_; rotate_right; intro v4 w4 hown4 hg4 _; obtain ⟨g4, cap4, rfl, ho4⟩ := next_row HN.out.hm hown4; obtain ⟨c4, f4⟩ := next_cells HN.out ((Ext.refl wr).alloc (.cells #[.string ⟨#[]⟩] 9)) hg4)
          case hb => rw [sv_length, List.length_append, HN.out.hm]; simp; omega
          case hm => exact Nat.le_trans (show w.heap.size + 1 ≤ wr.heap.size by have := HN.out.gne; omega) (by simp)
          have HN4 := Lib.hid (HN.out.next ((Ext.refl wr).alloc (.cells #[.string ⟨#[]⟩] 9)) hg4 ho4)
          clear hown4 hg4 ho4
          go_roundw
          case rel => exact ⟨k + 1, g4, m + 1, cap4, front ++ [lst], ⟨#[]⟩, by omega, by go_num, by omega, Nat.zero_le _, HS2, Lib.hid (fun p hm => by
            rcases List.mem_append.1 hm with hm | hm
            · exact HPB.out p hm
            · simp only [List.mem_singleton] at hm; subst hm; omega), HN4⟩
          case measure => simp [intOf]; omega
        · have e47 : ((ch.toNat : Int) == 47) = false := by rw [beq_eq_false_iff_ne]; omega
          by_cases h92 : ch.toNat = 92
          · have e92 : ((ch.toNat : Int) == 92) = true := by rw [h92]; rfl
            by_cases hke : k + 1 = s.size
            · have hke' : s.size = k + 1 := hke.symm
              have HNO := Lib.hid (scanR_none (l := s.data.toList) (by rw [HSC.out, HD.out, drop_end s (k + 1) (by omega)]; exact scanR_end h92))
              clear h92 hke h47 h64
              obtain ⟨z0, z1, y0, y1, WF, hWF, hxF, d0, d1⟩ := put_end (n := w.heap.size) HN.out.r0 HN.out.ex (.slice none 0 0) (.string ⟨#[]⟩)
              have HXF := Lib.hid hxF; clear hxF
              go_wp2_with fail
              refine bodyPost_ret (v := .tuple #[.agg #[.slice none 0 0, .string ⟨#[]⟩], .int .i64 6]) (by simp [results, Tryd.results21, go_sem, d0, d1]; try rfl) rfl ?_
              exact ⟨.inr ⟨HNO.out, rfl⟩, HXF.out⟩
            · have ek2 : ((k : Int) + 1 == (s.size : Int)) = false := by rw [beq_eq_false_iff_ne]; omega
              have ek3 : (k + 1 == s.size) = false := by rw [beq_eq_false_iff_ne]; omega
              have hk1 : k + 1 < s.size := by omega
              have HD2 := Lib.hid (drop_byte s (k + 1) hk1)
              obtain ⟨d, hd⟩ : ∃ d, s[k + 1] = d := ⟨_, rfl⟩
              rw [hd] at HD2
              have hsl := run_one s (k + 1) hk1 d hd ((k : Int) + 1) ((k : Int) + 1 + 1) (by omega) (by omega)
              have HS2 := Lib.hid (show scanR [] [] s.data.toList = scanR (dat front) (lst.data.toList ++ [d]) (s.data.toList.drop (k + 1 + 1)) by rw [HSC.out, HD.out, HD2.out]; exact scanR_bs h92)
              clear h92 hke h47 h64
              have hmm : (m : Int) < (m : Int) + 1 := by omega
              go_wp2_with fail
              refine wp_region_ext_tail 15 (fun _ _ _ => False) (by kernel_rfl) (by kernel_rfl) ?_
              refine wpE_op rfl rfl (fun w' hw' K' hK' => ?_)
              have hE := hw'.1
              go_step
              refine hK' _ ⟨_, rfl⟩ ?_
              clear hK' K'  hE hw' w'
              refine wpE_op rfl rfl (fun w' hw' K' hK' => ?_)
              have hE := hw'.1
              have u0 : w'.cell? ⟨w.heap.size + 1 + 1, 0, none⟩ = some (.slice (some ⟨g, 0, none⟩) (m + 1) cap) := ((Ext.drew wr).trans hE).cell k1
              go_step
              refine hK' _ ⟨_, rfl⟩ ?_
              clear hK' K' u0 hE hw' w'
              refine wpE_op rfl rfl (fun w' hw' K' hK' => ?_)
              have hE := hw'.1
              go_step
              refine hK' _ ⟨_, rfl⟩ ?_
              clear hK' K'  hE hw' w'
              refine wpE_op rfl rfl (fun w' hw' K' hK' => ?_)
              have hE := hw'.1
              go_step
              refine hK' _ ⟨_, rfl⟩ ?_
              clear hK' K'  hE hw' w'
              refine wpE_op rfl rfl (fun w' hw' K' hK' => ?_)
              have hE := hw'.1
              have u0 : w'.cell? ⟨w.heap.size + 1 + 1, 0, none⟩ = some (.slice (some ⟨g, 0, none⟩) (m + 1) cap) := ((Ext.drew wr).trans hE).cell k1
              go_step
              refine hK' _ ⟨_, rfl⟩ ?_
              clear hK' K' u0 hE hw' w'
              refine wpE_op rfl rfl (fun w' hw' K' hK' => ?_)
              have hE := hw'.1
              go_step
              refine hK' _ ⟨_, rfl⟩ ?_
              clear hK' K'  hE hw' w'
              refine wpE_op rfl rfl (fun w' hw' K' hK' => ?_)
              have hE := hw'.1
              go_step
              refine hK' _ ⟨_, rfl⟩ ?_
              clear hK' K'  hE hw' w'
              refine wpE_op rfl rfl (fun w' hw' K' hK' => ?_)
              have hE := hw'.1
              have u0 := ((Ext.drew wr).trans hE).cell HN.out.last.1
              go_step
              refine hK' _ ⟨_, rfl⟩ ?_
              clear hK' K' u0 hE hw' w'
              refine wpE_op rfl rfl (fun w' hw' K' hK' => ?_)
              have hE := hw'.1
              go_step
              refine hK' _ ⟨_, rfl⟩ ?_
              clear hK' K'  hE hw' w'
              refine wpE_op rfl rfl (fun w' hw' K' hK' => ?_)
              have hE := hw'.1
              go_step
              refine hK' _ ⟨_, rfl⟩ ?_
              clear hK' K'  hE hw' w'
              refine wpE_op rfl rfl (fun w' hw' K' hK' => ?_)
              have hE := hw'.1
              go_step
              refine hK' _ ⟨_, rfl⟩ ?_
              clear hK' K'  hE hw' w'
              refine wpE_op rfl rfl (fun w' hw' K' hK' => ?_)
              have hE := hw'.1
              go_step
              refine hK' _ ⟨_, rfl⟩ ?_
              clear hK' K'  hE hw' w'
              refine wpE_op rfl rfl (fun w' hw' K' hK' => ?_)
              have hE := hw'.1
              go_step
              refine hK' _ ⟨_, rfl⟩ ?_
              clear hK' K'  hE hw' w'
              refine wpE_op rfl rfl (fun w' hw' K' hK' => ?_)
              have hE := hw'.1
              go_step
              refine hK' _ ⟨_, rfl⟩ ?_
              clear hK' K'  hE hw' w'
              refine wpE_op rfl rfl (fun w' hw' K' hK' => ?_)
              have hE := hw'.1
              go_step
              refine hK' _ ⟨_, rfl⟩ ?_
              clear hK' K'  hE hw' w'
              refine wpE_nil (fun w7 hw7 => ?_)
              have HN7 := Lib.hid (HN.out.ext ((Ext.drew wr).trans hw7.1))
              have c7 := HN7.out.last.1
              have f7 := HN7.out.last.2
              clear hw7
              simp only [List.drop_succ_cons, List.drop_zero]
              go_wp2_with fail
              go_roundw
              case rel => exact ⟨k + 1 + 1, g, m, cap, front, _, by omega, by go_num, by omega, by rw [ByteArray.size_append]; show lst.size + 1 ≤ _; omega, Lib.hid (by rw [app_one]; exact HS2.out), HPB, Lib.hid (HN7.out.put _)⟩
              case measure => simp [intOf]; omega
          · have e92 : ((ch.toNat : Int) == 92) = false := by rw [beq_eq_false_iff_ne]; omega
            have hsl := run_one s k hlt ch hch (k : Int) ((k : Int) + 1) rfl rfl
            have HS2 := Lib.hid (show scanR [] [] s.data.toList = scanR (dat front) (lst.data.toList ++ [ch]) (s.data.toList.drop (k + 1)) by rw [HSC.out, HD.out]; exact scanR_ch h92 h47 h64)
            clear h92 h47 h64
            have hmm : (m : Int) < (m : Int) + 1 := by omega
            go_wp2_with fail
            refine wp_region_ext_tail 15 (fun _ _ _ => False) (by kernel_rfl) (by kernel_rfl) ?_
            refine wpE_op rfl rfl (fun w' hw' K' hK' => ?_)
            have hE := hw'.1
            go_step
            refine hK' _ ⟨_, rfl⟩ ?_
            clear hK' K'  hE hw' w'
            refine wpE_op rfl rfl (fun w' hw' K' hK' => ?_)
            have hE := hw'.1
            have u0 : w'.cell? ⟨w.heap.size + 1 + 1, 0, none⟩ = some (.slice (some ⟨g, 0, none⟩) (m + 1) cap) := ((Ext.drew wr).trans hE).cell k1
            go_step
            refine hK' _ ⟨_, rfl⟩ ?_
            clear hK' K' u0 hE hw' w'
            refine wpE_op rfl rfl (fun w' hw' K' hK' => ?_)
            have hE := hw'.1
            go_step
            refine hK' _ ⟨_, rfl⟩ ?_
            clear hK' K'  hE hw' w'
            refine wpE_op rfl rfl (fun w' hw' K' hK' => ?_)
            have hE := hw'.1
            go_step
            refine hK' _ ⟨_, rfl⟩ ?_
            clear hK' K'  hE hw' w'
            refine wpE_op rfl rfl (fun w' hw' K' hK' => ?_)
            have hE := hw'.1
            have u0 : w'.cell? ⟨w.heap.size + 1 + 1, 0, none⟩ = some (.slice (some ⟨g, 0, none⟩) (m + 1) cap) := ((Ext.drew wr).trans hE).cell k1
            go_step
            refine hK' _ ⟨_, rfl⟩ ?_
            clear hK' K' u0 hE hw' w'
            refine wpE_op rfl rfl (fun w' hw' K' hK' => ?_)
            have hE := hw'.1
            go_step
            refine hK' _ ⟨_, rfl⟩ ?_
            clear hK' K'  hE hw' w'
            refine wpE_op rfl rfl (fun w' hw' K' hK' => ?_)
            have hE := hw'.1
            go_step
            refine hK' _ ⟨_, rfl⟩ ?_
            clear hK' K'  hE hw' w'
            refine wpE_op rfl rfl (fun w' hw' K' hK' => ?_)
            have hE := hw'.1
            have u0 := ((Ext.drew wr).trans hE).cell HN.out.last.1
            go_step
            refine hK' _ ⟨_, rfl⟩ ?_
            clear hK' K' u0 hE hw' w'
            refine wpE_op rfl rfl (fun w' hw' K' hK' => ?_)
            have hE := hw'.1
            go_step
            refine hK' _ ⟨_, rfl⟩ ?_
            clear hK' K'  hE hw' w'
            refine wpE_op rfl rfl (fun w' hw' K' hK' => ?_)
            have hE := hw'.1
            go_step
            refine hK' _ ⟨_, rfl⟩ ?_
            clear hK' K'  hE hw' w'
            refine wpE_op rfl rfl (fun w' hw' K' hK' => ?_)
            have hE := hw'.1
            go_step
            refine hK' _ ⟨_, rfl⟩ ?_
            clear hK' K'  hE hw' w'
            refine wpE_op rfl rfl (fun w' hw' K' hK' => ?_)
            have hE := hw'.1
            go_step
            refine hK' _ ⟨_, rfl⟩ ?_
            clear hK' K'  hE hw' w'
            refine wpE_op rfl rfl (fun w' hw' K' hK' => ?_)
            have hE := hw'.1
            go_step
            refine hK' _ ⟨_, rfl⟩ ?_
            clear hK' K'  hE hw' w'
            refine wpE_op rfl rfl (fun w' hw' K' hK' => ?_)
            have hE := hw'.1
            go_step
            refine hK' _ ⟨_, rfl⟩ ?_
            clear hK' K'  hE hw' w'
            refine wpE_op rfl rfl (fun w' hw' K' hK' => ?_)
            have hE := hw'.1
            go_step
            refine hK' _ ⟨_, rfl⟩ ?_
            clear hK' K'  hE hw' w'
            refine wpE_nil (fun w7 hw7 => ?_)
            have HN7 := Lib.hid (HN.out.ext ((Ext.drew wr).trans hw7.1))
            have c7 := HN7.out.last.1
            have f7 := HN7.out.last.2
            clear hw7
            simp only [List.drop_succ_cons, List.drop_zero]
            go_wp2_with fail
            go_roundw
            case rel => exact ⟨k + 1, g, m, cap, front, _, by omega, by go_num, by omega, by rw [ByteArray.size_append]; show lst.size + 1 ≤ _; omega, Lib.hid (by rw [app_one]; exact HS2.out), HPB, Lib.hid (HN7.out.put _)⟩
            case measure => simp [intOf]; omega
    · have HNO := Lib.hid (scanR_none (l := s.data.toList) (by rw [HSC.out, drop_end s k hlt]; rfl))
      obtain ⟨ps6, hps6⟩ : ∃ ps6, front ++ [lst] = ps6 := ⟨_, rfl⟩
      have hl6 : ps6.length = m + 1 := by rw [← hps6, List.length_append, List.length_singleton, HN.out.hm]
      have hrs6 : RS wr (.slice (some ⟨g, 0, none⟩) ps6.length cap) (sv ps6) := by rw [hl6, ← hps6]; exact RS.of_own HN.out.ow
      have hb6 : ∀ p ∈ ps6, p.size ≤ 4294967280 := fun p hm => by
        rw [← hps6] at hm
        rcases List.mem_append.1 hm with hm | hm
        · have := HPB.out p hm; omega
        · simp only [List.mem_singleton] at hm; subst hm; omega
      have hV := RValid_at _ _ ps6 ⟨#[]⟩ (by rw [hl6]; omega) hb6 (by decide) wr hrs6
      have hnb : nameB (dat ps6) (⟨#[]⟩ : ByteArray).data.toList = false := by unfold nameB; simp [realmB, sizedB]
      rw [hnb, hl6] at hV
      have HV := Lib.hid hV
      clear hV hnb hrs6 hb6 hl6 hps6
      go_wp2_with fail
      refine HV.out.mono ?_
      rintro _ w7 ⟨rfl, hx7⟩
      obtain ⟨z0, z1, y0, y1, WF, hWF, hxF, d0, d1⟩ := put_end (n := w.heap.size) (hx7.heap HN.out.r0) (HN.out.ex.trans hx7) (.slice none 0 0) (.string ⟨#[]⟩)
      have HXF := Lib.hid hxF; clear hxF
      go_wp2_with fail
      refine bodyPost_ret (v := .tuple #[.agg #[.slice none 0 0, .string ⟨#[]⟩], .int .i64 6]) (by simp [results, Tryd.results21, go_sem, d0, d1]; try rfl) rfl ?_
      exact ⟨.inr ⟨HNO.out, rfl⟩, HXF.out⟩
end Go.Proofs.YtgclchdccgkjaaaDoor
