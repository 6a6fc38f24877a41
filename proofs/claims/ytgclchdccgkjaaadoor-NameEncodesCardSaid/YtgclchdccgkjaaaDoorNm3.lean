/- Names: Realm. (wip/tools/gennmrealm.py printed this.) -/
import Derived.Test.YtgclchdccgkjaaaDoorNm2
namespace Go.Proofs.YtgclchdccgkjaaaDoor
open Go Go.RowKit
set_option linter.unusedVariables false

theorem okc_yes {c : UInt8} (h : 65 ≤ (c.toNat : Int) ∧ (c.toNat : Int) ≤ 90 ∨ 48 ≤ (c.toNat : Int) ∧ (c.toNat : Int) ≤ 57 ∨ (c.toNat : Int) = 45) : okc c = true := by unfold okc; exact decide_eq_true (by omega)
theorem okc_no {c : UInt8} (h : ¬ (65 ≤ (c.toNat : Int) ∧ (c.toNat : Int) ≤ 90 ∨ 48 ≤ (c.toNat : Int) ∧ (c.toNat : Int) ≤ 57 ∨ (c.toNat : Int) = 45)) : okc c = false := by unfold okc; exact decide_eq_false (by omega)
theorem realm_bad {s : ByteArray} {pre : List ByteArray} {x : ByteArray} {rest : List (List UInt8)} (h : spl [] s.data.toList = dat pre ++ x.data.toList :: rest) (hb : labelB x.data.toList = false) : realmB s.data.toList = false := by
  rw [realm_labels, h, List.all_append, List.all_cons, hb]
  simp
theorem label_empty {x : ByteArray} (h : x.data.toList = []) : labelB x.data.toList = false := by rw [h]; rfl
theorem label_no {x : ByteArray} (h : x.data.toList.all okc = false) : labelB x.data.toList = false := by unfold labelB; rw [h, Bool.and_false]
theorem label_yes {x : ByteArray} (h0 : x.data.toList ≠ []) (h : x.data.toList.all okc = true) : labelB x.data.toList = true := by
  unfold labelB
  rw [h, Bool.and_true]
  cases hx : x.data.toList with
  | nil => exact absurd hx h0
  | cons a b => rfl
/-- Realm's own: the result's cell; the labels that have come are fine. -/
def RlI (w : World) (pre : List ByteArray) (W : World) : Prop := W.heap[w.heap.size]? = some (.cells #[.bool false] 4 (0, 0)) ∧ (dat pre).all labelB = true ∧ Ext w W
def RlX (s : ByteArray) (w : World) (c : Code) (W : World) : Prop := c = .ret ∧ realmB s.data.toList = false ∧ W.heap[w.heap.size]? = some (.cells #[.bool false] 4 (0, 0)) ∧ Ext w W
theorem RlI.stab {B0 : Nat} {w : World} (h : w.heap.size ≤ B0) (pre : List ByteArray) : Stab B0 (RlI w pre) := (Stab.heap _ _ _ _).and ((Stab.pure _).and (Stab.ext w h))
theorem RlX.stab {B0 : Nat} {w : World} (h : w.heap.size ≤ B0) (s : ByteArray) (c : Code) : Stab B0 (RlX s w c) := (Stab.pure _).and ((Stab.pure _).and ((Stab.heap _ _ _ _).and (Stab.ext w h)))
theorem own_far {A B : World} {r : Option Nat} {b n k : Nat} {o : Obj} (hr : ∀ k, r = some k → k = b) (hg : A.grownBy B r) (hb : n < b) (hk : k = n) (h : A.heap[k]? = some o) : B.heap[k]? = some o :=
  (hg.block k (Array.getElem?_eq_some_iff.1 h).1 (fun e => by have := hr k e.symm; omega)).trans h
theorem own_ext {w A B : World} {r : Option Nat} {b : Nat} (hr : ∀ k, r = some k → k = b) (hg : A.grownBy B r) (hb : w.heap.size ≤ b) (h : Ext w A) : Ext w B := h.grown hg (fun k hk => by have := hr k hk; omega)
attribute [local go_sem] Oper.semAt_some

set_option maxRecDepth 100000 in
set_option maxHeartbeats 4000000 in
theorem Realm_at (s : ByteArray) (hs : s.size ≤ 4294967280) (w : World) :
    Calls Tryd.prog 14 #[.string s] w fun e w' => e = .returned (.bool (realmB s.data.toList)) ∧ Ext w w' := by
  have HS := Lib.hid hs
  obtain ⟨b, hb⟩ : ∃ b, realmB s.data.toList = b := ⟨_, rfl⟩
  have HB := Lib.hid hb
  rw [hb]; clear hb
  have hxa := (Ext.refl w).alloc (.cells #[.bool false] 4)
  have ga := heap_alloc_new w (.cells #[.bool false] 4)
  obtain ⟨wa, hwa⟩ : ∃ wa, wa = w.alloc (.cells #[.bool false] 4) := ⟨_, rfl⟩
  have hza : wa.heap.size = w.heap.size + 1 := by rw [hwa]; simp
  rw [← hwa] at hxa ga
  refine calls_of_marks Tryd.func14 rfl ?_
  simp only [Tryd.ntmps14, List.size_toArray, List.length_cons, List.length_nil, Nat.reduceAdd, Nat.reduceSub, Array.replicate_succ, Array.replicate_zero, List.push_toArray, List.append_toArray, List.nil_append, List.cons_append]
  go_wp2_with fail
  rw [← hwa]
  clear hwa
  refine (sized_at s wa).mono ?_
  rintro e w' ⟨rfl, rfl⟩
  have k0 := (row1 ga).1
  have f0 := (row1 ga).2
  have HGA := Lib.hid ga; have HXA := Lib.hid hxa; clear ga hxa
  cases hsz : sizedB s.data.toList with
  | false =>
    have HZ := Lib.hid hsz; clear hsz
    go_wp2_with fail
    have hcf := (row1 (row1_set (.bool false) HGA.out)).1
    have hxf := HXA.out.setCell (p := ⟨w.heap.size, 0, none⟩) (Nat.le_refl _) (.bool false)
    have hrb : b = false := by rw [← HB.out]; unfold realmB; rw [HZ.out]; rfl
    rw [hrb]
    exact ⟨.bool false, by simp [results, Tryd.results14, go_sem, hcf], rfl, hxf⟩
  | true =>
    have HZ := Lib.hid hsz; clear hsz
    go_wp2_with fail
    refine (SplitSeq_at s wa).mono ?_
    rintro e wb ⟨rfl, hit, hzb, hxb⟩
    rw [hza] at hit ⊢
    have gb := hxb.heap HGA.out
    have HGB := Lib.hid gb; have HXB := Lib.hid (HXA.out.trans hxb); have HIT := Lib.hid hit; have HZB := Lib.hid hzb; have HZA := Lib.hid hza
    clear gb hxb hit k0 f0 hza
    go_wp2_with fail
    have HE1 := Lib.hid (show w.heap.size + 1 ≠ w.heap.size + 1 + 1 by omega)
    refine wpIn_wide.1 (wp_rangeP (gf := 77) (lb := #[.pointer (some ⟨w.heap.size + 1 + 1, 0, none⟩), .pointer (some ⟨w.heap.size + 1, 0, none⟩), .pointer (some ⟨w.heap.size + 1 + 1 + 1, 0, none⟩)]) rfl (Go.Proofs.enters_of Tryd.func77 (by kernel_rfl) rfl)
      (split_iter s HS.out (w.heap.size + 1) (w.heap.size + 1 + 1) (w.heap.size + 1 + 1 + 1) (by omega) (by omega)) (fun _ => rfl) (fun k hk => by have := HZB.out; have := HZA.out; omega) HIT.out (fun pre => SpIt.stab _ _ _ _ _ _)
      (fun pre W => RlI w pre W) (fun cd pre W => RlX s w cd W) (fun pre => RlI.stab HXB.out.size _) (fun cd pre => RlX.stab HXB.out.size _ _)
      (fun pre X Y r hr hg h => ⟨own_far hr hg (by omega) rfl h.1, h.2.1, own_ext hr hg (by omega) h.2.2⟩)
      (fun cd pre X Y r hr hg h => ⟨h.1, h.2.1, own_far hr hg (by omega) rfl h.2.2.1, own_ext hr hg (by omega) h.2.2.2⟩)
      ⟨HGB.out, by simp [dat], HXB.out⟩ ?_ ?_ ?_)
    · intro L pre x W hL hnL hzW hIW hitW hGW
      gi_wp2_with fail
      refine ⟨KeepsFrom.refl _ _, fun W2 hg2 hn2 hz2 => ?_⟩
      have hI2 := (RlI.stab (B0 := wb.heap.size) HXB.out.size pre) W W2 L hL hn2 hg2 hIW
      have hit2 := (SpIt.stab wb.heap.size s (w.heap.size + 1) (w.heap.size + 1 + 1) (w.heap.size + 1 + 1 + 1) pre) W W2 L hL hn2 hg2 hitW
      obtain ⟨⟨rest, hrest⟩, hxs⟩ := hGW
      have hxs2 : x.size ≤ 4294967280 := Nat.le_trans hxs HS.out
      have HR := Lib.hid hrest; have HI2 := Lib.hid hI2; have HIT2 := Lib.hid hit2
      have k0 := (row1 hI2.1).1; have f0 := (row1 hI2.1).2
      clear hIW hitW hg2 hn2 hnL hI2 hit2 hrest hxs
      have hbad : labelB x.data.toList = false → RlX s w .ret (W2.setCell ⟨w.heap.size, 0, none⟩ (.bool false)) := fun h =>
        ⟨rfl, realm_bad HR.out h, row1_set _ HI2.out.1, HI2.out.2.2.setCell (p := ⟨w.heap.size, 0, none⟩) (Nat.le_refl _) _⟩
      have HBD := Lib.hid hbad; clear hbad
      by_cases hemp : x.data.toList = []
      · have e1 : x.toList = [] := by rw [ByteArray.toList_eq]; exact hemp
        have HBAD := Lib.hid (HBD.out (label_empty hemp)); clear hemp
        gi_wp2_with fail
        exact ⟨(KeepsOthers.setCell W2 ⟨w.heap.size, 0, none⟩ (.bool false)).from _, HBAD.out⟩
      · have e1 : x.toList.isEmpty = false := by rw [ByteArray.toList_eq]; cases hx : x.data.toList with | nil => exact absurd hx hemp | cons a b => rfl
        have e2 : x.toList ≠ [] := by rw [ByteArray.toList_eq]; exact hemp
        have HNE := Lib.hid hemp; clear hemp
        gi_wp2_with fail
        gi_loopw [4, 5, 16] (fun _ _ i wr => ∃ k : Nat, k ≤ x.size ∧ i = .int .i64 k ∧ (x.data.toList.take k).all okc = true ∧ wr = W2) (fun _ _ i _ => x.size - (intOf i).toNat)
        case atStart => exact ⟨0, Nat.zero_le _, rfl, by simp, rfl⟩
        case round =>
          obtain ⟨k, hk, rfl, hall, rfl⟩ := hrel
          have HA := Lib.hid hall; clear hall
          by_cases hlt : k < x.size
          · rcases (show (x[k].toNat : Int) < 48 ∧ (x[k].toNat : Int) ≠ 45 ∨ (x[k].toNat : Int) = 45 ∨ (48 ≤ (x[k].toNat : Int) ∧ (x[k].toNat : Int) ≤ 57) ∨ (57 < (x[k].toNat : Int) ∧ (x[k].toNat : Int) < 65) ∨ (65 ≤ (x[k].toNat : Int) ∧ (x[k].toNat : Int) ≤ 90) ∨ 90 < (x[k].toNat : Int) by omega) with ⟨g1, g2⟩ | g1 | ⟨g1, g2⟩ | ⟨g1, g2⟩ | ⟨g1, g2⟩ | g1
            · have g3 : (x[k].toNat : Int) < 65 := by omega
              have g4 : ((x[k].toNat : Int) == 45) = false := by rw [beq_eq_false_iff_ne]; exact g2
              have HBAD := Lib.hid (HBD.out (label_no (all_take_no hlt (okc_no (by omega)))))
              gi_wp2_with fail
              exact ⟨(KeepsOthers.setCell wr ⟨w.heap.size, 0, none⟩ (.bool false)).from _, HBAD.out⟩
            · have g3 : (x[k].toNat : Int) < 65 := by omega
              have g5 : (x[k].toNat : Int) < 48 := by omega
              have g4 : ((x[k].toNat : Int) == 45) = true := by rw [g1]; rfl
              have HY := Lib.hid (all_take_yes hlt HA.out (okc_yes (by omega)))
              clear g1
              gi_wp2_with fail
              go_roundw
              case rel => exact ⟨k + 1, by omega, by go_num, HY.out, trivial⟩
              case measure => simp [intOf]; omega
            · have g3 : (x[k].toNat : Int) < 65 := by omega
              have HY := Lib.hid (all_take_yes hlt HA.out (okc_yes (by omega)))
              gi_wp2_with fail
              go_roundw
              case rel => exact ⟨k + 1, by omega, by go_num, HY.out, trivial⟩
              case measure => simp [intOf]; omega
            · have g3 : 48 ≤ (x[k].toNat : Int) := by omega
              have g4 : ((x[k].toNat : Int) == 45) = false := by rw [beq_eq_false_iff_ne]; omega
              have HBAD := Lib.hid (HBD.out (label_no (all_take_no hlt (okc_no (by omega)))))
              gi_wp2_with fail
              exact ⟨(KeepsOthers.setCell wr ⟨w.heap.size, 0, none⟩ (.bool false)).from _, HBAD.out⟩
            · have HY := Lib.hid (all_take_yes hlt HA.out (okc_yes (by omega)))
              gi_wp2_with fail
              go_roundw
              case rel => exact ⟨k + 1, by omega, by go_num, HY.out, trivial⟩
              case measure => simp [intOf]; omega
            · have g2 : 65 ≤ (x[k].toNat : Int) := by omega
              have g3 : 48 ≤ (x[k].toNat : Int) := by omega
              have g5 : 57 < (x[k].toNat : Int) := by omega
              have g4 : ((x[k].toNat : Int) == 45) = false := by rw [beq_eq_false_iff_ne]; omega
              have HBAD := Lib.hid (HBD.out (label_no (all_take_no hlt (okc_no (by omega)))))
              gi_wp2_with fail
              exact ⟨(KeepsOthers.setCell wr ⟨w.heap.size, 0, none⟩ (.bool false)).from _, HBAD.out⟩
          · have hfull : x.data.toList.all okc = true := by
              have := HA.out
              rwa [List.take_of_length_le (by rw [size_list]; omega)] at this
            have HL := Lib.hid (label_yes HNE.out hfull); clear hfull
            gi_wp2_with fail
            exact ⟨KeepsFrom.refl _ _, HIT2.out, HI2.out.1, by rw [show dat (pre ++ [x]) = dat pre ++ [x.data.toList] by simp [dat], List.all_append, HI2.out.2.1]; simp [HL.out], HI2.out.2.2⟩
    · intro D xs W hDw hS hIW hD
      have hxs : (spl [] s.data.toList).all labelB = true := by rw [← hS]; exact hIW.2.1
      have hrb : b = true := by rw [← HB.out, realm_labels, HZ.out, hxs]; rfl
      have hDn : w.heap.size < D := by have := HZB.out; have := HZA.out; omega
      have k0 := (row1 hIW.1).1; have f0 := (row1 hIW.1).2
      have hg := grown_set1 W w.heap.size (.bool true)
      have hD2 := heap_far hg hD (by omega)
      have c2 := row1_set (.bool true) hIW.1
      have hx2 := hIW.2.2.setCell (p := ⟨w.heap.size, 0, none⟩) (Nat.le_refl _) (.bool true)
      obtain ⟨Ws, hWs⟩ : ∃ Ws, W.setCell ⟨w.heap.size, 0, none⟩ (.bool true) = Ws := ⟨_, rfl⟩
      rw [hWs] at hD2 c2 hx2
      have HD2 := Lib.hid hD2; have HC2 := Lib.hid c2; have HX2 := Lib.hid hx2; have HRB := Lib.hid hrb
      clear hIW hD hg hD2 c2 hx2 hxs hrb hS
      go_wp2_with fail
      have h4p : (Ws.putObj D (.deferred none)).heap[w.heap.size]? = some (.cells #[.bool true] 4 (0, 0)) := (World.putObj_heap_other (by omega)).trans HC2.out
      have hxp : Ext w (Ws.putObj D (.deferred none)) := Ext.of_grown HX2.out (grown_put HD2.out) (by omega)
      have hcp := (row1 h4p).1
      refine ⟨by simp, .inl ⟨_, _, rfl, run_takeDeferred HD2.out, ?_⟩⟩
      rw [HRB.out]
      exact ⟨.bool true, by simp [results, Tryd.results14, go_sem, hcp], rfl, hxp⟩
    · rintro D cd pre W hDw hS ⟨rfl, hrf, hc, hx⟩ hD
      refine wpIn_wide.2 ?_
      have hDn : w.heap.size < D := by have := HZB.out; have := HZA.out; omega
      have hrb : b = false := by rw [← HB.out]; exact hrf
      have HRB := Lib.hid hrb
      have h4p : (W.putObj D (.deferred none)).heap[w.heap.size]? = some (.cells #[.bool false] 4 (0, 0)) := (World.putObj_heap_other (by omega)).trans hc
      have hxp : Ext w (W.putObj D (.deferred none)) := Ext.of_grown hx (grown_put hD) (by omega)
      have HD := Lib.hid hD; have HXP := Lib.hid hxp; have H4P := Lib.hid h4p
      clear hD hxp h4p hx hc hrf hrb hS
      go_wp2_with fail
      have hcp := (row1 H4P.out).1
      refine ⟨by simp, .inl ⟨_, _, rfl, run_takeDeferred HD.out, ?_⟩⟩
      rw [HRB.out]
      exact ⟨.bool false, by simp [results, Tryd.results14, go_sem, hcp], rfl, HXP.out⟩
end Go.Proofs.YtgclchdccgkjaaaDoor
