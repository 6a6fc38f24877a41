/- Names: the program's Read. (wip/tools/gennm30.py printed this.) -/
import Derived.Test.YtgclchdccgkjaaaDoorMg37
import Derived.Deep.RegionHeld3
import Derived.Deep.RegionWith
namespace Go.Proofs.YtgclchdccgkjaaaDoor
open Go Go.RowKit
set_option linter.unusedVariables false

theorem str_len {m v : List UInt8} {u : Nat} (h : readStringF m = (v, 0, u)) : v.length ≤ m.length ∧ 0 < u := by
  obtain ⟨h1, h2⟩ := readString_inv m v u h
  have h3 := congrArg List.length h2
  rw [List.length_take] at h3
  unfold encString elem at h3
  split at h3
  · simp at h3; omega
  · rename_i hb
    exfalso
    unfold readStringF readF at h
    have hc := takeF_cont 27 m _ _ _ rfl
    split at h
    · simp only [Prod.mk.injEq] at h; omega
    · rename_i h0
      simp only [if_true, Prod.mk.injEq, id] at h
      have ht := takeF_inv 27 m (takeF 27 m).1 (takeF 27 m).2.2 (by rw [← show (takeF 27 m).2.1 = 0 by simpa using h0])
      rw [h.1] at ht
      omega

set_option maxRecDepth 100000 in
set_option maxHeartbeats 4000000 in
theorem NRead_at (g : Nat) (l : List UInt8) (k : Nat) (m : List UInt8) (hm : l.drop k = m) (hml : m.length ≤ 900) (w : World) (h : RD 86 w g l k) :
    Calls Tryd.prog 55 #[.pointer (some ⟨g, 0, none⟩)] w (RdN w g l k m) := by
  obtain ⟨i0, hi, hz0, hz1, hz2⟩ := info_parts sinfo'
  have hgl := h.lt
  have hkl := h.le
  have hmf : ∀ (fn : Fn) (first cap : Array Value) (w : World), (Instr.makeFunc fn first cap).run Tryd.prog w = .ok (.func fn first cap) w := fun _ _ _ _ => rfl
  obtain ⟨W3, hw3, hx3, hp3, ht3, he3, hs3⟩ := boxesN w (.pointer (some ⟨g, 0, none⟩))
  have cp := hp3.cell
  have HX3 := Lib.hid hx3; have HP3 := Lib.hid hp3; have HT3 := Lib.hid ht3; have HE3 := Lib.hid he3; have HS3 := Lib.hid hs3
  clear hp3 ht3 he3 hs3
  have HM := Lib.hid hm; clear hm
  go_enter_defers Tryd.func55, Tryd.ntmps55
  go_wp2_with fail
  refine (Copy_at g l k W3 (h.ext hx3)).mono ?_
  rintro e w1 ⟨gb, rfl, hgb, hrb, hx1⟩
  obtain ⟨W2, hW2, hx2, hc2⟩ : ∃ W2, w1.alloc (.cells #[.pointer (some ⟨gb, 0, none⟩)] 70) = W2 ∧ Ext w1 W2 ∧ B1 70 W2 w1.heap.size (.pointer (some ⟨gb, 0, none⟩)) := ⟨_, rfl, (Ext.refl _).alloc _, B1.new _ w1 _⟩
  have hx13 := hx1.trans hx2
  have hli : NI w W2 g gb w.heap.size w1.heap.size l k k (.slice none 0 0) [] ⟨#[]⟩ := ⟨(hx3.trans hx13).but _, HP3.out.ext hx13, HT3.out.ext hx13, HE3.out.ext hx13, hc2, hrb.ext hx2, h.ext (hx3.trans hx13), World.ownsRow_nil _ _ _ _, fun q hq => by simp [Value.ownBlock] at hq⟩
  have o1 : g < w.heap.size := hgl
  have o2 : w.heap.size + 1 + 1 < gb := by have := HS3.out; omega
  have o3 : gb < w1.heap.size := hrb.lt
  have hs2 : W2.heap.size = w1.heap.size + 1 := by rw [← hW2]; simp
  have cc := hc2.cell
  have cp2 := hli.2.1.cell
  have HLI := Lib.hid hli; have HS2 := Lib.hid hs2
  clear hw3 hx3 cp hrb hx1 hx2 hc2 hx13 hli hs2 hgb
  rcases readIn_cases 48 m with ⟨x, hx, hxl⟩ | ⟨e9, he, hx⟩
  · obtain ⟨us, hus⟩ : ∃ us, (readInF 48 m).2.2 = us := ⟨_, rfl⟩
    rw [hus] at hx
    obtain ⟨y0, e0, u0, h0⟩ : ∃ p e u, fieldF none (readInF 48) 0 x = (p, e, u) := ⟨_, _, _, rfl⟩
    obtain ⟨rl, e1, u1, h1⟩ : ∃ p e u, fieldF [] readStringF 1 (x.drop u0) = (p, e, u) := ⟨_, _, _, rfl⟩
    have HQ := Lib.hid hx; have H0 := Lib.hid h0; have H1 := Lib.hid h1; have HXL := Lib.hid hxl
    have HSQ := Lib.hid (RdSequence_at g l k m HM.out _ _ _ hx)
    have HF0 := Lib.hid (fun (W : World) (g' : Nat) => nm_field_rd g' x 0 x rfl 0 (by omega) _ _ _ h0 W)
    have HF1 := Lib.hid (fun (W : World) (g' : Nat) => nm_field_str g' x u0 _ rfl 1 (by omega) _ _ _ h1 W)
    clear hus hx h0 h1 hxl
    go_wp2_with fail
    refine (HSQ.out W2 HLI.out.2.2.2.2.2.2.1).mono ?_
    rintro en w3 ⟨p, rfl, hg3, hr3, ⟨hx, _⟩ | ⟨x1, g1, hx, _, rfl, hB1, hr3'⟩⟩
    · cases hx
    injection hx with hx
    subst hx
    have hn1 : w1.heap.size < g1 := by have := HS2.out; omega
    have HLI3 := Lib.hid (HLI.out.seq o1 o2 o3 hg3 hr3)
    clear hW2 cc cp2 hg3 hr3
    go_wp2_with fail
    refine (nm_must_reader_ok _ _).mono ?_
    rintro en w3b ⟨rfl, rfl⟩
    go_wp2_with fail
    refine (HF0.out w3 g1 hr3').mono ?_
    rintro en w4 ⟨hg4, ⟨hz0, hr4, v0, rfl, y, g2, rfl, rfl, hB2, hr4y⟩ | ⟨hz0, ⟨k4, hr4⟩, hee⟩⟩
    · subst hz0
      have HLI4 := Lib.hid (HLI3.out.far (Nat.le_refl _) o1 o2 o3 hn1 hr3' hg4)
      rw [Nat.zero_add] at hr4
      have hn2 : w1.heap.size < g2 ∧ g1 < g2 := by have := hr3'.lt; omega
      have HR1 := Lib.hid hr4; have HRY := Lib.hid hr4y
      have hyl : y.length ≤ 900 := by
        have := field_inv none (readInF 48) (fun o => match o with | some z => elem 48 z | none => []) (fun m v u hm => by
          rcases readIn_cases 48 m with ⟨z, hz, _⟩ | ⟨er, he, hz⟩
          · rw [hz] at hm
            simp only [Prod.mk.injEq] at hm
            obtain ⟨rfl, _, rfl⟩ := hm
            obtain ⟨k1, k2, k3⟩ := readIn_inv _ _ _ _ hz
            exact ⟨k1, k3⟩
          · rw [hz] at hm
            simp only [Prod.mk.injEq] at hm
            exact absurd hm.2.1 he) (by unfold readInF; rw [readF_nil]; decide) 0 (by omega) x _ _ H0.out
        obtain ⟨a1, a2, a3, a4⟩ := this
        dsimp only at a1 a2 a3 a4
        have b1 := congrArg List.length a2
        rw [List.length_take, encTag_shape 0 _ (by omega) a3] at b1
        have c1 : (elem 48 y).length ≤ (elem (tagB 0) (elem 48 y)).length := by
          rw [elem_shape (tagB 0) (elem 48 y) a4]; simp; omega
        have c2 : y.length ≤ (elem 48 y).length := by
          by_cases hy : y.length < 16777216
          · rw [elem_shape 48 y hy]; simp; omega
          · exact absurd (show elem 48 y = [] by unfold elem; rw [if_neg hy]) a3
        have := HXL.out
        omega
      clear hr3' hg4 hr4 hr4y hB1 hB2
      go_wp2_with fail
      go_loopg [29] y.length (fun n _ wr => ∃ (j : Nat) (v : Value) (front : List ByteArray), n = y.length - j ∧ j ≤ y.length ∧ front.length ≤ j ∧ Hid (∀ p ∈ front, p.size ≤ 900) ∧ Hid (y.take j = strs (dat front)) ∧ Hid (NI w wr g gb w.heap.size w1.heap.size l k (k + us) v front ⟨#[]⟩) ∧ Hid (RD 86 wr g1 x u0) ∧ Hid (RD 86 wr g2 y j))
      case atStart => exact ⟨0, _, [], by omega, Nat.zero_le _, Nat.le_refl _, Lib.hid (by simp), Lib.hid (by simp [strs, dat]), HLI4, HR1, HRY⟩
      case round =>
        obtain ⟨j, v, front, hn, hj, hfl, HPS, HTK, HNI, HG1, HG2⟩ := hrel
        have HN := Lib.hid hn; clear hn
        have HF9 : Hid (∀ q ∈ dat front, q.length < 16777216) := Lib.hid (fun q hq => by
          simp only [dat, List.mem_map] at hq
          obtain ⟨b, hb, rfl⟩ := hq
          have := HPS.out b hb
          rw [size_list]; omega)
        by_cases hlt : j < y.length
        · obtain ⟨rn, hrn⟩ : ∃ rn, y.length - j = rn := ⟨_, rfl⟩
          have hp : (0 : Int) < rn := by omega
          have HRN := Lib.hid hrn
          obtain ⟨sl, e2, u2, h2⟩ : ∃ p e u, readStringF (y.drop j) = (p, e, u) := ⟨_, _, _, rfl⟩
          have H2 := Lib.hid h2
          have HST := Lib.hid (fun (W : World) => RdString_at g2 y j _ rfl _ _ _ h2 W)
          clear hrn h2
          by_cases he2 : e2 = 0
          · subst he2
            have hsl := str_len H2.out
            have hu2 := (readString_inv _ _ _ H2.out).1
            rw [List.length_drop] at hsl hu2
            have HSL := Lib.hid hsl
            have HU2 := Lib.hid hu2
            clear hsl hu2
            go_wp2_with fail
            refine (Left_at g2 y j wr HG2.out).mono ?_
            rintro en w5 ⟨rfl, hx5⟩
            rw [HRN.out]
            have HN5 := Lib.hid (HNI.out.ext hx5); have HG15 := Lib.hid (HG1.out.ext hx5); have HG25 := Lib.hid (HG2.out.ext hx5)
            clear hx5
            go_wp2_with fail
            have hb16 : ((sv front).length + 1) * 16 ≤ 140737488355328 := by rw [sv_length]; omega
            have HB16 := Lib.hid hb16; clear hb16
            have hn12 : g1 ≠ g2 := by omega
            obtain ⟨q0, q1⟩ := HN5.out.2.2.1.cells
            refine wp_region_noPanic ?_
            go_region_law (first
              | (refine step_append_str _ (by rfl) (.tmp 24) (.tmp 30) 22 (by rfl) (w1.heap.size + 1) 9 i0 Tryd.underlying22 hi hz0 hz1 hz2 v (sv front) (by rfl) (HA6.out.1) (HA6.out.2.1) w6.heap.size 1 ⟨sl.toArray⟩ (by rfl) (heap_alloc_new w6 _) (by omega) (by simp [maxLen]) HB16.out (HA6.out.2.2) ?_; intro v7 w7 hown7 hg7 hu7; obtain ⟨g7, cap7, rfl⟩ := shape_app hown7; obtain ⟨c7, f7⟩ := HN6.out.at_part o2 o3 ((Ext.refl w6).alloc _) hg7)
              | (go_simp; go_at_call 74; refine (HST.out _ (HG25.out.ext (Ext.drew w5))).mono ?_; rintro en w6 ⟨rfl, hr6, hg6⟩; have hn6 := (HN5.out.ext (Ext.drew w5)).far (Nat.le_refl _) o1 o2 o3 hn2.1 (HG25.out.ext (Ext.drew w5)) hg6; have HG16 := Lib.hid ((HG15.out.ext (Ext.drew w5)).but (HG25.out.ext (Ext.drew w5)) hn12 hg6); have HG26 := Lib.hid hr6; obtain ⟨p0, p1⟩ := hn6.2.2.1.cells; have p2 := ((Ext.refl w6).alloc (.cells #[.string ⟨sl.toArray⟩] 9)).cell p0; have HN6 := Lib.hid hn6; have HA6 := Lib.hid (show (w6.alloc (.cells #[.string ⟨sl.toArray⟩] 9)).ownsRow (w1.heap.size + 1) 9 1 v (sv front).length (sv front) ∧ (∀ r, v.ownBlock = some r → NoU8 (w6.alloc (.cells #[.string ⟨sl.toArray⟩] 9)) r) ∧ w1.heap.size + 1 ≤ (w6.alloc (.cells #[.string ⟨sl.toArray⟩] 9)).heap.size from ⟨(hn6.ext ((Ext.refl w6).alloc _)).2.2.2.2.2.2.2.1, (hn6.ext ((Ext.refl w6).alloc _)).2.2.2.2.2.2.2.2, by have := hn6.2.2.2.2.1.lt; simp; omega⟩); clear hn6 hr6 hg6)
              | (go_simp; go_at_call 73; refine (nm_must_str_ok _ _).mono ?_; rintro en w6b ⟨rfl, rfl⟩))
            all_goals
              focus
                have hown8 : w7.ownsRow (w1.heap.size + 1) 9 1 (.slice (some ⟨g7, 0, none⟩) ((sv front).length + 1) cap7) (sv (front ++ [⟨sl.toArray⟩])).length (sv (front ++ [⟨sl.toArray⟩])) := by
                  have e : sv front ++ [Value.string ⟨sl.toArray⟩] = sv (front ++ [⟨sl.toArray⟩]) := by simp [sv]
                  rw [← e]; exact hown7
                obtain ⟨hnf, hrf⟩ := HN6.out.part (Nat.le_refl _) o1 o2 o3 ((Ext.refl w6).alloc _) hg7 hown8 hu7
                have HNF := Lib.hid hnf; have HRF1 := Lib.hid (hrf g1 x u0 hn1 HG16.out); have HRF2 := Lib.hid (hrf g2 y (j + u2) hn2.1 HG26.out)
                have HTK2 := Lib.hid (show y.take (j + u2) = strs (dat (front ++ [⟨sl.toArray⟩])) by
                  rw [take_add, HTK.out, (readString_inv _ _ _ H2.out).2, dat_snoc, strs_snoc])
                have HPS2 := Lib.hid (show ∀ p ∈ front ++ [(⟨sl.toArray⟩ : ByteArray)], p.size ≤ 900 from fun p hp => by
                  rcases List.mem_append.1 hp with hp | hp
                  · exact HPS.out p hp
                  · simp only [List.mem_singleton] at hp
                    subst hp
                    have := HSL.out
                    show sl.toArray.size ≤ 900
                    rw [List.size_toArray]; omega)
                clear hown8 hown7 hg7 hu7 hnf hrf c7 f7 p0 p1 p2 q0 q1
                refine NoPanic.normal ?_
                go_wp2_with fail
                go_roundg (y.length - (j + u2))
                case measure => have := HN.out; have := HSL.out; omega
                case rel => exact ⟨j + u2, _, front ++ [⟨sl.toArray⟩], rfl, by have := HU2.out; omega, by rw [List.length_append, List.length_singleton]; have := HSL.out; omega, HPS2, HTK2, HNF, HRF1, HRF2⟩
          · have HER := Lib.hid he2; clear he2
            go_wp2_with fail
            refine (Left_at g2 y j wr HG2.out).mono ?_
            rintro en w5 ⟨rfl, hx5⟩
            rw [HRN.out]
            have HN5 := Lib.hid (HNI.out.ext hx5); have HG15 := Lib.hid (HG1.out.ext hx5); have HG25 := Lib.hid (HG2.out.ext hx5)
            have HLT := Lib.hid hlt
            clear hx5
            go_wp2_with fail
            obtain ⟨q0, q1⟩ := HN5.out.2.2.1.cells
            have HNOT := Lib.hid (not_str HQ.out H0.out HF9.out HTK.out HLT.out H2.out HER.out)
            have q2 := (Ext.drew w5).cell q0
            refine wp_region_any (by kernel_rfl) ?_
            change wpAny _ _ _ _ _ _ _ (World.drew _)
            refine wpAny_take (i := 0) (v := ?_) rfl (by kernel_rfl) (by kernel_rfl) (by kernel_rfl) (fun _ _ _ h => hq_put (d := 23) (by decide) (by decide) h) (Or.inl ⟨by rfl, ?_⟩) ?_
            rotate_left
            · intro w; go_simp; try with_reducible rfl
            refine wpAny_take (i := 2) (v := ?_) rfl (by kernel_rfl) (by kernel_rfl) (by kernel_rfl) (fun _ _ _ h => hq_put (d := 25) (by decide) (by decide) h) (Or.inl ⟨by rfl, ?_⟩) ?_
            rotate_left
            · intro w; go_simp; try with_reducible rfl
            refine wpAny_ready (rs := [1, 3]) (by kernel_rfl) (by simp) ?_
            refine AllReady.cons rfl (fun K hK => ?_) ?_
            · go_simp
              refine hK _ _ ?_
              clear hK K
              refine wpAny_ready (rs := [3]) (by kernel_rfl) (by simp) ?_
              refine AllReady.cons rfl (fun K hK => ?_) ?_
              · go_simp
                refine (HST.out _ (HG25.out.ext (Ext.drew w5))).mono ?_
                rintro en w6 ⟨rfl, hr6, hg6⟩
                have hn6 := (HN5.out.ext (Ext.drew w5)).far (Nat.le_refl _) o1 o2 o3 hn2.1 (HG25.out.ext (Ext.drew w5)) hg6
                obtain ⟨p0, p1⟩ := hn6.2.2.1.cells
                have HN6 := Lib.hid hn6
                clear hn6 hr6 hg6
                go_simp
                refine hK _ _ ?_
                clear hK K
                refine wpAny_take (i := 4) (v := ?_) rfl (by kernel_rfl) (by kernel_rfl) (by kernel_rfl) (fun _ _ _ h => hq_put (d := 27) (by decide) (by decide) h) (Or.inl ⟨by rfl, ?_⟩) ?_
                rotate_left
                · intro w; go_simp; try with_reducible rfl
                refine wpAny_take (i := 5) (v := ?_) rfl (by kernel_rfl) (by kernel_rfl) (by kernel_rfl) (fun _ _ _ h => hq_put (d := 28) (by decide) (by decide) h) (Or.inl ⟨by rfl, ?_⟩) ?_
                rotate_left
                · intro w; go_simp; try with_reducible rfl
                refine wpAny_ready (rs := [6]) (by kernel_rfl) (by simp) ?_
                refine AllReady.cons rfl (fun K hK => ?_) ?_
                · go_simp
                  refine (nm_must_str_no _ _ HER.out _).mono ?_
                  unfold erp
                  rintro en w6b ⟨rfl, rfl⟩
                  exact doorN_panic (er := e2) HN6.out (Nat.le_refl _) o1 o2 o3 HER.out HNOT.out (fun W' d0 d1 d2 => by simp [results, Tryd.results55, go_sem, d0, d1, d2])
                exact AllReady.nil
              exact AllReady.nil
            refine AllReady.cons rfl (fun K hK => ?_) ?_
            · go_simp
              refine (HST.out _ (HG25.out.ext (Ext.drew w5))).mono ?_
              rintro en w6 ⟨rfl, hr6, hg6⟩
              have hn6 := (HN5.out.ext (Ext.drew w5)).far (Nat.le_refl _) o1 o2 o3 hn2.1 (HG25.out.ext (Ext.drew w5)) hg6
              obtain ⟨p0, p1⟩ := hn6.2.2.1.cells
              have HN6 := Lib.hid hn6
              clear hn6 hr6 hg6
              go_simp
              refine hK _ _ ?_
              clear hK K
              refine wpAny_take (i := 4) (v := ?_) rfl (by kernel_rfl) (by kernel_rfl) (by kernel_rfl) (fun _ _ _ h => hq_put (d := 27) (by decide) (by decide) h) (Or.inl ⟨by rfl, ?_⟩) ?_
              rotate_left
              · intro w; go_simp; try with_reducible rfl
              refine wpAny_take (i := 5) (v := ?_) rfl (by kernel_rfl) (by kernel_rfl) (by kernel_rfl) (fun _ _ _ h => hq_put (d := 28) (by decide) (by decide) h) (Or.inl ⟨by rfl, ?_⟩) ?_
              rotate_left
              · intro w; go_simp; try with_reducible rfl
              refine wpAny_ready (rs := [1, 6]) (by kernel_rfl) (by simp) ?_
              refine AllReady.cons rfl (fun K hK => ?_) ?_
              · go_simp
                refine hK _ _ ?_
                clear hK K
                refine wpAny_ready (rs := [6]) (by kernel_rfl) (by simp) ?_
                refine AllReady.cons rfl (fun K hK => ?_) ?_
                · go_simp
                  refine (nm_must_str_no _ _ HER.out _).mono ?_
                  unfold erp
                  rintro en w6b ⟨rfl, rfl⟩
                  exact doorN_panic (er := e2) HN6.out (Nat.le_refl _) o1 o2 o3 HER.out HNOT.out (fun W' d0 d1 d2 => by simp [results, Tryd.results55, go_sem, d0, d1, d2])
                exact AllReady.nil
              refine AllReady.cons rfl (fun K hK => ?_) ?_
              · go_simp
                refine (nm_must_str_no _ _ HER.out _).mono ?_
                unfold erp
                rintro en w6b ⟨rfl, rfl⟩
                exact doorN_panic (er := e2) HN6.out (Nat.le_refl _) o1 o2 o3 HER.out HNOT.out (fun W' d0 d1 d2 => by simp [results, Tryd.results55, go_sem, d0, d1, d2])
              exact AllReady.nil
            exact AllReady.nil
        · obtain rfl : j = y.length := by omega
          have hYS := HTK.out
          rw [List.take_length] at hYS
          have HYS := Lib.hid hYS; clear hYS
          have hp : ¬ (0 : Int) < ((y.length - y.length : Nat) : Int) := by omega
          go_wp2_with fail
          refine (Left_at g2 y _ wr HG2.out).mono ?_
          rintro en w5 ⟨rfl, hx5⟩
          have HN5 := Lib.hid (HNI.out.ext hx5); have HG15 := Lib.hid (HG1.out.ext hx5)
          clear hx5
          go_wp2_with fail
          refine (HF1.out w5 g1 HG15.out).mono ?_
          rintro en w6 ⟨hg6, ⟨hz1, hr6, v0, rfl, rfl⟩ | ⟨hz1, ⟨k4, hr6⟩, hee⟩⟩
          · subst hz1
            have HRL : Hid (rl.length ≤ 900) := Lib.hid (by
              obtain ⟨a1, a2, a3, a4⟩ := field_inv [] readStringF encString (fun m v u hm => readString_inv m v u hm) (by unfold readStringF; rw [readF_nil]; decide) 1 (by omega) _ _ _ H1.out
              have b1 := congrArg List.length a2
              rw [List.length_take, encTag_shape 1 _ (by omega) a3] at b1
              have c1 : (encString rl).length ≤ (elem (tagB 1) (encString rl)).length := by
                rw [elem_shape (tagB 1) (encString rl) a4]; simp; omega
              have c2 : rl.length ≤ (encString rl).length := by
                unfold encString at a3 ⊢
                by_cases hy : rl.length < 16777216
                · rw [elem_shape 27 rl hy]; simp; omega
                · exact absurd (show elem 27 rl = [] by unfold elem; rw [if_neg hy]) a3
              have := HXL.out
              rw [List.length_drop] at b1
              omega)
            have hn6 := HN5.out.far (Nat.le_refl _) o1 o2 o3 hn1 HG15.out hg6
            have hn7 := hn6.realm (Nat.le_refl _) o1 o2 o3 ⟨rl.toArray⟩
            have hr7 := hr6.away hn6.noU8 (show w6.grownBy (w6.setCell ⟨w.heap.size + 1, 1, none⟩ (.string ⟨rl.toArray⟩)) (some (w.heap.size + 1)) from grown_set (grown_refl _ _) 1 _) (by omega)
            obtain ⟨W7, hW7⟩ : ∃ W7, w6.setCell ⟨w.heap.size + 1, 1, none⟩ (.string ⟨rl.toArray⟩) = W7 := ⟨_, rfl⟩
            rw [hW7] at hn7 hr7
            obtain ⟨q0, q1⟩ := hn6.2.2.1.cells
            have f1 := hn6.2.2.1.soft 1
            have HN7 := Lib.hid hn7; have HR7 := Lib.hid hr7
            clear hn6 hn7 hr7 hr6 hg6
            by_cases hlt : u0 + u1 < x.length
            · obtain ⟨rn, hrn⟩ : ∃ rn, x.length - (u0 + u1) = rn := ⟨_, rfl⟩
              have hp2 : (0 : Int) < rn := by omega
              have HRN := Lib.hid hrn; have HLT := Lib.hid hlt; clear hrn hlt
              go_wp2_with fail
              refine (Left_at g1 x _ _ HR7.out).mono ?_
              rintro en w8 ⟨rfl, hx8⟩
              rw [HRN.out]
              have HN8 := Lib.hid (HN7.out.ext hx8); clear hx8
              go_wp2_with fail
              exact doorN_panic (er := 6) HN8.out (Nat.le_refl _) o1 o2 o3 (by decide) (not_end HQ.out H0.out HF9.out HYS.out H1.out (.inl HLT.out)) (fun W' d0 d1 d2 => by simp [results, Tryd.results55, go_sem, d0, d1, d2])
            · obtain ⟨rn, hrn⟩ : ∃ rn, x.length - (u0 + u1) = rn := ⟨_, rfl⟩
              have hp2 : ¬ (0 : Int) < rn := by omega
              have HRN := Lib.hid hrn; have HLT := Lib.hid hlt; clear hrn hlt
              go_wp2_with fail
              refine (Left_at g1 x _ _ HR7.out).mono ?_
              rintro en w8 ⟨rfl, hx8⟩
              rw [HRN.out]
              have hn8 := HN7.out.ext hx8
              obtain ⟨A8, c8, hv8⟩ := own_shape hn8.2.2.2.2.2.2.2.1
              rw [sv_length] at hv8
              subst hv8
              obtain ⟨s0, s1⟩ := hn8.2.2.1.cells
              have HN8 := Lib.hid hn8; clear hx8 hn8 q0 q1 f1
              go_wp2_with fail
              refine (NValid_at A8 c8 front ⟨rl.toArray⟩ (fun p hp => by have := HPS.out p hp; omega) (by have := HRL.out; show rl.toArray.size ≤ _; rw [List.size_toArray]; omega) _ (RS.of_own HN8.out.2.2.2.2.2.2.2.1)).mono ?_
              rintro en w9 ⟨rfl, hx9⟩
              have hn9 := HN8.out.ext hx9
              clear s0 s1
              obtain ⟨s0, s1⟩ := hn9.2.2.1.cells
              have f0 := hn9.2.2.1.soft 0; have f1 := hn9.2.2.1.soft 1
              have c9 := hn9.2.2.2.1.cell; have f9 := hn9.2.2.2.1.soft
              have HN9 := Lib.hid hn9; clear hx9 hn9
              cases hvb : nameB (dat front) rl
              · have HVB := Lib.hid hvb; clear hvb
                go_wp2_with fail
                exact doorN_panic (er := 6) HN9.out (Nat.le_refl _) o1 o2 o3 (by decide) (not_end HQ.out H0.out HF9.out HYS.out H1.out (.inr HVB.out)) (fun W' d0 d1 d2 => by simp [results, Tryd.results55, go_sem, d0, d1, d2])
              · have HVB := Lib.hid hvb; clear hvb
                obtain ⟨WF, hWF, hgF, hrF, hoF, d0, d1, d2⟩ := readN_end HN9.out (Nat.le_refl _) o1 o2 o3
                have HOK := Lib.hid (name_ok HQ.out H0.out HYS.out H1.out HLT.out)
                go_wp2_with fail
                refine leaves_cons (f := 68) (args := #[.pointer (some ⟨w1.heap.size, 0, none⟩), .pointer (some ⟨w.heap.size, 0, none⟩), .pointer (some ⟨w.heap.size + 1, 0, none⟩), .pointer (some ⟨w.heap.size + 1 + 1, 0, none⟩)]) (by simp) (by simp [go_sem]) ?_
                refine (nmread_idle _ _ _ _ _).mono ?_
                rintro en u' w'' ⟨rfl, rfl, rfl⟩
                exact ⟨.tuple #[.agg #[.slice A8 front.length c8, .string ⟨rl.toArray⟩], .int .i64 0], by simp [results, Tryd.results55, go_sem, d0, d1, d2], hgF, .inl ⟨front, ⟨rl.toArray⟩, A8, c8, us, HVB.out, HOK.out.1, HOK.out.2, rfl, own_down hoF (by omega), hrF⟩⟩
          · unfold erp at hee
            subst hee
            have HER := Lib.hid hz1
            have hn6 := Lib.hid (HN5.out.far (Nat.le_refl _) o1 o2 o3 hn1 HG15.out hg6)
            clear hz1 hg6 hr6
            go_wp2_with fail
            exact doorN_panic (er := _) hn6.out (Nat.le_refl _) o1 o2 o3 HER.out (not_f1 HQ.out H0.out H1.out HER.out) (fun W' d0 d1 d2 => by simp [results, Tryd.results55, go_sem, d0, d1, d2])
    · unfold erp at hee
      subst hee
      have HER := Lib.hid hz0
      have hli4 := Lib.hid (HLI3.out.far (Nat.le_refl _) o1 o2 o3 hn1 hr3' hg4)
      clear hz0 hg4 hr4
      go_wp2_with fail
      exact doorN_panic (er := _) hli4.out (Nat.le_refl _) o1 o2 o3 HER.out (not_f0 HQ.out H0.out HER.out) (fun W' d0 d1 d2 => by simp [results, Tryd.results55, go_sem, d0, d1, d2])
  · have HSQ := Lib.hid (RdSequence_at g l k m HM.out _ _ _ hx)
    have HER := Lib.hid he
    have HNOT := Lib.hid (not_seq hx)
    clear hx he
    go_wp2_with fail
    refine (HSQ.out W2 HLI.out.2.2.2.2.2.2.1).mono ?_
    rintro en w3 ⟨p, rfl, hg3, hr3, _⟩
    have HLI3 := Lib.hid (HLI.out.seq o1 o2 o3 hg3 hr3)
    clear hW2 cc cp2 hg3 hr3
    go_wp2_with fail
    refine (nm_must_reader_no _ _ HER.out _).mono ?_
    unfold erp
    rintro en w3b ⟨rfl, rfl⟩
    go_wp2_with fail
    exact doorN_panic (er := _) HLI3.out (Nat.le_refl _) o1 o2 o3 HER.out HNOT.out (fun W' d0 d1 d2 => by simp [results, Tryd.results55, go_sem, d0, d1, d2])
end Go.Proofs.YtgclchdccgkjaaaDoor
