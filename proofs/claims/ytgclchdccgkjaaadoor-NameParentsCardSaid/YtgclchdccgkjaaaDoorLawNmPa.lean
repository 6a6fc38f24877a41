/- NameParents: the law. (wip/tools/gennmpar.py printed this.) -/
import Derived.Test.YtgclchdccgkjaaaDoorNm26
import Derived.Deep.Cut
import Derived.BigQuiet
import Derived.Test.YtgclchdccgkjaaaDoorRound
import Derived.Shelf.Abstract
namespace Go.Proofs.YtgclchdccgkjaaaDoor.nameParents
open Go Go.RowKit
set_option linter.unusedVariables false
attribute [local go_sem] Oper.semAt_some

theorem Stab.rs {B : Nat} (v : Value) (xs : List Value) : Stab B (fun W => RS W v xs) := fun W W' l hl hn hg ⟨A, c, hv, h1, h2, h3⟩ =>
  ⟨A, c, hv, h1, h2, fun hp => let ⟨ad, ha, hb, hc⟩ := h3 hp; ⟨ad, ha, Nat.lt_of_lt_of_le hb hg.size, fun j u hu => Stab.cell (B := B) (ad.add j) u W W' l hl hn hg (hc j u hu)⟩⟩
/-- What lies in the law's own blocks between two rounds. -/
def Inv (V0 : World) (B8 B9 : Nat) (turn : Int) (pre : List ByteArray) (W : World) : Prop :=
  Ext V0 W ∧ W.heap[B8]? = some (.cells #[.int .i64 turn] 3 (0, 0)) ∧ W.heap[B9]? = some (.cells #[.int .i64 (pre.length : Int)] 3 (0, 0))
theorem Inv.stab {V0 : World} {B : Nat} (B8 B9 : Nat) (turn : Int) (pre : List ByteArray) (h : V0.heap.size ≤ B) : Stab B (Inv V0 B8 B9 turn pre) := (Stab.ext V0 h).and ((Stab.heap _ _ _ _).and (Stab.heap _ _ _ _))

set_option maxRecDepth 100000 in
set_option maxHeartbeats 1000000 in
theorem walk_big (s : ByteArray) (many : Int) (w : World) (hm : MaxN w) (h : 60 < s.size) :
    Calls Tryd.prog 7 #[.string s, .int .i64 many] w fun e w' => e = .returned (.bool true) ∧ Ext w w' := by
  have h60 : (60 : Int) < (s.size : Int) := by omega
  have HM := Lib.hid hm
  have g4 := heap_alloc_new (w.alloc (.cells #[.int .i64 many] 3)) (.cells #[.bool false] 4)
  rw [World.size_alloc] at g4
  have HXB := Lib.hid (((Ext.refl w).alloc (.cells #[.int .i64 many] 3)).alloc (.cells #[.bool false] 4))
  have G4 := Lib.hid g4; clear g4 hm h
  go_enter Tryd.func7, Tryd.ntmps7
  go_wp2_with fail
  refine (known_at _ (HM.out.ext HXB.out)).mono ?_
  rintro _ w1 ⟨rfl, hx1⟩
  have e4 := hx1.heap G4.out
  obtain ⟨k4, f4⟩ := row1 e4
  have hc := (row1 (row1_set (.bool true) e4)).1
  have HXE := Lib.hid ((HXB.out.trans hx1).setCell (p := ⟨w.heap.size + 1, 0, none⟩) (show w.heap.size ≤ w.heap.size + 1 by omega) (.bool true))
  clear hx1
  go_wp2_with fail
  refine bodyPost_ret (v := .bool true) (by simp [results, Tryd.results7, go_sem, hc]) rfl ?_
  exact ⟨rfl, HXE.out⟩

set_option maxRecDepth 100000 in
set_option maxHeartbeats 4000000 in
theorem walk_true (s : ByteArray) (many : Int) (w : World) (hm : MaxN w) (h : s.size ≤ 60) (hr : realmB s.data.toList = true) :
    Calls Tryd.prog 7 #[.string s, .int .i64 many] w fun e w' => e = .returned (.bool true) ∧ Ext w w' := by
  have h60 : (s.size : Int) ≤ 60 := by omega
  have HM := Lib.hid hm
  have HS4 : Hid (s.size ≤ 4294967280) := Lib.hid (by omega)
  have HS1 : Hid (s.size ≤ 1000) := Lib.hid (by omega)
  have HRM := Lib.hid (hr ▸ RRealm_at s HS4.out)
  have HPW := Lib.hid (show parW s.data.toList = par s.data.toList by unfold parW; rw [hr]; rfl)
  have HN := Lib.hid h
  obtain ⟨wb, hwb⟩ : ∃ wb, wb = (w.alloc (.cells #[.int .i64 many] 3)).alloc (.cells #[.bool false] 4) := ⟨_, rfl⟩
  have hxb : Ext w wb := by rw [hwb]; exact ((Ext.refl w).alloc _).alloc _
  have g3 : wb.heap[w.heap.size]? = some (.cells #[.int .i64 many] 3 (0, 0)) := by rw [hwb]; exact ((Ext.refl _).alloc _).heap (heap_alloc_new w _)
  have g4 : wb.heap[w.heap.size + 1]? = some (.cells #[.bool false] 4 (0, 0)) := by
    rw [hwb]
    have h := heap_alloc_new (w.alloc (.cells #[.int .i64 many] 3)) (.cells #[.bool false] 4)
    rwa [World.size_alloc] at h
  clear hm h hr
  refine calls_of_marks Tryd.func7 rfl ?_
  simp only [Tryd.ntmps7, List.size_toArray, List.length_cons, List.length_nil, Nat.reduceAdd, Nat.reduceSub, Array.replicate_succ, Array.replicate_zero, List.push_toArray, List.append_toArray, List.nil_append, List.cons_append]
  go_wp2_with fail
  rw [← hwb]
  have HXB := Lib.hid hxb; have G3 := Lib.hid g3; have G4 := Lib.hid g4
  clear hwb hxb g3 g4
  refine (Parents_at s wb).mono ?_
  rintro _ wp ⟨rfl, hwp⟩
  have hq := seq_nil #[.pointer (some ⟨wb.heap.size, 0, none⟩)] wp
  have hxp : Ext wb wp := by rw [hwp]; exact (Ext.refl _).alloc _
  have gp : wp.heap[wb.heap.size]? = some (.cells #[.string s] 9 (0, 0)) := by rw [hwp]; exact heap_alloc_new wb _
  obtain ⟨gI, hgI⟩ : ∃ gI, gI = wb.heap.size := ⟨_, rfl⟩
  rw [← hgI] at gp hq ⊢
  have HXP := Lib.hid hxp; have GP := Lib.hid gp
  clear hwp hxp gp hgI
  go_wp2_with fail
  obtain ⟨V1, hV1⟩ : ∃ V1, V1 = wp.alloc (.cells #[.slice none 0 0] 22) := ⟨_, rfl⟩
  rw [← hV1]
  have hxv : Ext wp V1 := by rw [hV1]; exact (Ext.refl _).alloc _
  have g6 : V1.heap[wp.heap.size]? = some (.cells #[.slice none 0 0] 22 (0, 0)) := by rw [hV1]; exact heap_alloc_new wp _
  obtain ⟨B6, hB6⟩ : ∃ B6, B6 = wp.heap.size := ⟨_, rfl⟩
  have hgp : gI < B6 := by rw [hB6]; exact (Array.getElem?_eq_some_iff.1 GP.out).1
  have h4p : w.heap.size + 1 < B6 := by rw [hB6]; have := (Array.getElem?_eq_some_iff.1 (HXP.out.heap G4.out)).1; omega
  rw [← hB6] at g6 ⊢
  have HXV := Lib.hid hxv; have G6 := Lib.hid g6
  clear hV1 hxv g6 hB6 hq
  refine (HRM.out V1).mono ?_
  rintro _ w2 ⟨rfl, rfl⟩
  have HX2 := Lib.hid (Ext.refl V1)
  go_wp2_with fail
  refine (RParents_at s HS1.out V1).mono ?_
  rintro _ w3 ⟨A6, c6, xs, rfl, hrs, hdat, hx3⟩
  have h6 := hx3.heap (HX2.out.heap G6.out)
  have hx23 := HX2.out.trans hx3
  have f6 := (row1 h6).2; have k6 := (row1 h6).1
  have hg6 := grown_set1 w3 B6 (.slice A6 xs.length c6)
  have H6s := row1_set (.slice A6 xs.length c6) h6
  have h3s := heap_far hg6 (hx23.heap (HXV.out.heap (HXP.out.heap G3.out))) (by omega)
  have h4s := heap_far hg6 (hx23.heap (HXV.out.heap (HXP.out.heap G4.out))) (by omega)
  have hps := heap_far hg6 (hx23.heap (HXV.out.heap GP.out)) (by omega)
  have hxws : Ext w (w3.setCell ⟨B6, 0, none⟩ (.slice A6 xs.length c6)) := ((((HXB.out.trans HXP.out).trans HXV.out).trans hx23).setCell (p := ⟨B6, 0, none⟩) (by show w.heap.size ≤ B6; omega) _)
  have hrss : RS (w3.setCell ⟨B6, 0, none⟩ (.slice A6 xs.length c6)) (.slice A6 xs.length c6) (sv xs) := by
    obtain ⟨A', c', he, e1, e2, e3⟩ := hrs
    refine ⟨A', c', he, e1, e2, fun hp => ?_⟩
    obtain ⟨ad, ha, hb, hc⟩ := e3 hp
    refine ⟨ad, ha, Nat.lt_of_lt_of_le hb hg6.size, fun j u hu => ?_⟩
    have hcj := hc j u hu
    have hne : ad.block ≠ B6 := by
      intro e
      have h0 := hc 0 _ (List.getElem?_eq_getElem hp)
      have h1 : (ad.add 0).block = B6 := by rw [block_of_add]; exact e
      unfold World.cell? at h0
      rw [h1, h6] at h0
      simp only at h0
      split at h0
      · cases h0
      · have hb2 : (sv xs)[0]'hp = .string (xs[0]'(by rwa [sv_length] at hp)) := by simp [sv]
        rw [hb2] at h0
        obtain ⟨hlt0, heq0⟩ := Array.getElem?_eq_some_iff.1 h0
        have hz0 : (ad.add 0).off = 0 := by simp at hlt0; omega
        simp [hz0] at heq0
    exact (World.cell?_of_block (hg6.block _ (by rw [block_of_add]; exact hb) (by rw [block_of_add]; intro e; injection e with e; omega))).trans hcj
  obtain ⟨V0, hV0⟩ : ∃ V0, w3.setCell ⟨B6, 0, none⟩ (.slice A6 xs.length c6) = V0 := ⟨_, rfl⟩
  rw [hV0] at H6s h3s h4s hps hxws hrss
  have HXS := Lib.hid (show dat xs = parW s.data.toList by rw [HPW.out]; exact hdat)
  clear hx3 h6 hx23 hg6 hrs hdat
  have H6C := Lib.hid (row1 H6s).1
  have H3C := Lib.hid (row1 h3s).1
  have H4 := Lib.hid h4s
  have HPA := Lib.hid (show PaIt s gI V0 from ⟨hps, HM.out.ext hxws⟩)
  have HXWV := Lib.hid hxws; have HRS := Lib.hid hrss
  have HN60 := Lib.hid (show xs.length ≤ 60 by
    have h1 := congrArg List.length HXS.out
    rw [dat_length] at h1
    have h2 : (parW s.data.toList).length ≤ s.size := by
      unfold parW
      split
      · have := par_count s.data.toList; rwa [size_list] at this
      · exact Nat.zero_le _
    have := HN.out
    omega)
  have HZ0 := Lib.hid (Nat.le_refl V0.heap.size)
  clear H6s h3s h4s hps hxws hrss
  go_wp2_with fail
  obtain ⟨wt0, hwt0⟩ : ∃ wt0, wt0 = V0.alloc (.cells #[.int .i64 0] 3) := ⟨_, rfl⟩
  rw [← hwt0]
  have xw0 : Ext V0 wt0 := by rw [hwt0]; exact (Ext.refl _).alloc _
  have g80 : wt0.heap[V0.heap.size]? = some (.cells #[.int .i64 0] 3 (0, 0)) := by rw [hwt0]; exact heap_alloc_new V0 _
  have HZW0 := Lib.hid xw0.size
  obtain ⟨B80, hB80⟩ : ∃ B80, B80 = V0.heap.size := ⟨_, rfl⟩
  rw [← hB80] at g80 ⊢
  clear hwt0 hB80
  refine wp_loop_rounds 3 ?_
  rw [rounds_succ]
  have k80 := (row1 g80).1
  go_wp2_with fail
  obtain ⟨V, hV⟩ : ∃ V, V = wt0.alloc (.cells #[.int .i64 0] 3) := ⟨_, rfl⟩
  rw [← hV]
  have hxV : Ext wt0 V := by rw [hV]; exact (Ext.refl _).alloc _
  have n9 : V.heap[wt0.heap.size]? = some (.cells #[.int .i64 0] 3 (0, 0)) := by rw [hV]; exact heap_alloc_new wt0 _
  have hzV : V.heap.size = wt0.heap.size + 1 := by rw [hV]; simp
  have hIV : Inv V0 B80 wt0.heap.size 0 [] V := ⟨xw0.trans hxV, hxV.heap g80, n9⟩
  have hV0V : V0.heap.size ≤ V.heap.size := hIV.1.size
  have h8V : B80 < wt0.heap.size := (Array.getElem?_eq_some_iff.1 g80).1
  have HZV := Lib.hid hzV
  clear hV n9 hzV k80
  refine wpIn_wide.1 (wp_range (gf := 46) (lb := #[.pointer (some ⟨gI, 0, none⟩)]) rfl (Go.Proofs.enters_of Tryd.func46 (by kernel_rfl) rfl)
    (parents_iter s HS4.out gI) (fun _ => rfl) (fun _ h => h.elim) (HPA.out.ext hIV.1) (PaIt.stab _ _ _)
    (fun pre W => Inv V0 B80 wt0.heap.size 0 pre W)
    (fun cd pre W => cd = .exit 2 ∧ Inv V0 B80 wt0.heap.size 0 pre W)
    (fun pre => Inv.stab (V0 := V0) (B := V.heap.size) _ _ _ pre hV0V) (fun cd pre => (Stab.pure _).and (Inv.stab _ _ _ _ hV0V))
    (fun pre X Y r hr hg h => (Inv.stab (V0 := V0) (B := V.heap.size) _ _ _ pre hV0V).later (grown_of_ext (by cases r with | none => exact hg | some k => exact (hr k rfl).elim)) h)
    (fun cd pre X Y r hr hg h => ⟨h.1, (Inv.stab (V0 := V0) (B := V.heap.size) _ _ _ _ hV0V).later (grown_of_ext (by cases r with | none => exact hg | some k => exact (hr k rfl).elim)) h.2⟩)
    hIV ?_ ?_ ?_)
  focus
    intro L pre x W hL hnL hzW hIW hitW hGW
    gi_wp2_with fail
    refine ⟨KeepsFrom.refl _ _, fun W2 hg2 hn2 hz2 => ?_⟩
    have hI2 := (Inv.stab (V0 := V0) (B := V.heap.size) _ _ _ pre hV0V) W W2 L hL hn2 hg2 hIW
    obtain ⟨⟨rest, hrest⟩, hxs⟩ := hGW
    obtain ⟨hxw, b8, b9⟩ := hI2
    clear hIW hitW hg2 hn2 hnL
    have hlen : pre.length < xs.length := by
      have h1 := congrArg List.length HXS.out
      have h2 := congrArg List.length hrest
      rw [dat_length] at h1
      rw [List.length_append, dat_length, List.length_cons] at h2
      omega
    have hxk : xs[pre.length].data.toList = x.data.toList := by
      have h1 : (dat xs)[pre.length]? = some x.data.toList := by rw [HXS.out, hrest, List.getElem?_append_right (by rw [dat_length]; exact Nat.le_refl _), dat_length, Nat.sub_self]; rfl
      rw [List.getElem?_eq_getElem (by rw [dat_length]; exact hlen), Option.some.injEq] at h1
      rw [← h1]; simp [dat]
    have hrx : realmB x.data.toList = true := by
      unfold parW at hrest
      by_cases hr : realmB s.data.toList = true
      · rw [if_pos hr] at hrest
        exact par_realm hr (by rw [hrest]; simp)
      · rw [if_neg hr] at hrest
        simp at hrest
    have hx4 : x.size ≤ 4294967280 := Nat.le_trans hxs HS4.out
    have HRX := Lib.hid (hrx ▸ Realm_at x hx4 W2)
    obtain ⟨A', c', he, e1, e2, e3⟩ := HRS.out.ext hxw
    rw [sv_length] at e1 e3 he
    injection he with z1 _ z3
    subst z1; subst z3
    obtain ⟨ad, hadA, hblt, hcell⟩ := e3 (by omega)
    have hck := hcell pre.length _ (sv_get xs pre.length hlen)
    have e0 : (x.toList == xs[pre.length].toList) = true := by rw [ByteArray.toList_eq, ByteArray.toList_eq, hxk]; exact beq_self_eq_true _
    generalize xs[pre.length] = xk at hck e0
    have hx60 : (xs.length : Int) ≤ 60 := by have := HN60.out; omega
    have hl' : (pre.length : Int) < (xs.length : Int) := by omega
    have k6 := hxw.cell H6C.out
    rw [hadA] at k6
    have k9 := (row1 b9).1
    have HXW := Lib.hid hxw; have HB8 := Lib.hid b8; have HB9 := Lib.hid b9
    clear hxw b8 b9 hrest hxs hxk hrx hcell e1 e2 e3 hblt
    gi_wp2_with fail
    refine wide_callR HRX.out ?_
    rintro _ w3 ⟨rfl, hx3⟩
    have b8 := hx3.heap HB8.out; have b9 := hx3.heap HB9.out
    have hg9 := grown_set1 w3 wt0.heap.size (.int .i64 ((pre.length : Int) + 1))
    have c9 := row1_set (.int .i64 ((pre.length : Int) + 1)) b9
    have c8 := heap_far hg9 b8 (by omega)
    have hxs3 : Ext V0 (w3.setCell ⟨wt0.heap.size, 0, none⟩ (.int .i64 ((pre.length : Int) + 1))) := (HXW.out.trans hx3).setCell (p := ⟨wt0.heap.size, 0, none⟩) (by have := HZ0.out; have := HZW0.out; show V0.heap.size ≤ _; omega) _
    obtain ⟨W5, hW5⟩ : ∃ W5, w3.setCell ⟨wt0.heap.size, 0, none⟩ (.int .i64 ((pre.length : Int) + 1)) = W5 := ⟨_, rfl⟩
    have hKO := hx3.keepsOthers.trans (KeepsOthers.setCell w3 ⟨wt0.heap.size, 0, none⟩ (.int .i64 ((pre.length : Int) + 1)))
    rw [hW5] at c9 c8 hxs3 hKO
    have HF := Lib.hid (show KeepsFrom V.heap.size W2 W5 ∧ PaIt s gI W5 ∧ Inv V0 B80 wt0.heap.size 0 (pre ++ [x]) W5 from
      ⟨hKO.from _, HPA.out.ext hxs3, ⟨hxs3, c8, by rw [List.length_append, List.length_singleton]; exact c9⟩⟩)
    have k3 := hxs3.cell H3C.out
    have j8 := (row1 c8).1; have j9 := (row1 c9).1
    have l9 := (row1 b9).1; have f9 := (row1 b9).2
    clear hg9 c9 c8 hxs3 hKO b8 b9 hx3 k6 k9 hck e0
    by_cases hbr : many ≤ (pre.length : Int) + 1
    · gi_wp2_with fail
      exact ⟨HF.out.1, rfl, HF.out.2.2⟩
    · gi_wp2_with fail
      exact HF.out
  focus intro D0 ys W hDw hS hIW hitW hD0'
  rotate_left 1
  focus
    rintro D0 cd ys W hDw hS ⟨rfl, hIW⟩ hD0'
    refine wpIn_wide.2 ?_
  all_goals
  clear hS
  obtain ⟨hxw, b8, b9⟩ := hIW
  have k8 := (row1 b8).1
  clear b9
  go_wp2_with fail
  have hx1t : Ext W (W.alloc (.cells #[.int .i64 1] 3)) := (Ext.refl _).alloc _
  have g81 := heap_alloc_new W (.cells #[.int .i64 1] 3)
  have xw1 := hxw.trans hx1t
  have hD0 := hx1t.heap hD0'
  have hD0w : V0.heap.size ≤ D0 := Nat.le_trans hV0V hDw
  clear hIV hV0V h8V HZV hxV g80 xw0 b8 k8 hxw hD0' hx1t hDw
  obtain ⟨B81, hB81⟩ : ∃ B81, B81 = W.heap.size := ⟨_, rfl⟩
  obtain ⟨wt1, hwt1⟩ : ∃ wt1, wt1 = W.alloc (.cells #[.int .i64 1] 3) := ⟨_, rfl⟩
  rw [← hwt1] at g81 xw1 hD0 ⊢
  rw [← hB81] at g81 ⊢
  have HZW1 := Lib.hid xw1.size
  clear hwt1 hB81
  rw [rounds_succ]
  have k81 := (row1 g81).1
  go_wp2_with fail
  obtain ⟨V, hV⟩ : ∃ V, V = wt1.alloc (.cells #[.int .i64 0] 3) := ⟨_, rfl⟩
  rw [← hV]
  have hxV : Ext wt1 V := by rw [hV]; exact (Ext.refl _).alloc _
  have n9 : V.heap[wt1.heap.size]? = some (.cells #[.int .i64 0] 3 (0, 0)) := by rw [hV]; exact heap_alloc_new wt1 _
  have hzV : V.heap.size = wt1.heap.size + 1 := by rw [hV]; simp
  have hIV : Inv V0 B81 wt1.heap.size 1 [] V := ⟨xw1.trans hxV, hxV.heap g81, n9⟩
  have hV0V : V0.heap.size ≤ V.heap.size := hIV.1.size
  have h8V : B81 < wt1.heap.size := (Array.getElem?_eq_some_iff.1 g81).1
  have HZV := Lib.hid hzV
  have hD0V := hxV.heap hD0
  have hD0lt : D0 < V.heap.size := (Array.getElem?_eq_some_iff.1 hD0V).1
  clear hV n9 hzV k81
  refine wpIn_wide.1 (wp_range (gf := 46) (lb := #[.pointer (some ⟨gI, 0, none⟩)]) rfl (Go.Proofs.enters_of Tryd.func46 (by kernel_rfl) rfl)
    (parents_iter s HS4.out gI) (fun _ => rfl) (fun _ h => h.elim) (HPA.out.ext hIV.1) (PaIt.stab _ _ _)
    (fun pre W => Inv V0 B81 wt1.heap.size 1 pre W ∧ W.heap[D0]? = some (.deferred (some [])))
    (fun _ _ _ => False)
    (fun pre => (Inv.stab (V0 := V0) (B := V.heap.size) _ _ _ pre hV0V).and (Stab.obj _ _ hD0lt)) (fun _ _ => Stab.pure _)
    (fun pre X Y r hr hg h => ((Inv.stab (V0 := V0) (B := V.heap.size) _ _ _ pre hV0V).and (Stab.obj _ _ hD0lt)).later (grown_of_ext (by cases r with | none => exact hg | some k => exact (hr k rfl).elim)) h)
    (fun _ _ _ _ _ _ _ h => h)
    ⟨hIV, hD0V⟩ ?_ ?_ ?_)
  focus
    intro L pre x W hL hnL hzW hIW hitW hGW
    gi_wp2_with fail
    refine ⟨KeepsFrom.refl _ _, fun W2 hg2 hn2 hz2 => ?_⟩
    have hI2 := ((Inv.stab (V0 := V0) (B := V.heap.size) _ _ _ pre hV0V).and (Stab.obj _ _ hD0lt)) W W2 L hL hn2 hg2 hIW
    obtain ⟨⟨rest, hrest⟩, hxs⟩ := hGW
    obtain ⟨⟨hxw, b8, b9⟩, hDW⟩ := hI2
    clear hIW hitW hg2 hn2 hnL
    have hlen : pre.length < xs.length := by
      have h1 := congrArg List.length HXS.out
      have h2 := congrArg List.length hrest
      rw [dat_length] at h1
      rw [List.length_append, dat_length, List.length_cons] at h2
      omega
    have hxk : xs[pre.length].data.toList = x.data.toList := by
      have h1 : (dat xs)[pre.length]? = some x.data.toList := by rw [HXS.out, hrest, List.getElem?_append_right (by rw [dat_length]; exact Nat.le_refl _), dat_length, Nat.sub_self]; rfl
      rw [List.getElem?_eq_getElem (by rw [dat_length]; exact hlen), Option.some.injEq] at h1
      rw [← h1]; simp [dat]
    have hrx : realmB x.data.toList = true := by
      unfold parW at hrest
      by_cases hr : realmB s.data.toList = true
      · rw [if_pos hr] at hrest
        exact par_realm hr (by rw [hrest]; simp)
      · rw [if_neg hr] at hrest
        simp at hrest
    have hx4 : x.size ≤ 4294967280 := Nat.le_trans hxs HS4.out
    have HRX := Lib.hid (hrx ▸ Realm_at x hx4 W2)
    obtain ⟨A', c', he, e1, e2, e3⟩ := HRS.out.ext hxw
    rw [sv_length] at e1 e3 he
    injection he with z1 _ z3
    subst z1; subst z3
    obtain ⟨ad, hadA, hblt, hcell⟩ := e3 (by omega)
    have hck := hcell pre.length _ (sv_get xs pre.length hlen)
    have e0 : (x.toList == xs[pre.length].toList) = true := by rw [ByteArray.toList_eq, ByteArray.toList_eq, hxk]; exact beq_self_eq_true _
    generalize xs[pre.length] = xk at hck e0
    have hx60 : (xs.length : Int) ≤ 60 := by have := HN60.out; omega
    have hl' : (pre.length : Int) < (xs.length : Int) := by omega
    have k6 := hxw.cell H6C.out
    rw [hadA] at k6
    have k9 := (row1 b9).1
    have HXW := Lib.hid hxw; have HB8 := Lib.hid b8; have HB9 := Lib.hid b9; have HDW := Lib.hid hDW
    clear hxw b8 b9 hrest hxs hxk hrx hcell e1 e2 e3 hblt hDW
    gi_wp2_with fail
    refine wide_callR HRX.out ?_
    rintro _ w3 ⟨rfl, hx3⟩
    have b8 := hx3.heap HB8.out; have b9 := hx3.heap HB9.out
    have hg9 := grown_set1 w3 wt1.heap.size (.int .i64 ((pre.length : Int) + 1))
    have c9 := row1_set (.int .i64 ((pre.length : Int) + 1)) b9
    have c8 := heap_far hg9 b8 (by omega)
    have hxs3 : Ext V0 (w3.setCell ⟨wt1.heap.size, 0, none⟩ (.int .i64 ((pre.length : Int) + 1))) := (HXW.out.trans hx3).setCell (p := ⟨wt1.heap.size, 0, none⟩) (by have := HZ0.out; have := HZW1.out; show V0.heap.size ≤ _; omega) _
    obtain ⟨W5, hW5⟩ : ∃ W5, w3.setCell ⟨wt1.heap.size, 0, none⟩ (.int .i64 ((pre.length : Int) + 1)) = W5 := ⟨_, rfl⟩
    have hKO := hx3.keepsOthers.trans (KeepsOthers.setCell w3 ⟨wt1.heap.size, 0, none⟩ (.int .i64 ((pre.length : Int) + 1)))
    rw [hW5] at c9 c8 hxs3 hKO
    have HF := Lib.hid (show KeepsFrom V.heap.size W2 W5 ∧ PaIt s gI W5 ∧ Inv V0 B81 wt1.heap.size 1 (pre ++ [x]) W5 ∧ W5.heap[D0]? = some (.deferred (some [])) from
      ⟨hKO.from _, HPA.out.ext hxs3, ⟨⟨hxs3, c8, by rw [List.length_append, List.length_singleton]; exact c9⟩, hKO.same _ _ HDW.out rfl⟩⟩)
    have k3 := hxs3.cell H3C.out
    have j8 := (row1 c8).1; have j9 := (row1 c9).1
    have l9 := (row1 b9).1; have f9 := (row1 b9).2
    clear hg9 c9 c8 hxs3 hKO b8 b9 hx3 k6 k9 hck e0
    gi_wp2_with fail
    exact HF.out
  rotate_left 1
  focus exact fun _ _ _ _ _ _ h _ => h.elim
  intro D1 ys W' hDw1 hS1 hIW1 hitW1 hD1
  have hD1w : V0.heap.size ≤ D1 ∧ D0 < D1 := ⟨Nat.le_trans hV0V hDw1, by omega⟩
  obtain ⟨⟨hxw, b8, b9⟩, hDW⟩ := hIW1
  have hys : ys.length = xs.length := by
    have h1 := congrArg List.length HXS.out
    have h2 := congrArg List.length hS1
    rw [dat_length] at h1 h2
    omega
  rw [hys] at b9
  have k8 := (row1 b8).1
  have k9 := (row1 b9).1
  have k6 := hxw.cell H6C.out
  have HXW := Lib.hid hxw; have HDW := Lib.hid hDW; have HD1 := Lib.hid hD1
  clear hxw b8 b9 hDW hD1 hS1 hitW1 hys
  go_wp2_with fail
  rw [rounds_succ]
  go_wp2_with fail
  have hxt : Ext V0 (W'.alloc (.cells #[.int .i64 2] 3)) := HXW.out.alloc _
  refine (known_at _ (HPA.out.2.ext hxt)).mono ?_
  rintro _ w5 ⟨rfl, hx5⟩
  have hxt5 : Ext W' w5 := ((Ext.refl W').alloc (.cells #[.int .i64 2] 3)).trans hx5
  have hx05 : Ext V0 w5 := HXW.out.trans hxt5
  have e4 := hx05.heap H4.out
  obtain ⟨k4, f4⟩ := row1 e4
  have hD1s := (KeepsOthers.setCell w5 ⟨w.heap.size + 1, 0, none⟩ (.bool true)).same _ _ (hxt5.heap HD1.out) rfl
  have hD0s := (KeepsOthers.setCell w5 ⟨w.heap.size + 1, 0, none⟩ (.bool true)).same _ _ (hxt5.heap HDW.out) rfl
  have h4s := row1_set (.bool true) e4
  have hxs := (HXWV.out.trans hx05).setCell (p := ⟨w.heap.size + 1, 0, none⟩) (show w.heap.size ≤ w.heap.size + 1 by omega) (.bool true)
  obtain ⟨Ws, hWs⟩ : ∃ Ws, w5.setCell ⟨w.heap.size + 1, 0, none⟩ (.bool true) = Ws := ⟨_, rfl⟩
  rw [hWs] at hD1s hD0s h4s hxs
  have hzw := HXWV.out.size
  have h4l : w.heap.size + 1 < V0.heap.size := (Array.getElem?_eq_some_iff.1 H4.out).1
  have hD0p : (Ws.putObj D1 (.deferred none)).heap[D0]? = some (.deferred (some [])) := (World.putObj_heap_other (by omega)).trans hD0s
  have h4p : ((Ws.putObj D1 (.deferred none)).putObj D0 (.deferred none)).heap[w.heap.size + 1]? = some (.cells #[.bool true] 4 (0, 0)) := (World.putObj_heap_other (by omega)).trans ((World.putObj_heap_other (by omega)).trans h4s)
  have hxp : Ext w ((Ws.putObj D1 (.deferred none)).putObj D0 (.deferred none)) := Ext.of_grown (Ext.of_grown hxs (grown_put hD1s) (by omega)) (grown_put hD0p) (by omega)
  have hcp := (row1 h4p).1
  have HD1S := Lib.hid hD1s; have HD0P := Lib.hid hD0p; have HXP := Lib.hid hxp
  clear hD1s hD0s hD0p h4p hxp hxs h4s hx05 hxt5 hx5 hxt e4
  go_wp2_with fail
  refine ⟨by simp, .inl ⟨_, _, rfl, run_takeDeferred HD1S.out, ?_⟩⟩
  refine ⟨by simp, .inl ⟨_, _, rfl, run_takeDeferred HD0P.out, ?_⟩⟩
  exact ⟨.bool true, by simp [results, Tryd.results7, go_sem, hcp], rfl, HXP.out⟩

set_option maxRecDepth 100000 in
set_option maxHeartbeats 4000000 in
theorem walk_false (s : ByteArray) (many : Int) (w : World) (hm : MaxN w) (h : s.size ≤ 60) (hr : realmB s.data.toList = false) :
    Calls Tryd.prog 7 #[.string s, .int .i64 many] w fun e w' => e = .returned (.bool true) ∧ Ext w w' := by
  have h60 : (s.size : Int) ≤ 60 := by omega
  have HM := Lib.hid hm
  have HS4 : Hid (s.size ≤ 4294967280) := Lib.hid (by omega)
  have HS1 : Hid (s.size ≤ 1000) := Lib.hid (by omega)
  have HRM := Lib.hid (hr ▸ RRealm_at s HS4.out)
  have HPW := Lib.hid (show parW s.data.toList = [] by unfold parW; rw [hr]; rfl)
  have HN := Lib.hid h
  obtain ⟨wb, hwb⟩ : ∃ wb, wb = (w.alloc (.cells #[.int .i64 many] 3)).alloc (.cells #[.bool false] 4) := ⟨_, rfl⟩
  have hxb : Ext w wb := by rw [hwb]; exact ((Ext.refl w).alloc _).alloc _
  have g3 : wb.heap[w.heap.size]? = some (.cells #[.int .i64 many] 3 (0, 0)) := by rw [hwb]; exact ((Ext.refl _).alloc _).heap (heap_alloc_new w _)
  have g4 : wb.heap[w.heap.size + 1]? = some (.cells #[.bool false] 4 (0, 0)) := by
    rw [hwb]
    have h := heap_alloc_new (w.alloc (.cells #[.int .i64 many] 3)) (.cells #[.bool false] 4)
    rwa [World.size_alloc] at h
  clear hm h hr
  refine calls_of_marks Tryd.func7 rfl ?_
  simp only [Tryd.ntmps7, List.size_toArray, List.length_cons, List.length_nil, Nat.reduceAdd, Nat.reduceSub, Array.replicate_succ, Array.replicate_zero, List.push_toArray, List.append_toArray, List.nil_append, List.cons_append]
  go_wp2_with fail
  rw [← hwb]
  have HXB := Lib.hid hxb; have G3 := Lib.hid g3; have G4 := Lib.hid g4
  clear hwb hxb g3 g4
  refine (Parents_at s wb).mono ?_
  rintro _ wp ⟨rfl, hwp⟩
  have hq := seq_nil #[.pointer (some ⟨wb.heap.size, 0, none⟩)] wp
  have hxp : Ext wb wp := by rw [hwp]; exact (Ext.refl _).alloc _
  have gp : wp.heap[wb.heap.size]? = some (.cells #[.string s] 9 (0, 0)) := by rw [hwp]; exact heap_alloc_new wb _
  obtain ⟨gI, hgI⟩ : ∃ gI, gI = wb.heap.size := ⟨_, rfl⟩
  rw [← hgI] at gp hq ⊢
  have HXP := Lib.hid hxp; have GP := Lib.hid gp
  clear hwp hxp gp hgI
  go_wp2_with fail
  obtain ⟨V1, hV1⟩ : ∃ V1, V1 = wp.alloc (.cells #[.slice none 0 0] 22) := ⟨_, rfl⟩
  rw [← hV1]
  have hxv : Ext wp V1 := by rw [hV1]; exact (Ext.refl _).alloc _
  have g6 : V1.heap[wp.heap.size]? = some (.cells #[.slice none 0 0] 22 (0, 0)) := by rw [hV1]; exact heap_alloc_new wp _
  obtain ⟨B6, hB6⟩ : ∃ B6, B6 = wp.heap.size := ⟨_, rfl⟩
  have hgp : gI < B6 := by rw [hB6]; exact (Array.getElem?_eq_some_iff.1 GP.out).1
  have h4p : w.heap.size + 1 < B6 := by rw [hB6]; have := (Array.getElem?_eq_some_iff.1 (HXP.out.heap G4.out)).1; omega
  rw [← hB6] at g6 ⊢
  have HXV := Lib.hid hxv; have G6 := Lib.hid g6
  clear hV1 hxv g6 hB6 hq
  refine (HRM.out V1).mono ?_
  rintro _ w2 ⟨rfl, rfl⟩
  have HX2 := Lib.hid (Ext.refl V1)
  go_wp2_with fail
  obtain ⟨V0, hV0⟩ : ∃ V0, V0 = V1 := ⟨_, rfl⟩
  have hx2 := HX2.out
  have H6s := hx2.heap G6.out
  have h3s := hx2.heap (HXV.out.heap (HXP.out.heap G3.out))
  have h4s := hx2.heap (HXV.out.heap (HXP.out.heap G4.out))
  have hps := hx2.heap (HXV.out.heap GP.out)
  have hxws : Ext w V1 := ((HXB.out.trans HXP.out).trans HXV.out).trans hx2
  obtain ⟨xs, hxs0⟩ : ∃ xs : List ByteArray, xs = [] := ⟨_, rfl⟩
  obtain ⟨A6, hA6⟩ : ∃ A6 : Option Addr, A6 = none := ⟨_, rfl⟩
  obtain ⟨c6, hc6⟩ : ∃ c6 : Nat, c6 = 0 := ⟨_, rfl⟩
  have hrss : RS V1 (.slice A6 xs.length c6) (sv xs) := by subst hxs0; subst hA6; subst hc6; exact RS.nil _
  have H6t : V1.heap[B6]? = some (.cells #[.slice A6 xs.length c6] 22 (0, 0)) := by subst hxs0; subst hA6; subst hc6; exact H6s
  have HXS := Lib.hid (show dat xs = parW s.data.toList by rw [HPW.out, hxs0]; rfl)
  clear H6s hxs0 hA6 hc6 hx2
  rename V1.heap[B6]? = _ => H6s
  rw [← hV0] at H6s h3s h4s hps hxws hrss ⊢
  clear HX2 hV0
  have H6C := Lib.hid (row1 H6s).1
  have H3C := Lib.hid (row1 h3s).1
  have H4 := Lib.hid h4s
  have HPA := Lib.hid (show PaIt s gI V0 from ⟨hps, HM.out.ext hxws⟩)
  have HXWV := Lib.hid hxws; have HRS := Lib.hid hrss
  have HN60 := Lib.hid (show xs.length ≤ 60 by
    have h1 := congrArg List.length HXS.out
    rw [dat_length] at h1
    have h2 : (parW s.data.toList).length ≤ s.size := by
      unfold parW
      split
      · have := par_count s.data.toList; rwa [size_list] at this
      · exact Nat.zero_le _
    have := HN.out
    omega)
  have HZ0 := Lib.hid (Nat.le_refl V0.heap.size)
  clear H6s h3s h4s hps hxws hrss
  go_wp2_with fail
  obtain ⟨wt0, hwt0⟩ : ∃ wt0, wt0 = V0.alloc (.cells #[.int .i64 0] 3) := ⟨_, rfl⟩
  rw [← hwt0]
  have xw0 : Ext V0 wt0 := by rw [hwt0]; exact (Ext.refl _).alloc _
  have g80 : wt0.heap[V0.heap.size]? = some (.cells #[.int .i64 0] 3 (0, 0)) := by rw [hwt0]; exact heap_alloc_new V0 _
  have HZW0 := Lib.hid xw0.size
  obtain ⟨B80, hB80⟩ : ∃ B80, B80 = V0.heap.size := ⟨_, rfl⟩
  rw [← hB80] at g80 ⊢
  clear hwt0 hB80
  refine wp_loop_rounds 3 ?_
  rw [rounds_succ]
  have k80 := (row1 g80).1
  go_wp2_with fail
  obtain ⟨V, hV⟩ : ∃ V, V = wt0.alloc (.cells #[.int .i64 0] 3) := ⟨_, rfl⟩
  rw [← hV]
  have hxV : Ext wt0 V := by rw [hV]; exact (Ext.refl _).alloc _
  have n9 : V.heap[wt0.heap.size]? = some (.cells #[.int .i64 0] 3 (0, 0)) := by rw [hV]; exact heap_alloc_new wt0 _
  have hzV : V.heap.size = wt0.heap.size + 1 := by rw [hV]; simp
  have hIV : Inv V0 B80 wt0.heap.size 0 [] V := ⟨xw0.trans hxV, hxV.heap g80, n9⟩
  have hV0V : V0.heap.size ≤ V.heap.size := hIV.1.size
  have h8V : B80 < wt0.heap.size := (Array.getElem?_eq_some_iff.1 g80).1
  have HZV := Lib.hid hzV
  clear hV n9 hzV k80
  refine wpIn_wide.1 (wp_range (gf := 46) (lb := #[.pointer (some ⟨gI, 0, none⟩)]) rfl (Go.Proofs.enters_of Tryd.func46 (by kernel_rfl) rfl)
    (parents_iter s HS4.out gI) (fun _ => rfl) (fun _ h => h.elim) (HPA.out.ext hIV.1) (PaIt.stab _ _ _)
    (fun pre W => Inv V0 B80 wt0.heap.size 0 pre W)
    (fun cd pre W => cd = .exit 2 ∧ Inv V0 B80 wt0.heap.size 0 pre W)
    (fun pre => Inv.stab (V0 := V0) (B := V.heap.size) _ _ _ pre hV0V) (fun cd pre => (Stab.pure _).and (Inv.stab _ _ _ _ hV0V))
    (fun pre X Y r hr hg h => (Inv.stab (V0 := V0) (B := V.heap.size) _ _ _ pre hV0V).later (grown_of_ext (by cases r with | none => exact hg | some k => exact (hr k rfl).elim)) h)
    (fun cd pre X Y r hr hg h => ⟨h.1, (Inv.stab (V0 := V0) (B := V.heap.size) _ _ _ _ hV0V).later (grown_of_ext (by cases r with | none => exact hg | some k => exact (hr k rfl).elim)) h.2⟩)
    hIV ?_ ?_ ?_)
  focus
    intro L pre x W hL hnL hzW hIW hitW hGW
    gi_wp2_with fail
    refine ⟨KeepsFrom.refl _ _, fun W2 hg2 hn2 hz2 => ?_⟩
    have hI2 := (Inv.stab (V0 := V0) (B := V.heap.size) _ _ _ pre hV0V) W W2 L hL hn2 hg2 hIW
    obtain ⟨⟨rest, hrest⟩, hxs⟩ := hGW
    obtain ⟨hxw, b8, b9⟩ := hI2
    clear hIW hitW hg2 hn2 hnL
    have hlen : pre.length < xs.length := by
      have h1 := congrArg List.length HXS.out
      have h2 := congrArg List.length hrest
      rw [dat_length] at h1
      rw [List.length_append, dat_length, List.length_cons] at h2
      omega
    have hxk : xs[pre.length].data.toList = x.data.toList := by
      have h1 : (dat xs)[pre.length]? = some x.data.toList := by rw [HXS.out, hrest, List.getElem?_append_right (by rw [dat_length]; exact Nat.le_refl _), dat_length, Nat.sub_self]; rfl
      rw [List.getElem?_eq_getElem (by rw [dat_length]; exact hlen), Option.some.injEq] at h1
      rw [← h1]; simp [dat]
    have hrx : realmB x.data.toList = true := by
      unfold parW at hrest
      by_cases hr : realmB s.data.toList = true
      · rw [if_pos hr] at hrest
        exact par_realm hr (by rw [hrest]; simp)
      · rw [if_neg hr] at hrest
        simp at hrest
    have hx4 : x.size ≤ 4294967280 := Nat.le_trans hxs HS4.out
    have HRX := Lib.hid (hrx ▸ Realm_at x hx4 W2)
    obtain ⟨A', c', he, e1, e2, e3⟩ := HRS.out.ext hxw
    rw [sv_length] at e1 e3 he
    injection he with z1 _ z3
    subst z1; subst z3
    obtain ⟨ad, hadA, hblt, hcell⟩ := e3 (by omega)
    have hck := hcell pre.length _ (sv_get xs pre.length hlen)
    have e0 : (x.toList == xs[pre.length].toList) = true := by rw [ByteArray.toList_eq, ByteArray.toList_eq, hxk]; exact beq_self_eq_true _
    generalize xs[pre.length] = xk at hck e0
    have hx60 : (xs.length : Int) ≤ 60 := by have := HN60.out; omega
    have hl' : (pre.length : Int) < (xs.length : Int) := by omega
    have k6 := hxw.cell H6C.out
    rw [hadA] at k6
    have k9 := (row1 b9).1
    have HXW := Lib.hid hxw; have HB8 := Lib.hid b8; have HB9 := Lib.hid b9
    clear hxw b8 b9 hrest hxs hxk hrx hcell e1 e2 e3 hblt
    gi_wp2_with fail
    refine wide_callR HRX.out ?_
    rintro _ w3 ⟨rfl, hx3⟩
    have b8 := hx3.heap HB8.out; have b9 := hx3.heap HB9.out
    have hg9 := grown_set1 w3 wt0.heap.size (.int .i64 ((pre.length : Int) + 1))
    have c9 := row1_set (.int .i64 ((pre.length : Int) + 1)) b9
    have c8 := heap_far hg9 b8 (by omega)
    have hxs3 : Ext V0 (w3.setCell ⟨wt0.heap.size, 0, none⟩ (.int .i64 ((pre.length : Int) + 1))) := (HXW.out.trans hx3).setCell (p := ⟨wt0.heap.size, 0, none⟩) (by have := HZ0.out; have := HZW0.out; show V0.heap.size ≤ _; omega) _
    obtain ⟨W5, hW5⟩ : ∃ W5, w3.setCell ⟨wt0.heap.size, 0, none⟩ (.int .i64 ((pre.length : Int) + 1)) = W5 := ⟨_, rfl⟩
    have hKO := hx3.keepsOthers.trans (KeepsOthers.setCell w3 ⟨wt0.heap.size, 0, none⟩ (.int .i64 ((pre.length : Int) + 1)))
    rw [hW5] at c9 c8 hxs3 hKO
    have HF := Lib.hid (show KeepsFrom V.heap.size W2 W5 ∧ PaIt s gI W5 ∧ Inv V0 B80 wt0.heap.size 0 (pre ++ [x]) W5 from
      ⟨hKO.from _, HPA.out.ext hxs3, ⟨hxs3, c8, by rw [List.length_append, List.length_singleton]; exact c9⟩⟩)
    have k3 := hxs3.cell H3C.out
    have j8 := (row1 c8).1; have j9 := (row1 c9).1
    have l9 := (row1 b9).1; have f9 := (row1 b9).2
    clear hg9 c9 c8 hxs3 hKO b8 b9 hx3 k6 k9 hck e0
    by_cases hbr : many ≤ (pre.length : Int) + 1
    · gi_wp2_with fail
      exact ⟨HF.out.1, rfl, HF.out.2.2⟩
    · gi_wp2_with fail
      exact HF.out
  focus intro D0 ys W hDw hS hIW hitW hD0'
  rotate_left 1
  focus
    rintro D0 cd ys W hDw hS ⟨rfl, hIW⟩ hD0'
    refine wpIn_wide.2 ?_
  all_goals
  clear hS
  obtain ⟨hxw, b8, b9⟩ := hIW
  have k8 := (row1 b8).1
  clear b9
  go_wp2_with fail
  have hx1t : Ext W (W.alloc (.cells #[.int .i64 1] 3)) := (Ext.refl _).alloc _
  have g81 := heap_alloc_new W (.cells #[.int .i64 1] 3)
  have xw1 := hxw.trans hx1t
  have hD0 := hx1t.heap hD0'
  have hD0w : V0.heap.size ≤ D0 := Nat.le_trans hV0V hDw
  clear hIV hV0V h8V HZV hxV g80 xw0 b8 k8 hxw hD0' hx1t hDw
  obtain ⟨B81, hB81⟩ : ∃ B81, B81 = W.heap.size := ⟨_, rfl⟩
  obtain ⟨wt1, hwt1⟩ : ∃ wt1, wt1 = W.alloc (.cells #[.int .i64 1] 3) := ⟨_, rfl⟩
  rw [← hwt1] at g81 xw1 hD0 ⊢
  rw [← hB81] at g81 ⊢
  have HZW1 := Lib.hid xw1.size
  clear hwt1 hB81
  rw [rounds_succ]
  have k81 := (row1 g81).1
  go_wp2_with fail
  obtain ⟨V, hV⟩ : ∃ V, V = wt1.alloc (.cells #[.int .i64 0] 3) := ⟨_, rfl⟩
  rw [← hV]
  have hxV : Ext wt1 V := by rw [hV]; exact (Ext.refl _).alloc _
  have n9 : V.heap[wt1.heap.size]? = some (.cells #[.int .i64 0] 3 (0, 0)) := by rw [hV]; exact heap_alloc_new wt1 _
  have hzV : V.heap.size = wt1.heap.size + 1 := by rw [hV]; simp
  have hIV : Inv V0 B81 wt1.heap.size 1 [] V := ⟨xw1.trans hxV, hxV.heap g81, n9⟩
  have hV0V : V0.heap.size ≤ V.heap.size := hIV.1.size
  have h8V : B81 < wt1.heap.size := (Array.getElem?_eq_some_iff.1 g81).1
  have HZV := Lib.hid hzV
  have hD0V := hxV.heap hD0
  have hD0lt : D0 < V.heap.size := (Array.getElem?_eq_some_iff.1 hD0V).1
  clear hV n9 hzV k81
  refine wpIn_wide.1 (wp_range (gf := 46) (lb := #[.pointer (some ⟨gI, 0, none⟩)]) rfl (Go.Proofs.enters_of Tryd.func46 (by kernel_rfl) rfl)
    (parents_iter s HS4.out gI) (fun _ => rfl) (fun _ h => h.elim) (HPA.out.ext hIV.1) (PaIt.stab _ _ _)
    (fun pre W => Inv V0 B81 wt1.heap.size 1 pre W ∧ W.heap[D0]? = some (.deferred (some [])))
    (fun _ _ _ => False)
    (fun pre => (Inv.stab (V0 := V0) (B := V.heap.size) _ _ _ pre hV0V).and (Stab.obj _ _ hD0lt)) (fun _ _ => Stab.pure _)
    (fun pre X Y r hr hg h => ((Inv.stab (V0 := V0) (B := V.heap.size) _ _ _ pre hV0V).and (Stab.obj _ _ hD0lt)).later (grown_of_ext (by cases r with | none => exact hg | some k => exact (hr k rfl).elim)) h)
    (fun _ _ _ _ _ _ _ h => h)
    ⟨hIV, hD0V⟩ ?_ ?_ ?_)
  focus
    intro L pre x W hL hnL hzW hIW hitW hGW
    gi_wp2_with fail
    refine ⟨KeepsFrom.refl _ _, fun W2 hg2 hn2 hz2 => ?_⟩
    have hI2 := ((Inv.stab (V0 := V0) (B := V.heap.size) _ _ _ pre hV0V).and (Stab.obj _ _ hD0lt)) W W2 L hL hn2 hg2 hIW
    obtain ⟨⟨rest, hrest⟩, hxs⟩ := hGW
    obtain ⟨⟨hxw, b8, b9⟩, hDW⟩ := hI2
    clear hIW hitW hg2 hn2 hnL
    have hlen : pre.length < xs.length := by
      have h1 := congrArg List.length HXS.out
      have h2 := congrArg List.length hrest
      rw [dat_length] at h1
      rw [List.length_append, dat_length, List.length_cons] at h2
      omega
    have hxk : xs[pre.length].data.toList = x.data.toList := by
      have h1 : (dat xs)[pre.length]? = some x.data.toList := by rw [HXS.out, hrest, List.getElem?_append_right (by rw [dat_length]; exact Nat.le_refl _), dat_length, Nat.sub_self]; rfl
      rw [List.getElem?_eq_getElem (by rw [dat_length]; exact hlen), Option.some.injEq] at h1
      rw [← h1]; simp [dat]
    have hrx : realmB x.data.toList = true := by
      unfold parW at hrest
      by_cases hr : realmB s.data.toList = true
      · rw [if_pos hr] at hrest
        exact par_realm hr (by rw [hrest]; simp)
      · rw [if_neg hr] at hrest
        simp at hrest
    have hx4 : x.size ≤ 4294967280 := Nat.le_trans hxs HS4.out
    have HRX := Lib.hid (hrx ▸ Realm_at x hx4 W2)
    obtain ⟨A', c', he, e1, e2, e3⟩ := HRS.out.ext hxw
    rw [sv_length] at e1 e3 he
    injection he with z1 _ z3
    subst z1; subst z3
    obtain ⟨ad, hadA, hblt, hcell⟩ := e3 (by omega)
    have hck := hcell pre.length _ (sv_get xs pre.length hlen)
    have e0 : (x.toList == xs[pre.length].toList) = true := by rw [ByteArray.toList_eq, ByteArray.toList_eq, hxk]; exact beq_self_eq_true _
    generalize xs[pre.length] = xk at hck e0
    have hx60 : (xs.length : Int) ≤ 60 := by have := HN60.out; omega
    have hl' : (pre.length : Int) < (xs.length : Int) := by omega
    have k6 := hxw.cell H6C.out
    rw [hadA] at k6
    have k9 := (row1 b9).1
    have HXW := Lib.hid hxw; have HB8 := Lib.hid b8; have HB9 := Lib.hid b9; have HDW := Lib.hid hDW
    clear hxw b8 b9 hrest hxs hxk hrx hcell e1 e2 e3 hblt hDW
    gi_wp2_with fail
    refine wide_callR HRX.out ?_
    rintro _ w3 ⟨rfl, hx3⟩
    have b8 := hx3.heap HB8.out; have b9 := hx3.heap HB9.out
    have hg9 := grown_set1 w3 wt1.heap.size (.int .i64 ((pre.length : Int) + 1))
    have c9 := row1_set (.int .i64 ((pre.length : Int) + 1)) b9
    have c8 := heap_far hg9 b8 (by omega)
    have hxs3 : Ext V0 (w3.setCell ⟨wt1.heap.size, 0, none⟩ (.int .i64 ((pre.length : Int) + 1))) := (HXW.out.trans hx3).setCell (p := ⟨wt1.heap.size, 0, none⟩) (by have := HZ0.out; have := HZW1.out; show V0.heap.size ≤ _; omega) _
    obtain ⟨W5, hW5⟩ : ∃ W5, w3.setCell ⟨wt1.heap.size, 0, none⟩ (.int .i64 ((pre.length : Int) + 1)) = W5 := ⟨_, rfl⟩
    have hKO := hx3.keepsOthers.trans (KeepsOthers.setCell w3 ⟨wt1.heap.size, 0, none⟩ (.int .i64 ((pre.length : Int) + 1)))
    rw [hW5] at c9 c8 hxs3 hKO
    have HF := Lib.hid (show KeepsFrom V.heap.size W2 W5 ∧ PaIt s gI W5 ∧ Inv V0 B81 wt1.heap.size 1 (pre ++ [x]) W5 ∧ W5.heap[D0]? = some (.deferred (some [])) from
      ⟨hKO.from _, HPA.out.ext hxs3, ⟨⟨hxs3, c8, by rw [List.length_append, List.length_singleton]; exact c9⟩, hKO.same _ _ HDW.out rfl⟩⟩)
    have k3 := hxs3.cell H3C.out
    have j8 := (row1 c8).1; have j9 := (row1 c9).1
    have l9 := (row1 b9).1; have f9 := (row1 b9).2
    clear hg9 c9 c8 hxs3 hKO b8 b9 hx3 k6 k9 hck e0
    gi_wp2_with fail
    exact HF.out
  rotate_left 1
  focus exact fun _ _ _ _ _ _ h _ => h.elim
  intro D1 ys W' hDw1 hS1 hIW1 hitW1 hD1
  have hD1w : V0.heap.size ≤ D1 ∧ D0 < D1 := ⟨Nat.le_trans hV0V hDw1, by omega⟩
  obtain ⟨⟨hxw, b8, b9⟩, hDW⟩ := hIW1
  have hys : ys.length = xs.length := by
    have h1 := congrArg List.length HXS.out
    have h2 := congrArg List.length hS1
    rw [dat_length] at h1 h2
    omega
  rw [hys] at b9
  have k8 := (row1 b8).1
  have k9 := (row1 b9).1
  have k6 := hxw.cell H6C.out
  have HXW := Lib.hid hxw; have HDW := Lib.hid hDW; have HD1 := Lib.hid hD1
  clear hxw b8 b9 hDW hD1 hS1 hitW1 hys
  go_wp2_with fail
  rw [rounds_succ]
  go_wp2_with fail
  have hxt : Ext V0 (W'.alloc (.cells #[.int .i64 2] 3)) := HXW.out.alloc _
  refine (known_at _ (HPA.out.2.ext hxt)).mono ?_
  rintro _ w5 ⟨rfl, hx5⟩
  have hxt5 : Ext W' w5 := ((Ext.refl W').alloc (.cells #[.int .i64 2] 3)).trans hx5
  have hx05 : Ext V0 w5 := HXW.out.trans hxt5
  have e4 := hx05.heap H4.out
  obtain ⟨k4, f4⟩ := row1 e4
  have hD1s := (KeepsOthers.setCell w5 ⟨w.heap.size + 1, 0, none⟩ (.bool true)).same _ _ (hxt5.heap HD1.out) rfl
  have hD0s := (KeepsOthers.setCell w5 ⟨w.heap.size + 1, 0, none⟩ (.bool true)).same _ _ (hxt5.heap HDW.out) rfl
  have h4s := row1_set (.bool true) e4
  have hxs := (HXWV.out.trans hx05).setCell (p := ⟨w.heap.size + 1, 0, none⟩) (show w.heap.size ≤ w.heap.size + 1 by omega) (.bool true)
  obtain ⟨Ws, hWs⟩ : ∃ Ws, w5.setCell ⟨w.heap.size + 1, 0, none⟩ (.bool true) = Ws := ⟨_, rfl⟩
  rw [hWs] at hD1s hD0s h4s hxs
  have hzw := HXWV.out.size
  have h4l : w.heap.size + 1 < V0.heap.size := (Array.getElem?_eq_some_iff.1 H4.out).1
  have hD0p : (Ws.putObj D1 (.deferred none)).heap[D0]? = some (.deferred (some [])) := (World.putObj_heap_other (by omega)).trans hD0s
  have h4p : ((Ws.putObj D1 (.deferred none)).putObj D0 (.deferred none)).heap[w.heap.size + 1]? = some (.cells #[.bool true] 4 (0, 0)) := (World.putObj_heap_other (by omega)).trans ((World.putObj_heap_other (by omega)).trans h4s)
  have hxp : Ext w ((Ws.putObj D1 (.deferred none)).putObj D0 (.deferred none)) := Ext.of_grown (Ext.of_grown hxs (grown_put hD1s) (by omega)) (grown_put hD0p) (by omega)
  have hcp := (row1 h4p).1
  have HD1S := Lib.hid hD1s; have HD0P := Lib.hid hD0p; have HXP := Lib.hid hxp
  clear hD1s hD0s hD0p h4p hxp hxs h4s hx05 hxt5 hx5 hxt e4
  go_wp2_with fail
  refine ⟨by simp, .inl ⟨_, _, rfl, run_takeDeferred HD1S.out, ?_⟩⟩
  refine ⟨by simp, .inl ⟨_, _, rfl, run_takeDeferred HD0P.out, ?_⟩⟩
  exact ⟨.bool true, by simp [results, Tryd.results7, go_sem, hcp], rfl, HXP.out⟩

theorem law_walk (s : ByteArray) (many : Int) (w : World) (hm : MaxN w) :
    Calls Tryd.prog 7 #[.string s, .int .i64 many] w fun e w' => e = .returned (.bool true) ∧ Ext w w' := by
  by_cases h : 60 < s.size
  · exact walk_big s many w hm h
  · cases hr : realmB s.data.toList with
    | true => exact walk_true s many w hm (by omega) hr
    | false => exact walk_false s many w hm (by omega) hr
end Go.Proofs.YtgclchdccgkjaaaDoor.nameParents
