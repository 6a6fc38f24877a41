/- FlagsEach: the law. (wip/tools/genfleach.py printed this.) -/
import Derived.Test.YtigjecmhhjjenaaDoorFlEaP
import Derived.Test.YtigjecmhhjjenaaDoorFlK
import Derived.Test.YtigjecmhhjjenaaDoorRowF
import Derived.Deep.CutRange
import Derived.Deep.CutBlock
import Derived.BigQuiet
import Derived.Test.YtigjecmhhjjenaaDoorRound
import Derived.Shelf.Abstract
namespace Go.Proofs.YtigjecmhhjjenaaDoor.flagsEach
open Go Go.RowKit
set_option linter.unusedVariables false
attribute [local go_sem] Oper.semAt_some

/-- What lies in the law's own blocks. -/
def Inv (V0 : World) (b6 b7 b8 : Nat) (turn k n : Int) (W : World) : Prop :=
  Ext V0 W ∧ W.heap[b6]? = some (.cells #[.int .i64 turn] 3 (0, 0)) ∧ W.heap[b7]? = some (.cells #[.int .i64 k] 3 (0, 0)) ∧ W.heap[b8]? = some (.cells #[.int .i64 n] 3 (0, 0))
theorem Inv.stab {V0 : World} {B : Nat} (b6 b7 b8 : Nat) (turn k n : Int) (h : V0.heap.size ≤ B) : Stab B (Inv V0 b6 b7 b8 turn k n) := (Stab.ext V0 h).and ((Stab.heap _ _ _ _).and ((Stab.heap _ _ _ _).and (Stab.heap _ _ _ _)))
/-- Two new boxes that hold zero. -/
def Two (w : World) (x y : Value) (W : World) : Prop := ∃ b c, x = .pointer (some ⟨b, 0, none⟩) ∧ y = .pointer (some ⟨c, 0, none⟩) ∧ W.heap[b]? = some (.cells #[.int .i64 0] 3 (0, 0)) ∧ W.heap[c]? = some (.cells #[.int .i64 0] 3 (0, 0)) ∧ Ext w W ∧ w.heap.size ≤ b ∧ w.heap.size ≤ c ∧ b ≠ c

theorem Two.mk (w : World) : Two w (.pointer (some ⟨w.heap.size, 0, none⟩)) (.pointer (some ⟨w.heap.size + 1, 0, none⟩)) ((w.alloc (.cells #[.int .i64 0] 3)).alloc (.cells #[.int .i64 0] 3)) := by
  have h1 := heap_alloc_new w (.cells #[.int .i64 0] 3)
  have h2 := heap_alloc_new (w.alloc (.cells #[.int .i64 0] 3)) (.cells #[.int .i64 0] 3)
  rw [World.size_alloc] at h2
  exact ⟨_, _, rfl, rfl, ((Ext.refl _).alloc _).heap h1, h2, ((Ext.refl w).alloc _).alloc _, by omega, by omega, by omega⟩
theorem Two.mkd (w : World) : Two w (.pointer (some ⟨w.heap.size, 0, none⟩)) (.pointer (some ⟨w.heap.size + 1, 0, none⟩)) ((w.alloc (.cells #[.int .i64 0] 3)).alloc (.cells #[.int .i64 0] 3)).drew :=
  let ⟨b, c, h1, h2, h3, h4, h5, h6⟩ := Two.mk w
  ⟨b, c, h1, h2, ((Ext.refl _).drew').heap h3, ((Ext.refl _).drew').heap h4, h5.drew', h6⟩
theorem Inv.ext {V0 W W' : World} {b6 b7 b8 : Nat} {t k n : Int} (h : Inv V0 b6 b7 b8 t k n W) (hx : Ext W W') : Inv V0 b6 b7 b8 t k n W' := ⟨h.1.trans hx, hx.heap h.2.1, hx.heap h.2.2.1, hx.heap h.2.2.2⟩
theorem Inv.set8 {V0 W : World} {b6 b7 b8 : Nat} {t k n : Int} (h : Inv V0 b6 b7 b8 t k n W) (d : b6 ≠ b8) (e : b7 ≠ b8) (z : V0.heap.size ≤ b8) (m : Int) : Inv V0 b6 b7 b8 t k m (W.setCell ⟨b8, 0, none⟩ (.int .i64 m)) :=
  have hg := grown_set1 W b8 (.int .i64 m)
  ⟨h.1.setCell (p := ⟨b8, 0, none⟩) z _, heap_far hg h.2.1 (by omega), heap_far hg h.2.2.1 (by omega), row1_set _ h.2.2.2⟩
theorem Inv.set7 {V0 W : World} {b6 b7 b8 : Nat} {t k n : Int} (h : Inv V0 b6 b7 b8 t k n W) (d : b6 ≠ b7) (e : b7 ≠ b8) (z : V0.heap.size ≤ b7) (m : Int) : Inv V0 b6 b7 b8 t m n (W.setCell ⟨b7, 0, none⟩ (.int .i64 m)) :=
  have hg := grown_set1 W b7 (.int .i64 m)
  ⟨h.1.setCell (p := ⟨b7, 0, none⟩) z _, heap_far hg h.2.1 (by omega), row1_set _ h.2.2.1, heap_far hg h.2.2.2 (by omega)⟩
def left8 (b : Nat) (W : World) : Nat := match W.cell? ⟨b, 0, none⟩ with | some v => 32 - (intOf v).toNat | none => 0
theorem Inv.left {V0 W : World} {b6 b7 b8 : Nat} {t k n : Int} (h : Inv V0 b6 b7 b8 t k n W) : left8 b8 W = 32 - n.toNat := by
  unfold left8
  rw [(row1 h.2.2.2).1]
  rfl

set_option maxRecDepth 100000 in
set_option maxHeartbeats 4000000 in
theorem law_walk (i many : Int) (w : World) (f0 : 0 ≤ i) (f1 : i ≤ 4294967295) (hp : NoEnv w) :
    Calls Tryd.prog 5 #[.int .u32 i, .int .i64 many] w fun e w' => e = .returned (.bool true) ∧ Ext w w' := by
  obtain ⟨f, rfl⟩ := u32_of i f0 f1
  clear f0 f1 hp
  obtain ⟨wb, hwb⟩ : ∃ wb, wb = ((w.alloc (.cells #[.int .u32 (f.toNat : Int)] 22)).alloc (.cells #[.int .i64 many] 3)).alloc (.cells #[.bool false] 4) := ⟨_, rfl⟩
  have hxb : Ext w wb := by rw [hwb]; exact (((Ext.refl w).alloc _).alloc _).alloc _
  have g2 : wb.heap[w.heap.size]? = some (.cells #[.int .u32 (f.toNat : Int)] 22 (0, 0)) := by rw [hwb]; exact (((Ext.refl _).alloc _).alloc _).heap (heap_alloc_new w _)
  have g3 : wb.heap[w.heap.size + 1]? = some (.cells #[.int .i64 many] 3 (0, 0)) := by
    rw [hwb]
    have h := heap_alloc_new (w.alloc (.cells #[.int .u32 (f.toNat : Int)] 22)) (.cells #[.int .i64 many] 3)
    rw [World.size_alloc] at h
    exact ((Ext.refl _).alloc _).heap h
  have g4 : wb.heap[w.heap.size + 2]? = some (.cells #[.bool false] 4 (0, 0)) := by
    rw [hwb]
    have h := heap_alloc_new ((w.alloc (.cells #[.int .u32 (f.toNat : Int)] 22)).alloc (.cells #[.int .i64 many] 3)) (.cells #[.bool false] 4)
    rw [World.size_alloc, World.size_alloc] at h
    exact h
  have k2 := (row1 g2).1
  refine calls_of_marks Tryd.func5 rfl ?_
  simp only [Tryd.ntmps5, List.size_toArray, List.length_cons, List.length_nil, Nat.reduceAdd, Nat.reduceSub, Array.replicate_succ, Array.replicate_zero, List.push_toArray, List.append_toArray, List.nil_append, List.cons_append]
  go_wp2_with fail
  rw [← hwb]
  have HXB := Lib.hid hxb; have G2 := Lib.hid g2; have G3 := Lib.hid g3; have G4 := Lib.hid g4
  clear hwb hxb g2 g3 g4 k2
  refine (Each_at f wb).mono ?_
  rintro _ wp ⟨rfl, hfb, hzp, hxp⟩
  have hq := each_nil #[.pointer (some ⟨wb.heap.size, 0, none⟩)] wp
  obtain ⟨gI, hgI⟩ : ∃ gI, gI = wb.heap.size := ⟨_, rfl⟩
  rw [← hgI] at hfb hq ⊢
  have HXP := Lib.hid (HXB.out.trans hxp); have HFB := Lib.hid hfb
  have J2 := Lib.hid (hxp.heap G2.out); have J3 := Lib.hid (hxp.heap G3.out); have J4 := Lib.hid (hxp.heap G4.out)
  clear hfb hzp hxp hgI HXB G2 G3 G4
  go_wp2_with fail
  clear hq
  obtain ⟨V0, hV0⟩ : ∃ V0, V0 = wp := ⟨_, rfl⟩
  rw [← hV0] at HXP HFB J2 J3 J4 ⊢
  clear hV0
  obtain ⟨wt0, hwt0⟩ : ∃ wt0, wt0 = V0.alloc (.cells #[.int .i64 0] 3) := ⟨_, rfl⟩
  rw [← hwt0]
  have xw0 : Ext V0 wt0 := by rw [hwt0]; exact (Ext.refl _).alloc _
  have g80 : wt0.heap[V0.heap.size]? = some (.cells #[.int .i64 0] 3 (0, 0)) := by rw [hwt0]; exact heap_alloc_new V0 _
  obtain ⟨B80, hB80⟩ : ∃ B80, B80 = V0.heap.size := ⟨_, rfl⟩
  rw [← hB80] at g80 ⊢
  clear hwt0 hB80
  refine wp_loop_rounds 3 ?_
  rw [rounds_succ]
  have k80 := (row1 g80).1
  go_upto_region 7 with fail
  go_cut [7, 8] from 15 to 83 (fun v7 v8 wx => Two wt0 v7 v8 wx)
  case first =>
    go_wp2_with fail
    go_meet
    case rel => first | exact Two.mk _ | exact Two.mkd _
  case rest =>
    obtain ⟨b7, b8, rfl, rfl, n7, n8, hxc, z7, z8, hne⟩ := hcut
    obtain ⟨V, rfl⟩ : ∃ V : World, V = wc := ⟨_, rfl⟩
    have hIV : Inv V0 B80 b7 b8 0 (([] : List Nat).length : Int) (nxP [] : Int) V := ⟨xw0.trans hxc, hxc.heap g80, n7, n8⟩
    have hV0V : V0.heap.size ≤ V.heap.size := hIV.1.size
    have hb0 : B80 < wt0.heap.size := (Array.getElem?_eq_some_iff.1 g80).1
    have HD := Lib.hid (show B80 ≠ b7 ∧ B80 ≠ b8 ∧ b7 ≠ b8 ∧ V0.heap.size ≤ b7 ∧ V0.heap.size ≤ b8 by have := xw0.size; exact ⟨by omega, by omega, hne, by omega, by omega⟩)
    clear n7 n8 hxc z7 z8 hne xw0 g80 k80 hb0
    go_wp2_with fail
    refine wpIn_wide.1 (wp_rangeM (gf := 41) (lb := #[.pointer (some ⟨gI, 0, none⟩)]) rfl (Go.Proofs.enters_of Tryd.func41 (by kernel_rfl) rfl)
      (each_iter f gI) (fun _ => rfl) (fun _ h => h.elim) (HFB.out.ext hIV.1) (FB.stab _ _ _)
      (fun pre W => Inv V0 B80 b7 b8 0 pre.length (nxP pre) W)
      (fun cd pre W => cd = .exit 2 ∧ Inv V0 B80 b7 b8 0 pre.length (nxP pre) W)
      (fun pre => Inv.stab (V0 := V0) (B := V.heap.size) _ _ _ _ _ _ hV0V) (fun cd pre => (Stab.pure _).and (Inv.stab _ _ _ _ _ _ hV0V))
      (fun pre X Y r hr hg h => (Inv.stab (V0 := V0) (B := V.heap.size) _ _ _ _ _ _ hV0V).later (grown_of_ext (by cases r with | none => exact hg | some k => exact (hr k rfl).elim)) h)
      (fun cd pre X Y r hr hg h => ⟨h.1, (Inv.stab (V0 := V0) (B := V.heap.size) _ _ _ _ _ _ hV0V).later (grown_of_ext (by cases r with | none => exact hg | some k => exact (hr k rfl).elim)) h.2⟩)
      hIV ?_ ?_ ?_)
    focus
      intro L pre x W hL hnL hzW hIW hitW hGW
      unfold eachEnc
      gi_wp2_with fail
      refine ⟨KeepsFrom.refl _ _, fun W2 hg2 hn2 hz2 => ?_⟩
      have hI2 := (Inv.stab (V0 := V0) (B := V.heap.size) _ _ _ _ _ _ hV0V) W W2 L hL hn2 hg2 hIW
      obtain ⟨hxF, hx32, rfl⟩ := hGW
      have HXF := Lib.hid hxF; have HI2 := Lib.hid hI2
      clear hIW hitW hg2 hn2 hnL hxF hI2
      gi_wp2_with fail
      gi_loopw [] (fun wr => ∃ n : Nat, nxP (bitsTo f x) ≤ n ∧ n ≤ x ∧ KeepsOthers W2 wr ∧ Inv V0 B80 b7 b8 0 ((bitsTo f x).length : Int) (n : Int) wr) (fun wr => left8 b8 wr)
      case atStart => exact ⟨_, Nat.le_refl _, nxP_to f x, KeepsOthers.refl _, HI2.out⟩
      case round =>
        obtain ⟨n, hn0, hnx, hkf, hI⟩ := hrel
        have j8 := (row1 hI.2.2.2).1; have l8 := (row1 hI.2.2.2).2
        have k2 := hI.1.cell (row1 J2.out).1
        have HI := Lib.hid hI; have HKF := Lib.hid hkf
        have n32 : (n : Int) < 32 := by omega
        clear hI hkf
        cases hb : f.getLsbD n with
        | false =>
          have hlt : n < x := by
            rcases (show n < x ∨ n = x by omega) with h | rfl
            · exact h
            · have := HXF.out; rw [isF_of f n hx32, hb] at this; simp at this
          have HH := Lib.hid (hb ▸ RHas_at f n (by omega) wr)
          clear hb
          gi_wp2_with fail
          refine wide_callR HH.out ?_
          rintro _ w1 ⟨rfl, rfl⟩
          gi_wp2_with fail
          refine ⟨trivial, ?_⟩
          gi_wp2_with fail
          go_roundw
          case rel => exact ⟨n + 1, by omega, by omega, HKF.out.trans (KeepsOthers.setCell _ _ _), HI.out.set8 HD.out.2.1 HD.out.2.2.1 HD.out.2.2.2.2 _⟩
          case measure =>
            rw [HI.out.left, (HI.out.set8 HD.out.2.1 HD.out.2.2.1 HD.out.2.2.2.2 _).left]
            omega
        | true =>
          have HH := Lib.hid (hb ▸ RHas_at f n (by omega) wr)
          cases hn : (nameAt n).isSome with
          | false =>
            have hlt : n < x := by
              rcases (show n < x ∨ n = x by omega) with h | rfl
              · exact h
              · have := HXF.out; rw [isF_of f n hx32, hn] at this; simp at this
            have HN := Lib.hid (fun W => nmS_no hn ▸ RName_at n (show n < 32 by omega) W)
            clear hb hn
            gi_wp2_with fail
            refine wide_callR HH.out ?_
            rintro _ w1 ⟨rfl, rfl⟩
            gi_wp2_with fail
            refine wide_callR (HN.out _) ?_
            rintro _ w2 ⟨rfl, hx2⟩
            have HI2 := Lib.hid (HI.out.ext hx2)
            have j8 := (row1 HI2.out.2.2.2).1; have l8 := (row1 HI2.out.2.2.2).2
            have HK2 := Lib.hid (HKF.out.trans hx2.keepsOthers)
            clear hx2
            gi_wp2_with fail
            go_roundw
            case rel => exact ⟨n + 1, by omega, by omega, HK2.out.trans (KeepsOthers.setCell _ _ _), HI2.out.set8 HD.out.2.1 HD.out.2.2.1 HD.out.2.2.2.2 _⟩
            case measure =>
              rw [HI.out.left, (HI2.out.set8 HD.out.2.1 HD.out.2.2.1 HD.out.2.2.2.2 _).left]
              omega
          | true =>
            have hnx2 : n = x := by
              rcases (show n < x ∨ n = x by omega) with h | h
              · have := nxP_gap f x n hn0 h
                rw [isF_of f n (by omega), hn, hb] at this
                simp at this
              · exact h
            clear HXF
            subst hnx2
            have HN := Lib.hid (fun W => RName_at n (show n < 32 by omega) W)
            obtain ⟨e1, e2⟩ := nmS_ne (show n < 32 by omega) hn
            have q1 : ((n : Int) == 32) = false := by rw [beq_eq_false_iff_ne]; omega
            have q2 : (((bitW n).toNat : Int) != (2 : Int) ^ n % 4294967296) = false := by rw [pow_bit n (by omega)]; simp
            have q3 : ((nmS n).toList == (nmS n).toList) = true := beq_self_eq_true _
            clear hb hn
            gi_wp2_with fail
            refine wide_callR HH.out ?_
            rintro _ w1 ⟨rfl, rfl⟩
            gi_wp2_with fail
            refine wide_callR (HN.out _) ?_
            rintro _ w2 ⟨rfl, hx2⟩
            have HI2 := Lib.hid (HI.out.ext hx2)
            have j8 := (row1 HI2.out.2.2.2).1; have l8 := (row1 HI2.out.2.2.2).2
            have HK2 := Lib.hid (HKF.out.trans hx2.keepsOthers)
            clear hx2
            gi_wp2_with fail
            refine wide_callR (HN.out _) ?_
            rintro _ w3 ⟨rfl, hx3⟩
            have HI3 := Lib.hid (HI2.out.ext hx3)
            have HK3 := Lib.hid (HK2.out.trans hx3.keepsOthers)
            clear hx3 j8 l8
            have j8 := (row1 HI3.out.2.2.2).1; have l8 := (row1 HI3.out.2.2.2).2
            have hI4 := HI3.out.set8 HD.out.2.1 HD.out.2.2.1 HD.out.2.2.2.2 ((n : Int) + 1)
            have j7 := (row1 hI4.2.2.1).1; have l7 := (row1 hI4.2.2.1).2
            have hI5 := hI4.set7 HD.out.1 HD.out.2.2.1 HD.out.2.2.2.1 (((bitsTo f n).length : Int) + 1)
            have i6 := (row1 hI5.2.1).1; have i7 := (row1 hI5.2.2.1).1
            have i3 := hI5.1.cell (row1 J3.out).1
            have hk5 := HK3.out.trans ((KeepsOthers.setCell w3 ⟨b8, 0, none⟩ (.int .i64 ((n : Int) + 1))).trans (KeepsOthers.setCell _ ⟨b7, 0, none⟩ (.int .i64 (((bitsTo f n).length : Int) + 1))))
            have HF := Lib.hid (show KeepsFrom V.heap.size W2 ((w3.setCell ⟨b8, 0, none⟩ (.int .i64 ((n : Int) + 1))).setCell ⟨b7, 0, none⟩ (.int .i64 (((bitsTo f n).length : Int) + 1))) ∧ FB ((w3.setCell ⟨b8, 0, none⟩ (.int .i64 ((n : Int) + 1))).setCell ⟨b7, 0, none⟩ (.int .i64 (((bitsTo f n).length : Int) + 1))) gI f ∧ Inv V0 B80 b7 b8 0 ((bitsTo f n ++ [n]).length : Int) (nxP (bitsTo f n ++ [n]) : Int) ((w3.setCell ⟨b8, 0, none⟩ (.int .i64 ((n : Int) + 1))).setCell ⟨b7, 0, none⟩ (.int .i64 (((bitsTo f n).length : Int) + 1))) from
              ⟨hk5.from V.heap.size, HFB.out.ext hI5.1, by rw [nxP_snoc, List.length_append, List.length_singleton]; exact hI5⟩)
            clear hI4 hI5 hk5
            have hlen : ((bitsTo f n).length : Int) ≤ 32 := by
              have := List.length_filter_le (isF f) (List.range n)
              rw [List.length_range] at this
              show (((List.range n).filter (isF f)).length : Int) ≤ 32
              omega
            generalize (bitsTo f n).length = ln at *
            by_cases hbr : many ≤ (ln : Int) + 1
            · gi_wp2_with fail
              exact ⟨HF.out.1, rfl, HF.out.2.2⟩
            · gi_wp2_with fail
              exact HF.out
    focus
      intro D0 ys W hDw hS hIW hitW hD0'
      have hny : nxP ys ≤ 32 := by rw [hS]; exact nxP_all f
      clear hS hitW
      obtain ⟨hxi, i6, i7, i8⟩ := hIW
      have HIW := Lib.hid (show Inv V0 B80 b7 b8 0 (ys.length : Int) (nxP ys : Int) W from ⟨hxi, i6, i7, i8⟩)
      have HD0 := Lib.hid hD0'
      clear hxi i6 i7 i8 hD0'
      go_upto_block 6 with fail
      go_cut [6] from 15 to 83 (fun v6 wx => v6 = .pointer (some ⟨B80, 0, none⟩) ∧ ∃ n : Nat, Inv V0 B80 b7 b8 0 (ys.length : Int) (n : Int) wx ∧ wx.heap[D0]? = some (.deferred (some [])))
      case first =>
        go_wp2_with fail
        go_loopw [] (fun wr => ∃ n : Nat, n ≤ 32 ∧ Inv V0 B80 b7 b8 0 (ys.length : Int) (n : Int) wr ∧ wr.heap[D0]? = some (.deferred (some []))) (fun wr => left8 b8 wr)
        case atStart => exact ⟨_, hny, HIW.out, HD0.out⟩
        case round =>
          obtain ⟨n, hn32, hI, hd⟩ := hrel
          have j8 := (row1 hI.2.2.2).1; have l8 := (row1 hI.2.2.2).2
          have k2 := hI.1.cell (row1 J2.out).1
          have HI := Lib.hid hI; have HDD := Lib.hid hd
          clear hI hd
          by_cases h32 : n < 32
          · have n32 : (n : Int) < 32 := by omega
            cases hb : f.getLsbD n with
            | false =>
              have HH := Lib.hid (hb ▸ RHas_at f n (by omega) wr)
              clear hb
              go_wp2_with fail
              refine HH.out.mono ?_
              rintro _ w1 ⟨rfl, rfl⟩
              go_wp2_with fail
              go_roundw
              case rel => exact ⟨n + 1, by omega, HI.out.set8 HD.out.2.1 HD.out.2.2.1 HD.out.2.2.2.2 _, (KeepsOthers.setCell _ _ _).same _ _ HDD.out rfl⟩
              case measure =>
                rw [HI.out.left, (HI.out.set8 HD.out.2.1 HD.out.2.2.1 HD.out.2.2.2.2 _).left]
                omega
            | true =>
              have HH := Lib.hid (hb ▸ RHas_at f n (by omega) wr)
              cases hn : (nameAt n).isSome with
              | false =>
                have HN := Lib.hid (fun W => nmS_no hn ▸ RName_at n (show n < 32 by omega) W)
                clear hb hn
                go_wp2_with fail
                refine HH.out.mono ?_
                rintro _ w1 ⟨rfl, rfl⟩
                go_wp2_with fail
                refine (HN.out _).mono ?_
                rintro _ w2 ⟨rfl, hx2⟩
                have HI2 := Lib.hid (HI.out.ext hx2)
                have j8 := (row1 HI2.out.2.2.2).1; have l8 := (row1 HI2.out.2.2.2).2
                have HD2 := Lib.hid (hx2.heap HDD.out)
                clear hx2
                go_wp2_with fail
                go_roundw
                case rel => exact ⟨n + 1, by omega, HI2.out.set8 HD.out.2.1 HD.out.2.2.1 HD.out.2.2.2.2 _, (KeepsOthers.setCell _ _ _).same _ _ HD2.out rfl⟩
                case measure =>
                  rw [HI.out.left, (HI2.out.set8 HD.out.2.1 HD.out.2.2.1 HD.out.2.2.2.2 _).left]
                  omega
              | true =>
                have HN := Lib.hid (fun W => RName_at n (show n < 32 by omega) W)
                obtain ⟨e1, e2⟩ := nmS_ne (show n < 32 by omega) hn
                clear hb hn
                go_wp2_with fail
                refine HH.out.mono ?_
                rintro _ w1 ⟨rfl, rfl⟩
                go_wp2_with fail
                refine (HN.out _).mono ?_
                rintro _ w2 ⟨rfl, hx2⟩
                have HI2 := Lib.hid (HI.out.ext hx2)
                have HD2 := Lib.hid (hx2.heap HDD.out)
                clear hx2
                go_wp2_with fail
                go_meet
                case rel => exact ⟨rfl, n, HI2.out, HD2.out⟩
          · have n32 : (32 : Int) ≤ (n : Int) := by omega
            clear h32
            go_wp2_with fail
            go_meet
            case rel => exact ⟨rfl, n, HI.out, HDD.out⟩
      case rest =>
        obtain ⟨rfl, n, hI, hd⟩ := hcut
        obtain ⟨Wc, rfl⟩ : ∃ Wc : World, Wc = wc := ⟨_, rfl⟩
        have i6 := (row1 hI.2.1).1; have i8 := (row1 hI.2.2.2).1
        have HI := Lib.hid hI; have HDD := Lib.hid hd
        clear hI hd
        go_wp2_with fail
        obtain ⟨wt1, hwt1⟩ : ∃ wt1, wt1 = Wc.alloc (.cells #[.int .i64 1] 3) := ⟨_, rfl⟩
        rw [← hwt1]
        have xc1 : Ext Wc wt1 := by rw [hwt1]; exact (Ext.refl _).alloc _
        have xw1 : Ext V0 wt1 := HI.out.1.trans xc1
        have g81 : wt1.heap[Wc.heap.size]? = some (.cells #[.int .i64 1] 3 (0, 0)) := by rw [hwt1]; exact heap_alloc_new Wc _
        have hD01 := xc1.heap HDD.out
        have hDV : V0.heap.size ≤ D0 := Nat.le_trans hV0V hDw
        obtain ⟨B81, hB81⟩ : ∃ B81, B81 = Wc.heap.size := ⟨_, rfl⟩
        have hBV : V0.heap.size ≤ B81 := by rw [hB81]; exact HI.out.1.size
        rw [← hB81] at g81 ⊢
        clear hwt1 hB81 xc1 i6 i8 HI HDD HIW HD0 hIV hV0V hDw hny HD
        rw [rounds_succ]
        have k81 := (row1 g81).1
        go_upto_region 7 with fail
        go_cut [7, 8] from 15 to 83 (fun v7 v8 wx => Two wt1 v7 v8 wx)
        case first =>
          go_wp2_with fail
          go_meet
          case rel => first | exact Two.mk _ | exact Two.mkd _
        case rest =>
          obtain ⟨c7, c8, rfl, rfl, n7, n8, hxc, z7, z8, hne⟩ := hcut
          obtain ⟨Y, rfl⟩ : ∃ Y : World, Y = wc := ⟨_, rfl⟩
          have hIY : Inv V0 B81 c7 c8 1 (([] : List Nat).length : Int) (nxP [] : Int) Y := ⟨xw1.trans hxc, hxc.heap g81, n7, n8⟩
          have hV0Y : V0.heap.size ≤ Y.heap.size := hIY.1.size
          have hD0Y := hxc.heap hD01
          have hD0lt : D0 < Y.heap.size := (Array.getElem?_eq_some_iff.1 hD0Y).1
          have hb0 : B81 < wt1.heap.size := (Array.getElem?_eq_some_iff.1 g81).1
          have HE := Lib.hid (show B81 ≠ c7 ∧ B81 ≠ c8 ∧ c7 ≠ c8 ∧ V0.heap.size ≤ c7 ∧ V0.heap.size ≤ c8 by have := xw1.size; exact ⟨by omega, by omega, hne, by omega, by omega⟩)
          clear n7 n8 hxc z7 z8 hne xw1 g81 k81 hb0 hD01
          go_wp2_with fail
          refine wpIn_wide.1 (wp_rangeM (gf := 41) (lb := #[.pointer (some ⟨gI, 0, none⟩)]) rfl (Go.Proofs.enters_of Tryd.func41 (by kernel_rfl) rfl)
            (each_iter f gI) (fun _ => rfl) (fun _ h => h.elim) (HFB.out.ext hIY.1) (FB.stab _ _ _)
            (fun pre W => Inv V0 B81 c7 c8 1 pre.length (nxP pre) W ∧ W.heap[D0]? = some (.deferred (some [])))
            (fun _ _ _ => False)
            (fun pre => (Inv.stab (V0 := V0) (B := Y.heap.size) _ _ _ _ _ _ hV0Y).and (Stab.obj _ _ hD0lt)) (fun _ _ => Stab.pure _)
            (fun pre X Z r hr hg h => ((Inv.stab (V0 := V0) (B := Y.heap.size) _ _ _ _ _ _ hV0Y).and (Stab.obj _ _ hD0lt)).later (grown_of_ext (by cases r with | none => exact hg | some k => exact (hr k rfl).elim)) h)
            (fun _ _ _ _ _ _ _ h => h)
            ⟨hIY, hD0Y⟩ ?_ ?_ ?_)
          focus
            intro L pre x W hL hnL hzW hIW hitW hGW
            unfold eachEnc
            gi_wp2_with fail
            refine ⟨KeepsFrom.refl _ _, fun W2 hg2 hn2 hz2 => ?_⟩
            obtain ⟨hI2, hDW2⟩ := ((Inv.stab (V0 := V0) (B := Y.heap.size) _ _ _ _ _ _ hV0Y).and (Stab.obj _ _ hD0lt)) W W2 L hL hn2 hg2 hIW
            have HDW2 := Lib.hid hDW2
            obtain ⟨hxF, hx32, rfl⟩ := hGW
            have HXF := Lib.hid hxF; have HI2 := Lib.hid hI2
            clear hIW hitW hg2 hn2 hnL hxF hI2 hDW2
            gi_wp2_with fail
            gi_loopw [] (fun wr => ∃ n : Nat, nxP (bitsTo f x) ≤ n ∧ n ≤ x ∧ KeepsOthers W2 wr ∧ Inv V0 B81 c7 c8 1 ((bitsTo f x).length : Int) (n : Int) wr) (fun wr => left8 c8 wr)
            case atStart => exact ⟨_, Nat.le_refl _, nxP_to f x, KeepsOthers.refl _, HI2.out⟩
            case round =>
              obtain ⟨n, hn0, hnx, hkf, hI⟩ := hrel
              have j8 := (row1 hI.2.2.2).1; have l8 := (row1 hI.2.2.2).2
              have k2 := hI.1.cell (row1 J2.out).1
              have HI := Lib.hid hI; have HKF := Lib.hid hkf
              have n32 : (n : Int) < 32 := by omega
              clear hI hkf
              cases hb : f.getLsbD n with
              | false =>
                have hlt : n < x := by
                  rcases (show n < x ∨ n = x by omega) with h | rfl
                  · exact h
                  · have := HXF.out; rw [isF_of f n hx32, hb] at this; simp at this
                have HH := Lib.hid (hb ▸ RHas_at f n (by omega) wr)
                clear hb
                gi_wp2_with fail
                refine wide_callR HH.out ?_
                rintro _ w1 ⟨rfl, rfl⟩
                gi_wp2_with fail
                refine ⟨trivial, ?_⟩
                gi_wp2_with fail
                go_roundw
                case rel => exact ⟨n + 1, by omega, by omega, HKF.out.trans (KeepsOthers.setCell _ _ _), HI.out.set8 HE.out.2.1 HE.out.2.2.1 HE.out.2.2.2.2 _⟩
                case measure =>
                  rw [HI.out.left, (HI.out.set8 HE.out.2.1 HE.out.2.2.1 HE.out.2.2.2.2 _).left]
                  omega
              | true =>
                have HH := Lib.hid (hb ▸ RHas_at f n (by omega) wr)
                cases hn : (nameAt n).isSome with
                | false =>
                  have hlt : n < x := by
                    rcases (show n < x ∨ n = x by omega) with h | rfl
                    · exact h
                    · have := HXF.out; rw [isF_of f n hx32, hn] at this; simp at this
                  have HN := Lib.hid (fun W => nmS_no hn ▸ RName_at n (show n < 32 by omega) W)
                  clear hb hn
                  gi_wp2_with fail
                  refine wide_callR HH.out ?_
                  rintro _ w1 ⟨rfl, rfl⟩
                  gi_wp2_with fail
                  refine wide_callR (HN.out _) ?_
                  rintro _ w2 ⟨rfl, hx2⟩
                  have HI2 := Lib.hid (HI.out.ext hx2)
                  have j8 := (row1 HI2.out.2.2.2).1; have l8 := (row1 HI2.out.2.2.2).2
                  have HK2 := Lib.hid (HKF.out.trans hx2.keepsOthers)
                  clear hx2
                  gi_wp2_with fail
                  go_roundw
                  case rel => exact ⟨n + 1, by omega, by omega, HK2.out.trans (KeepsOthers.setCell _ _ _), HI2.out.set8 HE.out.2.1 HE.out.2.2.1 HE.out.2.2.2.2 _⟩
                  case measure =>
                    rw [HI.out.left, (HI2.out.set8 HE.out.2.1 HE.out.2.2.1 HE.out.2.2.2.2 _).left]
                    omega
                | true =>
                  have hnx2 : n = x := by
                    rcases (show n < x ∨ n = x by omega) with h | h
                    · have := nxP_gap f x n hn0 h
                      rw [isF_of f n (by omega), hn, hb] at this
                      simp at this
                    · exact h
                  clear HXF
                  subst hnx2
                  have HN := Lib.hid (fun W => RName_at n (show n < 32 by omega) W)
                  obtain ⟨e1, e2⟩ := nmS_ne (show n < 32 by omega) hn
                  have q1 : ((n : Int) == 32) = false := by rw [beq_eq_false_iff_ne]; omega
                  have q2 : (((bitW n).toNat : Int) != (2 : Int) ^ n % 4294967296) = false := by rw [pow_bit n (by omega)]; simp
                  have q3 : ((nmS n).toList == (nmS n).toList) = true := beq_self_eq_true _
                  clear hb hn
                  gi_wp2_with fail
                  refine wide_callR HH.out ?_
                  rintro _ w1 ⟨rfl, rfl⟩
                  gi_wp2_with fail
                  refine wide_callR (HN.out _) ?_
                  rintro _ w2 ⟨rfl, hx2⟩
                  have HI2 := Lib.hid (HI.out.ext hx2)
                  have j8 := (row1 HI2.out.2.2.2).1; have l8 := (row1 HI2.out.2.2.2).2
                  have HK2 := Lib.hid (HKF.out.trans hx2.keepsOthers)
                  clear hx2
                  gi_wp2_with fail
                  refine wide_callR (HN.out _) ?_
                  rintro _ w3 ⟨rfl, hx3⟩
                  have HI3 := Lib.hid (HI2.out.ext hx3)
                  have HK3 := Lib.hid (HK2.out.trans hx3.keepsOthers)
                  clear hx3 j8 l8
                  have j8 := (row1 HI3.out.2.2.2).1; have l8 := (row1 HI3.out.2.2.2).2
                  have hI4 := HI3.out.set8 HE.out.2.1 HE.out.2.2.1 HE.out.2.2.2.2 ((n : Int) + 1)
                  have j7 := (row1 hI4.2.2.1).1; have l7 := (row1 hI4.2.2.1).2
                  have hI5 := hI4.set7 HE.out.1 HE.out.2.2.1 HE.out.2.2.2.1 (((bitsTo f n).length : Int) + 1)
                  have i6 := (row1 hI5.2.1).1; have i7 := (row1 hI5.2.2.1).1
                  have i3 := hI5.1.cell (row1 J3.out).1
                  have hk5 := HK3.out.trans ((KeepsOthers.setCell w3 ⟨c8, 0, none⟩ (.int .i64 ((n : Int) + 1))).trans (KeepsOthers.setCell _ ⟨c7, 0, none⟩ (.int .i64 (((bitsTo f n).length : Int) + 1))))
                  have HF := Lib.hid (show KeepsFrom Y.heap.size W2 ((w3.setCell ⟨c8, 0, none⟩ (.int .i64 ((n : Int) + 1))).setCell ⟨c7, 0, none⟩ (.int .i64 (((bitsTo f n).length : Int) + 1))) ∧ FB ((w3.setCell ⟨c8, 0, none⟩ (.int .i64 ((n : Int) + 1))).setCell ⟨c7, 0, none⟩ (.int .i64 (((bitsTo f n).length : Int) + 1))) gI f ∧ Inv V0 B81 c7 c8 1 ((bitsTo f n ++ [n]).length : Int) (nxP (bitsTo f n ++ [n]) : Int) ((w3.setCell ⟨c8, 0, none⟩ (.int .i64 ((n : Int) + 1))).setCell ⟨c7, 0, none⟩ (.int .i64 (((bitsTo f n).length : Int) + 1))) ∧ ((w3.setCell ⟨c8, 0, none⟩ (.int .i64 ((n : Int) + 1))).setCell ⟨c7, 0, none⟩ (.int .i64 (((bitsTo f n).length : Int) + 1))).heap[D0]? = some (.deferred (some [])) from
                    ⟨hk5.from Y.heap.size, HFB.out.ext hI5.1, by rw [nxP_snoc, List.length_append, List.length_singleton]; exact hI5, hk5.same _ _ HDW2.out rfl⟩)
                  clear hI4 hI5 hk5
                  have hlen : ((bitsTo f n).length : Int) ≤ 32 := by
                    have := List.length_filter_le (isF f) (List.range n)
                    rw [List.length_range] at this
                    show (((List.range n).filter (isF f)).length : Int) ≤ 32
                    omega
                  generalize (bitsTo f n).length = ln at *
                  gi_wp2_with fail
                  exact HF.out
          rotate_left 1
          focus exact fun _ _ _ _ _ _ h _ => h.elim
          intro D1 zs W1 hDw1 hS1 hIW1 hitW1 hD1
          subst hS1
          have hD01 : D0 < D1 := by omega
          obtain ⟨⟨hxi, i6, i7, i8⟩, hDz⟩ := hIW1
          have HIY := Lib.hid (show Inv V0 B81 c7 c8 1 ((bitsF f).length : Int) (nxP (bitsF f) : Int) W1 from ⟨hxi, i6, i7, i8⟩)
          have HDZ := Lib.hid hDz; have HD1 := Lib.hid hD1
          clear hxi i6 i7 i8 hDz hD1 hitW1 hIY hD0Y hD0lt
          go_upto_block 6 with fail
          go_cut [6] from 15 to 83 (fun v6 wx => v6 = .pointer (some ⟨B81, 0, none⟩) ∧ Inv V0 B81 c7 c8 1 ((bitsF f).length : Int) ((32 : Nat) : Int) wx ∧ wx.heap[D0]? = some (.deferred (some [])) ∧ wx.heap[D1]? = some (.deferred (some [])))
          case first =>
            go_wp2_with fail
            go_loopw [] (fun wr => ∃ n : Nat, nxP (bitsF f) ≤ n ∧ n ≤ 32 ∧ Inv V0 B81 c7 c8 1 ((bitsF f).length : Int) (n : Int) wr ∧ wr.heap[D0]? = some (.deferred (some [])) ∧ wr.heap[D1]? = some (.deferred (some []))) (fun wr => left8 c8 wr)
            case atStart => exact ⟨_, Nat.le_refl _, nxP_all f, HIY.out, HDZ.out, HD1.out⟩
            case round =>
              obtain ⟨n, hn0, hn32, hI, hd, he⟩ := hrel
              have j8 := (row1 hI.2.2.2).1; have l8 := (row1 hI.2.2.2).2
              have k2 := hI.1.cell (row1 J2.out).1
              have HI := Lib.hid hI; have HDD := Lib.hid hd; have HEE := Lib.hid he
              clear hI hd he
              by_cases h32 : n < 32
              · have n32 : (n : Int) < 32 := by omega
                cases hb : f.getLsbD n with
                | false =>
                  have HH := Lib.hid (hb ▸ RHas_at f n (by omega) wr)
                  clear hb
                  go_wp2_with fail
                  refine HH.out.mono ?_
                  rintro _ w1 ⟨rfl, rfl⟩
                  go_wp2_with fail
                  go_roundw
                  case rel => exact ⟨n + 1, by omega, by omega, HI.out.set8 HE.out.2.1 HE.out.2.2.1 HE.out.2.2.2.2 _, (KeepsOthers.setCell _ _ _).same _ _ HDD.out rfl, (KeepsOthers.setCell _ _ _).same _ _ HEE.out rfl⟩
                  case measure =>
                    rw [HI.out.left, (HI.out.set8 HE.out.2.1 HE.out.2.2.1 HE.out.2.2.2.2 _).left]
                    omega
                | true =>
                  have HH := Lib.hid (hb ▸ RHas_at f n (by omega) wr)
                  cases hn : (nameAt n).isSome with
                  | false =>
                    have HN := Lib.hid (fun W => nmS_no hn ▸ RName_at n (show n < 32 by omega) W)
                    clear hb hn
                    go_wp2_with fail
                    refine HH.out.mono ?_
                    rintro _ w1 ⟨rfl, rfl⟩
                    go_wp2_with fail
                    refine (HN.out _).mono ?_
                    rintro _ w2 ⟨rfl, hx2⟩
                    have HI2 := Lib.hid (HI.out.ext hx2)
                    have j8 := (row1 HI2.out.2.2.2).1; have l8 := (row1 HI2.out.2.2.2).2
                    have HD2 := Lib.hid (hx2.heap HDD.out); have HE2 := Lib.hid (hx2.heap HEE.out)
                    clear hx2
                    go_wp2_with fail
                    go_roundw
                    case rel => exact ⟨n + 1, by omega, by omega, HI2.out.set8 HE.out.2.1 HE.out.2.2.1 HE.out.2.2.2.2 _, (KeepsOthers.setCell _ _ _).same _ _ HD2.out rfl, (KeepsOthers.setCell _ _ _).same _ _ HE2.out rfl⟩
                    case measure =>
                      rw [HI.out.left, (HI2.out.set8 HE.out.2.1 HE.out.2.2.1 HE.out.2.2.2.2 _).left]
                      omega
                  | true =>
                    exfalso
                    have := nxP_gap f 32 n hn0 h32
                    rw [isF_of f n h32, hn, hb] at this
                    simp at this
              · have n32 : (32 : Int) ≤ (n : Int) := by omega
                go_wp2_with fail
                go_meet
                case rel => exact ⟨rfl, (show n = 32 by omega) ▸ HI.out, HDD.out, HEE.out⟩
          case rest =>
            obtain ⟨rfl, hI, hd, he⟩ := hcut
            obtain ⟨Wd, rfl⟩ : ∃ Wd : World, Wd = wc := ⟨_, rfl⟩
            have i6 := (row1 hI.2.1).1; have i8 := (row1 hI.2.2.2).1
            have HXW := Lib.hid hI.1; have HDW := Lib.hid hd; have HD1' := Lib.hid he
            clear hI hd he
            go_wp2_with fail
            rw [rounds_succ]
            go_wp2_with fail
            refine (FKnown_at _).mono ?_
            rintro _ w5 ⟨rfl, hx5⟩
            have hxt5 : Ext Wd w5 := ((Ext.refl Wd).alloc (.cells #[.int .i64 2] 3)).trans hx5
            have hx05 : Ext V0 w5 := HXW.out.trans hxt5
            have e4 : w5.heap[w.heap.size + 1 + 1]? = some (.cells #[.bool false] 4 (0, 0)) := hx05.heap J4.out
            obtain ⟨k4, f4⟩ := row1 e4
            have hD1s := (KeepsOthers.setCell w5 ⟨w.heap.size + 1 + 1, 0, none⟩ (.bool true)).same _ _ (hxt5.heap HD1'.out) rfl
            have hD0s := (KeepsOthers.setCell w5 ⟨w.heap.size + 1 + 1, 0, none⟩ (.bool true)).same _ _ (hxt5.heap HDW.out) rfl
            have h4s := row1_set (.bool true) e4
            have hxs := (HXP.out.trans hx05).setCell (p := ⟨w.heap.size + 1 + 1, 0, none⟩) (show w.heap.size ≤ w.heap.size + 1 + 1 by omega) (.bool true)
            obtain ⟨Ws, hWs⟩ : ∃ Ws, w5.setCell ⟨w.heap.size + 1 + 1, 0, none⟩ (.bool true) = Ws := ⟨_, rfl⟩
            rw [hWs] at hD1s hD0s h4s hxs
            have hzw := HXP.out.size
            have h4l : w.heap.size + 2 < V0.heap.size := (Array.getElem?_eq_some_iff.1 J4.out).1
            have hD0p : (Ws.putObj D1 (.deferred none)).heap[D0]? = some (.deferred (some [])) := (World.putObj_heap_other (by omega)).trans hD0s
            have h4p : ((Ws.putObj D1 (.deferred none)).putObj D0 (.deferred none)).heap[w.heap.size + 1 + 1]? = some (.cells #[.bool true] 4 (0, 0)) := (World.putObj_heap_other (by omega)).trans ((World.putObj_heap_other (by omega)).trans h4s)
            have hxp : Ext w ((Ws.putObj D1 (.deferred none)).putObj D0 (.deferred none)) := Ext.of_grown (Ext.of_grown hxs (grown_put hD1s) (by omega)) (grown_put hD0p) (by omega)
            have hcp := (row1 h4p).1
            have HD1S := Lib.hid hD1s; have HD0P := Lib.hid hD0p; have HXPP := Lib.hid hxp
            clear hD1s hD0s hD0p h4p hxp hxs h4s hx05 hxt5 hx5 e4
            go_wp2_with fail
            refine ⟨by simp, .inl ⟨_, _, rfl, run_takeDeferred HD1S.out, ?_⟩⟩
            refine ⟨by simp, .inl ⟨_, _, rfl, run_takeDeferred HD0P.out, ?_⟩⟩
            exact ⟨.bool true, by simp [results, Tryd.results5, go_sem, hcp], rfl, HXPP.out⟩
    focus
      rintro D0 cd ys W hDw ⟨rest, hS⟩ ⟨rfl, hIW⟩ hD0'
      have hny := nxP_part hS
      clear hS
      refine wpIn_wide.2 ?_
      obtain ⟨hxi, i6, i7, i8⟩ := hIW
      have HIW := Lib.hid (show Inv V0 B80 b7 b8 0 (ys.length : Int) (nxP ys : Int) W from ⟨hxi, i6, i7, i8⟩)
      have HD0 := Lib.hid hD0'
      clear hxi i6 i7 i8 hD0'
      go_upto_block 6 with fail
      go_cut [6] from 15 to 83 (fun v6 wx => v6 = .pointer (some ⟨B80, 0, none⟩) ∧ ∃ n : Nat, Inv V0 B80 b7 b8 0 (ys.length : Int) (n : Int) wx ∧ wx.heap[D0]? = some (.deferred (some [])))
      case first =>
        go_wp2_with fail
        go_loopw [] (fun wr => ∃ n : Nat, n ≤ 32 ∧ Inv V0 B80 b7 b8 0 (ys.length : Int) (n : Int) wr ∧ wr.heap[D0]? = some (.deferred (some []))) (fun wr => left8 b8 wr)
        case atStart => exact ⟨_, hny, HIW.out, HD0.out⟩
        case round =>
          obtain ⟨n, hn32, hI, hd⟩ := hrel
          have j8 := (row1 hI.2.2.2).1; have l8 := (row1 hI.2.2.2).2
          have k2 := hI.1.cell (row1 J2.out).1
          have HI := Lib.hid hI; have HDD := Lib.hid hd
          clear hI hd
          by_cases h32 : n < 32
          · have n32 : (n : Int) < 32 := by omega
            cases hb : f.getLsbD n with
            | false =>
              have HH := Lib.hid (hb ▸ RHas_at f n (by omega) wr)
              clear hb
              go_wp2_with fail
              refine HH.out.mono ?_
              rintro _ w1 ⟨rfl, rfl⟩
              go_wp2_with fail
              go_roundw
              case rel => exact ⟨n + 1, by omega, HI.out.set8 HD.out.2.1 HD.out.2.2.1 HD.out.2.2.2.2 _, (KeepsOthers.setCell _ _ _).same _ _ HDD.out rfl⟩
              case measure =>
                rw [HI.out.left, (HI.out.set8 HD.out.2.1 HD.out.2.2.1 HD.out.2.2.2.2 _).left]
                omega
            | true =>
              have HH := Lib.hid (hb ▸ RHas_at f n (by omega) wr)
              cases hn : (nameAt n).isSome with
              | false =>
                have HN := Lib.hid (fun W => nmS_no hn ▸ RName_at n (show n < 32 by omega) W)
                clear hb hn
                go_wp2_with fail
                refine HH.out.mono ?_
                rintro _ w1 ⟨rfl, rfl⟩
                go_wp2_with fail
                refine (HN.out _).mono ?_
                rintro _ w2 ⟨rfl, hx2⟩
                have HI2 := Lib.hid (HI.out.ext hx2)
                have j8 := (row1 HI2.out.2.2.2).1; have l8 := (row1 HI2.out.2.2.2).2
                have HD2 := Lib.hid (hx2.heap HDD.out)
                clear hx2
                go_wp2_with fail
                go_roundw
                case rel => exact ⟨n + 1, by omega, HI2.out.set8 HD.out.2.1 HD.out.2.2.1 HD.out.2.2.2.2 _, (KeepsOthers.setCell _ _ _).same _ _ HD2.out rfl⟩
                case measure =>
                  rw [HI.out.left, (HI2.out.set8 HD.out.2.1 HD.out.2.2.1 HD.out.2.2.2.2 _).left]
                  omega
              | true =>
                have HN := Lib.hid (fun W => RName_at n (show n < 32 by omega) W)
                obtain ⟨e1, e2⟩ := nmS_ne (show n < 32 by omega) hn
                clear hb hn
                go_wp2_with fail
                refine HH.out.mono ?_
                rintro _ w1 ⟨rfl, rfl⟩
                go_wp2_with fail
                refine (HN.out _).mono ?_
                rintro _ w2 ⟨rfl, hx2⟩
                have HI2 := Lib.hid (HI.out.ext hx2)
                have HD2 := Lib.hid (hx2.heap HDD.out)
                clear hx2
                go_wp2_with fail
                go_meet
                case rel => exact ⟨rfl, n, HI2.out, HD2.out⟩
          · have n32 : (32 : Int) ≤ (n : Int) := by omega
            clear h32
            go_wp2_with fail
            go_meet
            case rel => exact ⟨rfl, n, HI.out, HDD.out⟩
      case rest =>
        obtain ⟨rfl, n, hI, hd⟩ := hcut
        obtain ⟨Wc, rfl⟩ : ∃ Wc : World, Wc = wc := ⟨_, rfl⟩
        have i6 := (row1 hI.2.1).1; have i8 := (row1 hI.2.2.2).1
        have HI := Lib.hid hI; have HDD := Lib.hid hd
        clear hI hd
        go_wp2_with fail
        obtain ⟨wt1, hwt1⟩ : ∃ wt1, wt1 = Wc.alloc (.cells #[.int .i64 1] 3) := ⟨_, rfl⟩
        rw [← hwt1]
        have xc1 : Ext Wc wt1 := by rw [hwt1]; exact (Ext.refl _).alloc _
        have xw1 : Ext V0 wt1 := HI.out.1.trans xc1
        have g81 : wt1.heap[Wc.heap.size]? = some (.cells #[.int .i64 1] 3 (0, 0)) := by rw [hwt1]; exact heap_alloc_new Wc _
        have hD01 := xc1.heap HDD.out
        have hDV : V0.heap.size ≤ D0 := Nat.le_trans hV0V hDw
        obtain ⟨B81, hB81⟩ : ∃ B81, B81 = Wc.heap.size := ⟨_, rfl⟩
        have hBV : V0.heap.size ≤ B81 := by rw [hB81]; exact HI.out.1.size
        rw [← hB81] at g81 ⊢
        clear hwt1 hB81 xc1 i6 i8 HI HDD HIW HD0 hIV hV0V hDw hny HD
        rw [rounds_succ]
        have k81 := (row1 g81).1
        go_upto_region 7 with fail
        go_cut [7, 8] from 15 to 83 (fun v7 v8 wx => Two wt1 v7 v8 wx)
        case first =>
          go_wp2_with fail
          go_meet
          case rel => first | exact Two.mk _ | exact Two.mkd _
        case rest =>
          obtain ⟨c7, c8, rfl, rfl, n7, n8, hxc, z7, z8, hne⟩ := hcut
          obtain ⟨Y, rfl⟩ : ∃ Y : World, Y = wc := ⟨_, rfl⟩
          have hIY : Inv V0 B81 c7 c8 1 (([] : List Nat).length : Int) (nxP [] : Int) Y := ⟨xw1.trans hxc, hxc.heap g81, n7, n8⟩
          have hV0Y : V0.heap.size ≤ Y.heap.size := hIY.1.size
          have hD0Y := hxc.heap hD01
          have hD0lt : D0 < Y.heap.size := (Array.getElem?_eq_some_iff.1 hD0Y).1
          have hb0 : B81 < wt1.heap.size := (Array.getElem?_eq_some_iff.1 g81).1
          have HE := Lib.hid (show B81 ≠ c7 ∧ B81 ≠ c8 ∧ c7 ≠ c8 ∧ V0.heap.size ≤ c7 ∧ V0.heap.size ≤ c8 by have := xw1.size; exact ⟨by omega, by omega, hne, by omega, by omega⟩)
          clear n7 n8 hxc z7 z8 hne xw1 g81 k81 hb0 hD01
          go_wp2_with fail
          refine wpIn_wide.1 (wp_rangeM (gf := 41) (lb := #[.pointer (some ⟨gI, 0, none⟩)]) rfl (Go.Proofs.enters_of Tryd.func41 (by kernel_rfl) rfl)
            (each_iter f gI) (fun _ => rfl) (fun _ h => h.elim) (HFB.out.ext hIY.1) (FB.stab _ _ _)
            (fun pre W => Inv V0 B81 c7 c8 1 pre.length (nxP pre) W ∧ W.heap[D0]? = some (.deferred (some [])))
            (fun _ _ _ => False)
            (fun pre => (Inv.stab (V0 := V0) (B := Y.heap.size) _ _ _ _ _ _ hV0Y).and (Stab.obj _ _ hD0lt)) (fun _ _ => Stab.pure _)
            (fun pre X Z r hr hg h => ((Inv.stab (V0 := V0) (B := Y.heap.size) _ _ _ _ _ _ hV0Y).and (Stab.obj _ _ hD0lt)).later (grown_of_ext (by cases r with | none => exact hg | some k => exact (hr k rfl).elim)) h)
            (fun _ _ _ _ _ _ _ h => h)
            ⟨hIY, hD0Y⟩ ?_ ?_ ?_)
          focus
            intro L pre x W hL hnL hzW hIW hitW hGW
            unfold eachEnc
            gi_wp2_with fail
            refine ⟨KeepsFrom.refl _ _, fun W2 hg2 hn2 hz2 => ?_⟩
            obtain ⟨hI2, hDW2⟩ := ((Inv.stab (V0 := V0) (B := Y.heap.size) _ _ _ _ _ _ hV0Y).and (Stab.obj _ _ hD0lt)) W W2 L hL hn2 hg2 hIW
            have HDW2 := Lib.hid hDW2
            obtain ⟨hxF, hx32, rfl⟩ := hGW
            have HXF := Lib.hid hxF; have HI2 := Lib.hid hI2
            clear hIW hitW hg2 hn2 hnL hxF hI2 hDW2
            gi_wp2_with fail
            gi_loopw [] (fun wr => ∃ n : Nat, nxP (bitsTo f x) ≤ n ∧ n ≤ x ∧ KeepsOthers W2 wr ∧ Inv V0 B81 c7 c8 1 ((bitsTo f x).length : Int) (n : Int) wr) (fun wr => left8 c8 wr)
            case atStart => exact ⟨_, Nat.le_refl _, nxP_to f x, KeepsOthers.refl _, HI2.out⟩
            case round =>
              obtain ⟨n, hn0, hnx, hkf, hI⟩ := hrel
              have j8 := (row1 hI.2.2.2).1; have l8 := (row1 hI.2.2.2).2
              have k2 := hI.1.cell (row1 J2.out).1
              have HI := Lib.hid hI; have HKF := Lib.hid hkf
              have n32 : (n : Int) < 32 := by omega
              clear hI hkf
              cases hb : f.getLsbD n with
              | false =>
                have hlt : n < x := by
                  rcases (show n < x ∨ n = x by omega) with h | rfl
                  · exact h
                  · have := HXF.out; rw [isF_of f n hx32, hb] at this; simp at this
                have HH := Lib.hid (hb ▸ RHas_at f n (by omega) wr)
                clear hb
                gi_wp2_with fail
                refine wide_callR HH.out ?_
                rintro _ w1 ⟨rfl, rfl⟩
                gi_wp2_with fail
                refine ⟨trivial, ?_⟩
                gi_wp2_with fail
                go_roundw
                case rel => exact ⟨n + 1, by omega, by omega, HKF.out.trans (KeepsOthers.setCell _ _ _), HI.out.set8 HE.out.2.1 HE.out.2.2.1 HE.out.2.2.2.2 _⟩
                case measure =>
                  rw [HI.out.left, (HI.out.set8 HE.out.2.1 HE.out.2.2.1 HE.out.2.2.2.2 _).left]
                  omega
              | true =>
                have HH := Lib.hid (hb ▸ RHas_at f n (by omega) wr)
                cases hn : (nameAt n).isSome with
                | false =>
                  have hlt : n < x := by
                    rcases (show n < x ∨ n = x by omega) with h | rfl
                    · exact h
                    · have := HXF.out; rw [isF_of f n hx32, hn] at this; simp at this
                  have HN := Lib.hid (fun W => nmS_no hn ▸ RName_at n (show n < 32 by omega) W)
                  clear hb hn
                  gi_wp2_with fail
                  refine wide_callR HH.out ?_
                  rintro _ w1 ⟨rfl, rfl⟩
                  gi_wp2_with fail
                  refine wide_callR (HN.out _) ?_
                  rintro _ w2 ⟨rfl, hx2⟩
                  have HI2 := Lib.hid (HI.out.ext hx2)
                  have j8 := (row1 HI2.out.2.2.2).1; have l8 := (row1 HI2.out.2.2.2).2
                  have HK2 := Lib.hid (HKF.out.trans hx2.keepsOthers)
                  clear hx2
                  gi_wp2_with fail
                  go_roundw
                  case rel => exact ⟨n + 1, by omega, by omega, HK2.out.trans (KeepsOthers.setCell _ _ _), HI2.out.set8 HE.out.2.1 HE.out.2.2.1 HE.out.2.2.2.2 _⟩
                  case measure =>
                    rw [HI.out.left, (HI2.out.set8 HE.out.2.1 HE.out.2.2.1 HE.out.2.2.2.2 _).left]
                    omega
                | true =>
                  have hnx2 : n = x := by
                    rcases (show n < x ∨ n = x by omega) with h | h
                    · have := nxP_gap f x n hn0 h
                      rw [isF_of f n (by omega), hn, hb] at this
                      simp at this
                    · exact h
                  clear HXF
                  subst hnx2
                  have HN := Lib.hid (fun W => RName_at n (show n < 32 by omega) W)
                  obtain ⟨e1, e2⟩ := nmS_ne (show n < 32 by omega) hn
                  have q1 : ((n : Int) == 32) = false := by rw [beq_eq_false_iff_ne]; omega
                  have q2 : (((bitW n).toNat : Int) != (2 : Int) ^ n % 4294967296) = false := by rw [pow_bit n (by omega)]; simp
                  have q3 : ((nmS n).toList == (nmS n).toList) = true := beq_self_eq_true _
                  clear hb hn
                  gi_wp2_with fail
                  refine wide_callR HH.out ?_
                  rintro _ w1 ⟨rfl, rfl⟩
                  gi_wp2_with fail
                  refine wide_callR (HN.out _) ?_
                  rintro _ w2 ⟨rfl, hx2⟩
                  have HI2 := Lib.hid (HI.out.ext hx2)
                  have j8 := (row1 HI2.out.2.2.2).1; have l8 := (row1 HI2.out.2.2.2).2
                  have HK2 := Lib.hid (HKF.out.trans hx2.keepsOthers)
                  clear hx2
                  gi_wp2_with fail
                  refine wide_callR (HN.out _) ?_
                  rintro _ w3 ⟨rfl, hx3⟩
                  have HI3 := Lib.hid (HI2.out.ext hx3)
                  have HK3 := Lib.hid (HK2.out.trans hx3.keepsOthers)
                  clear hx3 j8 l8
                  have j8 := (row1 HI3.out.2.2.2).1; have l8 := (row1 HI3.out.2.2.2).2
                  have hI4 := HI3.out.set8 HE.out.2.1 HE.out.2.2.1 HE.out.2.2.2.2 ((n : Int) + 1)
                  have j7 := (row1 hI4.2.2.1).1; have l7 := (row1 hI4.2.2.1).2
                  have hI5 := hI4.set7 HE.out.1 HE.out.2.2.1 HE.out.2.2.2.1 (((bitsTo f n).length : Int) + 1)
                  have i6 := (row1 hI5.2.1).1; have i7 := (row1 hI5.2.2.1).1
                  have i3 := hI5.1.cell (row1 J3.out).1
                  have hk5 := HK3.out.trans ((KeepsOthers.setCell w3 ⟨c8, 0, none⟩ (.int .i64 ((n : Int) + 1))).trans (KeepsOthers.setCell _ ⟨c7, 0, none⟩ (.int .i64 (((bitsTo f n).length : Int) + 1))))
                  have HF := Lib.hid (show KeepsFrom Y.heap.size W2 ((w3.setCell ⟨c8, 0, none⟩ (.int .i64 ((n : Int) + 1))).setCell ⟨c7, 0, none⟩ (.int .i64 (((bitsTo f n).length : Int) + 1))) ∧ FB ((w3.setCell ⟨c8, 0, none⟩ (.int .i64 ((n : Int) + 1))).setCell ⟨c7, 0, none⟩ (.int .i64 (((bitsTo f n).length : Int) + 1))) gI f ∧ Inv V0 B81 c7 c8 1 ((bitsTo f n ++ [n]).length : Int) (nxP (bitsTo f n ++ [n]) : Int) ((w3.setCell ⟨c8, 0, none⟩ (.int .i64 ((n : Int) + 1))).setCell ⟨c7, 0, none⟩ (.int .i64 (((bitsTo f n).length : Int) + 1))) ∧ ((w3.setCell ⟨c8, 0, none⟩ (.int .i64 ((n : Int) + 1))).setCell ⟨c7, 0, none⟩ (.int .i64 (((bitsTo f n).length : Int) + 1))).heap[D0]? = some (.deferred (some [])) from
                    ⟨hk5.from Y.heap.size, HFB.out.ext hI5.1, by rw [nxP_snoc, List.length_append, List.length_singleton]; exact hI5, hk5.same _ _ HDW2.out rfl⟩)
                  clear hI4 hI5 hk5
                  have hlen : ((bitsTo f n).length : Int) ≤ 32 := by
                    have := List.length_filter_le (isF f) (List.range n)
                    rw [List.length_range] at this
                    show (((List.range n).filter (isF f)).length : Int) ≤ 32
                    omega
                  generalize (bitsTo f n).length = ln at *
                  gi_wp2_with fail
                  exact HF.out
          rotate_left 1
          focus exact fun _ _ _ _ _ _ h _ => h.elim
          intro D1 zs W1 hDw1 hS1 hIW1 hitW1 hD1
          subst hS1
          have hD01 : D0 < D1 := by omega
          obtain ⟨⟨hxi, i6, i7, i8⟩, hDz⟩ := hIW1
          have HIY := Lib.hid (show Inv V0 B81 c7 c8 1 ((bitsF f).length : Int) (nxP (bitsF f) : Int) W1 from ⟨hxi, i6, i7, i8⟩)
          have HDZ := Lib.hid hDz; have HD1 := Lib.hid hD1
          clear hxi i6 i7 i8 hDz hD1 hitW1 hIY hD0Y hD0lt
          go_upto_block 6 with fail
          go_cut [6] from 15 to 83 (fun v6 wx => v6 = .pointer (some ⟨B81, 0, none⟩) ∧ Inv V0 B81 c7 c8 1 ((bitsF f).length : Int) ((32 : Nat) : Int) wx ∧ wx.heap[D0]? = some (.deferred (some [])) ∧ wx.heap[D1]? = some (.deferred (some [])))
          case first =>
            go_wp2_with fail
            go_loopw [] (fun wr => ∃ n : Nat, nxP (bitsF f) ≤ n ∧ n ≤ 32 ∧ Inv V0 B81 c7 c8 1 ((bitsF f).length : Int) (n : Int) wr ∧ wr.heap[D0]? = some (.deferred (some [])) ∧ wr.heap[D1]? = some (.deferred (some []))) (fun wr => left8 c8 wr)
            case atStart => exact ⟨_, Nat.le_refl _, nxP_all f, HIY.out, HDZ.out, HD1.out⟩
            case round =>
              obtain ⟨n, hn0, hn32, hI, hd, he⟩ := hrel
              have j8 := (row1 hI.2.2.2).1; have l8 := (row1 hI.2.2.2).2
              have k2 := hI.1.cell (row1 J2.out).1
              have HI := Lib.hid hI; have HDD := Lib.hid hd; have HEE := Lib.hid he
              clear hI hd he
              by_cases h32 : n < 32
              · have n32 : (n : Int) < 32 := by omega
                cases hb : f.getLsbD n with
                | false =>
                  have HH := Lib.hid (hb ▸ RHas_at f n (by omega) wr)
                  clear hb
                  go_wp2_with fail
                  refine HH.out.mono ?_
                  rintro _ w1 ⟨rfl, rfl⟩
                  go_wp2_with fail
                  go_roundw
                  case rel => exact ⟨n + 1, by omega, by omega, HI.out.set8 HE.out.2.1 HE.out.2.2.1 HE.out.2.2.2.2 _, (KeepsOthers.setCell _ _ _).same _ _ HDD.out rfl, (KeepsOthers.setCell _ _ _).same _ _ HEE.out rfl⟩
                  case measure =>
                    rw [HI.out.left, (HI.out.set8 HE.out.2.1 HE.out.2.2.1 HE.out.2.2.2.2 _).left]
                    omega
                | true =>
                  have HH := Lib.hid (hb ▸ RHas_at f n (by omega) wr)
                  cases hn : (nameAt n).isSome with
                  | false =>
                    have HN := Lib.hid (fun W => nmS_no hn ▸ RName_at n (show n < 32 by omega) W)
                    clear hb hn
                    go_wp2_with fail
                    refine HH.out.mono ?_
                    rintro _ w1 ⟨rfl, rfl⟩
                    go_wp2_with fail
                    refine (HN.out _).mono ?_
                    rintro _ w2 ⟨rfl, hx2⟩
                    have HI2 := Lib.hid (HI.out.ext hx2)
                    have j8 := (row1 HI2.out.2.2.2).1; have l8 := (row1 HI2.out.2.2.2).2
                    have HD2 := Lib.hid (hx2.heap HDD.out); have HE2 := Lib.hid (hx2.heap HEE.out)
                    clear hx2
                    go_wp2_with fail
                    go_roundw
                    case rel => exact ⟨n + 1, by omega, by omega, HI2.out.set8 HE.out.2.1 HE.out.2.2.1 HE.out.2.2.2.2 _, (KeepsOthers.setCell _ _ _).same _ _ HD2.out rfl, (KeepsOthers.setCell _ _ _).same _ _ HE2.out rfl⟩
                    case measure =>
                      rw [HI.out.left, (HI2.out.set8 HE.out.2.1 HE.out.2.2.1 HE.out.2.2.2.2 _).left]
                      omega
                  | true =>
                    exfalso
                    have := nxP_gap f 32 n hn0 h32
                    rw [isF_of f n h32, hn, hb] at this
                    simp at this
              · have n32 : (32 : Int) ≤ (n : Int) := by omega
                go_wp2_with fail
                go_meet
                case rel => exact ⟨rfl, (show n = 32 by omega) ▸ HI.out, HDD.out, HEE.out⟩
          case rest =>
            obtain ⟨rfl, hI, hd, he⟩ := hcut
            obtain ⟨Wd, rfl⟩ : ∃ Wd : World, Wd = wc := ⟨_, rfl⟩
            have i6 := (row1 hI.2.1).1; have i8 := (row1 hI.2.2.2).1
            have HXW := Lib.hid hI.1; have HDW := Lib.hid hd; have HD1' := Lib.hid he
            clear hI hd he
            go_wp2_with fail
            rw [rounds_succ]
            go_wp2_with fail
            refine (FKnown_at _).mono ?_
            rintro _ w5 ⟨rfl, hx5⟩
            have hxt5 : Ext Wd w5 := ((Ext.refl Wd).alloc (.cells #[.int .i64 2] 3)).trans hx5
            have hx05 : Ext V0 w5 := HXW.out.trans hxt5
            have e4 : w5.heap[w.heap.size + 1 + 1]? = some (.cells #[.bool false] 4 (0, 0)) := hx05.heap J4.out
            obtain ⟨k4, f4⟩ := row1 e4
            have hD1s := (KeepsOthers.setCell w5 ⟨w.heap.size + 1 + 1, 0, none⟩ (.bool true)).same _ _ (hxt5.heap HD1'.out) rfl
            have hD0s := (KeepsOthers.setCell w5 ⟨w.heap.size + 1 + 1, 0, none⟩ (.bool true)).same _ _ (hxt5.heap HDW.out) rfl
            have h4s := row1_set (.bool true) e4
            have hxs := (HXP.out.trans hx05).setCell (p := ⟨w.heap.size + 1 + 1, 0, none⟩) (show w.heap.size ≤ w.heap.size + 1 + 1 by omega) (.bool true)
            obtain ⟨Ws, hWs⟩ : ∃ Ws, w5.setCell ⟨w.heap.size + 1 + 1, 0, none⟩ (.bool true) = Ws := ⟨_, rfl⟩
            rw [hWs] at hD1s hD0s h4s hxs
            have hzw := HXP.out.size
            have h4l : w.heap.size + 2 < V0.heap.size := (Array.getElem?_eq_some_iff.1 J4.out).1
            have hD0p : (Ws.putObj D1 (.deferred none)).heap[D0]? = some (.deferred (some [])) := (World.putObj_heap_other (by omega)).trans hD0s
            have h4p : ((Ws.putObj D1 (.deferred none)).putObj D0 (.deferred none)).heap[w.heap.size + 1 + 1]? = some (.cells #[.bool true] 4 (0, 0)) := (World.putObj_heap_other (by omega)).trans ((World.putObj_heap_other (by omega)).trans h4s)
            have hxp : Ext w ((Ws.putObj D1 (.deferred none)).putObj D0 (.deferred none)) := Ext.of_grown (Ext.of_grown hxs (grown_put hD1s) (by omega)) (grown_put hD0p) (by omega)
            have hcp := (row1 h4p).1
            have HD1S := Lib.hid hD1s; have HD0P := Lib.hid hD0p; have HXPP := Lib.hid hxp
            clear hD1s hD0s hD0p h4p hxp hxs h4s hx05 hxt5 hx5 e4
            go_wp2_with fail
            refine ⟨by simp, .inl ⟨_, _, rfl, run_takeDeferred HD1S.out, ?_⟩⟩
            refine ⟨by simp, .inl ⟨_, _, rfl, run_takeDeferred HD0P.out, ?_⟩⟩
            exact ⟨.bool true, by simp [results, Tryd.results5, go_sem, hcp], rfl, HXPP.out⟩
end Go.Proofs.YtigjecmhhjjenaaDoor.flagsEach
