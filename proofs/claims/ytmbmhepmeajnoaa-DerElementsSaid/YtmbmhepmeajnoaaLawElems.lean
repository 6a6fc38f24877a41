/- DerElements: the walk of the law. -/
import Derived.Test.YtmbmhepmeajnoaaKnown
import Derived.Test.YtmbmhepmeajnoaaDer16
import Derived.Test.YtmbmhepmeajnoaaRefLen
import Derived.Deep.Cut
import Derived.BigQuiet
import Derived.Test.YtmbmhepmeajnoaaRound
import Derived.Shelf.Abstract
namespace Go.Proofs.Ytmbmhepmeajnoaa.derElements
open Go Go.RowKit
attribute [local go_sem] Oper.semAt_some

theorem u8info' : (Try.prog.info? 5).map (fun i => (i.zero, i.size, i.bytes)) = some (some (.int .u8 0), 1, 1) := by kernel_rfl

/-- What lies in the law's own blocks between two rounds. -/
def Inv (A : Option Addr) (c : Nat) (l : List UInt8) (w : World) (B2 B8 B9 B10 : Nat) (many turn : Int) (pre : List El) (W : World) : Prop :=
  (W.heap[B2]? = some (.cells #[.slice A l.length c] 24 (0, 0)) ∧ W.heap[B2 + 1]? = some (.cells #[.int .i64 many] 3 (0, 0)) ∧ W.heap[B2 + 1 + 1]? = some (.cells #[.bool false] 4 (0, 0)) ∧ W.heap[B8]? = some (.cells #[.int .i64 turn] 3 (0, 0))) ∧
  (∃ p : Nat, p ≤ l.length ∧ pre.length ≤ p ∧ elemsAt l 0 = pre.map El.key ++ elemsAt l p ∧ W.heap[B9]? = some (.cells #[.int .i64 (p : Int)] 3 (0, 0)) ∧ W.heap[B10]? = some (.cells #[.int .i64 (pre.length : Int)] 3 (0, 0))) ∧ Ext w W
theorem Inv.stab (B : Nat) (A : Option Addr) (c : Nat) (l : List UInt8) (w : World) (B2 B8 B9 B10 : Nat) (many turn : Int) (pre : List El) (h : w.heap.size ≤ B) : Stab B (Inv A c l w B2 B8 B9 B10 many turn pre) :=
  ((Stab.heap _ _ _ _).and ((Stab.heap _ _ _ _).and ((Stab.heap _ _ _ _).and (Stab.heap _ _ _ _)))).and ((Stab.ex fun _ => (Stab.pure _).and ((Stab.pure _).and ((Stab.pure _).and ((Stab.heap _ _ _ _).and (Stab.heap _ _ _ _))))).and (Stab.ext w h))

theorem neq_nil (cap : Array Value) (w : World) : (binOp .eql 36 (.func (.func 59) #[] cap) .nilFunc).run Try.prog w = .ok (.bool false) w := by kernel_rfl

set_option maxRecDepth 100000 in
set_option maxHeartbeats 4000000 in
theorem law_walk (A : Option Addr) (c : Nat) (l : List UInt8) (many : Int) (w : World) (hB : BS w (.slice A l.length c) l) :
    Calls Try.prog 5 #[.slice A l.length c, .int .i64 many] w fun e w' => e = .returned (.bool true) ∧ Ext w w' := by
  obtain ⟨i0, hi, hz0, hz1, hz2⟩ := info_parts u8info'
  by_cases h4 : (400 : Int) < l.length
  · have g4 : (((w.alloc (.cells #[.slice A l.length c] 24)).alloc (.cells #[.int .i64 many] 3)).alloc (.cells #[.bool false] 4)).heap[w.heap.size + 1 + 1]? = some (.cells #[.bool false] 4 (0, 0)) := by
      have h := heap_alloc_new ((w.alloc (.cells #[.slice A l.length c] 24)).alloc (.cells #[.int .i64 many] 3)) (.cells #[.bool false] 4)
      rwa [show ((w.alloc (.cells #[.slice A l.length c] 24)).alloc (.cells #[.int .i64 many] 3)).heap.size = w.heap.size + 1 + 1 by simp] at h
    have G4 := Lib.hid g4; clear g4
    go_enter Try.func5, Try.ntmps5
    go_wp2_with fail
    refine (known_at _).mono ?_
    rintro e w1 ⟨rfl, hx1⟩
    have e4 := hx1.heap G4.out
    obtain ⟨k4, f4⟩ := row1 e4
    have hc := (row1 (row1_set (.bool true) e4)).1
    go_wp2_with fail
    refine bodyPost_ret (v := .bool true) (by simp [results, Try.results5, go_sem, hc]) rfl ?_
    exact ⟨rfl, ((((Ext.refl w).alloc _).alloc _).alloc _).trans hx1 |>.setCell (p := ⟨w.heap.size + 1 + 1, 0, none⟩) (show w.heap.size ≤ w.heap.size + 1 + 1 by omega) _⟩
  have hl4 : l.length ≤ 400 := by omega
  have HL := Lib.hid hl4; clear hl4
  obtain ⟨wb, hwb⟩ : ∃ wb, wb = ((w.alloc (.cells #[.slice A l.length c] 24)).alloc (.cells #[.int .i64 many] 3)).alloc (.cells #[.bool false] 4) := ⟨_, rfl⟩
  have hxb : Ext w wb := by rw [hwb]; exact (((Ext.refl w).alloc _).alloc _).alloc _
  have HO := Lib.hid (OB.lit wb 5 wb.heap.size [] [] rfl 0 rfl (by simp [maxLen]) (Nat.le_refl _) (z := wb.heap.size) rfl)
  refine calls_of_marks Try.func5 rfl ?_
  simp only [Try.ntmps5, List.size_toArray, List.length_cons, List.length_nil, Nat.reduceAdd, Nat.reduceSub, Array.replicate_succ, Array.replicate_zero, List.push_toArray, List.append_toArray, List.nil_append, List.cons_append]
  go_upto_region 3 with fail
  rw [← hwb]
  have g2 : wb.heap[w.heap.size]? = some (.cells #[.slice A l.length c] 24 (0, 0)) := by rw [hwb]; exact (((Ext.refl _).alloc _).alloc _).heap (heap_alloc_new w _)
  have g3 : wb.heap[w.heap.size + 1]? = some (.cells #[.int .i64 many] 3 (0, 0)) := by
    rw [hwb]
    have h := heap_alloc_new (w.alloc (.cells #[.slice A l.length c] 24)) (.cells #[.int .i64 many] 3)
    rw [show (w.alloc (.cells #[.slice A l.length c] 24)).heap.size = w.heap.size + 1 by simp] at h
    exact ((Ext.refl _).alloc _).heap h
  have g4 : wb.heap[w.heap.size + 1 + 1]? = some (.cells #[.bool false] 4 (0, 0)) := by
    rw [hwb]
    have h := heap_alloc_new ((w.alloc (.cells #[.slice A l.length c] 24)).alloc (.cells #[.int .i64 many] 3)) (.cells #[.bool false] 4)
    rwa [show ((w.alloc (.cells #[.slice A l.length c] 24)).alloc (.cells #[.int .i64 many] 3)).heap.size = w.heap.size + 1 + 1 by simp] at h
  have hzb : wb.heap.size = w.heap.size + 3 := by rw [hwb]; simp
  have HZ := Lib.hid hzb
  clear hwb hzb
  have k2 : wb.cell? ⟨w.heap.size, 0, none⟩ = some (.slice A l.length c) := by rw [cell_of_row _ _ 0 _ _ (0, 0) g2]; rfl
  have k2' := ((Ext.refl wb).alloc (.cells #[] 5)).cell k2
  go_upto_region 4 with (at_builtin; refine wpList_append_bs _ rfl (.tmp 24) (.tmp 25) 24 rfl wb.heap.size 5 i0 (.int .u8 0) Try.underlying24 hi hz0 hz1 hz2 rfl _ [] rfl HO.out _ l rfl (hB.ext (hxb.alloc _)) ?hd ?he ?_; rotate_right; intro v3 wr hown3 hg3 hat3)
  try (case hd => have := HL.out; simp; omega)
  try (case he => simp)
  have hbo : OB 5 wr wb.heap.size v3 l := by simpa using hown3
  have hsz1 : wb.heap.size < wr.heap.size := by have := hg3.size; simp at this; omega
  have hxr : Ext wb wr := ((Ext.refl wb).alloc _).grown hg3 (fun j hj => OB.lt HO.out j hj)
  obtain ⟨A3, c3, rfl⟩ := hbo.shape
  have HML : Hid (l.length ≤ maxLen) := by have := HL.out; show _ ≤ _; unfold maxLen; omega
  clear hown3 hg3 hat3 k2 k2'
  go_upto_region 5 with (go_at_call 29; refine (Elements_at A3 c3 l wr hbo.bs (by have := HL.out; omega)).mono ?_; rintro e w1 ⟨A', c', rfl, hit, hob, hx1⟩)
  have hbo1 := hbo.ext hx1
  obtain ⟨gI, hgI⟩ : ∃ gI, gI = wr.heap.size := ⟨_, rfl⟩
  obtain ⟨go, hgo⟩ : ∃ go, wb.heap.size ≤ go ∧ go < gI ∧ (0 < l.length → A3 = some ⟨go, 0, none⟩) := by
    rcases hbo.2 with ⟨_, h0⟩ | ⟨g, cap, cur, hv, hb, hh, r⟩
    · exact ⟨wb.heap.size, Nat.le_refl _, by omega, fun h => by rw [show l.length = 0 by simpa using h0] at h; omega⟩
    · injection hv with h1
      exact ⟨g, hb, by rw [hgI]; exact (Array.getElem?_eq_some_iff.1 hh).1, fun _ => h1⟩
  rw [← hgI] at hit hob ⊢
  have hsI : gI < w1.heap.size := (Array.getElem?_eq_some_iff.1 hit.1).1
  have HGI := Lib.hid hgI; have HGO := Lib.hid hgo; clear hgI hgo
  have gb2 := hx1.heap (hxr.heap g2)
  have gb3 := hx1.heap (hxr.heap g3)
  have gb4 := hx1.heap (hxr.heap g4)
  have hxw1 : Ext w w1 := (hxb.trans hxr).trans hx1
  clear g2 g3 g4 hx1 hxr hxb hbo HO
  have hnf := neq_nil
  go_wp2_with fail
  go_loopw [7] (fun i wr2 => ∃ (k : Nat) (X : List UInt8), k ≤ l.length ∧ i = .int .i64 k ∧ X.length = l.length ∧ OB 5 wr2 wb.heap.size (.slice A3 X.length c3) X ∧ w1.grownBy wr2 (some go)) (fun i _ => l.length - (intOf i).toNat)
  case atStart => exact ⟨0, l, Nat.zero_le _, rfl, rfl, hbo1, grown_refl _ _⟩
  case round =>
    obtain ⟨k, X, hk, rfl, hX, hob2, hgr⟩ := hrel
    have hl63 : l.length ≤ 400 := HL.out
    by_cases hlt : k < l.length
    · have h3 := HGO.out.2.2 (by omega)
      subst h3
      obtain ⟨hc, hf⟩ := hob2.at_ k (by omega)
      have hset := hob2.set k (X[k] + 1) _ (u8_inc X[k])
      have HS := Lib.hid hset; clear hset
      go_wp2_with fail
      go_roundw
      case rel => exact ⟨k + 1, _, by omega, by go_num, by rw [List.length_set]; exact hX, HS.out.1, grown_trans hgr HS.out.2⟩
      case measure => simp [intOf] <;> omega
    · have hkl : k = l.length := by omega
      subst hkl
      obtain ⟨wo, rfl⟩ : ∃ wo : World, wo = wr := ⟨_, rfl⟩
      have hit2 : ElIt gI 0 A' c' l wo := ⟨heap_far hgr hit.1 (by have := HGO.out; omega), (hob.far hgr (by have := HGO.out; have := HGI.out; omega)).bs, Nat.zero_le _⟩
      have hz1 := HZ.out
      have ga2 := heap_far hgr gb2 (by have := HGO.out; omega)
      have ga3 := heap_far hgr gb3 (by have := HGO.out; omega)
      have ga4 := heap_far hgr gb4 (by have := HGO.out; omega)
      have hxw2 : Ext w wo := Ext.of_grown hxw1 hgr (by have := HGO.out; omega)
      clear hit gb2 gb3 gb4 hxw1 hgr hob2 hX hob hbo1 hz1
      go_wp2_with fail
      obtain ⟨wt0, hwt0⟩ : ∃ wt0, wt0 = wo.alloc (.cells #[.int .i64 0] 3) := ⟨_, rfl⟩
      rw [← hwt0]
      have hxt : Ext wo wt0 := by rw [hwt0]; exact (Ext.refl _).alloc _
      have g80 : wt0.heap[wo.heap.size]? = some (.cells #[.int .i64 0] 3 (0, 0)) := by rw [hwt0]; exact heap_alloc_new wo _
      have g20 := hxt.heap ga2
      have g30 := hxt.heap ga3
      have g40 := hxt.heap ga4
      have it0 := hit2.ext hxt
      have xw0 := hxw2.trans hxt
      obtain ⟨B80, hB80⟩ : ∃ B80, B80 = wo.heap.size := ⟨_, rfl⟩
      rw [← hB80] at g80 ⊢
      clear hwt0 hB80 hxt ga2 ga3 ga4 hit2 hxw2
      refine wp_loop_rounds 3 ?_
      rw [rounds_succ]
      have k80 := (row1 g80).1
      go_wp2_with fail
      obtain ⟨V, hV⟩ : ∃ V, V = (wt0.alloc (.cells #[.int .i64 0] 3)).alloc (.cells #[.int .i64 0] 3) := ⟨_, rfl⟩
      rw [← hV]
      have hxV : Ext wt0 V := by rw [hV]; exact ((Ext.refl _).alloc _).alloc _
      have n9 : V.heap[wt0.heap.size]? = some (.cells #[.int .i64 0] 3 (0, 0)) := by rw [hV]; exact ((Ext.refl _).alloc _).heap (heap_alloc_new wt0 _)
      have n10 : V.heap[wt0.heap.size + 1]? = some (.cells #[.int .i64 0] 3 (0, 0)) := by
        rw [hV]
        have h := heap_alloc_new (wt0.alloc (.cells #[.int .i64 0] 3)) (.cells #[.int .i64 0] 3)
        rwa [World.size_alloc] at h
      have hzV : V.heap.size = wt0.heap.size + 2 := by rw [hV]; simp
      have hIV : Inv A c l w w.heap.size B80 wt0.heap.size (wt0.heap.size + 1) many 0 [] V :=
        ⟨⟨hxV.heap g20, hxV.heap g30, hxV.heap g40, hxV.heap g80⟩, ⟨0, Nat.zero_le _, Nat.zero_le _, rfl, n9, n10⟩, xw0.trans hxV⟩
      have hitV : ElIt gI V.heap.size A' c' l V := ⟨hxV.heap it0.1, it0.2.1.ext hxV, Nat.le_refl _⟩
      have HZV := Lib.hid hzV
      have hwV : w.heap.size ≤ V.heap.size := hIV.2.2.size
      have hlt2 := (Array.getElem?_eq_some_iff.1 g20).1
      have hlt3 := (Array.getElem?_eq_some_iff.1 g30).1
      have hlt4 := (Array.getElem?_eq_some_iff.1 g40).1
      have hlt8 := (Array.getElem?_eq_some_iff.1 g80).1
      have hltI := (Array.getElem?_eq_some_iff.1 it0.1).1
      have hwt : w.heap.size ≤ wt0.heap.size := by omega
      clear hV n9 n10 hzV k80
      refine wpIn_wide.1 (wp_range (gf := 59) (lb := #[.pointer (some ⟨gI, 0, none⟩)]) rfl (Go.Proofs.enters_of Try.func59 (by kernel_rfl) rfl)
        (elements_iter gI V.heap.size A' c' l (by have := HL.out; omega)) (fun _ => rfl) (fun _ h => h.elim) hitV (ElIt.stab _ _ _ _ _ _)
        (fun pre W => Inv A c l w w.heap.size B80 wt0.heap.size (wt0.heap.size + 1) many 0 pre W)
        (fun cd pre W => cd = .exit 4 ∧ ElIt gI V.heap.size A' c' l W ∧ Inv A c l w w.heap.size B80 wt0.heap.size (wt0.heap.size + 1) many 0 pre W)
        (fun pre => Inv.stab _ _ _ _ _ _ _ _ _ _ _ _ hwV) (fun cd pre => (Stab.pure _).and ((ElIt.stab _ _ _ _ _ _).and (Inv.stab _ _ _ _ _ _ _ _ _ _ _ _ hwV)))
        (fun pre X Y r hr hg h => (Inv.stab _ _ _ _ _ _ _ _ _ _ _ _ hwV).later (grown_of_ext (by cases r with | none => exact hg | some k => exact (hr k rfl).elim)) h)
        (fun cd pre X Y r hr hg h => ⟨h.1, ((ElIt.stab _ _ _ _ _ _).and (Inv.stab _ _ _ _ _ _ _ _ _ _ _ _ hwV)).later (grown_of_ext (by cases r with | none => exact hg | some k => exact (hr k rfl).elim)) h.2⟩)
        hIV ?_ ?_ ?_)
      focus
        intro L pre x W hL hnL hzW hIW hitW hGW
        dsimp only [El.encs]
        gi_wp2_with fail
        refine ⟨KeepsFrom.refl _ _, fun W2 hg2 hn2 hz2 => ?_⟩
        have hI2 := (Inv.stab _ _ _ _ _ _ _ _ _ _ _ _ hwV) W W2 L hL hn2 hg2 hIW
        have hit2' := (ElIt.stab V.heap.size gI V.heap.size A' c' l) W W2 L hL hn2 hg2 hitW
        obtain ⟨⟨rest, hrest⟩, hobx'⟩ := hGW
        have hobx := (Stab.ob (B := V.heap.size) _ _ _ _) W W2 L hL hn2 hg2 hobx'
        clear hIW hitW hobx' hg2 hn2 hnL
        obtain ⟨⟨b2, b3, b4, b8⟩, ⟨p, hp, hlp, hep, b9, b10⟩, hxw⟩ := hI2
        obtain ⟨xa, xA, xc, xb⟩ := x
        have hcons : elemsAt l p = (xa, xb) :: rest := by
          rw [hep] at hrest
          exact List.append_cancel_left hrest
        obtain ⟨hpl, n, f, hlen, hfl, hpf, hx, hrest2⟩ := elemsAt_cons l p _ _ hcons
        simp only [Prod.mk.injEq] at hx
        obtain ⟨rfl, hx⟩ := hx
        dsimp only at hobx ⊢
        have hkey : elemsAt l 0 = (pre ++ ([⟨xa, xA, xc, xb⟩] : List El)).map El.key ++ elemsAt l (f + n) := by rw [hep, hcons, hrest2]; simp [El.key]
        have HK := Lib.hid hkey; have HX := Lib.hid hx; clear hkey hx hcons hrest hrest2 hep
        have hLn := Length_at A c l (xa + 1) (by have := HL.out; omega) W2 (hB.ext hxw) _ hlen
        rw [show ((xa + 1 : Nat) : Int) = (xa : Int) + 1 by omega] at hLn
        have HLn := Lib.hid hLn; clear hLn hlen
        have k2 := (row1 b2).1
        have k9 := (row1 b9).1
        gi_wp2_with fail
        refine wide_callR HLn.out ?_
        rintro e w3 ⟨rfl, rfl⟩
        obtain ⟨A5, c5, hb5, hs5'⟩ := run_slice12 (P := Try.prog) W2 24 A c l xa (f + n) xb HX.out.symm (by omega) hfl Try.underlying24 (info_parts u8info |>.elim fun i hi => ⟨i, hi.1, hi.2.2.1⟩) (hB.ext hxw)
        have hs5 : ∀ w' : World, (Instr.slice 24 (.slice A l.length c) (some (.int .i64 (xa : Int))) (some (.int .i64 ((f : Int) + (n : Int)))) none).run Try.prog w' = .ok (.slice A5 xb.length c5) w' := fun w' => by
          have := hs5' w'
          rwa [Int.natCast_add] at this
        clear hs5'
        have hcx : ∀ q : Nat, (convert 24 9 (.slice xA xb.length xc)).run Try.prog (W2.drewN q) = .ok (.string ⟨xb.toArray⟩) (W2.drewN q) := fun q => run_str _ _ _ 5 _ _ Try.underlying24 Try.underlying5 Try.underlying9 (hobx.bs.ext ((Ext.refl _).drewN q))
        have hc5 : ∀ q : Nat, (convert 24 9 (.slice A5 xb.length c5)).run Try.prog (W2.drewN q) = .ok (.string ⟨xb.toArray⟩) (W2.drewN q) := fun q => run_str _ _ _ 5 _ _ Try.underlying24 Try.underlying5 Try.underlying9 (hb5.ext ((Ext.refl _).drewN q))
        have hfl' : (f : Int) + (n : Int) ≤ (l.length : Int) := by omega
        have hpl' : (xa : Int) < (l.length : Int) := by omega
        have hd1 : decide (l.length ≤ xa) = false := by simp; omega
        have hd2 : decide ((l.length : Int) ≤ (xa : Int)) = false := by simp; omega
        have hd3 : decide ((l.length : Int) < (f : Int) + (n : Int)) = false := by simp; omega
        have hd4 : decide (l.length < f + n) = false := by simp; omega
        gi_wp2_with fail
        refine wp_round_quiet (by kernel_rfl) (by kernel_rfl) ?_
        repeat (go_big_quiet_step (fail))
        refine wpQuiet_nil ?_
        intro _ hw'
        obtain ⟨nq, hw''⟩ := hw'
        subst hw''
        obtain ⟨W4, hW4⟩ : ∃ W4, W4 = W2.drewN nq := ⟨_, rfl⟩
        rw [← hW4]
        have hx4 : Ext W2 W4 := by rw [hW4]; exact (Ext.refl _).drewN nq
        have hob4 := hobx.ext hx4
        have c2 := hx4.heap b2
        have c3' := hx4.heap b3
        have c4 := hx4.heap b4
        have c8 := hx4.heap b8
        have c9 := hx4.heap b9
        have c10 := hx4.heap b10
        have hxw4 := hxw.trans hx4
        have hit4 := hit2'.ext hx4
        clear hW4 b2 b3 b4 b8 b9 b10 hxw hit2' hobx hcx hc5 hs5 hb5 k2 k9 hd1 hd2 hd3 hd4 HLn
        obtain ⟨gx, hgx1, hgx2, hgx3⟩ := hob4.row
        have hxbl : xb.length ≤ 400 := by
          have h1 := HX.out
          have h2 := HL.out
          rw [h1, List.length_drop, List.length_take]
          omega
        have hpl400 : (pre.length : Int) ≤ 400 := by have := HL.out; omega
        have HG3 := Lib.hid hgx3; have HG2 := Lib.hid hgx2; clear hgx2 hgx3
        gi_wp2_with fail
        gi_loopw [16] (fun i wr2 => ∃ (k : Nat) (X : List UInt8), k ≤ xb.length ∧ i = .int .i64 k ∧ X.length = xb.length ∧ OB 5 wr2 V.heap.size (.slice xA X.length xc) X ∧ W4.grownBy wr2 (some gx)) (fun i _ => xb.length - (intOf i).toNat)
        case atStart => exact ⟨0, xb, Nat.zero_le _, rfl, rfl, hob4, grown_refl _ _⟩
        case round =>
          obtain ⟨k, X, hk, rfl, hX, hobk, hgk⟩ := hrel
          by_cases hlt : k < xb.length
          · have h3 := HG2.out (by omega)
            subst h3
            obtain ⟨hc, hf⟩ := hobk.at_ k (by omega)
            have HS := Lib.hid (hobk.set k (X[k] + 1) _ (u8_inc X[k]))
            gi_wp2_with fail
            go_roundw
            case rel => exact ⟨k + 1, _, by omega, by go_num, by rw [List.length_set]; exact hX, HS.out.1, grown_trans hgk HS.out.2⟩
            case measure => simp [intOf] <;> omega
          · obtain rfl : k = xb.length := by omega
            have hltx : wt0.heap.size + 2 ≤ gx := by have := HZV.out; omega
            have d2 := heap_far hgk c2 (by omega)
            have d3 := heap_far hgk c3' (by omega)
            have d4 := heap_far hgk c4 (by omega)
            have d8 := heap_far hgk c8 (by omega)
            have d9 := heap_far hgk c9 (by omega)
            have d10 := heap_far hgk c10 (by omega)
            have hitk : ElIt gI V.heap.size A' c' l wr := ⟨heap_far hgk hit4.1 (by omega), BS.far hitV.2.1 hit4.2.1 hgk hgx1, Nat.le_trans hit4.2.2 hgk.size⟩
            have hxk : Ext w wr := Ext.of_grown hxw4 hgk (by omega)
            have hko : KeepsOthers W2 wr := hx4.keepsOthers.trans (keepsOthers_row HG3.out hgk)
            obtain ⟨W5, hW5⟩ : ∃ W5, W5 = (wr.setCell ⟨wt0.heap.size, 0, none⟩ (.int .i64 ((f : Int) + (n : Int)))).setCell ⟨wt0.heap.size + 1, 0, none⟩ (.int .i64 ((pre.length : Int) + 1)) := ⟨_, rfl⟩
            have hfin : KeepsFrom V.heap.size W2 W5 ∧ ElIt gI V.heap.size A' c' l W5 ∧ Inv A c l w w.heap.size B80 wt0.heap.size (wt0.heap.size + 1) many 0 (pre ++ [⟨xa, xA, xc, xb⟩]) W5 := by
              rw [hW5]
              have q9 := grown_set1 wr wt0.heap.size (.int .i64 ((f : Int) + (n : Int)))
              have m10 := heap_far q9 d10 (by omega)
              have q10 := grown_set1 (wr.setCell ⟨wt0.heap.size, 0, none⟩ (.int .i64 ((f : Int) + (n : Int)))) (wt0.heap.size + 1) (.int .i64 ((pre.length : Int) + 1))
              have hKO := (hko.trans (KeepsOthers.setCell _ ⟨wt0.heap.size, 0, none⟩ (.int .i64 ((f : Int) + (n : Int))))).trans (KeepsOthers.setCell _ ⟨wt0.heap.size + 1, 0, none⟩ (.int .i64 ((pre.length : Int) + 1)))
              refine ⟨hKO.from _, ⟨heap_far q10 (heap_far q9 hitk.1 (by omega)) (by omega), (hitk.2.1.but (noU8_int d9) q9).but (noU8_int m10) q10, Nat.le_trans hitk.2.2 (Nat.le_trans q9.size q10.size)⟩,
                ⟨⟨heap_far q10 (heap_far q9 d2 (by omega)) (by omega), heap_far q10 (heap_far q9 d3 (by omega)) (by omega), heap_far q10 (heap_far q9 d4 (by omega)) (by omega), heap_far q10 (heap_far q9 d8 (by omega)) (by omega)⟩,
                ⟨f + n, hfl, ?_, HK.out, ?_, ?_⟩, (hxk.setCell (p := ⟨wt0.heap.size, 0, none⟩) (show w.heap.size ≤ wt0.heap.size by omega) _).setCell (p := ⟨wt0.heap.size + 1, 0, none⟩) (show w.heap.size ≤ wt0.heap.size + 1 by omega) _⟩⟩
              · rw [List.length_append]; simp; omega
              · have := heap_far q10 (row1_set (.int .i64 ((f : Int) + (n : Int))) d9) (by omega)
                rw [this, show ((f + n : Nat) : Int) = (f : Int) + (n : Int) by omega]
              · have := row1_set (.int .i64 ((pre.length : Int) + 1)) m10
                rw [this, List.length_append, show ((pre.length + [({ at_ := xa, A := xA, c := xc, b := xb } : El)].length : Nat) : Int) = (pre.length : Int) + 1 by simp]
            have HF := Lib.hid hfin
            obtain ⟨k8, _⟩ := row1 d8
            obtain ⟨k9, f9⟩ := row1 d9
            obtain ⟨k10, f10⟩ := row1 d10
            obtain ⟨k3, _⟩ := row1 d3
            clear hfin hitk hxk hko hob4 hobk hgk hX hit4 c2 c3' c4 c8 c9 c10 d2 d3 d4 d8 d9 d10 hx4 hxw4
            by_cases hbr : many ≤ (pre.length : Int) + 1
            · gi_wp2_with fail
              rw [← hW5]
              exact ⟨HF.out.1, rfl, HF.out.2.1, HF.out.2.2⟩
            · gi_wp2_with fail
              rw [← hW5]
              exact HF.out
      focus intro D0 xs W hDw hS hIW hitW hD0'
      rotate_left 1
      focus
        rintro D0 cd xs W hDw hS ⟨rfl, hitW, hIW⟩ hD0'
        refine wpIn_wide.2 ?_
      all_goals
      clear hS
      obtain ⟨⟨b2, b3, b4, b8⟩, ⟨p, hp, hlp, hep, b9, b10⟩, hxw⟩ := hIW
      clear hep b9 b10 hlp hp
      have k8 := (row1 b8).1
      go_wp2_with fail
      have hx1t : Ext W (W.alloc (.cells #[.int .i64 1] 3)) := (Ext.refl _).alloc _
      have g81 := heap_alloc_new W (.cells #[.int .i64 1] 3)
      have g21 := hx1t.heap b2
      have g31 := hx1t.heap b3
      have g41 := hx1t.heap b4
      have it1 := hitW.ext hx1t
      have xw1 := hxw.trans hx1t
      have hD0 := hx1t.heap hD0'
      have hD0w : w.heap.size + 1 + 1 < D0 := by have := HZV.out; omega
      clear hIV hitV HZV hlt2 hlt3 hlt4 hlt8 hltI hwt hxV g20 g30 g40 g80 it0 xw0 b2 b3 b4 b8 k8 hitW hxw hD0' hx1t hDw hwV
      obtain ⟨B81, hB81⟩ : ∃ B81, B81 = W.heap.size := ⟨_, rfl⟩
      rw [← hB81] at g81 ⊢
      obtain ⟨wt1, hwt1⟩ : ∃ wt1, wt1 = W.alloc (.cells #[.int .i64 1] 3) := ⟨_, rfl⟩
      rw [← hwt1] at g81 g21 g31 g41 it1 xw1 hD0 ⊢
      clear hwt1 hB81
      rw [rounds_succ]
      have k81 := (row1 g81).1
      go_wp2_with fail
      obtain ⟨V, hV⟩ : ∃ V, V = (wt1.alloc (.cells #[.int .i64 0] 3)).alloc (.cells #[.int .i64 0] 3) := ⟨_, rfl⟩
      rw [← hV]
      have hxV : Ext wt1 V := by rw [hV]; exact ((Ext.refl _).alloc _).alloc _
      have n9 : V.heap[wt1.heap.size]? = some (.cells #[.int .i64 0] 3 (0, 0)) := by rw [hV]; exact ((Ext.refl _).alloc _).heap (heap_alloc_new wt1 _)
      have n10 : V.heap[wt1.heap.size + 1]? = some (.cells #[.int .i64 0] 3 (0, 0)) := by
        rw [hV]
        have h := heap_alloc_new (wt1.alloc (.cells #[.int .i64 0] 3)) (.cells #[.int .i64 0] 3)
        rwa [World.size_alloc] at h
      have hzV : V.heap.size = wt1.heap.size + 2 := by rw [hV]; simp
      have hIV : Inv A c l w w.heap.size B81 wt1.heap.size (wt1.heap.size + 1) many 1 [] V :=
        ⟨⟨hxV.heap g21, hxV.heap g31, hxV.heap g41, hxV.heap g81⟩, ⟨0, Nat.zero_le _, Nat.zero_le _, rfl, n9, n10⟩, xw1.trans hxV⟩
      have hitV : ElIt gI V.heap.size A' c' l V := ⟨hxV.heap it1.1, it1.2.1.ext hxV, Nat.le_refl _⟩
      have HZV := Lib.hid hzV
      have hwV : w.heap.size ≤ V.heap.size := hIV.2.2.size
      have hlt2 := (Array.getElem?_eq_some_iff.1 g21).1
      have hlt3 := (Array.getElem?_eq_some_iff.1 g31).1
      have hlt4 := (Array.getElem?_eq_some_iff.1 g41).1
      have hlt8 := (Array.getElem?_eq_some_iff.1 g81).1
      have hltI := (Array.getElem?_eq_some_iff.1 it1.1).1
      have hwt : w.heap.size ≤ wt1.heap.size := by omega
      have hD0V := hxV.heap hD0
      have hD0lt : D0 < V.heap.size := (Array.getElem?_eq_some_iff.1 hD0V).1
      clear hV n9 n10 hzV k81
      refine wpIn_wide.1 (wp_range (gf := 59) (lb := #[.pointer (some ⟨gI, 0, none⟩)]) rfl (Go.Proofs.enters_of Try.func59 (by kernel_rfl) rfl)
        (elements_iter gI V.heap.size A' c' l (by have := HL.out; omega)) (fun _ => rfl) (fun _ h => h.elim) hitV (ElIt.stab _ _ _ _ _ _)
        (fun pre W => Inv A c l w w.heap.size B81 wt1.heap.size (wt1.heap.size + 1) many 1 pre W ∧ W.heap[D0]? = some (.deferred (some [])))
        (fun _ _ _ => False)
        (fun pre => (Inv.stab _ _ _ _ _ _ _ _ _ _ _ _ hwV).and (Stab.obj _ _ hD0lt)) (fun _ _ => Stab.pure _)
        (fun pre X Y r hr hg h => ((Inv.stab _ _ _ _ _ _ _ _ _ _ _ _ hwV).and (Stab.obj _ _ hD0lt)).later (grown_of_ext (by cases r with | none => exact hg | some k => exact (hr k rfl).elim)) h)
        (fun _ _ _ _ _ _ _ h => h)
        ⟨hIV, hD0V⟩ ?_ ?_ ?_)
      focus
        intro L pre x W hL hnL hzW hIW hitW hGW
        dsimp only [El.encs]
        gi_wp2_with fail
        refine ⟨KeepsFrom.refl _ _, fun W2 hg2 hn2 hz2 => ?_⟩
        have hI2 := ((Inv.stab _ _ _ _ _ _ _ _ _ _ _ _ hwV).and (Stab.obj _ _ hD0lt)) W W2 L hL hn2 hg2 hIW
        have hit2' := (ElIt.stab V.heap.size gI V.heap.size A' c' l) W W2 L hL hn2 hg2 hitW
        obtain ⟨⟨rest, hrest⟩, hobx'⟩ := hGW
        have hobx := (Stab.ob (B := V.heap.size) _ _ _ _) W W2 L hL hn2 hg2 hobx'
        clear hIW hitW hobx' hg2 hn2 hnL
        obtain ⟨⟨⟨b2, b3, b4, b8⟩, ⟨p, hp, hlp, hep, b9, b10⟩, hxw⟩, hDW⟩ := hI2
        obtain ⟨xa, xA, xc, xb⟩ := x
        have hcons : elemsAt l p = (xa, xb) :: rest := by
          rw [hep] at hrest
          exact List.append_cancel_left hrest
        obtain ⟨hpl, n, f, hlen, hfl, hpf, hx, hrest2⟩ := elemsAt_cons l p _ _ hcons
        simp only [Prod.mk.injEq] at hx
        obtain ⟨rfl, hx⟩ := hx
        dsimp only at hobx ⊢
        have hkey : elemsAt l 0 = (pre ++ ([⟨xa, xA, xc, xb⟩] : List El)).map El.key ++ elemsAt l (f + n) := by rw [hep, hcons, hrest2]; simp [El.key]
        have HK := Lib.hid hkey; have HX := Lib.hid hx; clear hkey hx hcons hrest hrest2 hep
        have hLn := Length_at A c l (xa + 1) (by have := HL.out; omega) W2 (hB.ext hxw) _ hlen
        rw [show ((xa + 1 : Nat) : Int) = (xa : Int) + 1 by omega] at hLn
        have HLn := Lib.hid hLn; clear hLn hlen
        have k2 := (row1 b2).1
        have k9 := (row1 b9).1
        gi_wp2_with fail
        refine wide_callR HLn.out ?_
        rintro e w3 ⟨rfl, rfl⟩
        obtain ⟨A5, c5, hb5, hs5'⟩ := run_slice12 (P := Try.prog) W2 24 A c l xa (f + n) xb HX.out.symm (by omega) hfl Try.underlying24 (info_parts u8info |>.elim fun i hi => ⟨i, hi.1, hi.2.2.1⟩) (hB.ext hxw)
        have hs5 : ∀ w' : World, (Instr.slice 24 (.slice A l.length c) (some (.int .i64 (xa : Int))) (some (.int .i64 ((f : Int) + (n : Int)))) none).run Try.prog w' = .ok (.slice A5 xb.length c5) w' := fun w' => by
          have := hs5' w'
          rwa [Int.natCast_add] at this
        clear hs5'
        have hcx : ∀ q : Nat, (convert 24 9 (.slice xA xb.length xc)).run Try.prog (W2.drewN q) = .ok (.string ⟨xb.toArray⟩) (W2.drewN q) := fun q => run_str _ _ _ 5 _ _ Try.underlying24 Try.underlying5 Try.underlying9 (hobx.bs.ext ((Ext.refl _).drewN q))
        have hc5 : ∀ q : Nat, (convert 24 9 (.slice A5 xb.length c5)).run Try.prog (W2.drewN q) = .ok (.string ⟨xb.toArray⟩) (W2.drewN q) := fun q => run_str _ _ _ 5 _ _ Try.underlying24 Try.underlying5 Try.underlying9 (hb5.ext ((Ext.refl _).drewN q))
        have hfl' : (f : Int) + (n : Int) ≤ (l.length : Int) := by omega
        have hpl' : (xa : Int) < (l.length : Int) := by omega
        have hd1 : decide (l.length ≤ xa) = false := by simp; omega
        have hd2 : decide ((l.length : Int) ≤ (xa : Int)) = false := by simp; omega
        have hd3 : decide ((l.length : Int) < (f : Int) + (n : Int)) = false := by simp; omega
        have hd4 : decide (l.length < f + n) = false := by simp; omega
        gi_wp2_with fail
        refine wp_round_quiet (by kernel_rfl) (by kernel_rfl) ?_
        repeat (go_big_quiet_step (fail))
        refine wpQuiet_nil ?_
        intro _ hw'
        obtain ⟨nq, hw''⟩ := hw'
        subst hw''
        obtain ⟨W4, hW4⟩ : ∃ W4, W4 = W2.drewN nq := ⟨_, rfl⟩
        rw [← hW4]
        have hx4 : Ext W2 W4 := by rw [hW4]; exact (Ext.refl _).drewN nq
        have hob4 := hobx.ext hx4
        have c2 := hx4.heap b2
        have c3' := hx4.heap b3
        have c4 := hx4.heap b4
        have c8 := hx4.heap b8
        have c9 := hx4.heap b9
        have c10 := hx4.heap b10
        have hxw4 := hxw.trans hx4
        have hit4 := hit2'.ext hx4
        clear hW4 b2 b3 b4 b8 b9 b10 hxw hit2' hobx hcx hc5 hs5 hb5 k2 k9 hd1 hd2 hd3 hd4 HLn
        obtain ⟨gx, hgx1, hgx2, hgx3⟩ := hob4.row
        have hxbl : xb.length ≤ 400 := by
          have h1 := HX.out
          have h2 := HL.out
          rw [h1, List.length_drop, List.length_take]
          omega
        have hpl400 : (pre.length : Int) ≤ 400 := by have := HL.out; omega
        have HG3 := Lib.hid hgx3; have HG2 := Lib.hid hgx2; clear hgx2 hgx3
        gi_wp2_with fail
        gi_loopw [16] (fun i wr2 => ∃ (k : Nat) (X : List UInt8), k ≤ xb.length ∧ i = .int .i64 k ∧ X.length = xb.length ∧ OB 5 wr2 V.heap.size (.slice xA X.length xc) X ∧ W4.grownBy wr2 (some gx)) (fun i _ => xb.length - (intOf i).toNat)
        case atStart => exact ⟨0, xb, Nat.zero_le _, rfl, rfl, hob4, grown_refl _ _⟩
        case round =>
          obtain ⟨k, X, hk, rfl, hX, hobk, hgk⟩ := hrel
          by_cases hlt : k < xb.length
          · have h3 := HG2.out (by omega)
            subst h3
            obtain ⟨hc, hf⟩ := hobk.at_ k (by omega)
            have HS := Lib.hid (hobk.set k (X[k] + 1) _ (u8_inc X[k]))
            gi_wp2_with fail
            go_roundw
            case rel => exact ⟨k + 1, _, by omega, by go_num, by rw [List.length_set]; exact hX, HS.out.1, grown_trans hgk HS.out.2⟩
            case measure => simp [intOf] <;> omega
          · obtain rfl : k = xb.length := by omega
            have hltx : wt1.heap.size + 2 ≤ gx := by have := HZV.out; omega
            have d2 := heap_far hgk c2 (by omega)
            have d3 := heap_far hgk c3' (by omega)
            have d4 := heap_far hgk c4 (by omega)
            have d8 := heap_far hgk c8 (by omega)
            have d9 := heap_far hgk c9 (by omega)
            have d10 := heap_far hgk c10 (by omega)
            have hitk : ElIt gI V.heap.size A' c' l wr := ⟨heap_far hgk hit4.1 (by omega), BS.far hitV.2.1 hit4.2.1 hgk hgx1, Nat.le_trans hit4.2.2 hgk.size⟩
            have hxk : Ext w wr := Ext.of_grown hxw4 hgk (by omega)
            have hko : KeepsOthers W2 wr := hx4.keepsOthers.trans (keepsOthers_row HG3.out hgk)
            obtain ⟨W5, hW5⟩ : ∃ W5, W5 = (wr.setCell ⟨wt1.heap.size, 0, none⟩ (.int .i64 ((f : Int) + (n : Int)))).setCell ⟨wt1.heap.size + 1, 0, none⟩ (.int .i64 ((pre.length : Int) + 1)) := ⟨_, rfl⟩
            have hfin : KeepsFrom V.heap.size W2 W5 ∧ ElIt gI V.heap.size A' c' l W5 ∧ Inv A c l w w.heap.size B81 wt1.heap.size (wt1.heap.size + 1) many 1 (pre ++ [⟨xa, xA, xc, xb⟩]) W5 ∧ W5.heap[D0]? = some (.deferred (some [])) := by
              rw [hW5]
              have q9 := grown_set1 wr wt1.heap.size (.int .i64 ((f : Int) + (n : Int)))
              have m10 := heap_far q9 d10 (by omega)
              have q10 := grown_set1 (wr.setCell ⟨wt1.heap.size, 0, none⟩ (.int .i64 ((f : Int) + (n : Int)))) (wt1.heap.size + 1) (.int .i64 ((pre.length : Int) + 1))
              have hKO := (hko.trans (KeepsOthers.setCell _ ⟨wt1.heap.size, 0, none⟩ (.int .i64 ((f : Int) + (n : Int))))).trans (KeepsOthers.setCell _ ⟨wt1.heap.size + 1, 0, none⟩ (.int .i64 ((pre.length : Int) + 1)))
              refine ⟨hKO.from _, ⟨heap_far q10 (heap_far q9 hitk.1 (by omega)) (by omega), (hitk.2.1.but (noU8_int d9) q9).but (noU8_int m10) q10, Nat.le_trans hitk.2.2 (Nat.le_trans q9.size q10.size)⟩,
                ⟨⟨⟨heap_far q10 (heap_far q9 d2 (by omega)) (by omega), heap_far q10 (heap_far q9 d3 (by omega)) (by omega), heap_far q10 (heap_far q9 d4 (by omega)) (by omega), heap_far q10 (heap_far q9 d8 (by omega)) (by omega)⟩,
                ⟨f + n, hfl, ?_, HK.out, ?_, ?_⟩, (hxk.setCell (p := ⟨wt1.heap.size, 0, none⟩) (show w.heap.size ≤ wt1.heap.size by omega) _).setCell (p := ⟨wt1.heap.size + 1, 0, none⟩) (show w.heap.size ≤ wt1.heap.size + 1 by omega) _⟩, hKO.same _ _ hDW rfl⟩⟩
              · rw [List.length_append]; simp; omega
              · have := heap_far q10 (row1_set (.int .i64 ((f : Int) + (n : Int))) d9) (by omega)
                rw [this, show ((f + n : Nat) : Int) = (f : Int) + (n : Int) by omega]
              · have := row1_set (.int .i64 ((pre.length : Int) + 1)) m10
                rw [this, List.length_append, show ((pre.length + [({ at_ := xa, A := xA, c := xc, b := xb } : El)].length : Nat) : Int) = (pre.length : Int) + 1 by simp]
            have HF := Lib.hid hfin
            obtain ⟨k8, _⟩ := row1 d8
            obtain ⟨k9, f9⟩ := row1 d9
            obtain ⟨k10, f10⟩ := row1 d10
            obtain ⟨k3, _⟩ := row1 d3
            clear hfin hitk hxk hko hob4 hobk hgk hX hit4 c2 c3' c4 c8 c9 c10 d2 d3 d4 d8 d9 d10 hx4 hxw4
            gi_wp2_with fail
            rw [← hW5]
            exact HF.out
      rotate_left 1
      focus exact fun _ _ _ _ _ _ h _ => h.elim
      intro D1 xs1 W' hDw1 hS1 hIW1 hitW1 hD1
      have hD1w : w.heap.size + 1 + 1 < D1 ∧ D0 < D1 := by have := HZV.out; omega
      obtain ⟨⟨⟨b2, b3, b4, b8⟩, ⟨p, hp, hlp, hep, b9, b10⟩, hxw⟩, hDW⟩ := hIW1
      have hnil : elemsAt l p = [] := by
        rw [hep] at hS1
        exact List.self_eq_append_right.1 hS1
      have hp400 : p ≤ 400 := Nat.le_trans hp HL.out
      have k8 := (row1 b8).1
      have k9 := (row1 b9).1
      have k2 := (row1 b2).1
      have HEP := Lib.hid hep; clear hep hS1 hlp
      have hbsl := hB.ext hxw
      rcases Nat.lt_or_ge p l.length with hpl | hpl
      · obtain ⟨⟨rn, rf, rr⟩, hr⟩ : ∃ r, lenF l (p + 1) = r := ⟨_, rfl⟩
        have hbad : rr ≠ 0 ∨ l.length < rf + rn := by
          have h0 : (measureF (l.drop p)).2.2 ≠ 0 := by
            intro h0
            have hm : measureF (l.drop p) = ((measureF (l.drop p)).1, (measureF (l.drop p)).2.1, 0) := by rw [← h0]
            have := elemsAt_next l p _ _ hpl hm
            rw [hnil] at this
            cases this
          have := measure_len_bad l p hpl h0
          rwa [hr] at this
        have hbd : rr = 0 → rn ≤ 16777215 ∧ rf ≤ p + 1 + 4 := fun e => lenF_bd l (p + 1) rn rf (by rw [hr, e])
        have hLn := Length_at A c l (p + 1) (by omega) W' hbsl _ hr
        rw [show ((p + 1 : Nat) : Int) = (p : Int) + 1 by omega] at hLn
        have HLn := Lib.hid hLn; clear hLn hr
        have HN := Lib.hid hnil; clear hnil
        have hdp : decide (p < l.length) = true := by simp; omega
        by_cases her : rr = 0
        · subst her
          have hbig : l.length < rf + rn := by omega
          obtain ⟨hbd1, hbd2⟩ := hbd rfl
          have hd1 : decide ((rf : Int) + (rn : Int) ≤ (l.length : Int)) = false := by simp; omega
          have hd2 : decide (rf + rn ≤ l.length) = false := by simp; omega
          clear hbad hbig
          go_wp2_with fail
          refine HLn.out.mono ?_
          rintro e w3 ⟨rfl, rfl⟩
          go_wp2_with fail
          rw [rounds_succ]
          go_wp2_with fail
          refine (known_at _).mono ?_
          rintro e w5 ⟨rfl, hx5⟩
          have hxt5 : Ext W' w5 := ((Ext.refl W').alloc (.cells #[.int .i64 2] 3)).trans hx5
          have e4 := hxt5.heap b4
          obtain ⟨k4, f4⟩ := row1 e4
          have hDa := hxt5.heap hDW
          have hDb := hxt5.heap hD1
          have hxw5 := hxw.trans hxt5
          go_wp2_with fail
          have hks := KeepsOthers.setCell w5 ⟨w.heap.size + 1 + 1, 0, none⟩ (.bool true)
          have hD1s := hks.same _ _ (hxt5.heap hD1) rfl
          have hD0s := hks.same _ _ (hxt5.heap hDW) rfl
          have h4s := row1_set (.bool true) e4
          obtain ⟨Ws, hWs⟩ : ∃ Ws, Ws = w5.setCell ⟨w.heap.size + 1 + 1, 0, none⟩ (.bool true) := ⟨_, rfl⟩
          have hxs : Ext w Ws := by rw [hWs]; exact hxw5.setCell (p := ⟨w.heap.size + 1 + 1, 0, none⟩) (show w.heap.size ≤ w.heap.size + 1 + 1 by omega) _
          rw [← hWs] at hD1s hD0s h4s ⊢
          have hD0p : (Ws.putObj D1 (.deferred none)).heap[D0]? = some (.deferred (some [])) := (World.putObj_heap_other (by omega)).trans hD0s
          have h4p : ((Ws.putObj D1 (.deferred none)).putObj D0 (.deferred none)).heap[w.heap.size + 1 + 1]? = some (.cells #[.bool true] 4 (0, 0)) := (World.putObj_heap_other (by omega)).trans ((World.putObj_heap_other (by omega)).trans h4s)
          have hxp : Ext w ((Ws.putObj D1 (.deferred none)).putObj D0 (.deferred none)) := Ext.of_grown (Ext.of_grown hxs (grown_put hD1s) (by omega)) (grown_put hD0p) (by omega)
          have hcp := (row1 h4p).1
          refine ⟨by simp, .inl ⟨_, _, rfl, run_takeDeferred hD1s, ?_⟩⟩
          refine ⟨by simp, .inl ⟨_, _, rfl, run_takeDeferred hD0p, ?_⟩⟩
          exact ⟨.bool true, by simp [results, Try.results5, go_sem, hcp], rfl, hxp⟩
        · have hd1 : ((rr : Int) == 0) = false := by simp; omega
          have HER := Lib.hid her
          clear hbad her hbd
          go_wp2_with fail
          refine HLn.out.mono ?_
          rintro e w3 ⟨rfl, rfl⟩
          go_wp2_with fail
          rw [rounds_succ]
          go_wp2_with fail
          refine (known_at _).mono ?_
          rintro e w5 ⟨rfl, hx5⟩
          have hxt5 : Ext W' w5 := ((Ext.refl W').alloc (.cells #[.int .i64 2] 3)).trans hx5
          have e4 := hxt5.heap b4
          obtain ⟨k4, f4⟩ := row1 e4
          have hDa := hxt5.heap hDW
          have hDb := hxt5.heap hD1
          have hxw5 := hxw.trans hxt5
          go_wp2_with fail
          have hks := KeepsOthers.setCell w5 ⟨w.heap.size + 1 + 1, 0, none⟩ (.bool true)
          have hD1s := hks.same _ _ (hxt5.heap hD1) rfl
          have hD0s := hks.same _ _ (hxt5.heap hDW) rfl
          have h4s := row1_set (.bool true) e4
          obtain ⟨Ws, hWs⟩ : ∃ Ws, Ws = w5.setCell ⟨w.heap.size + 1 + 1, 0, none⟩ (.bool true) := ⟨_, rfl⟩
          have hxs : Ext w Ws := by rw [hWs]; exact hxw5.setCell (p := ⟨w.heap.size + 1 + 1, 0, none⟩) (show w.heap.size ≤ w.heap.size + 1 + 1 by omega) _
          rw [← hWs] at hD1s hD0s h4s ⊢
          have hD0p : (Ws.putObj D1 (.deferred none)).heap[D0]? = some (.deferred (some [])) := (World.putObj_heap_other (by omega)).trans hD0s
          have h4p : ((Ws.putObj D1 (.deferred none)).putObj D0 (.deferred none)).heap[w.heap.size + 1 + 1]? = some (.cells #[.bool true] 4 (0, 0)) := (World.putObj_heap_other (by omega)).trans ((World.putObj_heap_other (by omega)).trans h4s)
          have hxp : Ext w ((Ws.putObj D1 (.deferred none)).putObj D0 (.deferred none)) := Ext.of_grown (Ext.of_grown hxs (grown_put hD1s) (by omega)) (grown_put hD0p) (by omega)
          have hcp := (row1 h4p).1
          refine ⟨by simp, .inl ⟨_, _, rfl, run_takeDeferred hD1s, ?_⟩⟩
          refine ⟨by simp, .inl ⟨_, _, rfl, run_takeDeferred hD0p, ?_⟩⟩
          exact ⟨.bool true, by simp [results, Try.results5, go_sem, hcp], rfl, hxp⟩
      · have hdp : decide (p < l.length) = false := by simp; omega
        have HN := Lib.hid hnil; clear hnil
        go_wp2_with fail
        rw [rounds_succ]
        go_wp2_with fail
        refine (known_at _).mono ?_
        rintro e w5 ⟨rfl, hx5⟩
        have hxt5 : Ext W' w5 := ((Ext.refl W').alloc (.cells #[.int .i64 2] 3)).trans hx5
        have e4 := hxt5.heap b4
        obtain ⟨k4, f4⟩ := row1 e4
        have hDa := hxt5.heap hDW
        have hDb := hxt5.heap hD1
        have hxw5 := hxw.trans hxt5
        go_wp2_with fail
        have hks := KeepsOthers.setCell w5 ⟨w.heap.size + 1 + 1, 0, none⟩ (.bool true)
        have hD1s := hks.same _ _ (hxt5.heap hD1) rfl
        have hD0s := hks.same _ _ (hxt5.heap hDW) rfl
        have h4s := row1_set (.bool true) e4
        obtain ⟨Ws, hWs⟩ : ∃ Ws, Ws = w5.setCell ⟨w.heap.size + 1 + 1, 0, none⟩ (.bool true) := ⟨_, rfl⟩
        have hxs : Ext w Ws := by rw [hWs]; exact hxw5.setCell (p := ⟨w.heap.size + 1 + 1, 0, none⟩) (show w.heap.size ≤ w.heap.size + 1 + 1 by omega) _
        rw [← hWs] at hD1s hD0s h4s ⊢
        have hD0p : (Ws.putObj D1 (.deferred none)).heap[D0]? = some (.deferred (some [])) := (World.putObj_heap_other (by omega)).trans hD0s
        have h4p : ((Ws.putObj D1 (.deferred none)).putObj D0 (.deferred none)).heap[w.heap.size + 1 + 1]? = some (.cells #[.bool true] 4 (0, 0)) := (World.putObj_heap_other (by omega)).trans ((World.putObj_heap_other (by omega)).trans h4s)
        have hxp : Ext w ((Ws.putObj D1 (.deferred none)).putObj D0 (.deferred none)) := Ext.of_grown (Ext.of_grown hxs (grown_put hD1s) (by omega)) (grown_put hD0p) (by omega)
        have hcp := (row1 h4p).1
        refine ⟨by simp, .inl ⟨_, _, rfl, run_takeDeferred hD1s, ?_⟩⟩
        refine ⟨by simp, .inl ⟨_, _, rfl, run_takeDeferred hD0p, ?_⟩⟩
        exact ⟨.bool true, by simp [results, Try.results5, go_sem, hcp], rfl, hxp⟩
end Go.Proofs.Ytmbmhepmeajnoaa.derElements
