/- Flags: Parse. -/
import Derived.Test.YtigjecmhhjjenaaDoorFl5
import Derived.Test.YtigjecmhhjjenaaDoorRangeN
import Derived.Deep.DeepCutAuto
namespace Go.Proofs.YtigjecmhhjjenaaDoor
open Go Go.RowKit
set_option linter.unusedVariables false

/-- What is kept by the loop over the words: the flags so far, at block n. -/
def WdI (w : World) (n : Nat) (pre : List ByteArray) (W : World) : Prop := ∃ f : W32, FB W n f ∧ Ext w W ∧ ∀ rest, parseW 0#32 (dtb pre ++ rest) = parseW f rest
def WdX (w : World) (n : Nat) (c : Code) (pre : List ByteArray) (W : World) : Prop := c = .exit 0 ∧ ∃ f : W32, FB W n f ∧ Ext w W ∧ ∀ rest, parseW 0#32 (dtb pre ++ rest) = f
theorem WdI.stab {B0 : Nat} {w : World} (h : w.heap.size ≤ B0) (n : Nat) (pre : List ByteArray) : Stab B0 (WdI w n pre) := Stab.ex fun f => (FB.stab _ _ _).and ((Stab.ext w h).and (Stab.pure _))
theorem WdX.stab {B0 : Nat} {w : World} (h : w.heap.size ≤ B0) (n : Nat) (c : Code) (pre : List ByteArray) : Stab B0 (WdX w n c pre) := (Stab.pure _).and (Stab.ex fun f => (FB.stab _ _ _).and ((Stab.ext w h).and (Stab.pure _)))
/-- What the loop over the flags keeps: x, the word, lies at block m; W0: the world of the round's beginning, Bo: the outer loop's. -/
structure FlB (w W0 : World) (Bo n : Nat) (s : ByteArray) (bs bp bv : Nat) (pre : List ByteArray) (f : W32) (W : World) : Prop where
  fb : FB W n f
  it : SbIt 44 s bs bp bv pre W
  ex : Ext w W
  kf : KeepsFrom Bo W0 W
theorem FlB.stab {B0 : Nat} {w W0 : World} {Bo n : Nat} (h : w.heap.size ≤ B0) (h0 : W0.heap.size ≤ B0) (s : ByteArray) (bs bp bv : Nat) (pre : List ByteArray) (f : W32) : Stab B0 (FlB w W0 Bo n s bs bp bv pre f) := fun W W' l hl hn hg hh =>
  ⟨FB.stab B0 _ _ W W' l hl hn hg hh.fb, SbIt.stab 44 B0 _ _ _ _ _ W W' l hl hn hg hh.it, Stab.ext w h W W' l hl hn hg hh.ex, Stab.keeps Bo W0 h0 W W' l hl hn hg hh.kf⟩
theorem FlB.ext {w W0 W W' : World} {Bo n : Nat} {s : ByteArray} {bs bp bv : Nat} {pre : List ByteArray} {f : W32} (h : FlB w W0 Bo n s bs bp bv pre f W) (hx : Ext W W') : FlB w W0 Bo n s bs bp bv pre f W' :=
  ⟨h.fb.ext hx, h.it.ext hx, h.ex.trans hx, h.kf.trans (hx.keeps Bo)⟩
def FlX (w W0 : World) (Bo n : Nat) (s : ByteArray) (bs bp bv : Nat) (pre : List ByteArray) (x : ByteArray) (f : W32) (c : Code) (W : World) : Prop :=
  (c = .exit 0 ∧ FlB w W0 Bo n s bs bp bv pre f W ∧ ∀ rest, parseW f (x.data.toList :: rest) = f) ∨ (c = .exit 1 ∧ ∃ g : W32, FlB w W0 Bo n s bs bp bv pre g W ∧ ∀ rest, parseW f (x.data.toList :: rest) = parseW g rest)
theorem FlX.stab {B0 : Nat} {w W0 : World} {Bo n : Nat} (h : w.heap.size ≤ B0) (h0 : W0.heap.size ≤ B0) (s : ByteArray) (bs bp bv : Nat) (pre : List ByteArray) (x : ByteArray) (f : W32) (c : Code) : Stab B0 (FlX w W0 Bo n s bs bp bv pre x f c) := fun W W' l hl hn hg hh => by
  rcases hh with ⟨e, hb, hp⟩ | ⟨e, g, hb, hp⟩
  · exact .inl ⟨e, FlB.stab h h0 s bs bp bv pre f W W' l hl hn hg hb, hp⟩
  · exact .inr ⟨e, g, FlB.stab h h0 s bs bp bv pre g W W' l hl hn hg hb, hp⟩
/-- What Parse hands back. -/
def PFl (l : List UInt8) (e : Ending) : Prop :=
  (∃ f : W32, nmB f = true ∧ textF f = l ∧ e = .returned (.tuple #[.int .u32 (f.toNat : Int), .int .i64 0])) ∨
  ((∀ f : W32, nmB f = true → textF f ≠ l) ∧ e = .returned (.tuple #[.int .u32 0, .int .i64 6]))
theorem ownb_far {A B : World} {r : Option Nat} {b n : Nat} {o : Obj} (hr : ∀ k, r = some k → k = b) (hg : A.grownBy B r) (hb : n ≠ b) (h : A.heap[n]? = some o) : B.heap[n]? = some o :=
  (hg.block n (Array.getElem?_eq_some_iff.1 h).1 (fun e => by have := hr n e.symm; omega)).trans h
theorem ownb_ext {w A B : World} {r : Option Nat} {b : Nat} (hr : ∀ k, r = some k → k = b) (hg : A.grownBy B r) (hb : w.heap.size ≤ b) (h : Ext w A) : Ext w B := h.grown hg (fun k hk => by have := hr k hk; omega)
theorem no_text {s : List UInt8} {f : W32} (hp : parseW 0#32 (splb 44 [] s) = f) (h : nmB f = true → textF f ≠ s) : ∀ g : W32, nmB g = true → textF g ≠ s := fun g hg e => by
  have := text_parse hg
  rw [e, hp] at this
  subst this
  exact h hg e
attribute [local go_sem] Oper.semAt_some

set_option maxRecDepth 100000 in
set_option maxHeartbeats 4000000 in
theorem FParse_at (s : ByteArray) (hs : s.size ≤ 1000) (w : World) :
    Calls Tryd.prog 20 #[.string s] w fun e w' => PFl s.data.toList e ∧ Ext w w' := by
  have HS := Lib.hid (show s.size ≤ 4294967280 by omega)
  clear hs
  refine calls_of_marks Tryd.func20 rfl ?_
  simp only [Tryd.ntmps20, List.size_toArray, List.length_cons, List.length_nil, Nat.reduceAdd, Nat.reduceSub, Array.replicate_succ, Array.replicate_zero, List.push_toArray, List.append_toArray, List.nil_append, List.cons_append]
  by_cases hd : s.data.toList = [45]
  · have e1 : s.toList = [45] := by rw [ByteArray.toList_eq]; exact hd
    have e2 : (s.toList == [45]) = true := by rw [e1]; rfl
    have HD := Lib.hid hd
    clear hd e1
    go_wp2_with fail
    go_step3
    go_wp2_with fail
    try rw [Exit.noGoto_ret]
    exact ⟨.tuple #[.int .u32 0, .int .i64 0], by simp [results, Tryd.results20, go_sem], .inl ⟨0#32, by decide, by rw [HD.out]; rfl, rfl⟩, Ext.refl _⟩
  · have e1 : ¬ s.toList = [45] := by rw [ByteArray.toList_eq]; exact hd
    have e2 : (s.toList == [45]) = false := by rw [beq_eq_false_iff_ne]; exact e1
    have HD := Lib.hid hd
    clear hd e1
    have h0 := heap_alloc_new w (.cells #[.int .u32 0] 24)
    have hx0 := (Ext.refl w).alloc (.cells #[.int .u32 0] 24)
    obtain ⟨w1, hw1⟩ : ∃ w1, w.alloc (.cells #[.int .u32 0] 24) = w1 := ⟨_, rfl⟩
    have hz1 : w1.heap.size = w.heap.size + 1 := by rw [← hw1]; simp
    rw [hw1] at h0 hx0
    have H0 := Lib.hid (show FB w1 w.heap.size 0#32 from h0); have HX0 := Lib.hid hx0; have HZ1 := Lib.hid hz1
    clear h0 hx0 hz1
    go_wp2_with fail
    go_step3
    go_wp2_with fail
    go_step3
    go_wp2_with fail
    refine (SplitSeqB_at 44 s w1).mono ?_
    rintro _ wb ⟨rfl, hit, hzb, hxb⟩
    have HIT := Lib.hid hit; have HZB := Lib.hid hzb; have HXB := Lib.hid (HX0.out.trans hxb); have HFB := Lib.hid (H0.out.ext hxb)
    clear hit hzb hxb hw1 e2
    go_wp2_with fail
    refine wpIn_wide.1 (wp_rangePR (gf := 78) (lb := #[.pointer (some ⟨w1.heap.size + 1, 0, none⟩), .pointer (some ⟨w1.heap.size, 0, none⟩), .pointer (some ⟨w1.heap.size + 1 + 1, 0, none⟩)]) rfl (Go.Proofs.enters_of Tryd.func78 (by kernel_rfl) rfl)
      (splitb_iter 44 s HS.out w1.heap.size (w1.heap.size + 1) (w1.heap.size + 1 + 1) (by omega) (by omega)) (fun _ => rfl) (fun k hk => by have := HZB.out; omega) HIT.out (fun pre => SbIt.stab _ _ _ _ _ _ _)
      (fun pre W => WdI w w.heap.size pre W) (fun cd pre W => WdX w w.heap.size cd pre W) (fun pre => WdI.stab HXB.out.size _ _) (fun cd pre => WdX.stab HXB.out.size _ _ _)
      (fun pre X Y r hr hg ⟨f, h1, h2, h3⟩ => ⟨f, ownb_far hr hg (by have := HZ1.out; omega) h1, ownb_ext hr hg (by have := HZ1.out; omega) h2, h3⟩)
      (fun cd pre X Y r hr hg ⟨hc, f, h1, h2, h3⟩ => ⟨hc, f, ownb_far hr hg (by have := HZ1.out; omega) h1, ownb_ext hr hg (by have := HZ1.out; omega) h2, h3⟩)
      ⟨0#32, HFB.out, HXB.out, fun rest => rfl⟩ ?_ ?_ ?_)
    · intro L pre x W hL hnL hzW hIW hitW hGW
      have HXA := Lib.hid ((Ext.refl W).alloc (.cells #[.string x] 9))
      gi_wp2_with fail
      refine ⟨HXA.out.keeps _, fun W2 hg2 hn2 hsz2 hrec => ?_⟩
      obtain ⟨f, hf, hxf, hpf⟩ := (WdI.stab (B0 := wb.heap.size) HXB.out.size w.heap.size pre) _ W2 L hL hn2 hg2 ((WdI.stab (B0 := wb.heap.size) HXB.out.size w.heap.size pre).later HXA.out hIW)
      have hit2 := (SbIt.stab 44 wb.heap.size s w1.heap.size (w1.heap.size + 1) (w1.heap.size + 1 + 1) pre) _ W2 L hL hn2 hg2 ((SbIt.stab 44 wb.heap.size s w1.heap.size (w1.heap.size + 1) (w1.heap.size + 1 + 1) pre).later HXA.out hitW)
      have hb2 := (Stab.heap (B := wb.heap.size) W.heap.size #[.string x] 9 (0, 0)) _ W2 L hL hn2 hg2 (heap_alloc_new W (.cells #[.string x] 9))
      have HF := Lib.hid hf; have HXF := Lib.hid hxf; have HPF := Lib.hid hpf; have HIT2 := Lib.hid hit2; have HB2 := Lib.hid hb2; have HREC := Lib.hid hrec
      have HZ2 := Lib.hid (show wb.heap.size ≤ W2.heap.size by have := HXA.out.size; rw [hsz2]; omega)
      clear hIW hitW hGW hg2 hn2 hnL hsz2 hf hxf hpf hit2 hb2 hrec
      have HA2 := Lib.hid ((Ext.refl W2).alloc (.cells #[.int .u32 4095, .int .u32 2031807] 24))
      have HR2 := Lib.hid (show RS (W2.alloc (.cells #[.int .u32 4095, .int .u32 2031807] 24)) (.slice (some ⟨W2.heap.size, 0, none⟩) 2 2) (fvs [tkM, opM]) from RS.new W2 _ (fvs [tkM, opM]) (by decide))
      gi_wp2_with fail
      refine wide_callR (union2_at tkM opM _ _ _ HR2.out) ?_
      rintro _ W3' ⟨rfl, rfl⟩
      gi_wp2_with fail
      refine wide_callR (Each_at (orW tkM opM) _) ?_
      rintro _ W3 ⟨rfl, hfb3, hz3, hx3⟩
      have HX3 := Lib.hid (HA2.out.trans hx3); have HFB3 := Lib.hid (show FB W3 (W2.alloc (.cells #[.int .u32 4095, .int .u32 2031807] 24)).heap.size allW from hfb3)
      have HS3 := Lib.hid (show w.heap.size ≤ W3.heap.size by have := HXF.out.size; have := HX3.out.size; omega)
      have HS2 := Lib.hid (show W2.heap.size ≤ W3.heap.size from HX3.out.size)
      simp only [World.size_alloc] at hz3 HFB3
      clear hfb3 hz3 hx3
      simp only [World.size_alloc]
      gi_wp2_with fail
      refine wp_rangeMN (l0 := L) ?hrec (gf := 41) (lb := #[.pointer (some ⟨W2.heap.size + 1, 0, none⟩)]) rfl (Go.Proofs.enters_of Tryd.func41 (by kernel_rfl) rfl)
        (each_iter allW (W2.heap.size + 1)) (fun _ => rfl) (fun k hk => hk.elim) HFB3.out (FB.stab _ _ _)
        (fun pre' V => FlB w W2 wb.heap.size w.heap.size s w1.heap.size (w1.heap.size + 1) (w1.heap.size + 1 + 1) pre f V ∧ V.heap[W.heap.size]? = some (.cells #[.string x] 9 (0, 0)) ∧ ∀ j ∈ pre', (nmS j).data.toList ≠ x.data.toList)
        (fun cd pre' V => FlX w W2 wb.heap.size w.heap.size s w1.heap.size (w1.heap.size + 1) (w1.heap.size + 1 + 1) pre x f cd V)
        (fun pre' => (FlB.stab HS3.out HS2.out _ _ _ _ _ _).and ((Stab.heap _ _ _ _).and (Stab.pure _))) (fun cd pre' => FlX.stab HS3.out HS2.out _ _ _ _ _ _ _ _)
        (fun pre' X Y r hr hg h => ?hio) (fun cd pre' X Y r hr hg h => ?hixo) ⟨⟨HF.out.ext HX3.out, HIT2.out.ext HX3.out, HXF.out.trans HX3.out, HX3.out.keeps _⟩, HX3.out.heap HB2.out, fun j hj => by cases hj⟩ ?hround ?hdone ?hstop
      case hrec => obtain ⟨r, hr⟩ := HREC.out; exact ⟨r, HX3.out.heap hr⟩
      case hio =>
        have hn : r = none := by cases r with | none => rfl | some k => exact (hr k rfl).elim
        subst hn
        have hx := grown_of_ext hg
        exact ⟨h.1.ext hx, hx.heap h.2.1, h.2.2⟩
      case hixo =>
        have hn : r = none := by cases r with | none => rfl | some k => exact (hr k rfl).elim
        subst hn
        have hx := grown_of_ext hg
        rcases h with ⟨e, hb, hp⟩ | ⟨e, g, hb, hp⟩
        · exact .inl ⟨e, hb.ext hx, hp⟩
        · exact .inr ⟨e, g, hb.ext hx, hp⟩
      case hround =>
        intro L2 pre2 k2 V3 hL2 hnL2 hzV3 hIV hitV hGV
        simp only [eachEnc]
        gi_wp2_with fail
        refine ⟨KeepsFrom.refl _ _, fun V4 hg4 hn4 hsz4 => ?_⟩
        have hI4 := (FlB.stab (B0 := W3.heap.size) HS3.out HS2.out s _ _ _ pre f) V3 V4 L2 hL2 hn4 hg4 hIV.1
        have hb4 := (Stab.heap (B := W3.heap.size) W.heap.size #[.string x] 9 (0, 0)) V3 V4 L2 hL2 hn4 hg4 hIV.2.1
        have hit4 := (FB.stab W3.heap.size _ allW) V3 V4 L2 hL2 hn4 hg4 hitV
        have hne2 := hIV.2.2
        obtain ⟨g1, g2, rfl⟩ := hGV
        have k0 := (row1 hI4.fb).1; have k1 := (row1 hb4).1; have f0 := (row1 hI4.fb).2
        have HI4 := Lib.hid hI4; have HB4 := Lib.hid hb4; have HIT4 := Lib.hid hit4; have HG1 := Lib.hid g1; have HNE := Lib.hid hne2
        clear hIV hitV hg4 hn4 hnL2 hsz4 hI4 hb4 hit4 g1 hne2
        by_cases he : (nmS k2).data.toList = x.data.toList
        · have e4 : ((nmS k2).toList == x.toList) = true := by rw [ByteArray.toList_eq, ByteArray.toList_eq, he]; exact beq_self_eq_true _
          have HF := Lib.hid (find_at g2 HG1.out (fun j hj => HNE.out j hj) he)
          clear he
          by_cases hle : (bitW k2).toNat ≤ f.toNat
          · have hle2 : ((bitW k2).toNat : Int) ≤ (f.toNat : Int) := by omega
            have HP := Lib.hid (fun rest => parse_stop rest HF.out hle)
            clear hle
            gi_wp2_with fail
            exact ⟨KeepsFrom.refl _ _, .inl ⟨rfl, HI4.out, HP.out⟩⟩
          · have hle2 : (f.toNat : Int) < ((bitW k2).toNat : Int) := by omega
            have HP := Lib.hid (fun rest => parse_go rest HF.out hle)
            clear hle
            have HA := Lib.hid ((Ext.refl V4).alloc (.cells #[.int .u32 (f.toNat : Int), .int .u32 ((bitW k2).toNat : Int)] 24))
            have HR := Lib.hid (show RS (V4.alloc (.cells #[.int .u32 (f.toNat : Int), .int .u32 ((bitW k2).toNat : Int)] 24)) (.slice (some ⟨V4.heap.size, 0, none⟩) 2 2) (fvs [f, bitW k2]) from RS.new V4 _ (fvs [f, bitW k2]) (by simp [fvs, maxLen]))
            have HI5 := Lib.hid (HI4.out.ext HA.out)
            have k5 := (row1 HI5.out.fb).1; have f5 := (row1 HI5.out.fb).2
            gi_wp2_with fail
            refine wide_callR (union2_at f (bitW k2) _ _ _ HR.out) ?_
            rintro _ V5 ⟨rfl, rfl⟩
            gi_wp2_with fail
            refine ⟨HA.out.keepsOthers.from _ |>.trans ((KeepsOthers.setCell _ ⟨w.heap.size, 0, none⟩ _).from _), .inr ⟨rfl, orW f (bitW k2), ⟨row1_set _ HI5.out.fb, ?_, ?_, ?_⟩, HP.out⟩⟩
            · exact ⟨heap_far (grown_set1 _ _ _) HI5.out.it.1 (by have := HZ1.out; omega), heap_far (grown_set1 _ _ _) HI5.out.it.2.1 (by have := HZ1.out; omega), heap_far (grown_set1 _ _ _) HI5.out.it.2.2 (by have := HZ1.out; omega)⟩
            · exact HI5.out.ex.setCell (p := ⟨w.heap.size, 0, none⟩) (Nat.le_refl _) _
            · exact HI5.out.kf.trans ((KeepsOthers.setCell _ ⟨w.heap.size, 0, none⟩ _).from _)
        · have e4 : ((nmS k2).toList == x.toList) = false := by rw [ByteArray.toList_eq, ByteArray.toList_eq, beq_eq_false_iff_ne]; exact he
          have HE := Lib.hid he
          clear he
          gi_wp2_with fail
          refine ⟨KeepsFrom.refl _ _, HIT4.out, HI4.out, HB4.out, fun j hj => ?_⟩
          rw [List.mem_append, List.mem_singleton] at hj
          rcases hj with hj | rfl
          · exact fun e => HNE.out j hj (by rw [e])
          · exact fun e => HE.out (by rw [e])
      case hdone =>
        rintro xs V3 rfl ⟨h1, h2, h3⟩ hit3
        have HP := Lib.hid (fun rest => parse_none (f := f) rest h3)
        clear h2 h3 hit3
        gi_wp2_with fail
        exact ⟨h1.kf, rfl, f, h1.fb, h1.ex, fun rest => by rw [show dtb (pre ++ [x]) = dtb pre ++ [x.data.toList] by simp [dtb], List.append_assoc, HPF.out]; exact HP.out rest⟩
      case hstop =>
        rintro cd pre' V3 hsp hx
        rcases hx with ⟨rfl, hb, hp⟩ | ⟨rfl, g, hb, hp⟩
        · gi_wp2_with fail
          exact ⟨hb.kf, rfl, f, hb.fb, hb.ex, fun rest => by rw [show dtb (pre ++ [x]) = dtb pre ++ [x.data.toList] by simp [dtb], List.append_assoc, HPF.out]; exact hp rest⟩
        · gi_wp2_with fail
          exact ⟨hb.kf, hb.it, g, hb.fb, hb.ex, fun rest => by rw [show dtb (pre ++ [x]) = dtb pre ++ [x.data.toList] by simp [dtb], List.append_assoc, HPF.out]; exact hp rest⟩
    · rintro D xs W hDw hSx ⟨f, hfW, hxW, hp⟩ hD
      have hpW : parseW 0#32 (splb 44 [] s.data.toList) = f := by have := hp []; rw [List.append_nil, hSx] at this; exact this
      clear hp hSx
      have HX2 := Lib.hid hxW; have HD := Lib.hid hD; have HFW := Lib.hid hfW; have HPW := Lib.hid hpW
      have k0 := (row1 hfW).1
      clear hxW hD hfW hpW
      cases hv : nmB f with
      | false =>
        have HT := Lib.hid (Text_no f hv W)
        have HV := Lib.hid hv
        clear hv
        go_wp2_with fail
        refine HT.out.mono ?_
        rintro _ w5 ⟨rfl, hx5⟩
        have HX5 := Lib.hid (HX2.out.trans hx5); have HD5 := Lib.hid (hx5.heap HD.out)
        clear hx5 k0
        have hxp : Ext w (w5.putObj D (.deferred none)) := Ext.of_grown HX5.out (grown_put HD5.out) (by have := HXB.out.size; omega)
        have HXP := Lib.hid hxp
        clear hxp
        go_wp2_with fail
        refine ⟨by simp, .inl ⟨_, _, rfl, run_takeDeferred HD5.out, ?_⟩⟩
        try rw [Exit.noGoto_ret]
        exact ⟨.tuple #[.int .u32 0, .int .i64 6], by simp [results, Tryd.results20, go_sem], .inr ⟨no_text HPW.out (fun h => by rw [HV.out] at h; cases h), rfl⟩, HXP.out⟩
      | true =>
        have hT := Text_ok f hv W
        obtain ⟨T, hTe⟩ : ∃ T, textF f = T := ⟨_, rfl⟩
        rw [hTe] at hT
        have HT := Lib.hid hT; have HTE := Lib.hid hTe; have HV := Lib.hid hv
        clear hv hT hTe
        by_cases he : T = s.data.toList
        · have e3 : (T == s.toList) = true := by rw [ByteArray.toList_eq, he]; exact beq_self_eq_true _
          have HE := Lib.hid he
          clear he
          go_wp2_with fail
          refine HT.out.mono ?_
          rintro _ w5 ⟨rfl, hx5⟩
          have HX5 := Lib.hid (HX2.out.trans hx5); have HD5 := Lib.hid (hx5.heap HD.out)
          have k5 := (row1 (HFW.out.ext hx5)).1
          clear hx5 k0
          have hxp : Ext w (w5.putObj D (.deferred none)) := Ext.of_grown HX5.out (grown_put HD5.out) (by have := HXB.out.size; omega)
          have HXP := Lib.hid hxp
          clear hxp
          go_wp2_with fail
          refine ⟨by simp, .inl ⟨_, _, rfl, run_takeDeferred HD5.out, ?_⟩⟩
          try rw [Exit.noGoto_ret]
          exact ⟨.tuple #[.int .u32 (f.toNat : Int), .int .i64 0], by simp [results, Tryd.results20, go_sem], .inl ⟨f, HV.out, HTE.out.trans HE.out, rfl⟩, HXP.out⟩
        · have e3 : (T == s.toList) = false := by rw [ByteArray.toList_eq, beq_eq_false_iff_ne]; exact he
          have HE := Lib.hid he
          clear he
          go_wp2_with fail
          refine HT.out.mono ?_
          rintro _ w5 ⟨rfl, hx5⟩
          have HX5 := Lib.hid (HX2.out.trans hx5); have HD5 := Lib.hid (hx5.heap HD.out)
          clear hx5 k0
          have hxp : Ext w (w5.putObj D (.deferred none)) := Ext.of_grown HX5.out (grown_put HD5.out) (by have := HXB.out.size; omega)
          have HXP := Lib.hid hxp
          clear hxp
          go_wp2_with fail
          refine ⟨by simp, .inl ⟨_, _, rfl, run_takeDeferred HD5.out, ?_⟩⟩
          try rw [Exit.noGoto_ret]
          exact ⟨.tuple #[.int .u32 0, .int .i64 6], by simp [results, Tryd.results20, go_sem], .inr ⟨no_text HPW.out (fun _ h => HE.out (HTE.out.symm.trans h)), rfl⟩, HXP.out⟩
    · rintro D cd pre W hDw ⟨rest, hrest⟩ ⟨rfl, f, hfW, hxW, hp⟩ hD
      have hpW : parseW 0#32 (splb 44 [] s.data.toList) = f := by rw [hrest]; exact hp rest
      clear hp hrest
      refine wpIn_wide.2 ?_
      have HX2 := Lib.hid hxW; have HD := Lib.hid hD; have HFW := Lib.hid hfW; have HPW := Lib.hid hpW
      have k0 := (row1 hfW).1
      clear hxW hD hfW hpW
      cases hv : nmB f with
      | false =>
        have HT := Lib.hid (Text_no f hv W)
        have HV := Lib.hid hv
        clear hv
        go_wp2_with fail
        refine HT.out.mono ?_
        rintro _ w5 ⟨rfl, hx5⟩
        have HX5 := Lib.hid (HX2.out.trans hx5); have HD5 := Lib.hid (hx5.heap HD.out)
        clear hx5 k0
        have hxp : Ext w (w5.putObj D (.deferred none)) := Ext.of_grown HX5.out (grown_put HD5.out) (by have := HXB.out.size; omega)
        have HXP := Lib.hid hxp
        clear hxp
        go_wp2_with fail
        refine ⟨by simp, .inl ⟨_, _, rfl, run_takeDeferred HD5.out, ?_⟩⟩
        try rw [Exit.noGoto_ret]
        exact ⟨.tuple #[.int .u32 0, .int .i64 6], by simp [results, Tryd.results20, go_sem], .inr ⟨no_text HPW.out (fun h => by rw [HV.out] at h; cases h), rfl⟩, HXP.out⟩
      | true =>
        have hT := Text_ok f hv W
        obtain ⟨T, hTe⟩ : ∃ T, textF f = T := ⟨_, rfl⟩
        rw [hTe] at hT
        have HT := Lib.hid hT; have HTE := Lib.hid hTe; have HV := Lib.hid hv
        clear hv hT hTe
        by_cases he : T = s.data.toList
        · have e3 : (T == s.toList) = true := by rw [ByteArray.toList_eq, he]; exact beq_self_eq_true _
          have HE := Lib.hid he
          clear he
          go_wp2_with fail
          refine HT.out.mono ?_
          rintro _ w5 ⟨rfl, hx5⟩
          have HX5 := Lib.hid (HX2.out.trans hx5); have HD5 := Lib.hid (hx5.heap HD.out)
          have k5 := (row1 (HFW.out.ext hx5)).1
          clear hx5 k0
          have hxp : Ext w (w5.putObj D (.deferred none)) := Ext.of_grown HX5.out (grown_put HD5.out) (by have := HXB.out.size; omega)
          have HXP := Lib.hid hxp
          clear hxp
          go_wp2_with fail
          refine ⟨by simp, .inl ⟨_, _, rfl, run_takeDeferred HD5.out, ?_⟩⟩
          try rw [Exit.noGoto_ret]
          exact ⟨.tuple #[.int .u32 (f.toNat : Int), .int .i64 0], by simp [results, Tryd.results20, go_sem], .inl ⟨f, HV.out, HTE.out.trans HE.out, rfl⟩, HXP.out⟩
        · have e3 : (T == s.toList) = false := by rw [ByteArray.toList_eq, beq_eq_false_iff_ne]; exact he
          have HE := Lib.hid he
          clear he
          go_wp2_with fail
          refine HT.out.mono ?_
          rintro _ w5 ⟨rfl, hx5⟩
          have HX5 := Lib.hid (HX2.out.trans hx5); have HD5 := Lib.hid (hx5.heap HD.out)
          clear hx5 k0
          have hxp : Ext w (w5.putObj D (.deferred none)) := Ext.of_grown HX5.out (grown_put HD5.out) (by have := HXB.out.size; omega)
          have HXP := Lib.hid hxp
          clear hxp
          go_wp2_with fail
          refine ⟨by simp, .inl ⟨_, _, rfl, run_takeDeferred HD5.out, ?_⟩⟩
          try rw [Exit.noGoto_ret]
          exact ⟨.tuple #[.int .u32 0, .int .i64 6], by simp [results, Tryd.results20, go_sem], .inr ⟨no_text HPW.out (fun _ h => HE.out (HTE.out.symm.trans h)), rfl⟩, HXP.out⟩
end Go.Proofs.YtigjecmhhjjenaaDoor
