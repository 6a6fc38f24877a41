/- Texts laid together (wip/tools/automerge.py): Da21, Der20, Der22. -/
import Derived.Test.YthpfomjibfbiiaaGreatDoorMg41
import Derived.Test.YthpfomjibfbiiaaGreatDoorMg10
import Derived.Defers
import Derived.Recover
namespace Go.Proofs.YthpfomjibfbiiaaGreatDoor
open Go Go.RowKit
set_option linter.unusedVariables false

def DaRel (w : World) (g : Nat) (l : List UInt8) (kk : Nat) (g1 : Nat) (x : List UInt8) (L0 : List (Int × List UInt8)) (j : Nat) (Lr Rs : List (Int × List UInt8)) (V : Value) (wr : World) : Prop :=
  j ≤ x.length ∧ L0 = Lr ++ Rs ∧ x.drop j = flatP Rs ∧ DOV 62 wr w.heap.size V Lr ∧ V.ownBlock ≠ some g1 ∧ w.grownBy wr (some g) ∧ RD 72 wr g l kk ∧ RD 72 wr g1 x j
def DaPost (w : World) (g : Nat) (l : List UInt8) (kk : Nat) (L0 : List (Int × List UInt8)) (e : Ending) (w' : World) : Prop := w.grownBy w' (some g) ∧ ∃ V, e = .returned V ∧ DOV 62 w' w.heap.size V L0 ∧ RD 72 w' g l kk
set_option maxRecDepth 100000 in
set_option maxHeartbeats 4000000 in
theorem Data1_ok (g : Nat) (l : List UInt8) (k : Nat) (m : List UInt8) (hm : l.drop k = m) (hl0 : m.length ≤ 900) (L0 : List (Int × List UInt8)) (rest : List UInt8) (hL : dataF L0 ≠ []) (hmm : m = dataF L0 ++ rest) (w : World) (h : RD 72 w g l k) :
    Calls Tryz.prog 64 #[.pointer (some ⟨g, 0, none⟩)] w (DaPost w g l (k + (dataF L0).length) L0) := by
  obtain ⟨i0, hi, hz0, hz1, hz2⟩ := info_parts datinfo
  have hgl := h.lt
  obtain ⟨h16, hne0, heq, hxl, hxl2⟩ := dataF_some hL
  obtain ⟨us, hus⟩ : ∃ us, (dataF L0).length = us := ⟨_, rfl⟩
  have hml : us ≤ m.length := by rw [hmm, List.length_append, hus]; omega
  obtain ⟨x, hxx⟩ : ∃ x, flatP L0 = x := ⟨_, rfl⟩
  have hx : readInF 48 m = (some x, 0, us) := by
    have h1 := readIn_enc 48 (flatP L0) rest hxl
    rw [← heq, ← hmm, hus, hxx] at h1
    exact h1
  rw [hxx, hus] at hxl2
  have HS := Lib.hid (RdSequence_at g l k m hm _ _ _ hx w h)
  have HPL := Lib.hid (show ∀ q ∈ L0, pairF q.1 q.2 ≠ [] ∧ (pairF q.1 q.2).length ≤ 900 from fun q hq => ⟨hne0 q hq, by have h1 := flatP_mem hq; rw [hxx] at h1; omega⟩)
  have H16 := Lib.hid h16; have HXX := Lib.hid hxx
  have hx900 : x.length ≤ 900 := by omega
  rw [hus]
  clear hx hmm hL heq hxl hus hm hxx hne0 h16
  go_enter Tryz.func64, Tryz.ntmps64
  go_wp2_with fail
  refine HS.out.mono ?_
  rintro e w1 ⟨p, rfl, hg1, hr1, ⟨hx, _⟩ | ⟨x1, g1, hx, _, rfl, hB1, hr1'⟩⟩
  · cases hx
  injection hx with hx
  subst hx
  go_wp2_with fail
  refine (must_reader_ok _ _).mono ?_
  rintro e w2 ⟨rfl, rfl⟩
  go_wp2_with fail
  go_loopg [2] x.length (fun n v wr => ∃ j Lr Rs, n = x.length - j ∧ DaRel w g l (k + us) g1 x L0 j Lr Rs v wr)
  case atStart => exact ⟨0, [], L0, by omega, Nat.zero_le _, rfl, HXX.out.symm, DOV.nil _ _ _, by simp [Value.ownBlock], hg1, hr1, hr1'⟩
  case round =>
    obtain ⟨j, Lr, Rs, hn, hj, hsp, hdr, hdov, hob, hgr, hrr, hrx⟩ := hrel
    obtain ⟨A0, c0, rfl⟩ := hdov.shape
    have hg1l := hrx.lt
    have hBg1 : w.heap.size ≤ g1 := hB1
    have hob2 : (Value.slice A0 Lr.length c0).ownBlock ≠ some g := by
      intro e
      have := (hdov.lt g e).1
      omega
    by_cases hlt : j < x.length
    · cases Rs with
      | nil =>
        exfalso
        have h1 := congrArg List.length hdr
        rw [List.length_drop, flatP_nil, List.length_nil] at h1
        omega
      | cons q Rs =>
        obtain ⟨p0, b⟩ := q
        rw [flatP_cons] at hdr
        have hqm : (p0, b) ∈ L0 := by rw [hsp]; simp
        obtain ⟨y, u0, u1, hy, hyl, hyl2, f0, f1, hend⟩ := pair_enc p0 b (HPL.out _ hqm).1 (HPL.out _ hqm).2
        obtain ⟨u, hu⟩ : ∃ u, (pairF p0 b).length = u := ⟨_, rfl⟩
        have hx2 : readInF 48 (x.drop j) = (some y, 0, u) := by
          have h1 := readIn_enc 48 y (flatP Rs) hyl
          rw [← hy, hu] at h1
          rw [hdr]
          exact h1
        have hdu : x.drop (j + u) = flatP Rs := by
          rw [← List.drop_drop, hdr, ← hu]
          exact List.drop_left
        have hju : j + u ≤ x.length := by
          have h1 := congrArg List.length hdr
          rw [List.length_drop, List.length_append, hu] at h1
          omega
        have hyx : y.length < u := by rw [← hu]; exact hyl2
        have hL16 : Lr.length < 16 := by have h1 := H16.out; rw [hsp] at h1; simp at h1; omega
        have h16b : ((Lr.length : Int) == 16) = false := by rw [beq_eq_false_iff_ne]; omega
        obtain ⟨rn, hrn⟩ : ∃ rn, rn = x.length - j := ⟨_, rfl⟩
        have hp : (0 : Int) < rn := by omega
        have HRN := Lib.hid hrn; have HN := Lib.hid hn; have HOB := Lib.hid hob; have HOB2 := Lib.hid hob2
        have HD := Lib.hid hdov; have HGR := Lib.hid hgr; have HRR := Lib.hid hrr; have HRX := Lib.hid hrx
        have HSP := Lib.hid (show L0 = (Lr ++ [(p0, b)]) ++ Rs by rw [hsp, List.append_assoc]; rfl)
        have HDU := Lib.hid hdu; have HL16 := Lib.hid hL16; have HJU := Lib.hid hju
        have HSQ := Lib.hid (fun W hW => RdSequence_at g1 x j _ rfl _ _ _ hx2 W hW)
        have HF0 := Lib.hid (fun (W : World) (g' : Nat) => field_int_at g' y 0 y rfl 0 (by omega) _ _ _ f0 W)
        have HF1 := Lib.hid (fun (W : World) (g' : Nat) => field_bytes_at g' y u0 _ rfl 1 (by omega) _ _ _ f1 (by rw [List.length_drop]; omega) W)
        have HEN := Lib.hid hend
        have HUP := Lib.hid (show 0 < u by omega)
        clear hrn hn hob hob2 hdov hgr hrr hrx hsp hdr hdu hL16 hju hqm hy hyl hyl2 f0 f1 hend hu hx2 hyx
        go_wp2_with fail
        refine (Left_at g1 x j wr HRX.out).mono ?_
        rintro e w2 ⟨rfl, hx2⟩
        rw [← HRN.out]
        have HX2 := Lib.hid hx2; clear hx2
        go_wp2_with fail
        refine (HSQ.out w2 (HRX.out.ext HX2.out)).mono ?_
        rintro e w3 ⟨p, rfl, hg3, hr3, ⟨hx, _⟩ | ⟨x3, g2, hx, _, rfl, hB2, hr3'⟩⟩
        · cases hx
        injection hx with hx
        subst hx
        have hgr3 := grown_new (grown_ext HGR.out HX2.out) hg3 hBg1
        have hrr3 := (HRR.out.ext HX2.out).but (HRX.out.ext HX2.out) (by omega) hg3
        have hd3 := (HD.out.ext HX2.out).off (HRX.out.ext HX2.out).noU8 hg3 HOB.out
        have hg2s : g1 < g2 := by have := HX2.out.size; omega
        have hBg2 : w.heap.size ≤ g2 := by omega
        have hw3 := hg3.size
        go_wp2_with fail
        refine (must_reader_ok _ _).mono ?_
        rintro e w3b ⟨rfl, rfl⟩
        go_wp2_with fail
        refine (HF0.out w3 g2 hr3').mono ?_
        rintro e w4 ⟨hg4, ⟨he0, hr4', v0, rfl, rfl⟩ | ⟨he0, ⟨k4, hr4'⟩, he⟩⟩
        case' inr => exact absurd rfl he0
        have hgr4 := grown_new hgr3 hg4 hBg2
        have hrr4 := hrr3.but hr3' (by omega) hg4
        have hrl4 := hr3.but hr3' (by omega) hg4
        have hv2 : (Value.slice A0 Lr.length c0).ownBlock ≠ some g2 := by
          intro e
          have := (HD.out.lt g2 e).2
          have := HX2.out.size
          omega
        have hd4 := hd3.off hr3'.noU8 hg4 hv2
        rw [Nat.zero_add] at hr4'
        have HV2 := Lib.hid hv2; clear he0 hv2
        go_wp2_with fail
        refine (HF1.out w4 g2 hr4').mono ?_
        rintro e w5 ⟨hg5, ⟨he1, hr5', v1, rfl, A5, c5, rfl, hob5⟩ | ⟨he1, ⟨k5, hr5'⟩, he⟩⟩
        case' inr => exact absurd rfl he1
        have hgr5 := grown_new hgr4 hg5 hBg2
        have hrr5 := hrr4.but hr4' (by omega) hg5
        have hrl5 := hrl4.but hr4' (by omega) hg5
        have hd5 := hd4.off hr4'.noU8 hg5 HV2.out
        clear he1
        go_wp2_with fail
        refine (end_ok g2 y _ HEN.out _ hr5').mono ?_
        rintro e w6 ⟨rfl, hx6⟩
        have hgr6 := grown_ext hgr5 hx6
        have hrr6 := hrr5.ext hx6
        have hrl6 := hrl5.ext hx6
        have hd6 := hd5.ext hx6
        have hob6 := hob5.ext hx6
        have hwr6 : wr.heap.size ≤ w6.heap.size := by have := HX2.out.size; have := hg4.size; have := hg5.size; have := hx6.size; omega
        have h46 : w4.heap.size ≤ w6.heap.size := by have := hg5.size; have := hx6.size; omega
        have hr4s : wr.heap.size ≤ w4.heap.size := by have := HX2.out.size; have := hg4.size; omega
        have hw6 : w.heap.size ≤ w6.heap.size := hgr6.size
        have hgw6 : g < w6.heap.size := by omega
        have hg1w6 : g1 < w6.heap.size := by omega
        obtain ⟨W7, hW7⟩ : ∃ W7, w6.alloc (.cells #[.int .i64 p0, .slice A5 b.length c5] 62) = W7 := ⟨_, rfl⟩
        have hx7 : Ext w6 W7 := by rw [← hW7]; exact (Ext.refl _).alloc _
        have hcells := heap_alloc_new w6 (.cells #[.int .i64 p0, .slice A5 b.length c5] 62)
        rw [hW7] at hcells
        have hc0 : W7.cell? ((⟨w6.heap.size, 0, none⟩ : Addr).add 0) = some (.int .i64 p0) := by
          rw [show ((⟨w6.heap.size, 0, none⟩ : Addr).add 0) = ⟨w6.heap.size, 0, none⟩ from rfl, cell_of_row _ _ 0 _ _ (0, 0) hcells]; rfl
        have hc1 : W7.cell? ((⟨w6.heap.size, 0, none⟩ : Addr).add 1) = some (.slice A5 b.length c5) := by
          rw [show ((⟨w6.heap.size, 0, none⟩ : Addr).add 1) = ⟨w6.heap.size, 1, none⟩ from rfl, cell_of_row _ _ 1 _ _ (0, 0) hcells]; rfl
        have hs7 : W7.heap.size = w6.heap.size + 1 := by rw [← hW7]; simp
        have hap : b ≠ [] → ∀ b', (Value.slice A5 b.length c5).ownBlock = some b' → (Value.slice A0 Lr.length c0).ownBlock ≠ some b' := by
          intro _ b' hb' e
          have h1 := hob5.lt b' hb'
          have h2 := (HD.out.lt b' e).2
          omega
        have HC0 := Lib.hid hc0; have HC1 := Lib.hid hc1; have HS7 := Lib.hid hs7; have HAP := Lib.hid hap; have HX7 := Lib.hid hx7
        clear hc0 hc1 hs7 hap hcells hx7
        go_wp2_with (at_builtin; refine wpList_append_dov _ rfl (.tmp 30) (.tmp 34) 61 rfl w.heap.size 62 i0 (.agg #[.int .i64 0, .slice none 0 0]) 32 Tryz.underlying61 hi hz0 hz1 hz2 rfl dat_zero _ Lr rfl (hd6.ext HX7.out) ⟨w6.heap.size, 0, none⟩ 1 p0 A5 b.length c5 b rfl HC0.out HC1.out (hob6.bs.ext HX7.out) HAP.out (by have := HL16.out; omega) (by decide) (by have := HS7.out; omega) ?_; intro v7 w7 hd7 hg7 ho7)
        have hvg : ∀ r, (Value.slice A0 Lr.length c0).ownBlock = some r → NoU8 W7 r := (hd6.ext HX7.out).1
        have hg1n : g1 ≠ g := by omega
        have hob' : v7.ownBlock ≠ some g1 := by
          rcases ho7 with e | e
          · rw [e]; exact HOB.out
          · rw [e]; intro e2; injection e2 with e2; have := HS7.out; omega
        have hgr7 : w.grownBy w7 (some g) := grown_row (grown_ext hgr6 HX7.out) hg7 (fun r hr => (HD.out.lt r hr).1)
        have hrr7 : RD 72 w7 g l (k + us) := (hrr6.ext HX7.out).row hvg (fun r hr e => HOB2.out (by rw [e]; exact hr)) hg7
        have hrl7 : RD 72 w7 g1 x (j + u) := (hrl6.ext HX7.out).row hvg (fun r hr e => HOB.out (by rw [e]; exact hr)) hg7
        have hfin : DaRel w g l (k + us) g1 x L0 (j + u) (Lr ++ [(p0, b)]) Rs v7 w7 := ⟨HJU.out, HSP.out, HDU.out, hd7, hob', hgr7, hrr7, hrl7⟩
        go_roundg (x.length - (j + u))
        case measure => have := HN.out; have := HUP.out; omega
        case rel => exact ⟨j + u, Lr ++ [(p0, b)], Rs, rfl, hfin⟩
    · obtain rfl : j = x.length := by omega
      have hz : ¬ (0 : Int) < ((x.length - x.length : Nat) : Int) := by omega
      have hR0 : Rs = [] := by
        cases Rs with
        | nil => rfl
        | cons q Rs =>
          exfalso
          have h1 := (HPL.out q (by rw [hsp]; simp)).1
          rw [List.drop_length, flatP_cons] at hdr
          have h2 := congrArg List.length hdr
          rw [List.length_append, List.length_nil] at h2
          exact h1 (List.eq_nil_of_length_eq_zero (by omega))
      subst hR0
      have HLL := Lib.hid (show L0 = Lr by rw [hsp, List.append_nil])
      have HD := Lib.hid hdov; have HGR := Lib.hid hgr; have HRR := Lib.hid hrr; have HRX := Lib.hid hrx; have HN := Lib.hid hn
      clear hsp hdr hdov hgr hrr hrx hob hob2 hn
      go_wp2_with fail
      refine (Left_at g1 x x.length wr HRX.out).mono ?_
      rintro e w2 ⟨rfl, hx2⟩
      go_wp2_with fail
      go_ret
      refine ⟨grown_ext HGR.out hx2, _, rfl, ?_, HRR.out.ext hx2⟩
      rw [HLL.out]
      exact HD.out.ext hx2
end Go.Proofs.YthpfomjibfbiiaaGreatDoor
namespace Go.Proofs.YthpfomjibfbiiaaGreatDoor
open Go Go.RowKit

/-- What the deferred closure leaves: the reader's offset as it was, the zero value, the error. -/
def Fixed3 (w w' : World) (g k bv be : Nat) (er : Int) : Prop := ∃ W1, Ext w W1 ∧ w' = (((((W1.setCell ⟨g, 1, none⟩ (.int .i64 (k : Int))).setCell ⟨bv, 0, none⟩ (.int .i64 0)).setCell ⟨bv, 1, none⟩ (.int .i64 0)).setCell ⟨bv, 2, none⟩ (.slice none 0 0)).setCell ⟨be, 0, none⟩ (.int .i64 er)).drew
theorem B3.noU8 {T : TypeId} {w : World} {b : Nat} {x y : Int} {p : Option Addr} {n c : Nat} (hb : B3 T w b (.int .i64 x) (.int .i64 y) (.slice p n c)) : NoU8 w b := by
  intro q hq v hv
  unfold World.cell? at hv
  rw [hq, hb] at hv
  simp only at hv
  split at hv
  · cases hv
  · obtain ⟨hlt, he⟩ := Array.getElem?_eq_some_iff.1 hv
    have h3 : q.off = 0 ∨ q.off = 1 ∨ q.off = 2 := by simp at hlt; omega
    rcases h3 with h | h | h <;> simp [h] at he
theorem B1.noU8 {T : TypeId} {w : World} {b : Nat} {x : Int} (hb : B1 T w b (.int .i64 x)) : NoU8 w b := by
  intro q hq v hv
  unfold World.cell? at hv
  rw [hq, hb] at hv
  simp only at hv
  split at hv
  · cases hv
  · obtain ⟨hlt, he⟩ := Array.getElem?_eq_some_iff.1 hv
    have h3 : q.off = 0 := by simp at hlt; omega
    simp [h3] at he
theorem RD.off {T : TypeId} {w w' : World} {g b : Nat} {l : List UInt8} {k : Nat} (h : RD T w g l k) (hn : NoU8 w b) (hg : w.grownBy w' (some b)) (hne : g ≠ b) : RD T w' g l k := by
  obtain ⟨h1, A, c, hh, hbs⟩ := h
  exact ⟨h1, A, c, (hg.block g (Array.getElem?_eq_some_iff.1 hh).1 (by intro e; exact hne (by injection e))).trans hh, hbs.but hn hg⟩
theorem Fixed3.gives {T2 T3 : TypeId} {w w' : World} {g k bv be : Nat} {er x y : Int} {p : Option Addr} {n c : Nat} (hf : Fixed3 w w' g k bv be er) {l : List UInt8} {k' : Nat} (h : RD 72 w g l k') (hk : k ≤ l.length)
    (h2 : B3 T2 w bv (.int .i64 x) (.int .i64 y) (.slice p n c)) (h3 : B1 T3 w be (.int .i64 0)) (n1 : g ≠ bv) (n2 : g ≠ be) (n3 : bv ≠ be) :
    RD 72 w' g l k ∧ B3 T2 w' bv (.int .i64 0) (.int .i64 0) (.slice none 0 0) ∧ B1 T3 w' be (.int .i64 er) ∧ (∀ B, B ≤ bv → B ≤ be → B ≤ w.heap.size → ∀ w0 : World, w0.heap.size = B → w0.grownBy w (some g) → w0.grownBy w' (some g)) := by
  obtain ⟨W1, hx, rfl⟩ := hf
  have r1 := h.ext hx; have b1 := h2.ext hx; have e1 := h3.ext hx
  have g1 : W1.grownBy (W1.setCell ⟨g, 1, none⟩ (.int .i64 (k : Int))) (some g) := grown_set (grown_refl _ _) 1 _
  have r2 := r1.moved k hk _ rfl; have b2 := b1.far g1 n1.symm; have e2 := e1.far g1 n2.symm
  generalize W1.setCell ⟨g, 1, none⟩ (.int .i64 (k : Int)) = W2 at *
  have g2 : W2.grownBy (((W2.setCell ⟨bv, 0, none⟩ (.int .i64 0)).setCell ⟨bv, 1, none⟩ (.int .i64 0)).setCell ⟨bv, 2, none⟩ (.slice none 0 0)) (some bv) := grown_set (grown_set (grown_set (grown_refl _ _) 0 _) 1 _) 2 _
  have r3 := r2.off b2.noU8 g2 n1; have b3 := ((b2.set0 (.int .i64 0)).set1 (.int .i64 0)).set2 (.slice none 0 0); have e3 := e2.far g2 n3.symm
  generalize ((W2.setCell ⟨bv, 0, none⟩ (.int .i64 0)).setCell ⟨bv, 1, none⟩ (.int .i64 0)).setCell ⟨bv, 2, none⟩ (.slice none 0 0) = W3 at *
  have g3 : W3.grownBy (W3.setCell ⟨be, 0, none⟩ (.int .i64 er)) (some be) := grown_set (grown_refl _ _) 0 _
  have r4 := r3.off e3.noU8 g3 n2; have b4 := b3.far g3 n3; have e4 := e3.set (.int .i64 er)
  have hd := Ext.drew (W3.setCell ⟨be, 0, none⟩ (.int .i64 er))
  refine ⟨r4.ext hd, b4.ext hd, e4.ext hd, fun B h1 h2 h3 w0 hB hg => ?_⟩
  exact grown_ext (grown_new (grown_new (grown_trans (grown_ext hg hx) g1) g2 (by omega)) g3 (by omega)) hd

theorem tripleRd_zero (m : List UInt8) (h : (tripleRd m).2.1 ≠ 0) : tripleRd m = ((0, 0, []), (tripleRd m).2.1, 0) := by
  unfold tripleRd at h ⊢
  by_cases h1 : (readInF 48 m).2.1 ≠ 0
  · rw [if_pos h1]
  · rw [if_neg h1] at h ⊢
    by_cases h2 : (tripleIn ((readInF 48 m).1.getD [])).2 ≠ 0
    · rw [if_pos h2]
    · rw [if_neg h2] at h
      exact absurd rfl h
theorem boxesK (T : TypeId) (w : World) (P : Value) (k : Int) : ∃ W3, (((w.alloc (.cells #[P] 40)).alloc (.cells #[.int .i64 0, .int .i64 0, .slice none 0 0] T)).alloc (.cells #[.int .i64 0] 31)).alloc (.cells #[.int .i64 k] 3) = W3 ∧ Ext w W3 ∧
    B1 40 W3 w.heap.size P ∧ B3 T W3 (w.heap.size + 1) (.int .i64 0) (.int .i64 0) (.slice none 0 0) ∧ B1 31 W3 (w.heap.size + 1 + 1) (.int .i64 0) ∧ B1 3 W3 (w.heap.size + 1 + 1 + 1) (.int .i64 k) ∧ W3.heap.size = w.heap.size + 4 := by
  refine ⟨_, rfl, (((Ext.refl w).alloc _).alloc _).alloc _ |>.alloc _, ?_, ?_, ?_, ?_, by simp⟩
  · exact (B1.new _ w P).ext ((((Ext.refl _).alloc _).alloc _).alloc _)
  · have := (B3.new T (w.alloc (.cells #[P] 40)) (.int .i64 0) (.int .i64 0) (.slice none 0 0)).ext (((Ext.refl _).alloc (.cells #[.int .i64 0] 31)).alloc (.cells #[.int .i64 k] 3))
    simpa using this
  · have := (B1.new 31 ((w.alloc (.cells #[P] 40)).alloc (.cells #[.int .i64 0, .int .i64 0, .slice none 0 0] T)) (.int .i64 0)).ext ((Ext.refl _).alloc (.cells #[.int .i64 k] 3))
    simpa using this
  · have := B1.new 3 (((w.alloc (.cells #[P] 40)).alloc (.cells #[.int .i64 0, .int .i64 0, .slice none 0 0] T)).alloc (.cells #[.int .i64 0] 31)) (.int .i64 k)
    simpa using this
theorem setE {w w1 : World} {g b : Nat} (h : w.grownBy w1 (some g)) (hb : w.heap.size ≤ b) (u : Value) : w.grownBy (w1.setCell ⟨b, 0, none⟩ u) (some g) :=
  grown_new h (grown_set (grown_refl w1 (some b)) 0 u) hb

theorem endsOk {T T' : TypeId} {w W3 w1 : World} {g bv be : Nat} {l : List UInt8} {k' : Nat} {A : Option Addr} {c : Nat} {b : List UInt8} {x y : Int} {p0 : Option Addr} {n0 c0 : Nat} (hx3 : Ext w W3) (hg1 : W3.grownBy w1 (some g)) (hr1 : RD 72 w1 g l k') (hob : OB 5 w1 W3.heap.size (.slice A b.length c) b)
    (hb : B3 T w1 bv (.int .i64 x) (.int .i64 y) (.slice p0 n0 c0)) (he : B1 T' w1 be (.int .i64 0)) (n1 : g ≠ bv) (n2 : g ≠ be) (n3 : bv ≠ be) (s1 : w.heap.size ≤ bv) (s2 : w.heap.size ≤ be) (s3 : bv < W3.heap.size) (s4 : be < W3.heap.size) (P V E : Int) :
    ∃ W4, (((w1.setCell ⟨bv, 0, none⟩ (.int .i64 P)).setCell ⟨bv, 1, none⟩ (.int .i64 V)).setCell ⟨bv, 2, none⟩ (.slice A b.length c)).setCell ⟨be, 0, none⟩ (.int .i64 E) = W4 ∧
      w.grownBy W4 (some g) ∧ RD 72 W4 g l k' ∧ OB 5 W4 w.heap.size (.slice A b.length c) b ∧
      W4.cell? ⟨bv, 0, none⟩ = some (.int .i64 P) ∧ W4.cell? ⟨bv, 1, none⟩ = some (.int .i64 V) ∧ W4.cell? ⟨bv, 2, none⟩ = some (.slice A b.length c) ∧ W4.cell? ⟨be, 0, none⟩ = some (.int .i64 E) := by
  refine ⟨_, rfl, ?_⟩
  have g2 : w1.grownBy (((w1.setCell ⟨bv, 0, none⟩ (.int .i64 P)).setCell ⟨bv, 1, none⟩ (.int .i64 V)).setCell ⟨bv, 2, none⟩ (.slice A b.length c)) (some bv) := grown_set (grown_set (grown_set (grown_refl _ _) 0 _) 1 _) 2 _
  have r3 := hr1.off hb.noU8 g2 n1; have b3 := ((hb.set0 (.int .i64 P)).set1 (.int .i64 V)).set2 (.slice A b.length c); have e3 := he.far g2 n3.symm; have o3 := OB.off hob g2 s3
  generalize ((w1.setCell ⟨bv, 0, none⟩ (.int .i64 P)).setCell ⟨bv, 1, none⟩ (.int .i64 V)).setCell ⟨bv, 2, none⟩ (.slice A b.length c) = w3 at *
  have g3 : w3.grownBy (w3.setCell ⟨be, 0, none⟩ (.int .i64 E)) (some be) := grown_set (grown_refl _ _) 0 _
  have b4 := b3.far g3 n3; have e4 := e3.set (.int .i64 E)
  exact ⟨grown_new (grown_new (grown_trans (hx3.but _) hg1) g2 s1) g3 s2, r3.off e3.noU8 g3 n2, (OB.off o3 g3 s4).mono hx3.size, b4.cells.1, b4.cells.2.1, b4.cells.2.2, e4.cell⟩

end Go.Proofs.YthpfomjibfbiiaaGreatDoor
namespace Go.Proofs.YthpfomjibfbiiaaGreatDoor
open Go Go.RowKit

end Go.Proofs.YthpfomjibfbiiaaGreatDoor
