/- Texts laid together (wip/tools/automerge.py): Der19, Der21. -/
import Derived.Test.YthpfomjibfbiiaaGreatDoorDer18
import Derived.Test.YthpfomjibfbiiaaGreatDoorMg11
import Derived.Test.YthpfomjibfbiiaaGreatDoorMg10
import Derived.Deep.LoopGhost
namespace Go.Proofs.YthpfomjibfbiiaaGreatDoor
open Go Go.RowKit

theorem tripleRd_no (m : List UInt8) (er : Nat) (he : er ≠ 0) (h : readInF 48 m = (none, er, 0)) : tripleRd m = ((0, 0, []), er, 0) := by
  unfold tripleRd
  rw [h]
  simp only
  rw [if_pos he]
theorem tripleRd_in (m x : List UInt8) (us : Nat) (h : readInF 48 m = (some x, 0, us)) (p0 : Int) (e0 u0 : Nat) (h0 : fieldF 0 readIntF 0 x = (p0, e0, u0)) (p1 : Int) (e1 u1 : Nat) (h1 : fieldF 0 readIntF 1 (x.drop u0) = (p1, e1, u1))
    (b : List UInt8) (e2 u2 : Nat) (h2 : fieldF [] readOctetsF 2 (x.drop (u0 + u1)) = (b, e2, u2)) :
    (e0 ≠ 0 → tripleRd m = ((0, 0, []), e0, 0)) ∧ (e0 = 0 → e1 ≠ 0 → tripleRd m = ((0, 0, []), e1, 0)) ∧ (e0 = 0 → e1 = 0 → e2 ≠ 0 → tripleRd m = ((0, 0, []), e2, 0)) ∧
    (e0 = 0 → e1 = 0 → e2 = 0 → u0 + u1 + u2 < x.length → tripleRd m = ((0, 0, []), 6, 0)) ∧ (e0 = 0 → e1 = 0 → e2 = 0 → ¬ u0 + u1 + u2 < x.length → tripleRd m = ((p0, p1, b), 0, us)) := by
  have hu : tripleRd m = if (tripleIn x).2 ≠ 0 then ((0, 0, []), (tripleIn x).2, 0) else ((tripleIn x).1, 0, us) := by
    unfold tripleRd
    rw [h]
    simp
  rw [hu]
  unfold tripleIn
  simp only [h0, h1, h2]
  refine ⟨fun a => ?_, fun a b => ?_, fun a b c => ?_, fun a b c d => ?_, fun a b c d => ?_⟩
  · simp [a]
  · simp [a, b]
  · simp [a, b, c]
  · simp [a, b, c, d]
  · simp only [a, b, c, d, ne_eq, not_true_eq_false, if_false]
/-- What readTriple leaves. -/
def TripPost (w : World) (g : Nat) (l : List UInt8) (k : Nat) (R : (Int × Int × List UInt8) × Nat × Nat) (Z : Value → Value → Value → Value) (e : Ending) (w' : World) : Prop :=
  w.grownBy w' (some g) ∧ ((R.2.1 = 0 ∧ RD 72 w' g l (k + R.2.2) ∧ ∃ A c, e = .returned (Z (.int .i64 R.1.1) (.int .i64 R.1.2.1) (.slice A R.1.2.2.length c)) ∧ OB 5 w' w.heap.size (.slice A R.1.2.2.length c) R.1.2.2) ∨ (R.2.1 ≠ 0 ∧ (∃ k', RD 72 w' g l k') ∧ e = erp R.2.1))
theorem TripPost.no {w : World} {g : Nat} {l : List UInt8} {k : Nat} {R : (Int × Int × List UInt8) × Nat × Nat} {Z : Value → Value → Value → Value} {w' : World} {er : Nat} (hg : w.grownBy w' (some g)) (hR : R = ((0, 0, []), er, 0)) (h : er ≠ 0) {k' : Nat} (hr : RD 72 w' g l k') : TripPost w g l k R Z (erp er) w' := by
  subst hR
  exact ⟨hg, .inr ⟨h, ⟨k', hr⟩, rfl⟩⟩

/-- A reader, while a block of three cells with no byte in it turns. -/
theorem RD.far3 {T T' : TypeId} {w w' : World} {g b : Nat} {l : List UInt8} {k : Nat} {x y : Int} {p : Option Addr} {n c : Nat} (h : RD T w g l k) (hg : w.grownBy w' (some b)) (hne : g ≠ b) (hb : B3 T' w b (.int .i64 x) (.int .i64 y) (.slice p n c)) : RD T w' g l k := by
  have hn : NoU8 w b := by
    intro q hq v hv
    unfold World.cell? at hv
    rw [hq, hb] at hv
    simp only at hv
    split at hv
    · cases hv
    · obtain ⟨hlt, he⟩ := Array.getElem?_eq_some_iff.1 hv
      have h3 : q.off = 0 ∨ q.off = 1 ∨ q.off = 2 := by simp at hlt; omega
      rcases h3 with h | h | h <;> simp [h] at he
  obtain ⟨h1, A, c, hh, hbs⟩ := h
  exact ⟨h1, A, c, (hg.block g (Array.getElem?_eq_some_iff.1 hh).1 (by intro e; exact hne (by injection e))).trans hh, hbs.but hn hg⟩

end Go.Proofs.YthpfomjibfbiiaaGreatDoor
namespace Go.Proofs.YthpfomjibfbiiaaGreatDoor
open Go Go.RowKit

theorem datinfo : (Tryz.prog.info? 62).map (fun i => (i.zero, i.size, i.bytes)) = some (some (.agg #[.int .i64 0, .slice none 0 0]), 2, 32) := by kernel_rfl
theorem dat_zero : ∀ x ∈ (Value.agg #[.int .i64 0, .slice none 0 0]).cells.toList, ∀ n, x ≠ .int .u8 n := by
  intro x hx n
  have : x = .int .i64 0 ∨ x = .slice none 0 0 := by simpa [Value.cells] using hx
  rcases this with rfl | rfl <;> simp
/-- What the closure of Data leaves. -/
def DatPost (w : World) (g : Nat) (l : List UInt8) (k : Nat) (m : List UInt8) (e : Ending) (w' : World) : Prop :=
  w.grownBy w' (some g) ∧ ((∃ (L : List (Int × List UInt8)) (used : Nat) (V : Value), e = .returned V ∧ used ≤ m.length ∧ m.take used = dataF L ∧ dataF L ≠ [] ∧ DOV 62 w' w.heap.size V L ∧ RD 72 w' g l (k + used)) ∨ (∃ er, er ≠ 0 ∧ e = erp er ∧ ∃ k', RD 72 w' g l k'))
theorem DatPost.no {w : World} {g : Nat} {l m : List UInt8} {k : Nat} {w' : World} {er k' : Nat} (hg : w.grownBy w' (some g)) (h : er ≠ 0) (hr : RD 72 w' g l k') : DatPost w g l k m (erp er) w' :=
  ⟨hg, .inr ⟨er, h, rfl, k', hr⟩⟩
/-- What holds at the head of each round. -/
def DatRel (w : World) (g : Nat) (l : List UInt8) (kk : Nat) (g1 : Nat) (x : List UInt8) (j : Nat) (L : List (Int × List UInt8)) (V : Value) (wr : World) : Prop :=
  j ≤ x.length ∧ L.length ≤ 16 ∧ x.take j = (L.map fun q => pairF q.1 q.2).flatten ∧ (∀ q ∈ L, pairF q.1 q.2 ≠ []) ∧ DOV 62 wr w.heap.size V L ∧ V.ownBlock ≠ some g1 ∧ w.grownBy wr (some g) ∧ RD 72 wr g l kk ∧ RD 72 wr g1 x j

set_option maxRecDepth 100000 in
set_option maxHeartbeats 4000000 in
theorem Data1_at (g : Nat) (l : List UInt8) (k : Nat) (m : List UInt8) (hm : l.drop k = m) (hl0 : m.length ≤ 900) (w : World) (h : RD 72 w g l k) :
    Calls Tryz.prog 64 #[.pointer (some ⟨g, 0, none⟩)] w (DatPost w g l k m) := by
  obtain ⟨i0, hi, hz0, hz1, hz2⟩ := info_parts datinfo
  have hgl := h.lt
  rcases readIn_cases 48 m with ⟨x, hx, hxl⟩ | ⟨e9, he, hx⟩
  · obtain ⟨us, hus⟩ : ∃ us, (readInF 48 m).2.2 = us := ⟨_, rfl⟩
    rw [hus] at hx
    have HS := Lib.hid (RdSequence_at g l k m hm _ _ _ hx w h)
    obtain ⟨j1, j2, j3⟩ := readIn_inv _ _ _ _ hx
    have HJ3 := Lib.hid j3
    clear hus hx hm j3
    go_enter Tryz.func64, Tryz.ntmps64
    go_wp2_with fail
    refine HS.out.mono ?_
    rintro e w1 ⟨p, rfl, hg1, hr1, ⟨hx, _⟩ | ⟨x1, g1, hx, _, rfl, hB1, hr1'⟩⟩
    · cases hx
    injection hx with hx
    subst hx
    go_wp2_with fail
    refine (must_reader_ok _ _).mono ?_
    rintro e w2 ⟨rfl, rfl⟩
    go_wp2_with fail
    go_loopg [2] x.length (fun n v wr => ∃ j L, n = x.length - j ∧ DatRel w g l (k + us) g1 x j L v wr)
    case atStart => exact ⟨0, [], by omega, Nat.zero_le _, by simp, by simp, by simp, DOV.nil _ _ _, by simp [Value.ownBlock], hg1, hr1, hr1'⟩
    case round =>
      obtain ⟨j, L, hn, hj, hL, htk, hne, hdov, hob, hgr, hrr, hrx⟩ := hrel
      obtain ⟨A0, c0, rfl⟩ := hdov.shape
      have hg1l := hrx.lt
      have hBg1 : w.heap.size ≤ g1 := hB1
      have hob2 : (Value.slice A0 L.length c0).ownBlock ≠ some g := by
        intro e
        have := (hdov.lt g e).1
        omega
      by_cases hlt : j < x.length
      · obtain ⟨rn, hrn⟩ : ∃ rn, rn = x.length - j := ⟨_, rfl⟩
        have hp : (0 : Int) < rn := by omega
        have HRN := Lib.hid hrn; have HTK := Lib.hid htk; have HNE := Lib.hid hne; have HN := Lib.hid hn; have HOB := Lib.hid hob; have HOB2 := Lib.hid hob2
        have HD := Lib.hid hdov; have HGR := Lib.hid hgr; have HRR := Lib.hid hrr; have HRX := Lib.hid hrx
        clear hrn htk hne hn hob hob2 hdov hgr hrr hrx
        by_cases h16 : L.length = 16
        · have h16b : ((L.length : Int) == 16) = true := by rw [beq_iff_eq]; omega
          have H16 := Lib.hid h16; clear h16
          go_wp2_with fail
          refine (Left_at g1 x j wr HRX.out).mono ?_
          rintro e w2 ⟨rfl, hx2⟩
          rw [← HRN.out]
          go_wp2_with fail
          exact ⟨rfl, DatPost.no (er := 6) (grown_ext HGR.out hx2) (by decide) (HRR.out.ext hx2)⟩
        · have h16b : ((L.length : Int) == 16) = false := by rw [beq_eq_false_iff_ne]; omega
          have H16 := Lib.hid h16; clear h16
          rcases readIn_cases 48 (x.drop j) with ⟨x2, hx2, hxl2⟩ | ⟨e9, he, hx2⟩
          · obtain ⟨u, hu⟩ : ∃ u, (readInF 48 (x.drop j)).2.2 = u := ⟨_, rfl⟩
            rw [hu] at hx2
            obtain ⟨p0, e0, u0, h0⟩ : ∃ p e u, fieldF 0 readIntF 0 x2 = (p, e, u) := ⟨_, _, _, rfl⟩
            obtain ⟨b, e1, u1, h1⟩ : ∃ p e u, fieldF [] readOctetsF 1 (x2.drop u0) = (p, e, u) := ⟨_, _, _, rfl⟩
            have hx2l : x2.length ≤ x.length := by rw [List.length_drop] at hxl2; omega
            have HSQ := Lib.hid (fun W hW => RdSequence_at g1 x j _ rfl _ _ _ hx2 W hW)
            have HF0 := Lib.hid (fun (W : World) (g' : Nat) => field_int_at g' x2 0 x2 rfl 0 (by omega) _ _ _ h0 W)
            have HF1 := Lib.hid (fun (W : World) (g' : Nat) => field_bytes_at g' x2 u0 _ rfl 1 (by omega) _ _ _ h1 (by rw [List.length_drop]; omega) W)
            have HP := Lib.hid (fun (hh0 : e0 = 0) (hh1 : e1 = 0) (hh2 : ¬ u0 + u1 < x2.length) => pair_inv x2 p0 b u0 u1 (by rw [h0, hh0]) (by rw [h1, hh1]) hh2 (by omega))
            have HI := Lib.hid (readIn_inv _ _ _ _ hx2)
            have HU := Lib.hid (readIn_pos _ _ _ _ hx2)
            clear hu hx2 h0 h1 hxl2
            go_wp2_with fail
            refine (Left_at g1 x j wr HRX.out).mono ?_
            rintro e w2 ⟨rfl, hx2⟩
            rw [← HRN.out]
            have HX2 := Lib.hid hx2; clear hx2
            go_wp2_with fail
            refine (HSQ.out w2 (HRX.out.ext HX2.out)).mono ?_
            rintro e w3 ⟨p, rfl, hg3, hr3, ⟨hx, _⟩ | ⟨x3, g2, hx, _, rfl, hB2, hr3'⟩⟩
            · cases hx
            injection hx with hx
            subst hx
            have hgr3 := grown_new (grown_ext HGR.out HX2.out) hg3 hBg1
            have hrr3 := (HRR.out.ext HX2.out).but (HRX.out.ext HX2.out) (by omega) hg3
            have hd3 := (HD.out.ext HX2.out).off (HRX.out.ext HX2.out).noU8 hg3 HOB.out
            have hg2s : g1 < g2 := by have := HX2.out.size; omega
            have hBg2 : w.heap.size ≤ g2 := by omega
            have hw3 := hg3.size
            go_wp2_with fail
            refine (must_reader_ok _ _).mono ?_
            rintro e w3b ⟨rfl, rfl⟩
            go_wp2_with fail
            refine (HF0.out w3 g2 hr3').mono ?_
            rintro e w4 ⟨hg4, ⟨he0, hr4', v0, rfl, rfl⟩ | ⟨he0, ⟨k4, hr4'⟩, he⟩⟩
            · have hgr4 := grown_new hgr3 hg4 hBg2
              have hrr4 := hrr3.but hr3' (by omega) hg4
              have hrl4 := hr3.but hr3' (by omega) hg4
              have hv2 : (Value.slice A0 L.length c0).ownBlock ≠ some g2 := by
                intro e
                have := (HD.out.lt g2 e).2
                have := HX2.out.size
                omega
              have hd4 := hd3.off hr3'.noU8 hg4 hv2
              rw [Nat.zero_add] at hr4'
              have HE0 := Lib.hid he0; have HV2 := Lib.hid hv2; clear he0 hv2
              go_wp2_with fail
              refine (HF1.out w4 g2 hr4').mono ?_
              rintro e w5 ⟨hg5, ⟨he1, hr5', v1, rfl, A5, c5, rfl, hob5⟩ | ⟨he1, ⟨k5, hr5'⟩, he⟩⟩
              · have hgr5 := grown_new hgr4 hg5 hBg2
                have hrr5 := hrr4.but hr4' (by omega) hg5
                have hrl5 := hrl4.but hr4' (by omega) hg5
                have hd5 := hd4.off hr4'.noU8 hg5 HV2.out
                have HE1 := Lib.hid he1; clear he1
                by_cases hend : u0 + u1 < x2.length
                · have HEN := Lib.hid hend; clear hend
                  go_wp2_with fail
                  refine (end_no g2 x2 _ HEN.out _ hr5').mono ?_
                  unfold erp
                  rintro e w6 ⟨rfl, hx6⟩
                  go_wp2_with fail
                  exact ⟨rfl, DatPost.no (er := 6) (grown_ext hgr5 hx6) (by decide) (hrr5.ext hx6)⟩
                · have HEN := Lib.hid hend; clear hend
                  go_wp2_with fail
                  refine (end_ok g2 x2 _ HEN.out _ hr5').mono ?_
                  rintro e w6 ⟨rfl, hx6⟩
                  have hgr6 := grown_ext hgr5 hx6
                  have hrr6 := hrr5.ext hx6
                  have hrl6 := hrl5.ext hx6
                  have hd6 := hd5.ext hx6
                  have hob6 := hob5.ext hx6
                  have hn7 : j + u ≤ x.length := by have := HI.out.1; rw [List.length_drop] at this; omega
                  have hwr6 : wr.heap.size ≤ w6.heap.size := by have := HX2.out.size; have := hg4.size; have := hg5.size; have := hx6.size; omega
                  have h46 : w4.heap.size ≤ w6.heap.size := by have := hg5.size; have := hx6.size; omega
                  have hr4s : wr.heap.size ≤ w4.heap.size := by have := HX2.out.size; have := hg4.size; omega
                  have hw6 : w.heap.size ≤ w6.heap.size := hgr6.size
                  have hgw6 : g < w6.heap.size := by omega
                  have hg1w6 : g1 < w6.heap.size := by omega
                  obtain ⟨W7, hW7⟩ : ∃ W7, w6.alloc (.cells #[.int .i64 p0, .slice A5 b.length c5] 62) = W7 := ⟨_, rfl⟩
                  have hx7 : Ext w6 W7 := by rw [← hW7]; exact (Ext.refl _).alloc _
                  have hcells := heap_alloc_new w6 (.cells #[.int .i64 p0, .slice A5 b.length c5] 62)
                  rw [hW7] at hcells
                  have hc0 : W7.cell? ((⟨w6.heap.size, 0, none⟩ : Addr).add 0) = some (.int .i64 p0) := by
                    rw [show ((⟨w6.heap.size, 0, none⟩ : Addr).add 0) = ⟨w6.heap.size, 0, none⟩ from rfl, cell_of_row _ _ 0 _ _ (0, 0) hcells]; rfl
                  have hc1 : W7.cell? ((⟨w6.heap.size, 0, none⟩ : Addr).add 1) = some (.slice A5 b.length c5) := by
                    rw [show ((⟨w6.heap.size, 0, none⟩ : Addr).add 1) = ⟨w6.heap.size, 1, none⟩ from rfl, cell_of_row _ _ 1 _ _ (0, 0) hcells]; rfl
                  have hs7 : W7.heap.size = w6.heap.size + 1 := by rw [← hW7]; simp
                  have hap : b ≠ [] → ∀ b', (Value.slice A5 b.length c5).ownBlock = some b' → (Value.slice A0 L.length c0).ownBlock ≠ some b' := by
                    intro _ b' hb' e
                    have h1 := hob5.lt b' hb'
                    have h2 := (HD.out.lt b' e).2
                    omega
                  have HC0 := Lib.hid hc0; have HC1 := Lib.hid hc1; have HS7 := Lib.hid hs7; have HAP := Lib.hid hap; have HX7 := Lib.hid hx7
                  clear hc0 hc1 hs7 hap hcells hx7
                  go_wp2_with (at_builtin; refine wpList_append_dov _ rfl (.tmp 30) (.tmp 34) 61 rfl w.heap.size 62 i0 (.agg #[.int .i64 0, .slice none 0 0]) 32 Tryz.underlying61 hi hz0 hz1 hz2 rfl dat_zero _ L rfl (hd6.ext HX7.out) ⟨w6.heap.size, 0, none⟩ 1 p0 A5 b.length c5 b rfl HC0.out HC1.out (hob6.bs.ext HX7.out) HAP.out (by omega) (by decide) (by have := HS7.out; omega) ?_; intro v7 w7 hd7 hg7 ho7)
                  have hpair := HP.out HE0.out HE1.out HEN.out
                  have hvg : ∀ r, (Value.slice A0 L.length c0).ownBlock = some r → NoU8 W7 r := (hd6.ext HX7.out).1
                  have hg1n : g1 ≠ g := by omega
                  have htk' : x.take (j + u) = ((L ++ [(p0, b)]).map fun q => pairF q.1 q.2).flatten := by
                    rw [List.map_append, List.flatten_append, ← HTK.out, take_add, HI.out.2.2, hpair.1]
                    simp
                  have hne' : ∀ q ∈ L ++ [(p0, b)], pairF q.1 q.2 ≠ [] := by
                    intro q hq
                    rw [List.mem_append, List.mem_singleton] at hq
                    rcases hq with hq | rfl
                    · exact HNE.out q hq
                    · exact hpair.2
                  have hL' : (L ++ [(p0, b)]).length ≤ 16 := by have := H16.out; simp; omega
                  have hob' : v7.ownBlock ≠ some g1 := by
                    rcases ho7 with e | e
                    · rw [e]; exact HOB.out
                    · rw [e]; intro e2; injection e2 with e2; have := HS7.out; omega
                  have hgr7 : w.grownBy w7 (some g) := grown_row (grown_ext hgr6 HX7.out) hg7 (fun r hr => (HD.out.lt r hr).1)
                  have hrr7 : RD 72 w7 g l (k + us) := (hrr6.ext HX7.out).row hvg (fun r hr e => HOB2.out (by rw [e]; exact hr)) hg7
                  have hrl7 : RD 72 w7 g1 x (j + u) := (hrl6.ext HX7.out).row hvg (fun r hr e => HOB.out (by rw [e]; exact hr)) hg7
                  have hfin : DatRel w g l (k + us) g1 x (j + u) (L ++ [(p0, b)]) v7 w7 := ⟨hn7, hL', htk', hne', hd7, hob', hgr7, hrr7, hrl7⟩
                  go_roundg (x.length - (j + u))
                  case measure => have := HN.out; have := HU.out; omega
                  case rel => exact ⟨j + u, L ++ [(p0, b)], rfl, hfin⟩
              · unfold erp at he
                subst he
                have HE1 := Lib.hid he1; clear he1
                go_wp2_with fail
                exact ⟨rfl, DatPost.no (grown_new hgr4 hg5 hBg2) HE1.out (hrr4.but hr4' (by omega) hg5)⟩
            · unfold erp at he
              subst he
              have HE0 := Lib.hid he0; clear he0
              go_wp2_with fail
              exact ⟨rfl, DatPost.no (grown_new hgr3 hg4 hBg2) HE0.out (hrr3.but hr3' (by omega) hg4)⟩
          · have HSQ := Lib.hid (fun W hW => RdSequence_at g1 x j _ rfl _ _ _ hx2 W hW)
            have HE := Lib.hid he
            clear hx2 he
            go_wp2_with fail
            refine (Left_at g1 x j wr HRX.out).mono ?_
            rintro e w2 ⟨rfl, hx2⟩
            rw [← HRN.out]
            have HX2 := Lib.hid hx2; clear hx2
            go_wp2_with fail
            refine (HSQ.out w2 (HRX.out.ext HX2.out)).mono ?_
            rintro e w3 ⟨p, rfl, hg3, hr3, ⟨_, _, rfl⟩ | ⟨x3, g2, hx, _⟩⟩
            · go_wp2_with fail
              refine (must_reader_no _ _ HE.out _).mono ?_
              unfold erp
              rintro e w4 ⟨rfl, rfl⟩
              go_wp2_with fail
              exact ⟨rfl, DatPost.no (grown_new (grown_ext HGR.out HX2.out) hg3 hBg1) HE.out ((HRR.out.ext HX2.out).but (HRX.out.ext HX2.out) (by omega) hg3)⟩
            · cases hx
      · obtain rfl : j = x.length := by omega
        rw [List.take_length] at htk
        have hz : ¬ (0 : Int) < ((x.length - x.length : Nat) : Int) := by omega
        have HTK := Lib.hid htk; have HNE := Lib.hid hne; have HN := Lib.hid hn; have HOB := Lib.hid hob; have HOB2 := Lib.hid hob2
        have HD := Lib.hid hdov; have HGR := Lib.hid hgr; have HRR := Lib.hid hrr; have HRX := Lib.hid hrx
        clear htk hne hn hob hob2 hdov hgr hrr hrx
        go_wp2_with fail
        refine (Left_at g1 x x.length wr HRX.out).mono ?_
        rintro e w2 ⟨rfl, hx2⟩
        go_wp2_with fail
        go_ret
        have hd := data_inv x L HTK.out HNE.out hL
        exact ⟨grown_ext HGR.out hx2, .inl ⟨L, us, _, rfl, j1, by rw [HJ3.out, hd], by rw [← hd]; exact elem_ne _ _ j2, HD.out.ext hx2, HRR.out.ext hx2⟩⟩
  · have HS := Lib.hid (RdSequence_at g l k m hm _ _ _ hx w h)
    have HE := Lib.hid he
    clear hx hm he
    go_enter Tryz.func64, Tryz.ntmps64
    go_wp2_with fail
    refine HS.out.mono ?_
    rintro e w1 ⟨p, rfl, hg1, hr1, ⟨_, _, rfl⟩ | ⟨x1, g', hx, _⟩⟩
    · go_wp2_with fail
      refine (must_reader_no _ _ HE.out _).mono ?_
      unfold erp
      rintro e w2 ⟨rfl, rfl⟩
      go_wp2_with fail
      exact ⟨rfl, DatPost.no hg1 HE.out hr1⟩
    · cases hx
end Go.Proofs.YthpfomjibfbiiaaGreatDoor
