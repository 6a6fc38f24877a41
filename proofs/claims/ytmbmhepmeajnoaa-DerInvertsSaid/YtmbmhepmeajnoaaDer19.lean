/- readTriple, the closures of Key and Sealed. -/
import Derived.Test.YtmbmhepmeajnoaaDer18
import Derived.Test.YtmbmhepmeajnoaaB3
namespace Go.Proofs.Ytmbmhepmeajnoaa
open Go Go.RowKit

theorem tripleRd_no (m : List UInt8) (er : Nat) (he : er ≠ 0) (h : readInF 48 m = (none, er, 0)) : tripleRd m = ((0, 0, []), er, 0) := by
  unfold tripleRd
  rw [h]
  simp only
  rw [if_pos he]
theorem tripleRd_in (m x : List UInt8) (us : Nat) (h : readInF 48 m = (some x, 0, us)) (p0 : Int) (e0 u0 : Nat) (h0 : fieldF 0 readIntF 0 x = (p0, e0, u0)) (p1 : Int) (e1 u1 : Nat) (h1 : fieldF 0 readIntF 1 (x.drop u0) = (p1, e1, u1))
    (b : List UInt8) (e2 u2 : Nat) (h2 : fieldF [] readOctetsF 2 (x.drop (u0 + u1)) = (b, e2, u2)) :
    (e0 ≠ 0 → tripleRd m = ((0, 0, []), e0, 0)) ∧ (e0 = 0 → e1 ≠ 0 → tripleRd m = ((0, 0, []), e1, 0)) ∧ (e0 = 0 → e1 = 0 → e2 ≠ 0 → tripleRd m = ((0, 0, []), e2, 0)) ∧
    (e0 = 0 → e1 = 0 → e2 = 0 → u0 + u1 + u2 < x.length → tripleRd m = ((0, 0, []), 6, 0)) ∧ (e0 = 0 → e1 = 0 → e2 = 0 → ¬ u0 + u1 + u2 < x.length → tripleRd m = ((p0, p1, b), 0, us)) := by
  have hu : tripleRd m = if (tripleIn x).2 ≠ 0 then ((0, 0, []), (tripleIn x).2, 0) else ((tripleIn x).1, 0, us) := by
    unfold tripleRd
    rw [h]
    simp
  rw [hu]
  unfold tripleIn
  simp only [h0, h1, h2]
  refine ⟨fun a => ?_, fun a b => ?_, fun a b c => ?_, fun a b c d => ?_, fun a b c d => ?_⟩
  · simp [a]
  · simp [a, b]
  · simp [a, b, c]
  · simp [a, b, c, d]
  · simp only [a, b, c, d, ne_eq, not_true_eq_false, if_false]
/-- What readTriple leaves. -/
def TripPost (w : World) (g : Nat) (l : List UInt8) (k : Nat) (R : (Int × Int × List UInt8) × Nat × Nat) (Z : Value → Value → Value → Value) (e : Ending) (w' : World) : Prop :=
  w.grownBy w' (some g) ∧ ((R.2.1 = 0 ∧ RD 62 w' g l (k + R.2.2) ∧ ∃ A c, e = .returned (Z (.int .i64 R.1.1) (.int .i64 R.1.2.1) (.slice A R.1.2.2.length c)) ∧ OB 5 w' w.heap.size (.slice A R.1.2.2.length c) R.1.2.2) ∨ (R.2.1 ≠ 0 ∧ (∃ k', RD 62 w' g l k') ∧ e = erp R.2.1))
theorem TripPost.no {w : World} {g : Nat} {l : List UInt8} {k : Nat} {R : (Int × Int × List UInt8) × Nat × Nat} {Z : Value → Value → Value → Value} {w' : World} {er : Nat} (hg : w.grownBy w' (some g)) (hR : R = ((0, 0, []), er, 0)) (h : er ≠ 0) {k' : Nat} (hr : RD 62 w' g l k') : TripPost w g l k R Z (erp er) w' := by
  subst hR
  exact ⟨hg, .inr ⟨h, ⟨k', hr⟩, rfl⟩⟩

set_option maxRecDepth 100000 in
set_option maxHeartbeats 2000000 in
theorem readTriple_at (g : Nat) (l : List UInt8) (k : Nat) (m : List UInt8) (hm : l.drop k = m) (hl0 : m.length ≤ 140737488355328) (w : World) (h : RD 62 w g l k) :
    Calls Try.prog 83 #[.pointer (some ⟨g, 0, none⟩)] w (TripPost w g l k (tripleRd m) fun a b c => .tuple #[a, b, c]) := by
  have hgl := h.lt
  rcases readIn_cases 48 m with ⟨x, hx, hxl⟩ | ⟨e9, he, hx⟩
  · obtain ⟨us, hus⟩ : ∃ us, (readInF 48 m).2.2 = us := ⟨_, rfl⟩
    rw [hus] at hx
    obtain ⟨p0, e0, u0, h0⟩ : ∃ p e u, fieldF 0 readIntF 0 x = (p, e, u) := ⟨_, _, _, rfl⟩
    obtain ⟨p1, e1, u1, h1⟩ : ∃ p e u, fieldF 0 readIntF 1 (x.drop u0) = (p, e, u) := ⟨_, _, _, rfl⟩
    obtain ⟨b, e2, u2, h2⟩ : ∃ p e u, fieldF [] readOctetsF 2 (x.drop (u0 + u1)) = (p, e, u) := ⟨_, _, _, rfl⟩
    have HK := Lib.hid (tripleRd_in m x us hx p0 e0 u0 h0 p1 e1 u1 h1 b e2 u2 h2)
    have HS := Lib.hid (RdSequence_at g l k m hm _ _ _ hx w h)
    have HF0 := Lib.hid (fun (W : World) (g' : Nat) => field_int_at g' x 0 x rfl 0 (by omega) _ _ _ h0 W)
    have HF1 := Lib.hid (fun (W : World) (g' : Nat) => field_int_at g' x u0 _ rfl 1 (by omega) _ _ _ h1 W)
    have HF2 := Lib.hid (fun (W : World) (g' : Nat) => field_bytes_at g' x (u0 + u1) _ rfl 2 (by omega) _ _ _ h2 (by rw [List.length_drop]; omega) W)
    clear hus hx h0 h1 h2 hm
    obtain ⟨R, hR⟩ : ∃ R, tripleRd m = R := ⟨_, rfl⟩
    rw [hR] at HK ⊢
    clear hR
    go_enter Try.func83, Try.ntmps83
    go_wp2_with fail
    refine HS.out.mono ?_
    rintro e w1 ⟨p, rfl, hg1, hr1, ⟨hx, _⟩ | ⟨x1, g', hx, _, rfl, hB1, hr1'⟩⟩
    · cases hx
    injection hx with hx
    subst hx
    go_wp2_with fail
    refine (must_reader_ok _ _).mono ?_
    rintro e w2 ⟨rfl, rfl⟩
    go_wp2_with fail
    refine (HF0.out w1 g' hr1').mono ?_
    rintro e w2 ⟨hg2, ⟨he0, hr2', v0, rfl, rfl⟩ | ⟨he0, ⟨k2, hr2'⟩, he⟩⟩
    · have hgg2 := grown_new hg1 hg2 hB1
      have hr2 := hr1.but hr1' (by omega) hg2
      rw [Nat.zero_add] at hr2'
      have HE0 := Lib.hid he0; clear he0
      go_wp2_with fail
      refine (HF1.out w2 g' hr2').mono ?_
      rintro e w3 ⟨hg3, ⟨he1, hr3', v1, rfl, rfl⟩ | ⟨he1, ⟨k3, hr3'⟩, he⟩⟩
      · have hgg3 := grown_new hgg2 hg3 hB1
        have hr3 := hr2.but hr2' (by omega) hg3
        have HE1 := Lib.hid he1; clear he1
        go_wp2_with fail
        refine (HF2.out w3 g' hr3').mono ?_
        rintro e w4 ⟨hg4, ⟨he2, hr4', v2, rfl, A4, c4, rfl, hob⟩ | ⟨he2, ⟨k4, hr4'⟩, he⟩⟩
        · have hgg4 := grown_new hgg3 hg4 hB1
          have hr4 := hr3.but hr3' (by omega) hg4
          have HE2 := Lib.hid he2; clear he2
          by_cases hend : u0 + u1 + u2 < x.length
          · have HEN := Lib.hid hend; clear hend
            go_wp2_with fail
            refine (end_no g' x _ HEN.out _ hr4').mono ?_
            unfold erp
            rintro e w5 ⟨rfl, hx5⟩
            go_wp2_with fail
            exact ⟨rfl, TripPost.no (er := 6) (grown_ext hgg4 hx5) (HK.out.2.2.2.1 HE0.out HE1.out HE2.out HEN.out) (by decide) (hr4.ext hx5)⟩
          · have HEN := Lib.hid hend; clear hend
            go_wp2_with fail
            refine (end_ok g' x _ HEN.out _ hr4').mono ?_
            rintro e w5 ⟨rfl, hx5⟩
            go_wp2_with fail
            go_ret3
            have hK := HK.out.2.2.2.2 HE0.out HE1.out HE2.out HEN.out
            subst hK
            exact ⟨grown_ext hgg4 hx5, .inl ⟨rfl, hr4.ext hx5, A4, c4, rfl, (hob.mono hgg3.size).ext hx5⟩⟩
        · unfold erp at he
          subst he
          have HE2 := Lib.hid he2; clear he2
          go_wp2_with fail
          exact ⟨rfl, TripPost.no (grown_new hgg3 hg4 hB1) (HK.out.2.2.1 HE0.out HE1.out HE2.out) HE2.out (hr3.but hr3' (by omega) hg4)⟩
      · unfold erp at he
        subst he
        have HE1 := Lib.hid he1; clear he1
        go_wp2_with fail
        exact ⟨rfl, TripPost.no (grown_new hgg2 hg3 hB1) (HK.out.2.1 HE0.out HE1.out) HE1.out (hr2.but hr2' (by omega) hg3)⟩
    · unfold erp at he
      subst he
      have HE0 := Lib.hid he0; clear he0
      go_wp2_with fail
      exact ⟨rfl, TripPost.no (grown_new hg1 hg2 hB1) (HK.out.1 HE0.out) HE0.out (hr1.but hr1' (by omega) hg2)⟩
  · have HK := Lib.hid (tripleRd_no m e9 he hx)
    have HS := Lib.hid (RdSequence_at g l k m hm _ _ _ hx w h)
    have HE := Lib.hid he
    clear hx hm he
    obtain ⟨R, hR⟩ : ∃ R, tripleRd m = R := ⟨_, rfl⟩
    rw [hR] at HK ⊢
    clear hR
    go_enter Try.func83, Try.ntmps83
    go_wp2_with fail
    refine HS.out.mono ?_
    rintro e w1 ⟨p, rfl, hg1, hr1, ⟨_, _, rfl⟩ | ⟨x1, g', hx, _⟩⟩
    · go_wp2_with fail
      refine (must_reader_no _ _ HE.out _).mono ?_
      unfold erp
      rintro e w2 ⟨rfl, rfl⟩
      go_wp2_with fail
      exact ⟨rfl, TripPost.no hg1 HK.out HE.out hr1⟩
    · cases hx

/-- A reader, while a block of three cells with no byte in it turns. -/
theorem RD.far3 {T T' : TypeId} {w w' : World} {g b : Nat} {l : List UInt8} {k : Nat} {x y : Int} {p : Option Addr} {n c : Nat} (h : RD T w g l k) (hg : w.grownBy w' (some b)) (hne : g ≠ b) (hb : B3 T' w b (.int .i64 x) (.int .i64 y) (.slice p n c)) : RD T w' g l k := by
  have hn : NoU8 w b := by
    intro q hq v hv
    unfold World.cell? at hv
    rw [hq, hb] at hv
    simp only at hv
    split at hv
    · cases hv
    · obtain ⟨hlt, he⟩ := Array.getElem?_eq_some_iff.1 hv
      have h3 : q.off = 0 ∨ q.off = 1 ∨ q.off = 2 := by simp at hlt; omega
      rcases h3 with h | h | h <;> simp [h] at he
  obtain ⟨h1, A, c, hh, hbs⟩ := h
  exact ⟨h1, A, c, (hg.block g (Array.getElem?_eq_some_iff.1 hh).1 (by intro e; exact hne (by injection e))).trans hh, hbs.but hn hg⟩

set_option maxRecDepth 100000 in
theorem Key1_at (g : Nat) (l : List UInt8) (k : Nat) (m : List UInt8) (hm : l.drop k = m) (hl0 : m.length ≤ 140737488355328) (w : World) (h : RD 62 w g l k) :
    Calls Try.prog 82 #[.pointer (some ⟨g, 0, none⟩)] w (TripPost w g l k (tripleRd m) fun a b c => .agg #[a, b, c]) := by
  have hgl := h.lt
  have HT := Lib.hid (fun W hW => readTriple_at g l k m hm hl0 W hW)
  obtain ⟨R, hR⟩ : ∃ R, tripleRd m = R := ⟨_, rfl⟩
  rw [hR] at HT ⊢
  clear hR hm
  have HB := Lib.hid (B3.new 49 w (.int .i64 0) (.int .i64 0) (.slice none 0 0))
  go_enter Try.func82, Try.ntmps82
  go_wp2_with fail
  refine (HT.out _ (h.ext ((Ext.refl w).alloc _))).mono ?_
  rintro e w1 ⟨hg1, ⟨he, hr1, A1, c1, rfl, hob⟩ | ⟨he, ⟨k1, hr1⟩, hee⟩⟩
  · have HE := Lib.hid he; clear he
    have hb1 := HB.out.far hg1 (by omega)
    obtain ⟨q0, q1, q2⟩ := hb1.cells
    have f0 := hb1.soft 0; have f1 := hb1.soft 1; have f2 := hb1.soft 2
    have HB1 := Lib.hid hb1; clear hb1
    go_wp2_with fail
    obtain ⟨d0, d1, d2⟩ := HB1.out.end_ (.int .i64 R.1.1) (.int .i64 R.1.2.1) (.slice A1 R.1.2.2.length c1)
    refine bodyPost_ret (by simp [results, Try.results82, go_sem, d0, d1, d2]; try rfl) rfl ?_
    have hg3 := grown_set3 (grown_trans (((Ext.refl w).alloc (.cells #[.int .i64 0, .int .i64 0, .slice none 0 0] 49)).but (some g)) hg1) (Nat.le_refl _) (.int .i64 R.1.1) (.int .i64 R.1.2.1) (.slice A1 R.1.2.2.length c1)
    have hst : w1.grownBy (((w1.setCell ⟨w.heap.size, 0, none⟩ (.int .i64 R.1.1)).setCell ⟨w.heap.size, 1, none⟩ (.int .i64 R.1.2.1)).setCell ⟨w.heap.size, 2, none⟩ (.slice A1 R.1.2.2.length c1)) (some w.heap.size) := grown_set (grown_set (grown_set (grown_refl w1 _) 0 _) 1 _) 2 _
    have hk : w.heap.size < (w.alloc (.cells #[.int .i64 0, .int .i64 0, .slice none 0 0] 49)).heap.size := by simp
    exact ⟨hg3, .inl ⟨HE.out, RD.far3 hr1 hst (by omega) HB1.out, A1, c1, rfl, (OB.off hob hst hk).mono (Nat.le_of_lt hk)⟩⟩
  · unfold erp at hee
    subst hee
    have HE := Lib.hid he; clear he
    go_wp2_with fail
    exact ⟨rfl, grown_trans (((Ext.refl w).alloc _).but _) hg1, .inr ⟨HE.out, ⟨_, hr1⟩, rfl⟩⟩

set_option maxRecDepth 100000 in
theorem Sealed1_at (g : Nat) (l : List UInt8) (k : Nat) (m : List UInt8) (hm : l.drop k = m) (hl0 : m.length ≤ 140737488355328) (w : World) (h : RD 62 w g l k) :
    Calls Try.prog 85 #[.pointer (some ⟨g, 0, none⟩)] w (TripPost w g l k (tripleRd m) fun a b c => .agg #[a, b, c]) := by
  have hgl := h.lt
  have HT := Lib.hid (fun W hW => readTriple_at g l k m hm hl0 W hW)
  obtain ⟨R, hR⟩ : ∃ R, tripleRd m = R := ⟨_, rfl⟩
  rw [hR] at HT ⊢
  clear hR hm
  have HB := Lib.hid (B3.new 50 w (.int .i64 0) (.int .i64 0) (.slice none 0 0))
  go_enter Try.func85, Try.ntmps85
  go_wp2_with fail
  refine (HT.out _ (h.ext ((Ext.refl w).alloc _))).mono ?_
  rintro e w1 ⟨hg1, ⟨he, hr1, A1, c1, rfl, hob⟩ | ⟨he, ⟨k1, hr1⟩, hee⟩⟩
  · have HE := Lib.hid he; clear he
    have hb1 := HB.out.far hg1 (by omega)
    obtain ⟨q0, q1, q2⟩ := hb1.cells
    have f0 := hb1.soft 0; have f1 := hb1.soft 1; have f2 := hb1.soft 2
    have HB1 := Lib.hid hb1; clear hb1
    go_wp2_with fail
    obtain ⟨d0, d1, d2⟩ := HB1.out.end_ (.int .i64 R.1.1) (.int .i64 R.1.2.1) (.slice A1 R.1.2.2.length c1)
    refine bodyPost_ret (by simp [results, Try.results85, go_sem, d0, d1, d2]; try rfl) rfl ?_
    have hg3 := grown_set3 (grown_trans (((Ext.refl w).alloc (.cells #[.int .i64 0, .int .i64 0, .slice none 0 0] 50)).but (some g)) hg1) (Nat.le_refl _) (.int .i64 R.1.1) (.int .i64 R.1.2.1) (.slice A1 R.1.2.2.length c1)
    have hst : w1.grownBy (((w1.setCell ⟨w.heap.size, 0, none⟩ (.int .i64 R.1.1)).setCell ⟨w.heap.size, 1, none⟩ (.int .i64 R.1.2.1)).setCell ⟨w.heap.size, 2, none⟩ (.slice A1 R.1.2.2.length c1)) (some w.heap.size) := grown_set (grown_set (grown_set (grown_refl w1 _) 0 _) 1 _) 2 _
    have hk : w.heap.size < (w.alloc (.cells #[.int .i64 0, .int .i64 0, .slice none 0 0] 50)).heap.size := by simp
    exact ⟨hg3, .inl ⟨HE.out, RD.far3 hr1 hst (by omega) HB1.out, A1, c1, rfl, (OB.off hob hst hk).mono (Nat.le_of_lt hk)⟩⟩
  · unfold erp at hee
    subst hee
    have HE := Lib.hid he; clear he
    go_wp2_with fail
    exact ⟨rfl, grown_trans (((Ext.refl w).alloc _).but _) hg1, .inr ⟨HE.out, ⟨_, hr1⟩, rfl⟩⟩

end Go.Proofs.Ytmbmhepmeajnoaa
