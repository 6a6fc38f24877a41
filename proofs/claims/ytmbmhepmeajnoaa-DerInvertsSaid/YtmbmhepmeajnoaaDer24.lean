/- The methods Key, Sealed, Data of Reader. -/
import Derived.Test.YtmbmhepmeajnoaaDer23
namespace Go.Proofs.Ytmbmhepmeajnoaa
open Go Go.RowKit

theorem ends3 {T : TypeId} {w w1 : World} {g bv : Nat} {l : List UInt8} {k' B : Nat} {A : Option Addr} {c : Nat} {b : List UInt8} {x y : Int} {p0 : Option Addr} {n0 c0 : Nat} (hg1 : w.grownBy w1 (some g)) (hr1 : RD 62 w1 g l k') (hob : OB 5 w1 B (.slice A b.length c) b)
    (hb : B3 T w1 bv (.int .i64 x) (.int .i64 y) (.slice p0 n0 c0)) (n1 : g ≠ bv) (s1 : w.heap.size ≤ bv) (s3 : bv < B) (s4 : w.heap.size ≤ B) (P V : Int) :
    ∃ W4, ((w1.setCell ⟨bv, 0, none⟩ (.int .i64 P)).setCell ⟨bv, 1, none⟩ (.int .i64 V)).setCell ⟨bv, 2, none⟩ (.slice A b.length c) = W4 ∧
      w.grownBy W4 (some g) ∧ RD 62 W4 g l k' ∧ OB 5 W4 w.heap.size (.slice A b.length c) b ∧
      W4.cell? ⟨bv, 0, none⟩ = some (.int .i64 P) ∧ W4.cell? ⟨bv, 1, none⟩ = some (.int .i64 V) ∧ W4.cell? ⟨bv, 2, none⟩ = some (.slice A b.length c) := by
  refine ⟨_, rfl, ?_⟩
  have g2 : w1.grownBy (((w1.setCell ⟨bv, 0, none⟩ (.int .i64 P)).setCell ⟨bv, 1, none⟩ (.int .i64 V)).setCell ⟨bv, 2, none⟩ (.slice A b.length c)) (some bv) := grown_set (grown_set (grown_set (grown_refl _ _) 0 _) 1 _) 2 _
  have b3 := ((hb.set0 (.int .i64 P)).set1 (.int .i64 V)).set2 (.slice A b.length c)
  exact ⟨grown_new hg1 g2 s1, hr1.off hb.noU8 g2 n1, (OB.off hob g2 s3).mono s4, b3.cells.1, b3.cells.2.1, b3.cells.2.2⟩

set_option maxRecDepth 100000 in
set_option maxHeartbeats 1000000 in
theorem RdKey_at (g : Nat) (l : List UInt8) (k : Nat) (m : List UInt8) (hm : l.drop k = m) (hl0 : m.length ≤ 140737488355328) (p v : Int) (b : List UInt8) (er used : Nat) (hR : tripleRd m = ((p, v, b), er, used)) (w : World) (h : RD 62 w g l k) :
    Calls Try.prog 47 #[.pointer (some ⟨g, 0, none⟩)] w fun e w' =>
      w.grownBy w' (some g) ∧ RD 62 w' g l (k + used) ∧ ∃ A c, e = .returned (.tuple #[.agg #[.int .i64 p, .int .i64 v, .slice A b.length c], .int .i64 (er : Int)]) ∧ OB 5 w' w.heap.size (.slice A b.length c) b := by
  have hgl := h.lt
  have HS := Lib.hid (fun W hW => structured_key_at g l k m hm hl0 p v b er used hR W hW)
  have HB := Lib.hid (B3.new 49 w (.int .i64 0) (.int .i64 0) (.slice none 0 0))
  clear hm hR
  go_enter Try.func47, Try.ntmps47
  go_wp2_with fail
  refine (HS.out _ (h.ext ((Ext.refl w).alloc _))).mono ?_
  rintro e w1 ⟨hg1, hr1, A1, c1, rfl, hob⟩
  have hb1 := HB.out.far hg1 (by omega)
  obtain ⟨q0, q1, q2⟩ := hb1.cells
  have f0 := hb1.soft 0; have f1 := hb1.soft 1; have f2 := hb1.soft 2
  obtain ⟨W4, hW4, hg4, hr4, hob4, d0, d1, d2⟩ := ends3 (grown_trans (((Ext.refl w).alloc (.cells #[.int .i64 0, .int .i64 0, .slice none 0 0] 49)).but (some g)) hg1) hr1 hob hb1 (by omega) (Nat.le_refl _) (by simp) (by simp) p v
  clear hb1
  go_wp2_with fail
  refine bodyPost_ret (v := .tuple #[.agg #[.int .i64 p, .int .i64 v, .slice A1 b.length c1], .int .i64 (er : Int)]) (by simp [results, Try.results47, go_sem, d0, d1, d2]; try rfl) rfl ?_
  exact ⟨hg4, hr4, A1, c1, rfl, hob4⟩

set_option maxRecDepth 100000 in
set_option maxHeartbeats 1000000 in
theorem RdSealed_at (g : Nat) (l : List UInt8) (k : Nat) (m : List UInt8) (hm : l.drop k = m) (hl0 : m.length ≤ 140737488355328) (p v : Int) (b : List UInt8) (er used : Nat) (hR : tripleRd m = ((p, v, b), er, used)) (w : World) (h : RD 62 w g l k) :
    Calls Try.prog 48 #[.pointer (some ⟨g, 0, none⟩)] w fun e w' =>
      w.grownBy w' (some g) ∧ RD 62 w' g l (k + used) ∧ ∃ A c, e = .returned (.tuple #[.agg #[.int .i64 p, .int .i64 v, .slice A b.length c], .int .i64 (er : Int)]) ∧ OB 5 w' w.heap.size (.slice A b.length c) b := by
  have hgl := h.lt
  have HS := Lib.hid (fun W hW => structured_sealed_at g l k m hm hl0 p v b er used hR W hW)
  have HB := Lib.hid (B3.new 50 w (.int .i64 0) (.int .i64 0) (.slice none 0 0))
  clear hm hR
  go_enter Try.func48, Try.ntmps48
  go_wp2_with fail
  refine (HS.out _ (h.ext ((Ext.refl w).alloc _))).mono ?_
  rintro e w1 ⟨hg1, hr1, A1, c1, rfl, hob⟩
  have hb1 := HB.out.far hg1 (by omega)
  obtain ⟨q0, q1, q2⟩ := hb1.cells
  have f0 := hb1.soft 0; have f1 := hb1.soft 1; have f2 := hb1.soft 2
  obtain ⟨W4, hW4, hg4, hr4, hob4, d0, d1, d2⟩ := ends3 (grown_trans (((Ext.refl w).alloc (.cells #[.int .i64 0, .int .i64 0, .slice none 0 0] 50)).but (some g)) hg1) hr1 hob hb1 (by omega) (Nat.le_refl _) (by simp) (by simp) p v
  clear hb1
  go_wp2_with fail
  refine bodyPost_ret (v := .tuple #[.agg #[.int .i64 p, .int .i64 v, .slice A1 b.length c1], .int .i64 (er : Int)]) (by simp [results, Try.results48, go_sem, d0, d1, d2]; try rfl) rfl ?_
  exact ⟨hg4, hr4, A1, c1, rfl, hob4⟩

set_option maxRecDepth 100000 in
theorem RdData_at (g : Nat) (l : List UInt8) (k : Nat) (m : List UInt8) (hm : l.drop k = m) (hl0 : m.length ≤ 900) (w : World) (h : RD 62 w g l k) :
    Calls Try.prog 49 #[.pointer (some ⟨g, 0, none⟩)] w (DatOut w g l k m) := by
  have HS := Lib.hid (structured_data_at g l k m hm hl0 w h)
  clear hm
  go_enter Try.func49, Try.ntmps49
  go_wp2_with fail
  refine HS.out.mono ?_
  rintro e w1 ⟨hg1, ⟨L, used, A, c, rfl, h1, h2, h3, h4, h5⟩ | ⟨er, her, rfl, h5⟩⟩
  · have HU := Lib.hid (And.intro h1 (And.intro h2 h3)); clear h1 h2 h3
    go_wp2_with fail
    go_ret2
    exact ⟨hg1, .inl ⟨L, used, A, c, rfl, HU.out.1, HU.out.2.1, HU.out.2.2, h4, h5⟩⟩
  · have HU := Lib.hid her; clear her
    go_wp2_with fail
    go_ret2
    exact ⟨hg1, .inr ⟨er, HU.out, rfl, h5⟩⟩
end Go.Proofs.Ytmbmhepmeajnoaa
