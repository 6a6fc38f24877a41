/- Lifetimes: Read. -/
import Derived.Test.YtfgmmjpejlpdoaaGreatDoorLtD2
namespace Go.Proofs.YtfgmmjpejlpdoaaGreatDoor
open Go Go.RowKit
set_option linter.unusedVariables false

/-- What holds while Read is under way: w0 the world at its call. -/
def LI (w0 W : World) (g gb n nc : Nat) (l : List UInt8) (k kk : Nat) (a s e r : Int) : Prop :=
  w0.grownBy W (some g) ∧ B1 66 W n (.pointer (some ⟨g, 0, none⟩)) ∧ TB W (n + 1) a s e r ∧ B1 27 W (n + 1 + 1) (.int .i64 0) ∧ B1 66 W nc (.pointer (some ⟨gb, 0, none⟩)) ∧
    RD 94 W gb l k ∧ RD 94 W g l kk
section
variable {w0 W W' : World} {g gb n nc : Nat} {l : List UInt8} {k kk : Nat} {a s e r : Int}
theorem LI.ext (h : LI w0 W g gb n nc l k kk a s e r) (hx : Ext W W') : LI w0 W' g gb n nc l k kk a s e r := by
  obtain ⟨h1, h2, h3, h4, h5, h6, h7⟩ := h
  exact ⟨grown_ext h1 hx, h2.ext hx, h3.ext hx, h4.ext hx, h5.ext hx, h6.ext hx, h7.ext hx⟩
theorem LI.far {g1 : Nat} (h : LI w0 W g gb n nc l k kk a s e r) (hw : w0.heap.size ≤ n) (o1 : g < n) (o2 : n + 1 + 1 < gb) (o3 : gb < nc) (o4 : nc < g1) (hn : NoU8 W g1) (hg : W.grownBy W' (some g1)) : LI w0 W' g gb n nc l k kk a s e r := by
  obtain ⟨h1, h2, h3, h4, h5, h6, h7⟩ := h
  exact ⟨grown_new h1 hg (by omega), h2.far hg (by omega), h3.but (by omega) hg, h4.far hg (by omega), h5.far hg (by omega), h6.away hn hg (by omega), h7.away hn hg (by omega)⟩
theorem LI.seq {kk' : Nat} (h : LI w0 W g gb n nc l k kk a s e r) (o1 : g < n) (o2 : n + 1 + 1 < gb) (o3 : gb < nc) (hg : W.grownBy W' (some g)) (hr : RD 94 W' g l kk') : LI w0 W' g gb n nc l k kk' a s e r := by
  obtain ⟨h1, h2, h3, h4, h5, h6, h7⟩ := h
  exact ⟨grown_trans h1 hg, h2.far hg (by omega), h3.but (by omega) hg, h4.far hg (by omega), h5.far hg (by omega), h6.away h7.noU8 hg (by omega), hr⟩
theorem LI.put {a' s' e' r' : Int} {v : Value} {i : Nat} (h : LI w0 W g gb n nc l k kk a s e r) (hw : w0.heap.size ≤ n) (o1 : g < n) (o2 : n + 1 + 1 < gb) (o3 : gb < nc) (ht : TB (W.setCell ⟨n + 1, i, none⟩ v) (n + 1) a' s' e' r') : LI w0 (W.setCell ⟨n + 1, i, none⟩ v) g gb n nc l k kk a' s' e' r' := by
  obtain ⟨h1, h2, h3, h4, h5, h6, h7⟩ := h
  have hg : W.grownBy (W.setCell ⟨n + 1, i, none⟩ v) (some (n + 1)) := grown_set (grown_refl _ _) i v
  exact ⟨grown_new h1 hg (by omega), h2.far hg (by omega), ht, h4.far hg (by omega), h5.far hg (by omega), h6.away h3.noU8 hg (by omega), h7.away h3.noU8 hg (by omega)⟩
theorem RD.put {g1 : Nat} {x : List UInt8} {j i : Nat} {v : Value} (h : RD 94 W g1 x j) (ht : TB W (n + 1) a s e r) (hne : g1 ≠ n + 1) : RD 94 (W.setCell ⟨n + 1, i, none⟩ v) g1 x j :=
  h.away ht.noU8 (grown_set (grown_refl _ _) i v) hne
end
theorem boxesR (w : World) (P : Value) : ∃ W3, ((w.alloc (.cells #[P] 66)).alloc (.cells #[.int .i64 0, .int .i64 0, .int .i64 0, .int .i64 0] 23)).alloc (.cells #[.int .i64 0] 27) = W3 ∧ Ext w W3 ∧
    B1 66 W3 w.heap.size P ∧ TB W3 (w.heap.size + 1) 0 0 0 0 ∧ B1 27 W3 (w.heap.size + 1 + 1) (.int .i64 0) ∧ W3.heap.size = w.heap.size + 3 := by
  refine ⟨_, rfl, (((Ext.refl w).alloc _).alloc _).alloc _, ?_, ?_, ?_, by simp⟩
  · exact (B1.new _ w P).ext (((Ext.refl _).alloc _).alloc _)
  · have := heap_alloc_new (w.alloc (.cells #[P] 66)) (.cells #[.int .i64 0, .int .i64 0, .int .i64 0, .int .i64 0] 23)
    exact TB.ext (by simpa [TB] using this) ((Ext.refl _).alloc _)
  · have := B1.new 27 ((w.alloc (.cells #[P] 66)).alloc (.cells #[.int .i64 0, .int .i64 0, .int .i64 0, .int .i64 0] 23)) (.int .i64 0)
    simpa using this
/-- What Read leaves. -/
def RdOut (w : World) (g : Nat) (l : List UInt8) (k : Nat) (R : (Int × Int × Int × Int) × Nat × Nat) (e : Ending) (w' : World) : Prop :=
  w.grownBy w' (some g) ∧ RD 94 w' g l (k + R.2.2) ∧ e = .returned (.tuple #[.agg #[.int .i64 R.1.1, .int .i64 R.1.2.1, .int .i64 R.1.2.2.1, .int .i64 R.1.2.2.2], .int .i64 (R.2.1 : Int)])

theorem door_panic {w W : World} {g gb n nc : Nat} {l : List UInt8} {k kk : Nat} {a s e r : Int} {er : Nat} {R : (Int × Int × Int × Int) × Nat × Nat} {tmps : Array Value} (hli : LI w W g gb n nc l k kk a s e r) (hw : w.heap.size ≤ n) (o1 : g < n) (o2 : n + 1 + 1 < gb) (o3 : gb < nc) (hR : R = ((0, 0, 0, 0), er, 0))
    (hres : ∀ W' : World, W'.cell? ⟨n + 1, 0, none⟩ = some (.int .i64 0) → W'.cell? ⟨n + 1, 1, none⟩ = some (.int .i64 0) → W'.cell? ⟨n + 1, 2, none⟩ = some (.int .i64 0) → W'.cell? ⟨n + 1, 3, none⟩ = some (.int .i64 0) → W'.cell? ⟨n + 1 + 1, 0, none⟩ = some (.int .i64 (er : Int)) →
      (results Tryz.f27 tmps).run Tryz.prog W' = .ok (.tuple #[.agg #[.int .i64 0, .int .i64 0, .int .i64 0, .int .i64 0], .int .i64 (er : Int)]) W') :
    Leaves Tryz.prog Tryz.f27 tmps (RdOut w g l k R) [{ target := .fn (.func 48) #[.pointer (some ⟨nc, 0, none⟩), .pointer (some ⟨n, 0, none⟩), .pointer (some ⟨n + 1, 0, none⟩), .pointer (some ⟨n + 1 + 1, 0, none⟩)], args := #[] }]
      (.panicking [{ v := .iface 27 (.int .i64 (er : Int)), recovered := false }]) W := by
  obtain ⟨h1, h2, h3, h4, h5, h6, h7⟩ := hli
  refine leaves_cons (f := 48) (args := #[.pointer (some ⟨nc, 0, none⟩), .pointer (some ⟨n, 0, none⟩), .pointer (some ⟨n + 1, 0, none⟩), .pointer (some ⟨n + 1 + 1, 0, none⟩)]) (by simp) (by simp [go_sem]) ?_
  refine (ltread_panic nc n (n + 1) (n + 1 + 1) g gb er [] l k kk a s e r W (by omega) (by omega) (by omega) (by omega) h5 h2 h3 h4 h7 h6).mono ?_
  rintro en u' w'' ⟨rfl, rfl, hfix⟩
  obtain ⟨hr2, ht2, he2, hgr⟩ := hfix.gives h7 h3 h4 (by omega) (by omega) (by omega)
  obtain ⟨d0, d1, d2, d3⟩ := ht2.cells
  have d4 := he2.cell
  subst hR
  exact ⟨_, hres _ d0 d1 d2 d3 d4, hgr w.heap.size (by omega) (by omega) w rfl h1, hr2, rfl⟩
theorem read_end {w W : World} {g gb n nc : Nat} {l : List UInt8} {k kk : Nat} {a s e r : Int} (hli : LI w W g gb n nc l k kk a s e r) (hw : w.heap.size ≤ n) (o1 : g < n) (o2 : n + 1 + 1 < gb) (o3 : gb < nc) :
    ∃ WF, ((((W.setCell ⟨n + 1, 0, none⟩ (.int .i64 a)).setCell ⟨n + 1, 1, none⟩ (.int .i64 s)).setCell ⟨n + 1, 2, none⟩ (.int .i64 e)).setCell ⟨n + 1, 3, none⟩ (.int .i64 r)).setCell ⟨n + 1 + 1, 0, none⟩ (.int .i64 0) = WF ∧ w.grownBy WF (some g) ∧ RD 94 WF g l kk ∧
      WF.cell? ⟨n + 1, 0, none⟩ = some (.int .i64 a) ∧ WF.cell? ⟨n + 1, 1, none⟩ = some (.int .i64 s) ∧ WF.cell? ⟨n + 1, 2, none⟩ = some (.int .i64 e) ∧ WF.cell? ⟨n + 1, 3, none⟩ = some (.int .i64 r) ∧ WF.cell? ⟨n + 1 + 1, 0, none⟩ = some (.int .i64 0) := by
  refine ⟨_, rfl, ?_⟩
  have h1 := hli.put (i := 0) (v := .int .i64 a) hw o1 o2 o3 (hli.2.2.1.set0 a)
  have h2 := h1.put (i := 1) (v := .int .i64 s) hw o1 o2 o3 (h1.2.2.1.set1 s)
  have h3 := h2.put (i := 2) (v := .int .i64 e) hw o1 o2 o3 (h2.2.2.1.set2 e)
  have h4 := h3.put (i := 3) (v := .int .i64 r) hw o1 o2 o3 (h3.2.2.1.set3 r)
  generalize (((W.setCell ⟨n + 1, 0, none⟩ (.int .i64 a)).setCell ⟨n + 1, 1, none⟩ (.int .i64 s)).setCell ⟨n + 1, 2, none⟩ (.int .i64 e)).setCell ⟨n + 1, 3, none⟩ (.int .i64 r) = W4 at *
  obtain ⟨k1, k2, k3, k4, k5, k6, k7⟩ := h4
  have hg : W4.grownBy (W4.setCell ⟨n + 1 + 1, 0, none⟩ (.int .i64 0)) (some (n + 1 + 1)) := grown_set (grown_refl _ _) 0 _
  have ht := k3.but (by omega) hg
  exact ⟨grown_new k1 hg (by omega), k7.away k4.noU8i hg (by omega), ht.cells.1, ht.cells.2.1, ht.cells.2.2.1, ht.cells.2.2.2, (k4.set (.int .i64 0)).cell⟩
theorem last_cases (m : List UInt8) : (taggedF 3 m = (none, false, 0, 0) ∧ lastF m = (0, 0, 0)) ∨ (taggedF 3 m ≠ (none, false, 0, 0) ∧ ∃ v er u, fieldF 0 readTimeF 3 m = (v, er, u) ∧ ((er ≠ 0 ∧ lastF m = (0, er, 0)) ∨ (er = 0 ∧ v = 0 ∧ lastF m = (0, 6, 0)) ∨ (er = 0 ∧ v ≠ 0 ∧ lastF m = (v, 0, u)))) := by
  by_cases h : taggedF 3 m = (none, false, 0, 0)
  · left; exact ⟨h, by unfold lastF; rw [if_pos h]⟩
  · right
    refine ⟨h, (fieldF 0 readTimeF 3 m).1, (fieldF 0 readTimeF 3 m).2.1, (fieldF 0 readTimeF 3 m).2.2, rfl, ?_⟩
    unfold lastF
    rw [if_neg h]
    by_cases h1 : (fieldF 0 readTimeF 3 m).2.1 ≠ 0
    · left; rw [if_pos h1]; exact ⟨h1, rfl⟩
    · have h1' : (fieldF 0 readTimeF 3 m).2.1 = 0 := by simpa using h1
      right
      rw [if_neg h1]
      by_cases h2 : (fieldF 0 readTimeF 3 m).1 = 0
      · left; rw [if_pos h2]; exact ⟨h1', h2, rfl⟩
      · right; rw [if_neg h2]; exact ⟨h1', h2, by rw [← h1']⟩

set_option maxRecDepth 100000 in
set_option maxHeartbeats 4000000 in
theorem Read_at (g : Nat) (l : List UInt8) (k : Nat) (m : List UInt8) (hm : l.drop k = m) (w : World) (h : RD 94 w g l k) :
    Calls Tryz.prog 27 #[.pointer (some ⟨g, 0, none⟩)] w (RdOut w g l k (timesRd m)) := by
  have hgl := h.lt
  have hkl := h.le
  have hmf : ∀ (fn : Fn) (first cap : Array Value) (w : World), (Instr.makeFunc fn first cap).run Tryz.prog w = .ok (.func fn first cap) w := fun _ _ _ _ => rfl
  obtain ⟨W3, hw3, hx3, hp3, ht3, he3, hs3⟩ := boxesR w (.pointer (some ⟨g, 0, none⟩))
  have cp := hp3.cell
  have HX3 := Lib.hid hx3; have HP3 := Lib.hid hp3; have HT3 := Lib.hid ht3; have HE3 := Lib.hid he3; have HS3 := Lib.hid hs3
  clear hp3 ht3 he3 hs3
  have HM := Lib.hid hm; clear hm
  go_enter_defers Tryz.func27, Tryz.ntmps27
  go_wp2_with fail
  refine (Copy_at g l k W3 (h.ext hx3)).mono ?_
  rintro e w1 ⟨gb, rfl, hgb, hrb, hx1⟩
  obtain ⟨W2, hW2, hx2, hc2⟩ : ∃ W2, w1.alloc (.cells #[.pointer (some ⟨gb, 0, none⟩)] 66) = W2 ∧ Ext w1 W2 ∧ B1 66 W2 w1.heap.size (.pointer (some ⟨gb, 0, none⟩)) := ⟨_, rfl, (Ext.refl _).alloc _, B1.new _ w1 _⟩
  have hx13 := hx1.trans hx2
  have hli : LI w W2 g gb w.heap.size w1.heap.size l k k 0 0 0 0 := ⟨(hx3.trans hx13).but _, HP3.out.ext hx13, HT3.out.ext hx13, HE3.out.ext hx13, hc2, hrb.ext hx2, h.ext (hx3.trans hx13)⟩
  have o1 : g < w.heap.size := hgl
  have o2 : w.heap.size + 1 + 1 < gb := by have := HS3.out; omega
  have o3 : gb < w1.heap.size := hrb.lt
  have hs2 : W2.heap.size = w1.heap.size + 1 := by rw [← hW2]; simp
  have cc := hc2.cell
  have cp2 := hli.2.1.cell
  have HLI := Lib.hid hli; have HS2 := Lib.hid hs2
  clear hw3 hx3 cp hrb hx1 hx2 hc2 hx13 hli hs2 hgb
  rcases readIn_cases 48 m with ⟨x, hx, hxl⟩ | ⟨e9, he, hx⟩
  · obtain ⟨us, hus⟩ : ∃ us, (readInF 48 m).2.2 = us := ⟨_, rfl⟩
    rw [hus] at hx
    obtain ⟨a, e0, u0, h0⟩ : ∃ p e u, fieldF 0 readTimeF 0 x = (p, e, u) := ⟨_, _, _, rfl⟩
    obtain ⟨s, e1, u1, h1⟩ : ∃ p e u, fieldF 0 readTimeF 1 (x.drop u0) = (p, e, u) := ⟨_, _, _, rfl⟩
    obtain ⟨e, e2, u2, h2⟩ : ∃ p e u, fieldF 0 readTimeF 2 (x.drop (u0 + u1)) = (p, e, u) := ⟨_, _, _, rfl⟩
    obtain ⟨r, e3, u3, h3⟩ : ∃ p e u, lastF (x.drop (u0 + u1 + u2)) = (p, e, u) := ⟨_, _, _, rfl⟩
    have HK := Lib.hid (timesRd_in m x us hx a e0 u0 h0 s e1 u1 h1 e e2 u2 h2 r e3 u3 h3)
    have HSQ := Lib.hid (RdSequence_at g l k m HM.out _ _ _ hx)
    have HF0 := Lib.hid (fun (W : World) (g' : Nat) => lt_field_at true g' x 0 x rfl 0 (by omega) (.inl rfl) _ _ _ h0 W)
    have HF1 := Lib.hid (fun (W : World) (g' : Nat) => lt_field_at true g' x u0 _ rfl 1 (by omega) (.inl rfl) _ _ _ h1 W)
    have HF2 := Lib.hid (fun (W : World) (g' : Nat) => lt_field_at true g' x (u0 + u1) _ rfl 2 (by omega) (.inl rfl) _ _ _ h2 W)
    have hlast := last_cases (x.drop (u0 + u1 + u2))
    rw [h3] at hlast
    have HLAST := Lib.hid hlast
    clear hus hx h0 h1 h2 h3 hlast HM
    go_wp2_with fail
    refine (HSQ.out W2 HLI.out.2.2.2.2.2.2).mono ?_
    rintro en w3 ⟨p, rfl, hg3, hr3, ⟨hx, _⟩ | ⟨x1, g1, hx, _, rfl, hB1, hr3'⟩⟩
    · cases hx
    injection hx with hx
    subst hx
    have hn1 : w1.heap.size < g1 := by have := HS2.out; omega
    have HLI3 := Lib.hid (HLI.out.seq o1 o2 o3 hg3 hr3)
    clear hW2 cc cp2 hg3 hr3
    go_wp2_with fail
    refine (lt_must_reader_ok _ _).mono ?_
    rintro en w3b ⟨rfl, rfl⟩
    go_wp2_with fail
    refine (HF0.out w3 g1 hr3').mono ?_
    rintro en w4 ⟨hg4, ⟨hz0, hr4, v0, rfl, rfl⟩ | ⟨hz0, ⟨k4, hr4⟩, hee⟩⟩
    · have hli4 := HLI3.out.far (Nat.le_refl _) o1 o2 o3 hn1 hr3'.noU8 hg4
      rw [Nat.zero_add] at hr4
      obtain ⟨q0, q1, q2, q3⟩ := hli4.2.2.1.cells
      have f0 := hli4.2.2.1.soft 0
      obtain ⟨W5, hW5, hli5, hr5⟩ : ∃ W5, w4.setCell ⟨w.heap.size + 1, 0, none⟩ (.int .i64 a) = W5 ∧ LI w W5 g gb w.heap.size w1.heap.size l k (k + us) a 0 0 0 ∧ RD 94 W5 g1 x u0 := ⟨_, rfl, hli4.put (Nat.le_refl _) o1 o2 o3 (hli4.2.2.1.set0 a), hr4.put hli4.2.2.1 (by omega)⟩
      have HZ0 := Lib.hid hz0; have HLI50 := Lib.hid hli5; have HR50 := Lib.hid hr5
      clear hz0 hli4 hg4 hr4 hli5 hr5
      clear hr3'
      go_wp2_with fail
      refine (HF1.out W5 g1 HR50.out).mono ?_
      rintro en w4 ⟨hg4, ⟨hz1, hr4, v0, rfl, rfl⟩ | ⟨hz1, ⟨k4, hr4⟩, hee⟩⟩
      · have hli4 := HLI50.out.far (Nat.le_refl _) o1 o2 o3 hn1 HR50.out.noU8 hg4
        obtain ⟨q0, q1, q2, q3⟩ := hli4.2.2.1.cells
        have f1 := hli4.2.2.1.soft 1
        obtain ⟨W5, hW5, hli5, hr5⟩ : ∃ W5, w4.setCell ⟨w.heap.size + 1, 1, none⟩ (.int .i64 s) = W5 ∧ LI w W5 g gb w.heap.size w1.heap.size l k (k + us) a s 0 0 ∧ RD 94 W5 g1 x (u0 + u1) := ⟨_, rfl, hli4.put (Nat.le_refl _) o1 o2 o3 (hli4.2.2.1.set1 s), hr4.put hli4.2.2.1 (by omega)⟩
        have HZ1 := Lib.hid hz1; have HLI51 := Lib.hid hli5; have HR51 := Lib.hid hr5
        clear hz1 hli4 hg4 hr4 hli5 hr5
        go_wp2_with fail
        refine (HF2.out W5 g1 HR51.out).mono ?_
        rintro en w4 ⟨hg4, ⟨hz2, hr4, v0, rfl, rfl⟩ | ⟨hz2, ⟨k4, hr4⟩, hee⟩⟩
        · have hli4 := HLI51.out.far (Nat.le_refl _) o1 o2 o3 hn1 HR51.out.noU8 hg4
          obtain ⟨q0, q1, q2, q3⟩ := hli4.2.2.1.cells
          have f2 := hli4.2.2.1.soft 2
          obtain ⟨W5, hW5, hli5, hr5⟩ : ∃ W5, w4.setCell ⟨w.heap.size + 1, 2, none⟩ (.int .i64 e) = W5 ∧ LI w W5 g gb w.heap.size w1.heap.size l k (k + us) a s e 0 ∧ RD 94 W5 g1 x (u0 + u1 + u2) := ⟨_, rfl, hli4.put (Nat.le_refl _) o1 o2 o3 (hli4.2.2.1.set2 e), hr4.put hli4.2.2.1 (by omega)⟩
          have HZ2 := Lib.hid hz2; have HLI52 := Lib.hid hli5; have HR52 := Lib.hid hr5
          clear hz2 hli4 hg4 hr4 hli5 hr5
          rcases HLAST.out with ⟨ht, hl⟩ | ⟨ht, v, er, u, hf, ⟨her, hl⟩ | ⟨her, hv, hl⟩ | ⟨her, hv, hl⟩⟩
          · simp only [Prod.mk.injEq] at hl
            obtain ⟨rfl, rfl, rfl⟩ := hl
            have HF3 := Lib.hid (fun (W : World) (g' : Nat) => lt_field_absent g' x (u0 + u1 + u2) _ rfl 3 (by omega) ht W)
            have HZ3 := Lib.hid (rfl : (0 : Nat) = 0); clear ht
            go_wp2_with fail
            refine (HF3.out W5 g1 HR52.out).mono ?_
            rintro en w6 ⟨hg6, ⟨_, hr6, v0, rfl, rfl⟩ | ⟨hh, _⟩⟩
            · have hli6 := HLI52.out.far (Nat.le_refl _) o1 o2 o3 hn1 HR52.out.noU8 hg6
              obtain ⟨q0, q1, q2, q3⟩ := hli6.2.2.1.cells
              have f3 := hli6.2.2.1.soft 3
              obtain ⟨W7, hW7, hli7, hr7⟩ : ∃ W7, w6.setCell ⟨w.heap.size + 1, 3, none⟩ (.int .i64 0) = W7 ∧ LI w W7 g gb w.heap.size w1.heap.size l k (k + us) a s e 0 ∧ RD 94 W7 g1 x (u0 + u1 + u2 + 0) := ⟨_, rfl, hli6.put (Nat.le_refl _) o1 o2 o3 (hli6.2.2.1.set3 0), hr6.put hli6.2.2.1 (by omega)⟩
              have HLI7 := Lib.hid hli7; have HR7 := Lib.hid hr7
              clear hli6 hg6 hr6 hli7 hr7
              by_cases hlt : u0 + u1 + u2 + 0 < x.length
              · obtain ⟨rn, hrn⟩ : ∃ rn, x.length - (u0 + u1 + u2 + 0) = rn := ⟨_, rfl⟩
                have hp : (0 : Int) < rn := by omega
                have HRN := Lib.hid hrn; have HLT := Lib.hid hlt; clear hrn hlt
                go_wp2_with fail
                refine (Left_at g1 x _ _ HR7.out).mono ?_
                rintro en w8 ⟨rfl, hx8⟩
                rw [HRN.out]
                have HLI8 := Lib.hid (HLI7.out.ext hx8); clear hx8
                go_wp2_with fail
                exact door_panic HLI8.out (Nat.le_refl _) o1 o2 o3 (HK.out.2.2.2.2.1 HZ0.out HZ1.out HZ2.out HZ3.out (.inl HLT.out)) (fun W' d0 d1 d2 d3 d4 => by simp [results, Tryz.results27, go_sem, d0, d1, d2, d3, d4])
              · obtain ⟨rn, hrn⟩ : ∃ rn, x.length - (u0 + u1 + u2 + 0) = rn := ⟨_, rfl⟩
                have hp : ¬ (0 : Int) < rn := by omega
                have HRN := Lib.hid hrn; have HLT := Lib.hid hlt; clear hrn hlt
                go_wp2_with fail
                refine (Left_at g1 x _ _ HR7.out).mono ?_
                rintro en w8 ⟨rfl, hx8⟩
                rw [HRN.out]
                have hli8 := HLI7.out.ext hx8
                obtain ⟨q0, q1, q2, q3⟩ := hli8.2.2.1.cells
                have HLI8 := Lib.hid hli8; clear hx8 hli8
                go_wp2_with fail
                refine (Valid_at a s e 0 _).mono ?_
                rintro en w9 ⟨rfl, hx9⟩
                have hli9 := HLI8.out.ext hx9
                clear q0 q1 q2 q3
                obtain ⟨q0, q1, q2, q3⟩ := hli9.2.2.1.cells
                have f0 := hli9.2.2.1.soft 0; have f1 := hli9.2.2.1.soft 1; have f2 := hli9.2.2.1.soft 2; have f3 := hli9.2.2.1.soft 3
                have c8 := hli9.2.2.2.1.cell; have f8 := hli9.2.2.2.1.soft
                have HLI9 := Lib.hid hli9; clear hx9 hli9
                cases hvb : validB a s e 0
                · have HVB := Lib.hid hvb; clear hvb
                  go_wp2_with fail
                  exact door_panic HLI9.out (Nat.le_refl _) o1 o2 o3 (HK.out.2.2.2.2.1 HZ0.out HZ1.out HZ2.out HZ3.out (.inr HVB.out)) (fun W' d0 d1 d2 d3 d4 => by simp [results, Tryz.results27, go_sem, d0, d1, d2, d3, d4])
                · have HVB := Lib.hid hvb; clear hvb
                  have hK := HK.out.2.2.2.2.2 HZ0.out HZ1.out HZ2.out HZ3.out (by rw [HVB.out]; intro hh; rcases hh with hh | hh; exact HLT.out hh; cases hh)
                  have HKF := Lib.hid hK; clear hK
                  obtain ⟨WF, hWF, hgF, hrF, d0, d1, d2, d3, d4⟩ := read_end HLI9.out (Nat.le_refl _) o1 o2 o3
                  go_wp2_with fail
                  refine leaves_cons (f := 48) (args := #[.pointer (some ⟨w1.heap.size, 0, none⟩), .pointer (some ⟨w.heap.size, 0, none⟩), .pointer (some ⟨w.heap.size + 1, 0, none⟩), .pointer (some ⟨w.heap.size + 1 + 1, 0, none⟩)]) (by simp) (by simp [go_sem]) ?_
                  refine (ltread_idle _ _ _ _ _).mono ?_
                  rintro en u' w'' ⟨rfl, rfl, rfl⟩
                  exact ⟨.tuple #[.agg #[.int .i64 a, .int .i64 s, .int .i64 e, .int .i64 0], .int .i64 0], by simp [results, Tryz.results27, go_sem, d0, d1, d2, d3, d4], by rw [HKF.out]; exact ⟨hgF, hrF, rfl⟩⟩
            · exact absurd rfl hh
          · simp only [Prod.mk.injEq] at hl
            obtain ⟨rfl, rfl, rfl⟩ := hl
            have HF3 := Lib.hid (fun (W : World) (g' : Nat) => lt_field_at false g' x (u0 + u1 + u2) _ rfl 3 (by omega) (.inr ht) _ _ _ hf W)
            have HZ3 := Lib.hid her; clear ht hf her
            go_wp2_with fail
            refine (HF3.out W5 g1 HR52.out).mono ?_
            rintro en w6 ⟨hg6, ⟨hh, _⟩ | ⟨_, ⟨k4, hr6⟩, hee⟩⟩
            · exact absurd hh HZ3.out
            · unfold erp at hee
              subst hee
              have hli4 := Lib.hid (HLI52.out.far (Nat.le_refl _) o1 o2 o3 hn1 HR52.out.noU8 hg6)
              clear hg6 hr6
              go_wp2_with fail
              exact door_panic hli4.out (Nat.le_refl _) o1 o2 o3 (HK.out.2.2.2.1 HZ0.out HZ1.out HZ2.out HZ3.out) (fun W' d0 d1 d2 d3 d4 => by simp [results, Tryz.results27, go_sem, d0, d1, d2, d3, d4])
          · simp only [Prod.mk.injEq] at hl
            obtain ⟨rfl, rfl, rfl⟩ := hl
            subst her; subst hv
            have HF3 := Lib.hid (fun (W : World) (g' : Nat) => lt_field_at false g' x (u0 + u1 + u2) _ rfl 3 (by omega) (.inr ht) _ _ _ hf W)
            clear ht hf
            go_wp2_with fail
            refine (HF3.out W5 g1 HR52.out).mono ?_
            rintro en w6 ⟨hg6, ⟨_, hr6, v0, rfl, rfl⟩ | ⟨hh, _⟩⟩
            · have hli4 := Lib.hid (HLI52.out.far (Nat.le_refl _) o1 o2 o3 hn1 HR52.out.noU8 hg6)
              clear hg6 hr6
              go_wp2_with fail
              exact door_panic hli4.out (Nat.le_refl _) o1 o2 o3 (HK.out.2.2.2.1 HZ0.out HZ1.out HZ2.out (by decide)) (fun W' d0 d1 d2 d3 d4 => by simp [results, Tryz.results27, go_sem, d0, d1, d2, d3, d4])
            · exact absurd rfl hh
          · simp only [Prod.mk.injEq] at hl
            obtain ⟨rfl, rfl, rfl⟩ := hl
            subst her
            have hv0 : (r == 0) = false := beq_eq_false_iff_ne.2 hv
            have HF3 := Lib.hid (fun (W : World) (g' : Nat) => lt_field_at false g' x (u0 + u1 + u2) _ rfl 3 (by omega) (.inr ht) _ _ _ hf W)
            have HZ3 := Lib.hid (rfl : (0 : Nat) = 0); clear ht hf hv
            go_wp2_with fail
            refine (HF3.out W5 g1 HR52.out).mono ?_
            rintro en w6 ⟨hg6, ⟨_, hr6, v0, rfl, rfl⟩ | ⟨hh, _⟩⟩
            · have hli6 := HLI52.out.far (Nat.le_refl _) o1 o2 o3 hn1 HR52.out.noU8 hg6
              obtain ⟨q0, q1, q2, q3⟩ := hli6.2.2.1.cells
              have f3 := hli6.2.2.1.soft 3
              obtain ⟨W7, hW7, hli7, hr7⟩ : ∃ W7, w6.setCell ⟨w.heap.size + 1, 3, none⟩ (.int .i64 r) = W7 ∧ LI w W7 g gb w.heap.size w1.heap.size l k (k + us) a s e r ∧ RD 94 W7 g1 x (u0 + u1 + u2 + u3) := ⟨_, rfl, hli6.put (Nat.le_refl _) o1 o2 o3 (hli6.2.2.1.set3 r), hr6.put hli6.2.2.1 (by omega)⟩
              have HLI7 := Lib.hid hli7; have HR7 := Lib.hid hr7
              clear hli6 hg6 hr6 hli7 hr7
              by_cases hlt : u0 + u1 + u2 + u3 < x.length
              · obtain ⟨rn, hrn⟩ : ∃ rn, x.length - (u0 + u1 + u2 + u3) = rn := ⟨_, rfl⟩
                have hp : (0 : Int) < rn := by omega
                have HRN := Lib.hid hrn; have HLT := Lib.hid hlt; clear hrn hlt
                go_wp2_with fail
                refine (Left_at g1 x _ _ HR7.out).mono ?_
                rintro en w8 ⟨rfl, hx8⟩
                rw [HRN.out]
                have HLI8 := Lib.hid (HLI7.out.ext hx8); clear hx8
                go_wp2_with fail
                exact door_panic HLI8.out (Nat.le_refl _) o1 o2 o3 (HK.out.2.2.2.2.1 HZ0.out HZ1.out HZ2.out HZ3.out (.inl HLT.out)) (fun W' d0 d1 d2 d3 d4 => by simp [results, Tryz.results27, go_sem, d0, d1, d2, d3, d4])
              · obtain ⟨rn, hrn⟩ : ∃ rn, x.length - (u0 + u1 + u2 + u3) = rn := ⟨_, rfl⟩
                have hp : ¬ (0 : Int) < rn := by omega
                have HRN := Lib.hid hrn; have HLT := Lib.hid hlt; clear hrn hlt
                go_wp2_with fail
                refine (Left_at g1 x _ _ HR7.out).mono ?_
                rintro en w8 ⟨rfl, hx8⟩
                rw [HRN.out]
                have hli8 := HLI7.out.ext hx8
                obtain ⟨q0, q1, q2, q3⟩ := hli8.2.2.1.cells
                have HLI8 := Lib.hid hli8; clear hx8 hli8
                go_wp2_with fail
                refine (Valid_at a s e r _).mono ?_
                rintro en w9 ⟨rfl, hx9⟩
                have hli9 := HLI8.out.ext hx9
                clear q0 q1 q2 q3
                obtain ⟨q0, q1, q2, q3⟩ := hli9.2.2.1.cells
                have f0 := hli9.2.2.1.soft 0; have f1 := hli9.2.2.1.soft 1; have f2 := hli9.2.2.1.soft 2; have f3 := hli9.2.2.1.soft 3
                have c8 := hli9.2.2.2.1.cell; have f8 := hli9.2.2.2.1.soft
                have HLI9 := Lib.hid hli9; clear hx9 hli9
                cases hvb : validB a s e r
                · have HVB := Lib.hid hvb; clear hvb
                  go_wp2_with fail
                  exact door_panic HLI9.out (Nat.le_refl _) o1 o2 o3 (HK.out.2.2.2.2.1 HZ0.out HZ1.out HZ2.out HZ3.out (.inr HVB.out)) (fun W' d0 d1 d2 d3 d4 => by simp [results, Tryz.results27, go_sem, d0, d1, d2, d3, d4])
                · have HVB := Lib.hid hvb; clear hvb
                  have hK := HK.out.2.2.2.2.2 HZ0.out HZ1.out HZ2.out HZ3.out (by rw [HVB.out]; intro hh; rcases hh with hh | hh; exact HLT.out hh; cases hh)
                  have HKF := Lib.hid hK; clear hK
                  obtain ⟨WF, hWF, hgF, hrF, d0, d1, d2, d3, d4⟩ := read_end HLI9.out (Nat.le_refl _) o1 o2 o3
                  go_wp2_with fail
                  refine leaves_cons (f := 48) (args := #[.pointer (some ⟨w1.heap.size, 0, none⟩), .pointer (some ⟨w.heap.size, 0, none⟩), .pointer (some ⟨w.heap.size + 1, 0, none⟩), .pointer (some ⟨w.heap.size + 1 + 1, 0, none⟩)]) (by simp) (by simp [go_sem]) ?_
                  refine (ltread_idle _ _ _ _ _).mono ?_
                  rintro en u' w'' ⟨rfl, rfl, rfl⟩
                  exact ⟨.tuple #[.agg #[.int .i64 a, .int .i64 s, .int .i64 e, .int .i64 r], .int .i64 0], by simp [results, Tryz.results27, go_sem, d0, d1, d2, d3, d4], by rw [HKF.out]; exact ⟨hgF, hrF, rfl⟩⟩
            · exact absurd rfl hh
        · unfold erp at hee
          subst hee
          have hli4 := Lib.hid (HLI51.out.far (Nat.le_refl _) o1 o2 o3 hn1 HR51.out.noU8 hg4)
          have HZ2 := Lib.hid hz2
          clear hz2 hg4 hr4
          go_wp2_with fail
          exact door_panic hli4.out (Nat.le_refl _) o1 o2 o3 (HK.out.2.2.1 HZ0.out HZ1.out HZ2.out) (fun W' d0 d1 d2 d3 d4 => by simp [results, Tryz.results27, go_sem, d0, d1, d2, d3, d4])
      · unfold erp at hee
        subst hee
        have hli4 := Lib.hid (HLI50.out.far (Nat.le_refl _) o1 o2 o3 hn1 HR50.out.noU8 hg4)
        have HZ1 := Lib.hid hz1
        clear hz1 hg4 hr4
        go_wp2_with fail
        exact door_panic hli4.out (Nat.le_refl _) o1 o2 o3 (HK.out.2.1 HZ0.out HZ1.out) (fun W' d0 d1 d2 d3 d4 => by simp [results, Tryz.results27, go_sem, d0, d1, d2, d3, d4])
    · unfold erp at hee
      subst hee
      have hli4 := Lib.hid (HLI3.out.far (Nat.le_refl _) o1 o2 o3 hn1 hr3'.noU8 hg4)
      have HZ0 := Lib.hid hz0
      clear hz0 hg4 hr4
      go_wp2_with fail
      exact door_panic hli4.out (Nat.le_refl _) o1 o2 o3 (HK.out.1 HZ0.out) (fun W' d0 d1 d2 d3 d4 => by simp [results, Tryz.results27, go_sem, d0, d1, d2, d3, d4])
  · have HSQ := Lib.hid (RdSequence_at g l k m HM.out _ _ _ hx)
    have HK := Lib.hid (timesRd_no m e9 he hx)
    have HE := Lib.hid he
    clear hx he HM
    go_wp2_with fail
    refine (HSQ.out W2 HLI.out.2.2.2.2.2.2).mono ?_
    rintro en w3 ⟨p, rfl, hg3, hr3, ⟨_, _, rfl⟩ | ⟨x1, g1, hx, _⟩⟩
    · have HLI3 := Lib.hid (HLI.out.seq o1 o2 o3 hg3 hr3)
      clear hW2 cc cp2 hg3 hr3
      go_wp2_with fail
      refine (lt_must_reader_no _ _ HE.out _).mono ?_
      unfold erp
      rintro en w4 ⟨rfl, rfl⟩
      go_wp2_with fail
      exact door_panic HLI3.out (Nat.le_refl _) o1 o2 o3 HK.out (fun W' d0 d1 d2 d3 d4 => by simp [results, Tryz.results27, go_sem, d0, d1, d2, d3, d4])
    · cases hx
end Go.Proofs.YtfgmmjpejlpdoaaGreatDoor
