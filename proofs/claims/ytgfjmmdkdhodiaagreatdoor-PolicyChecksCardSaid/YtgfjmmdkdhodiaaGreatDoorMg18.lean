/- Texts laid together (wip/tools/automerge.py): PoL2, PoL3. -/
import Derived.Test.YtgfjmmdkdhodiaaGreatDoorMg13
import Derived.Outline
import Derived.Test.YtgfjmmdkdhodiaaGreatDoorPoL1
namespace Go.Proofs.YtgfjmmdkdhodiaaGreatDoor
open Go Go.RowKit
set_option linter.unusedVariables false
attribute [local go_sem] Oper.semAt_some

theorem seq_nilR (cap : Array Value) (w : World) : (binOp .eql 42 (.func (.func 38) #[] cap) .nilFunc).run Tryz.prog w = .ok (.bool false) w := by kernel_rfl
/-- The law's own boxes. -/
def OvB (b : Nat) (v : Value) (many k : Int) (V : World) : Prop :=
  V.heap[b]? = some (.cells #[v] 38 (0, 0)) ∧ V.heap[b + 1]? = some (.cells #[.int .i64 many] 3 (0, 0)) ∧ V.heap[b + 1 + 1]? = some (.cells #[.bool false] 4 (0, 0)) ∧ V.heap[b + 1 + 1 + 1]? = some (.cells #[.int .i64 k] 3 (0, 0))
theorem OvB.stab {B b : Nat} {v : Value} {many k : Int} : Stab B (OvB b v many k) := (Stab.heap _ _ _ _).and ((Stab.heap _ _ _ _).and ((Stab.heap _ _ _ _).and (Stab.heap _ _ _ _)))
theorem OvB.ext {b : Nat} {v : Value} {many k : Int} {V V' : World} (h : OvB b v many k V) (hx : Ext V V') : OvB b v many k V' := ⟨hx.heap h.1, hx.heap h.2.1, hx.heap h.2.2.1, hx.heap h.2.2.2⟩
def OvI (b : Nat) (v : Value) (many : Int) (w : World) (pre : List Nat) (V : World) : Prop := OvB b v many pre.length V ∧ (pre = [] ∨ (pre.length : Int) < many) ∧ Ext w V
def OvX (b : Nat) (v : Value) (many : Int) (w : World) (cd : Code) (pre : List Nat) (V : World) : Prop := cd = .exit 0 ∧ OvB b v many pre.length V ∧ (1 ≤ pre.length ∧ many ≤ pre.length ∧ (pre.length = 1 ∨ (pre.length : Int) - 1 < many)) ∧ Ext w V
theorem OvI.stab {B b : Nat} {v : Value} {many : Int} {w : World} (h : w.heap.size ≤ B) (pre : List Nat) : Stab B (OvI b v many w pre) := OvB.stab.and ((Stab.pure _).and (Stab.ext w h))
theorem OvX.stab {B b : Nat} {v : Value} {many : Int} {w : World} (h : w.heap.size ≤ B) (cd : Code) (pre : List Nat) : Stab B (OvX b v many w cd pre) := (Stab.pure _).and (OvB.stab.and ((Stab.pure _).and (Stab.ext w h)))

set_option maxRecDepth 100000 in
set_option maxHeartbeats 2000000 in
theorem over_at (g : Nat) (A : Option Addr) (c : Nat) (L : List Nat) (hL : L.length ≤ 7) (A1 : Option Addr) (c1 : Nat) (many : Int) (w : World) (hg : g < w.heap.size) (hit : ItR g A c L w) (hR : RS w (.slice A1 L.length c1) (rv L)) :
    Calls Tryz.prog 19 #[.func (.func 38) #[] #[.pointer (some ⟨g, 0, none⟩)], .slice A1 L.length c1, .int .i64 many] w fun e w' => e = .returned (.bool true) ∧ Ext w w' := by
  obtain ⟨V0, hV0⟩ : ∃ V0, V0 = (((w.alloc (.cells #[.slice A1 L.length c1] 38)).alloc (.cells #[.int .i64 many] 3)).alloc (.cells #[.bool false] 4)).alloc (.cells #[.int .i64 0] 3) := ⟨_, rfl⟩
  have hx0 : Ext w V0 := by rw [hV0]; exact ((((Ext.refl w).alloc _).alloc _).alloc _).alloc _
  have hb0 : OvB w.heap.size (.slice A1 L.length c1) many 0 V0 := by
    rw [hV0]
    have h1 := heap_alloc_new w (.cells #[.slice A1 L.length c1] 38)
    have h2 := heap_alloc_new (w.alloc (.cells #[.slice A1 L.length c1] 38)) (.cells #[.int .i64 many] 3)
    have h3 := heap_alloc_new ((w.alloc (.cells #[.slice A1 L.length c1] 38)).alloc (.cells #[.int .i64 many] 3)) (.cells #[.bool false] 4)
    have h4 := heap_alloc_new (((w.alloc (.cells #[.slice A1 L.length c1] 38)).alloc (.cells #[.int .i64 many] 3)).alloc (.cells #[.bool false] 4)) (.cells #[.int .i64 0] 3)
    rw [World.size_alloc] at h2
    rw [World.size_alloc, World.size_alloc] at h3
    rw [World.size_alloc, World.size_alloc, World.size_alloc] at h4
    exact ⟨((((Ext.refl _).alloc _).alloc _).alloc _).heap h1, (((Ext.refl _).alloc _).alloc _).heap h2, ((Ext.refl _).alloc _).heap h3, h4⟩
  have hz0 : V0.heap.size = w.heap.size + 4 := by rw [hV0]; simp
  have HX0 := Lib.hid hx0; have HB0 := Lib.hid hb0; have HIT := Lib.hid (hit.ext hx0); have HR := Lib.hid hR; have HLL := Lib.hid hL; have HZ := Lib.hid hz0; have HG := Lib.hid (show g ≠ w.heap.size + 1 + 1 + 1 by omega)
  have HA := Lib.hid (show 0 < L.length → ∀ ad, A = some ad → ad.block ≠ w.heap.size + 1 + 1 + 1 from fun hp ad ha => by
    obtain ⟨A', c', he, e1, e2, e3⟩ := hit.2
    obtain ⟨ad', h1, h2, _⟩ := e3 (by rw [rv_length]; exact hp)
    injection he with z1 _ z3
    rw [← z1, ha] at h1
    injection h1 with h1
    subst h1
    omega)
  have hq := seq_nilR #[.pointer (some ⟨g, 0, none⟩)]
  clear hx0 hb0 hit hR hL hz0
  refine calls_of_marks Tryz.func19 rfl ?_
  simp only [Tryz.ntmps19, List.size_toArray, List.length_cons, List.length_nil, Nat.reduceAdd, Nat.reduceSub, Array.replicate_succ, Array.replicate_zero, List.push_toArray, List.append_toArray, List.nil_append, List.cons_append]
  go_wp2_with fail
  rw [← hV0]
  clear hV0 hq
  refine wpIn_wide.1 (wp_rangeC (gf := 38) (lb := #[.pointer (some ⟨g, 0, none⟩)]) rfl (Go.Proofs.enters_of Tryz.func38 (by kernel_rfl) rfl)
    (brk_iter g A c L (by have := HLL.out; omega)) (fun _ => rfl) (fun k hk => hk.elim) HIT.out (ItR.stab _ _ _ _ _)
    (OvI w.heap.size (.slice A1 L.length c1) many w) (OvX w.heap.size (.slice A1 L.length c1) many w)
    (fun pre => OvI.stab HX0.out.size pre) (fun cd pre => OvX.stab HX0.out.size cd pre)
    (fun pre X Y r hr hg h => ?_) (fun cd pre X Y r hr hg h => ?_) ⟨HB0.out, .inl rfl, HX0.out⟩ ?_ ?_ ?_)
  · have hn : r = none := by cases r with | none => rfl | some k => exact (hr k rfl).elim
    subst hn
    exact ⟨h.1.ext (grown_of_ext hg), h.2.1, h.2.2.trans (grown_of_ext hg)⟩
  · have hn : r = none := by cases r with | none => rfl | some k => exact (hr k rfl).elim
    subst hn
    exact ⟨h.1, h.2.1.ext (grown_of_ext hg), h.2.2.1, h.2.2.2.trans (grown_of_ext hg)⟩
  · intro l pre x V hl hnl hzV hIV hitV hGV
    simp only [ruleEnc]
    gi_wp2_with fail
    refine ⟨KA.refl _ _, fun V2 hg2 hn2 hsz2 => ?_⟩
    obtain ⟨⟨h1, h2, h3, h4⟩, hpre, hx2⟩ := (OvI.stab (B := V0.heap.size) HX0.out.size pre) V V2 l hl hn2 hg2 hIV
    have hit2 := (ItR.stab V0.heap.size g A c L) V V2 l hl hn2 hg2 hitV
    obtain ⟨rest, hrest⟩ := hGV
    have hlt : pre.length < L.length := by rw [hrest]; simp
    obtain ⟨A', c', he, e1, e2, e3⟩ := HR.out.ext hx2
    rw [rv_length] at e1 e3 he
    injection he with z1 _ z3
    subst z1; subst z3
    obtain ⟨ad, had, hblt, hcell⟩ := e3 (by omega)
    have hck := hcell pre.length (.int .i64 (x : Int)) (by simp [rv, hrest])
    have q1 := (row1 h1).1; have q2 := (row1 h2).1; have q4 := (row1 h4).1; have s4 := (row1 h4).2
    subst had
    have hge : decide (L.length ≤ pre.length) = false := decide_eq_false (by omega)
    have hne : ((x : Int) != (x : Int)) = false := by simp
    have hk7 : pre.length ≤ 7 := by have := HLL.out; omega
    have HH1 := Lib.hid h1; have HH2 := Lib.hid h2; have HH3 := Lib.hid h3; have HH4 := Lib.hid h4; have HX2 := Lib.hid hx2; have HI2 := Lib.hid hit2; have HP := Lib.hid hpre; have HLT := Lib.hid hlt
    have HSN := Lib.hid (show ((pre ++ [x]).length : Int) = (pre.length : Int) + 1 by simp)
    obtain ⟨k, hk⟩ : ∃ k, pre.length = k := ⟨_, rfl⟩
    rw [hk] at q4 hge hck hlt hk7
    have HK := Lib.hid hk
    clear h1 h2 h3 h4 hx2 hit2 hpre hrest e1 e2 e3 hcell hIV hitV hg2 hn2 hnl hk hsz2
    have HB2 := Lib.hid (show OvB w.heap.size (.slice (some ad) L.length c1) many ((pre ++ [x]).length : Int) (V2.setCell ⟨w.heap.size + 1 + 1 + 1, 0, none⟩ (.int .i64 ((k : Int) + 1))) from
      ⟨heap_far (grown_set1 _ _ _) HH1.out (by omega), heap_far (grown_set1 _ _ _) HH2.out (by omega), heap_far (grown_set1 _ _ _) HH3.out (by omega), by rw [HSN.out, HK.out]; exact row1_set _ HH4.out⟩)
    have HXX := Lib.hid (HX2.out.setCell (p := ⟨w.heap.size + 1 + 1 + 1, 0, none⟩) (by show w.heap.size ≤ w.heap.size + 1 + 1 + 1; omega) (.int .i64 ((k : Int) + 1)))
    have HI3 := Lib.hid (show ItR g A c L (V2.setCell ⟨w.heap.size + 1 + 1 + 1, 0, none⟩ (.int .i64 ((k : Int) + 1))) from by
      obtain ⟨j1, j2⟩ := HI2.out
      exact ⟨heap_far (grown_set1 _ _ _) j1 (HG.out), j2.far (grown_set1 _ _ _) (HA.out (by have := HLT.out; rw [HK.out] at this; omega))⟩)
    by_cases hm : many ≤ (k : Int) + 1
    · have HM := Lib.hid hm
      gi_wp2_with fail
      refine ⟨KA.of_grown (grown_set1 _ _ _) (by have := HZ.out; omega), rfl, HB2.out, ⟨by simp, ?_, ?_⟩, HXX.out⟩
      · have := HSN.out; have := HK.out; have := HM.out; omega
      · rcases HP.out with h | h
        · left; rw [h]; rfl
        · right; have := HSN.out; omega
    · have HM := Lib.hid hm
      have hm2 : (k : Int) + 1 < many := by omega
      gi_wp2_with fail
      refine ⟨KA.of_grown (grown_set1 _ _ _) (by have := HZ.out; omega), HI3.out, HB2.out, .inr ?_, HXX.out⟩
      have := HSN.out; have := HK.out; omega
  · intro D xs V hD hS hIV hit hdf
    subst hS
    obtain ⟨⟨h1, h2, h3, h4⟩, hpre, hx2⟩ := hIV
    have hz := HZ.out
    have q1 := (row1 h1).1; have q2 := (row1 h2).1; have q3 := (row1 h3).1; have s3 := (row1 h3).2; have q4 := (row1 h4).1
    have n3 := heap_far (grown_set1 V (w.heap.size + 1 + 1) (.bool true)) hdf (by omega)
    have d0 := (row1 (heap_far (grown_put (o' := .deferred none) n3) (row1_set (.bool true) h3) (by omega))).1
    have HXF := Lib.hid (Ext.of_grown (hx2.setCell (p := ⟨w.heap.size + 1 + 1, 0, none⟩) (by show w.heap.size ≤ w.heap.size + 1 + 1; omega) (.bool true)) (grown_put (o' := .deferred none) n3) (by omega))
    have HN3 := Lib.hid n3; have HD0 := Lib.hid d0
    have hlen : (1 < many ∧ (xs.length : Int) ≤ many) ∨ (many ≤ 1 ∧ (xs.length : Int) ≤ 1) := by
      rcases hpre with h | h
      · subst h; simp only [List.length_nil]; omega
      · omega
    clear h1 h2 h3 h4 hx2 n3 d0 hdf hz hit hpre
    rcases hlen with ⟨m1, m2⟩ | ⟨m1, m2⟩
    all_goals
      have q5 : ((xs.length : Int) == min (xs.length : Int) (max 1 many)) = true := by rw [beq_iff_eq]; omega
      go_wp2_with fail
      refine ⟨by simp, .inl ⟨_, _, rfl, run_takeDeferred HN3.out, ?_⟩⟩
      have d0 := HD0.out
      exact ⟨.bool true, by simp [results, Tryz.results19, go_sem, d0]; try rfl, rfl, HXF.out⟩
  · intro D cd pre V hD hSp hIx hdf
    obtain ⟨rfl, ⟨h1, h2, h3, h4⟩, ⟨k1, k2, k3⟩, hx2⟩ := hIx
    obtain ⟨rest, hrest⟩ := hSp
    have hle : pre.length ≤ L.length := by rw [hrest]; simp
    have hz := HZ.out
    have q1 := (row1 h1).1; have q2 := (row1 h2).1; have q3 := (row1 h3).1; have s3 := (row1 h3).2; have q4 := (row1 h4).1
    have n3 := heap_far (grown_set1 V (w.heap.size + 1 + 1) (.bool true)) hdf (by omega)
    have d0 := (row1 (heap_far (grown_put (o' := .deferred none) n3) (row1_set (.bool true) h3) (by omega))).1
    have HXF := Lib.hid (Ext.of_grown (hx2.setCell (p := ⟨w.heap.size + 1 + 1, 0, none⟩) (by show w.heap.size ≤ w.heap.size + 1 + 1; omega) (.bool true)) (grown_put (o' := .deferred none) n3) (by omega))
    have HN3 := Lib.hid n3; have HD0 := Lib.hid d0
    have hlen : (1 < many ∧ (pre.length : Int) = many ∧ many < L.length) ∨ (1 < many ∧ (pre.length : Int) = many ∧ many = L.length) ∨ (many ≤ 1 ∧ pre.length = 1 ∧ 1 < (L.length : Int)) ∨ (many ≤ 1 ∧ pre.length = 1 ∧ (L.length : Int) = 1) := by omega
    clear h1 h2 h3 h4 hx2 n3 d0 hdf hz hrest k1 k2 k3 hle
    rcases hlen with ⟨m1, m2, m3⟩ | ⟨m1, m2, m3⟩ | ⟨m1, m2, m3⟩ | ⟨m1, m2, m3⟩
    all_goals
      have q5 : ((pre.length : Int) == min (L.length : Int) (max 1 many)) = true := by rw [beq_iff_eq]; omega
      first
        | (have q6 : (many == min (L.length : Int) (max 1 many)) = true := by rw [beq_iff_eq]; omega)
        | (have q6 : ((1 : Int) == min (L.length : Int) (max 1 many)) = true := by rw [beq_iff_eq]; omega)
      try (have q7 : ((L.length : Int) == min (L.length : Int) (max 1 (L.length : Int))) = true := by rw [beq_iff_eq]; omega)
      try (have q8 : ((1 : Int) == min 1 (max 1 many)) = true := by rw [beq_iff_eq]; omega)
      gi_wp2_with fail
      go_wp2_with fail
      refine ⟨by simp, .inl ⟨_, _, rfl, run_takeDeferred HN3.out, ?_⟩⟩
      have d0 := HD0.out
      exact ⟨.bool true, by simp [results, Tryz.results19, go_sem, d0]; try rfl, rfl, HXF.out⟩
#print axioms over_at
end Go.Proofs.YtgfjmmdkdhodiaaGreatDoor
namespace Go.Proofs.YtgfjmmdkdhodiaaGreatDoor
open Go Go.RowKit
set_option linter.unusedVariables false

def alice : ByteArray := ⟨#[97, 108, 105, 99, 101]⟩
theorem staff_ok : Pol.staff.ok = true := by kernel_rfl
theorem ba_etaP (p : ByteArray) : (⟨p.data.toList.toArray⟩ : ByteArray) = p := by cases p; simp
theorem partsA (w : World) : RS (w.alloc (.cells #[.string ⟨#[97, 108, 105, 99, 101]⟩] 9)) (.slice (some ⟨w.heap.size, 0, none⟩) 1 1) (svP [alice]) := RS.new w 9 [.string alice] (by show 1 ≤ maxLen; unfold maxLen; omega)
theorem chk (s : ByteArray) (hs : s.size ≤ 1000) (v : Int) (hv : firstR (brkP Pol.staff (datP [alice]) s.data.toList) = v) (A1 : Option Addr) (A : Option Addr) (c : Nat) (r : ByteArray) (w : World) (hR : RS w (.slice A1 1 1) (svP [alice])) (hB : BS w (.slice A s.data.toList.length c) s.data.toList) :
    Calls Tryz.prog 15 #[Pol.staff.v, .agg #[.slice A1 1 1, .string r], .slice A s.data.toList.length c] w fun e w' => e = .returned (.tuple #[.int .i64 v, .int .i64 0]) ∧ Ext w w' := by
  have h := Check_at Pol.staff (by decide) A1 1 [alice] r (by decide) (by intro p hp; simp only [List.mem_singleton] at hp; subst hp; decide) A c s.data.toList (by rw [size_list]; exact hs) w hR hB staff_ok
  rw [hv] at h
  exact h

set_option maxRecDepth 100000 in
theorem checks_at (s : ByteArray) (hs : s.size ≤ 1000) (v : Int) (hv : firstR (brkP Pol.staff (datP [alice]) s.data.toList) = v) (w : World) :
    Calls Tryz.prog 26 #[.string s, .int .i64 v] w fun e w' => e = .returned (.bool true) ∧ Ext w w' := by
  have HC := Lib.hid (chk s hs v hv)
  have hl : s.data.toList.length ≤ maxLen := by rw [size_list]; unfold maxLen; omega
  have HLL := Lib.hid hl
  have hvv : (v == v) = true := beq_self_eq_true _
  clear hv hs hl
  go_enter Tryz.func26, Tryz.ntmps26
  go_wp2_with fail
  refine (staff_at w).mono ?_
  rintro _ w1 ⟨rfl, hx1⟩
  have hr1 := partsA w1
  have hx2 := (Ext.refl w1).alloc (.cells #[.string ⟨#[97, 108, 105, 99, 101]⟩] 9)
  obtain ⟨W1, hW1⟩ : ∃ W, w1.alloc (.cells #[.string ⟨#[97, 108, 105, 99, 101]⟩] 9) = W := ⟨_, rfl⟩
  rw [hW1] at hr1 hx2
  obtain ⟨c1, w2, hrun, hb, hx, hz⟩ := run_bytes (P := Tryz.prog) W1 9 31 5 s.data.toList Tryz.underlying9 Tryz.underlying31 Tryz.underlying5 HLL.out
  rw [ba_etaP] at hrun
  have HX := Lib.hid ((hx1.trans hx2).trans hx)
  have HR := Lib.hid (hr1.ext hx); have HB := Lib.hid hb
  clear hx1 hr1 hx2 hb hx hz
  go_wp2_with fail
  refine (HC.out _ _ _ _ w2 HR.out HB.out).mono ?_
  rintro _ w3 ⟨rfl, hx3⟩
  have HX3 := Lib.hid (HX.out.trans hx3)
  clear hx3
  go_wp2_with fail
  refine (num_at' 0 _).mono ?_
  rintro _ w4 ⟨rfl, rfl⟩
  go_wp2_with fail
  go_ret
  exact ⟨rfl, HX3.out⟩
theorem kC1 (w : World) : Calls Tryz.prog 26 #[.string ⟨#[84, 114, 48, 117, 98, 52, 100, 111, 114]⟩, .int .i64 0] w fun e w' => e = .returned (.bool true) ∧ Ext w w' := checks_at _ (by decide) 0 (by kernel_rfl) w
theorem kC2 (w : World) : Calls Tryz.prog 26 #[.string ⟨#[84, 114, 48, 117, 98, 52]⟩, .int .i64 1] w fun e w' => e = .returned (.bool true) ∧ Ext w w' := checks_at _ (by decide) 1 (by kernel_rfl) w
theorem kC3 (w : World) : Calls Tryz.prog 26 #[.string ⟨#[116, 114, 111, 117, 98, 97, 100, 111, 114, 49]⟩, .int .i64 4] w fun e w' => e = .returned (.bool true) ∧ Ext w w' := checks_at _ (by decide) 4 (by kernel_rfl) w
theorem kC4 (w : World) : Calls Tryz.prog 26 #[.string ⟨#[120, 88, 97, 76, 73, 67, 69, 57, 43]⟩, .int .i64 6] w fun e w' => e = .returned (.bool true) ∧ Ext w w' := checks_at _ (by decide) 6 (by kernel_rfl) w
theorem kC5 (w : World) : Calls Tryz.prog 26 #[.string ⟨#[65, 97, 49, 97, 98, 99, 100, 101, 88]⟩, .int .i64 7] w fun e w' => e = .returned (.bool true) ∧ Ext w w' := checks_at _ (by decide) 7 (by kernel_rfl) w
#print axioms kC5
end Go.Proofs.YtgfjmmdkdhodiaaGreatDoor
