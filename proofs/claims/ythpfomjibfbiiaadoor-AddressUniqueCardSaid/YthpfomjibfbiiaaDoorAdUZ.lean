/- Texts laid together (wip/tools/merge.py): AdU1, AdU2, AdU4, AdU5, AdU6, AdU7, AdU3, LawAdUn. -/
import Derived.Test.YthpfomjibfbiiaaDoorDov
import Derived.Test.YthpfomjibfbiiaaDoorDerZ
import Derived.Test.YthpfomjibfbiiaaDoorAd7
import Derived.Test.YthpfomjibfbiiaaDoorAd8
import Derived.Test.YthpfomjibfbiiaaDoorAdZb
import Derived.Test.YthpfomjibfbiiaaDoorRange
import Derived.MapKept
import Derived.Test.YthpfomjibfbiiaaDoorRgZ
import Derived.RangeFuncBound
import Derived.RangeFuncCalls
import Derived.OwnWalkIn
import Derived.TacticsInMore
import Derived.LoopNIn
import Derived.LoopIn
import Derived.WalkMore
import Derived.Outline
import Derived.Test.YthpfomjibfbiiaaDoorAdR1
import Derived.Test.YthpfomjibfbiiaaDoorAdL2
namespace Go.Proofs.YthpfomjibfbiiaaDoor
open Go Go.RowKit
set_option linter.unusedVariables false

theorem adrinfo : (Tryd.prog.info? 25).map (fun i => (i.zero, i.size, i.bytes)) = some (some (.agg #[.int .i64 0, .slice none 0 0]), 2, 32) := by kernel_rfl
theorem OB.blk {e : TypeId} {w : World} {B : Nat} {v : Value} {l : List UInt8} (h : OB e w B v l) {k : Nat} (hk : v.ownBlock = some k) : B ≤ k ∧ ∃ cs, w.heap[k]? = some (.cells cs e (0, 0)) := by
  rcases h.2 with ⟨rfl, _⟩ | ⟨g, cap, cur, rfl, hb, hh, _⟩
  · cases hk
  · injection hk with hk
    subst hk
    exact ⟨hb, _, hh⟩
theorem OB.keep {e : TypeId} {w w' : World} {B : Nat} {v : Value} {l : List UInt8} (h : OB e w B v l) (hk : ∀ k cs, B ≤ k → w.heap[k]? = some (.cells cs e (0, 0)) → v.ownBlock = some k → w'.heap[k]? = some (.cells cs e (0, 0))) : OB e w' B v l := by
  refine ⟨h.1, ?_⟩
  rcases h.2 with hh | ⟨g, cap, cur, hv, hb, hh, r⟩
  · exact .inl hh
  · exact .inr ⟨g, cap, cur, hv, hb, hk g cur hb hh (by subst hv; rfl), r⟩
/-- The call's own row of addresses and their bytes. -/
def AOV (w : World) (B : Nat) (v : Value) (ls : List (Int × List UInt8)) : Prop :=
  ∃ vs : List (Int × Value), vs.length = ls.length ∧ w.ownsRow B 25 2 v vs.length (dcs vs) ∧ ∀ i (h : i < vs.length) (h' : i < ls.length), vs[i].1 = ls[i].1 ∧ OB 5 w B vs[i].2 ls[i].2
theorem AOV.nil (w : World) (B : Nat) : AOV w B (.slice none 0 0) [] := ⟨[], rfl, World.ownsRow_nil _ _ _ _, fun i h => absurd h (by simp)⟩
theorem AOV.keep {w w' : World} {B : Nat} {v : Value} {ls : List (Int × List UInt8)} (h : AOV w B v ls) (hk : ∀ k o, B ≤ k → w.heap[k]? = some o → w'.heap[k]? = some o) : AOV w' B v ls := by
  obtain ⟨vs, h1, h2, h3⟩ := h
  refine ⟨vs, h1, ⟨h2.1, ?_⟩, fun i hi hi' => ⟨(h3 i hi hi').1, (h3 i hi hi').2.keep (fun k cs hB hh _ => hk k _ hB hh)⟩⟩
  rcases h2.2 with hh | ⟨g, cap, cur, hv, hb, hh, r⟩
  · exact .inl hh
  · exact .inr ⟨g, cap, cur, hv, hb, hk g _ hb hh, r⟩
theorem AOV.ext {w w' : World} {B : Nat} {v : Value} {ls : List (Int × List UInt8)} (h : AOV w B v ls) (he : Ext w w') : AOV w' B v ls := h.keep fun k o _ ho => he.heap ho
theorem AOV.shape {w : World} {B : Nat} {v : Value} {ls : List (Int × List UInt8)} (h : AOV w B v ls) : ∃ A c, v = .slice A ls.length c := by
  obtain ⟨vs, h1, h2, _⟩ := h
  rcases h2.2 with ⟨rfl, h0⟩ | ⟨g, cap, cur, rfl, _⟩
  · exact ⟨none, 0, by rw [← h1, h0]⟩
  · exact ⟨_, cap, by rw [h1]⟩
theorem AOV.lt {w : World} {B : Nat} {v : Value} {ls : List (Int × List UInt8)} (h : AOV w B v ls) : ∀ k, v.ownBlock = some k → B ≤ k ∧ k < w.heap.size := by
  obtain ⟨vs, _, h2, _⟩ := h
  exact World.ownsRow.lt h2
theorem AOV.down {w : World} {B B' : Nat} {v : Value} {ls : List (Int × List UInt8)} (h : AOV w B v ls) (hB : B' ≤ B) : AOV w B' v ls := by
  obtain ⟨vs, h1, ⟨h2, h2'⟩, h3⟩ := h
  refine ⟨vs, h1, ⟨h2, ?_⟩, fun i hi hi' => ⟨(h3 i hi hi').1, (h3 i hi hi').2.mono hB⟩⟩
  rcases h2' with h | ⟨g, cap, cur, e1, e2, r⟩
  · exact .inl h
  · exact .inr ⟨g, cap, cur, e1, Nat.le_trans hB e2, r⟩
theorem AOV.ds {w : World} {B : Nat} {v : Value} {ls : List (Int × List UInt8)} (h : AOV w B v ls) : DS w v ls := by
  obtain ⟨vs, h1, h2, h3⟩ := h
  have h2' := h2
  rcases h2.2 with ⟨rfl, h0⟩ | ⟨g, cap, cur, rfl, hb, hh, hnc, hcm, _⟩
  · have : ls.length = 0 := by omega
    exact ⟨none, 0, by rw [this], by omega, by unfold maxLen; omega, fun i hi => by omega⟩
  · refine ⟨some ⟨g, 0, none⟩, cap, by rw [h1], by omega, hcm, fun i hi => ?_⟩
    have hi' : i < vs.length := by omega
    obtain ⟨e1, e2⟩ := h3 i hi' hi
    obtain ⟨k1, k2⟩ := dcs_get vs i hi'
    have c1 := h2'.cells rfl _ _ k1
    have c2 := h2'.cells rfl _ _ k2
    have e2 := e2.bs
    obtain ⟨B', d, hv, _⟩ := e2.open_
    rw [hv] at c2 e2
    exact ⟨_, B', d, rfl, by rw [c1, e1], c2, e2⟩
section
variable {P : Program}
/-- append of one address that is the call's own. -/
theorem wpList_append_aov (w : World) {ops : Array Oper} {rest : List Oper} {o : Oper} {a : Act} {Q : Exit → Act → World → Prop} (hgd : o.guard = none) (s x : Operand) (t : TypeId)
    (ho : o.op = .call { callee := .builtin .append, args := #[s, x], argTypes := #[t, t] })
    (base : Nat) (i : TypeInfo) (z : Value) (ht : P.underlying t = some (.slice 25)) (hi : P.info? 25 = some i) (hz : i.zero = some z)
    (hsize : i.size = 2) (hby : i.bytes = 32) (hzs : z.cells.size = 2)
    (v : Value) (ls : List (Int × List UInt8)) (hs : a.eval s = v) (hown : AOV w base v ls)
    (ad : Addr) (c : Nat) (k : Int) (A : Option Addr) (n d : Nat) (l : List UInt8) (hx : a.eval x = .slice (some ad) 1 c) (hc0 : w.cell? (ad.add 0) = some (.int .i64 k)) (hc1 : w.cell? (ad.add 1) = some (.slice A n d)) (hu : OB 5 w base (.slice A n d) l)
    (hbytes : ls.length ≤ 100000) (hbase : base ≤ w.heap.size)
    (h : ∀ v' w', AOV w' base v' (ls ++ [(k, l)]) → w.grownBy w' v.ownBlock → (v'.ownBlock = v.ownBlock ∨ v'.ownBlock = some w.heap.size) → wpList P ops Q rest (a.put o.dst v') w') : wpList P ops Q (o :: rest) a w := by
  obtain ⟨vs, h1, h2, h3⟩ := hown
  refine wpList_plain hgd fun K hK => ?_
  have h63 : vs.length + 1 ≤ maxLen := by unfold maxLen; omega
  have hnews : ∀ j u, ([.int .i64 k, .slice A n d] : List Value)[j]? = some u → w.cell? (ad.add j) = some u := by
    intro j u hju
    rcases j with _ | _ | j
    · simp at hju; subst hju; exact hc0
    · simp at hju; subst hju; exact hc1
    · simp at hju
  have hone : ∀ u ∈ ([.int .i64 k, .slice A n d] : List Value), u.oneCell' = true := by intro u hm; simp at hm; rcases hm with rfl | rfl <;> rfl
  obtain ⟨v', w', hrun, g1, g2, _, g3⟩ := run_append_own_at (P := P) w base t o.type 25 i z 2 32 ht hi hz hsize hby hzs (by omega) v vs.length (dcs vs) h2 ad 1 c [.int .i64 k, .slice A n d] rfl
    hnews hone h63 (by omega) hbase
  unfold Oper.wp execOp
  simp only [ho, resolve, invoke, builtin, Sem.run_bind, Sem.run_pure, Result.andThen_ok, List.map_toArray, List.map_cons, List.map_nil, hs, hx, hrun]
  refine hK _ _ (h v' w' ⟨vs ++ [(k, .slice A n d)], by simp [h1], ?_, fun i hi hi' => ?_⟩ g2 g3)
  · rw [dcs_snoc]
    simpa using g1
  · have key : ∀ (y : Value) (m : List UInt8), OB 5 w base y m → OB 5 w' base y m := by
      intro y m hy
      refine hy.keep fun j cs hB hh _ => (g2.block j (Array.getElem?_eq_some_iff.1 hh).1 (fun e => ?_)).trans hh
      rcases h2.2 with ⟨rfl, _⟩ | ⟨g, cap, cur, rfl, _, hg, _⟩
      · cases e
      · injection e with e
        subst e
        rw [hg] at hh
        cases hh
    by_cases hlt : i < vs.length
    · have e1 : (vs ++ [(k, Value.slice A n d)])[i] = vs[i] := List.getElem_append_left hlt
      have e2 : (ls ++ [(k, l)])[i] = ls[i]'(by omega) := List.getElem_append_left (by omega)
      rw [e1, e2]
      exact ⟨(h3 i hlt (by omega)).1, key _ _ (h3 i hlt (by omega)).2⟩
    · have hi2 : i = vs.length := by simp at hi; omega
      subst hi2
      have e1 : (vs ++ [(k, Value.slice A n d)])[vs.length] = (k, .slice A n d) := by simp
      have e2 : (ls ++ [(k, l)])[vs.length]'hi' = (k, l) := by simp [h1]
      rw [e1, e2]
      exact ⟨rfl, key _ _ hu⟩
end
theorem ab_put1 {w : World} {g : Nat} {k : Int} {A : Option Addr} {n c : Nat} (h : AB w g k A n c) (A' : Option Addr) (n' c' : Nat) : AB (w.setCell ⟨g, 1, none⟩ (.slice A' n' c')) g k A' n' c' := by
  unfold AB at h ⊢
  rw [heap_setCell_same w g 1 _ _ _ h]; rfl
theorem OB.two {e : TypeId} {w : World} {B g : Nat} {v : Value} {l : List UInt8} (h : OB e w B v l) (hg : g < B) (u t : Value) : OB e ((w.setCell ⟨g, 0, none⟩ u).setCell ⟨g, 1, none⟩ t) B v l := h.far (grown_set2 w g u t) hg
set_option maxRecDepth 100000 in
set_option maxHeartbeats 1000000 in
theorem copied_at (k : Int) (b : List UInt8) (A : Option Addr) (c : Nat) (w : World) (hb : BS w (.slice A b.length c) b) (hl : b.length ≤ 1000) :
    Calls Tryd.prog 40 #[adv k A b.length c] w fun e w' => ∃ A' c', e = .returned (adv k A' b.length c') ∧ OB 5 w' w.heap.size (.slice A' b.length c') b ∧ Ext w w' := by
  have h0 := AB.new w k A b.length c
  have x0 := (Ext.refl w).alloc (.cells #[.int .i64 k, .slice A b.length c] 25)
  have h1 := AB.new (w.alloc (.cells #[.int .i64 k, .slice A b.length c] 25)) 0 none 0 0
  have x1 := (Ext.refl (w.alloc (.cells #[.int .i64 k, .slice A b.length c] 25))).alloc (.cells #[.int .i64 0, .slice none 0 0] 25)
  rw [World.size_alloc] at h1
  have hz : ((w.alloc (.cells #[.int .i64 k, .slice A b.length c] 25)).alloc (.cells #[.int .i64 0, .slice none 0 0] 25)).heap.size = w.heap.size + 2 := by simp
  obtain ⟨W2, e2⟩ : ∃ W, (w.alloc (.cells #[.int .i64 k, .slice A b.length c] 25)).alloc (.cells #[.int .i64 0, .slice none 0 0] 25) = W := ⟨_, rfl⟩
  have h01 := h0.ext x1
  have x01 := x0.trans x1
  rw [e2] at h1 h01 x01 hz
  have HC := Lib.hid (Clone_at A c b W2 (hb.ext x01) (by omega))
  have H0 := Lib.hid h01; have H1 := Lib.hid h1; have HX := Lib.hid x01; have HZ := Lib.hid hz
  obtain ⟨c0, c1⟩ := h01.cells
  clear h0 x0 h1 x1 h01 x01 hz hb
  unfold adv
  go_enter Tryd.func40, Tryd.ntmps40
  go_wp2_with fail
  refine HC.out.mono ?_
  rintro _ w3 ⟨A', c', rfl, hob, hx⟩
  have hz3 : w.heap.size + 2 ≤ w3.heap.size := by have := hx.size; have := HZ.out; omega
  have h3 := H0.out.ext hx; have h3' := H1.out.ext hx
  have s1 := h3.soft 1
  obtain ⟨d0, d1⟩ := h3.cells
  have h4 := ab_put1 h3 A' b.length c'
  have h4' : AB (w3.setCell ⟨w.heap.size, 1, none⟩ (.slice A' b.length c')) (w.heap.size + 1) 0 none 0 0 := heap_far (grown_set (grown_refl w3 _) 1 _) h3' (by omega)
  have hob4 := hob.far (grown_set (grown_refl w3 _) 1 (.slice A' b.length c')) (show w.heap.size < W2.heap.size by have := HZ.out; omega)
  have hx4 := (HX.out.trans hx).setCell (p := ⟨w.heap.size, 1, none⟩) (Nat.le_refl _) (.slice A' b.length c')
  obtain ⟨W4, e4⟩ : ∃ W, w3.setCell ⟨w.heap.size, 1, none⟩ (.slice A' b.length c') = W := ⟨_, rfl⟩
  rw [e4] at h4 h4' hob4 hx4
  obtain ⟨g0, g1⟩ := h4.cells
  have r0 := h4'.soft 0; have r1 := h4'.soft 1
  obtain ⟨q0, q1⟩ := h4'.cells
  obtain ⟨y0, y1⟩ := (h4'.set k A' b.length c').cells
  have HOB := Lib.hid (hob4.two (show w.heap.size + 1 < W2.heap.size by have := HZ.out; omega) (.int .i64 k) (.slice A' b.length c'))
  have HXF := Lib.hid (hx4.set2 (g := w.heap.size + 1) (by omega) (.int .i64 k) (.slice A' b.length c'))
  have Y0 := Lib.hid y0; have Y1 := Lib.hid y1
  clear hz3 h3 h3' h4 h4' hob hob4 hx hx4 y0 y1 c0 c1
  go_wp2_with fail
  have y0 := Y0.out; have y1 := Y1.out
  refine bodyPost_ret (v := adv k A' b.length c') (by simp [results, Tryd.results40, go_sem, y0, y1, adv]; try rfl) rfl ?_
  exact ⟨A', c', rfl, HOB.out.mono (by have := HZ.out; omega), HXF.out⟩
theorem AOV.snoc_len (xs : List (Int × List UInt8)) (k : Nat) (h : k < xs.length) : xs.take (k + 1) = xs.take k ++ [(xs[k].1, xs[k].2)] := List.take_succ_eq_append_getElem h
set_option maxRecDepth 100000 in
set_option maxHeartbeats 2000000 in
theorem Copy_at (A : Option Addr) (c : Nat) (xs : List (Int × List UInt8)) (w : World) (hD : DS w (.slice A xs.length c) xs) (hn : xs.length ≤ 100) (hl : ∀ x ∈ xs, x.2.length ≤ 1000) :
    Calls Tryd.prog 37 #[.slice A xs.length c] w fun e w' => ∃ V, e = .returned V ∧ AOV w' w.heap.size V xs ∧ Ext w w' := by
  obtain ⟨i0, hi, hz0, hz1, hz2⟩ := info_parts adrinfo
  obtain ⟨A', c', he, hc1, hc2, hcell⟩ := hD
  injection he with e1 e2 e3
  subst e1; subst e3
  unfold maxLen at hc2
  have HC := Lib.hid hcell; have HL := Lib.hid hl
  clear hcell e2 hl
  obtain ⟨n, hn'⟩ : ∃ n, xs.length = n := ⟨_, rfl⟩
  rw [hn'] at hc1 hn ⊢
  have HN := Lib.hid hn'
  clear hn'
  go_enter Tryd.func37, Tryd.ntmps37
  go_wp2_with fail
  go_loopw [3, 8] (fun v i wr => ∃ k : Nat, i = .int .i64 (k : Int) ∧ k ≤ n ∧ Hid (AOV wr w.heap.size v (xs.take k)) ∧ Hid (Ext w wr)) (fun _ i _ => n - (intOf i).toNat)
  case atStart => exact ⟨0, rfl, by omega, Lib.hid (AOV.nil _ _), Lib.hid (Ext.refl _)⟩
  case round =>
    obtain ⟨k, rfl, hk, HV, HX⟩ := hrel
    by_cases hlt : k < n
    · have hlx : k < xs.length := by rw [HN.out]; exact hlt
      obtain ⟨ad, B, d, rfl, hc0, hc3, hbk⟩ := HC.out k hlx
      have hb40 := HL.out xs[k] (List.getElem_mem hlx)
      have HTK := Lib.hid (AOV.snoc_len xs k hlx)
      obtain ⟨kd, hkd⟩ : ∃ kd, xs[k].1 = kd := ⟨_, rfl⟩
      obtain ⟨b, hbb⟩ : ∃ b, xs[k].2 = b := ⟨_, rfl⟩
      rw [hkd, hbb] at HTK
      rw [hkd] at hc0
      rw [hbb] at hc3 hbk hb40
      have hd0 := HX.out.cell hc0
      have hd1 : wr.cell? ⟨(ad.add (k * 2)).block, (ad.add (k * 2)).off + 1, none⟩ = some (.slice B b.length d) := by rw [cell_add1, add_of_add]; exact HX.out.cell hc3
      obtain ⟨Y, Z, hY, hZ, hy, hz, hxz⟩ := boxA wr kd B b.length d
      have f0 := hy.soft 0; have f1 := hy.soft 1
      obtain ⟨g0, g1⟩ := hy.cells
      obtain ⟨q0, q1⟩ := hz.cells
      have HCP := Lib.hid (copied_at kd b B d Z ((hbk.ext HX.out).ext hxz) hb40)
      have HXZ := Lib.hid hxz
      unfold adv at HCP
      clear hkd hbb hc0 hc3 hbk hb40 hy hz hxz hlx
      go_wp2_with fail
      refine HCP.out.mono ?_
      rintro _ w3 ⟨A3, c3, rfl, hob, hx3⟩
      obtain ⟨W7, hW7⟩ : ∃ W7, w3.alloc (.cells #[.int .i64 kd, .slice A3 b.length c3] 25) = W7 := ⟨_, rfl⟩
      have hx7 : Ext w3 W7 := by rw [← hW7]; exact (Ext.refl _).alloc _
      have hcells := heap_alloc_new w3 (.cells #[.int .i64 kd, .slice A3 b.length c3] 25)
      rw [hW7] at hcells
      have hc0 : W7.cell? ((⟨w3.heap.size, 0, none⟩ : Addr).add 0) = some (.int .i64 kd) := by
        rw [show ((⟨w3.heap.size, 0, none⟩ : Addr).add 0) = ⟨w3.heap.size, 0, none⟩ from rfl, cell_of_row _ _ 0 _ _ (0, 0) hcells]; rfl
      have hc1' : W7.cell? ((⟨w3.heap.size, 0, none⟩ : Addr).add 1) = some (.slice A3 b.length c3) := by
        rw [show ((⟨w3.heap.size, 0, none⟩ : Addr).add 1) = ⟨w3.heap.size, 1, none⟩ from rfl, cell_of_row _ _ 1 _ _ (0, 0) hcells]; rfl
      have HXX := Lib.hid ((HXZ.out.trans hx3).trans hx7)
      have HO := Lib.hid ((hob.ext hx7).mono (show w.heap.size ≤ Z.heap.size by have := HX.out.size; have := HXZ.out.size; omega))
      have HV7 := Lib.hid (HV.out.ext HXX.out)
      have HC0 := Lib.hid hc0; have HC1 := Lib.hid hc1'
      have HTL := Lib.hid (show (xs.take k).length ≤ 100000 by rw [List.length_take]; omega)
      have HBS := Lib.hid (show w.heap.size ≤ W7.heap.size from (HX.out.trans HXX.out).size)
      clear hob hx3 hx7 hc0 hc1' hcells hd0 hd1 g0 g1 q0 q1
      go_wp2_with (at_builtin; refine wpList_append_aov _ rfl (.tmp 12) (.tmp 15) 35 rfl w.heap.size i0 (.agg #[.int .i64 0, .slice none 0 0]) Tryd.underlying35 hi hz0 hz1 hz2 rfl _ (xs.take k) rfl HV7.out ⟨w3.heap.size, 0, none⟩ 1 kd A3 b.length c3 b rfl HC0.out HC1.out HO.out HTL.out HBS.out ?_; intro v7 w7 hd7 hg7 ho7)
      have HD7 := Lib.hid (show AOV w7 w.heap.size v7 (xs.take (k + 1)) by rw [HTK.out]; exact hd7)
      have HX7 := Lib.hid (show Ext w w7 from (HX.out.trans HXX.out).grown hg7 (fun j hj => (HV.out.lt j hj).1))
      clear hd7 hg7 ho7
      go_roundw
      case rel => exact ⟨k + 1, by go_num, by omega, HD7, HX7⟩
      case measure => simp [intOf]; omega
    · obtain rfl : k = n := by omega
      have HF := Lib.hid (show AOV wr w.heap.size u3 xs by
        have h := HV.out
        rwa [List.take_of_length_le (by rw [HN.out]; exact Nat.le_refl _)] at h)
      clear hlt
      go_wp2_with fail
      go_ret
      exact ⟨_, rfl, HF.out, HX.out⟩
end Go.Proofs.YthpfomjibfbiiaaDoor
namespace Go.Proofs.YthpfomjibfbiiaaDoor
open Go Go.RowKit
set_option linter.unusedVariables false

/-- A list has an address. -/
def hasA (xs : List (Int × List UInt8)) (k : Int) (b : List UInt8) : Bool := xs.any fun x => x.1 == k && x.2 == b
theorem hasA_nil (k : Int) (b : List UInt8) : hasA [] k b = false := rfl
theorem hasA_cons (x : Int × List UInt8) (xs : List (Int × List UInt8)) (k : Int) (b : List UInt8) : hasA (x :: xs) k b = ((x.1 == k && x.2 == b) || hasA xs k b) := rfl
theorem hasA_snoc (x : Int × List UInt8) (xs : List (Int × List UInt8)) (k : Int) (b : List UInt8) : hasA (xs ++ [x]) k b = (hasA xs k b || (x.1 == k && x.2 == b)) := by simp [hasA]
/-- The different ones, behind those that are there. -/
def uqA (acc : List (Int × List UInt8)) : List (Int × List UInt8) → List (Int × List UInt8)
  | [] => acc
  | x :: r => if hasA acc x.1 x.2 then uqA acc r else uqA (acc ++ [x]) r
theorem uqA_snoc (x : Int × List UInt8) : ∀ (l acc : List (Int × List UInt8)), uqA acc (l ++ [x]) = if hasA (uqA acc l) x.1 x.2 then uqA acc l else uqA acc l ++ [x]
  | [], acc => by
    rw [List.nil_append, uqA, uqA]
    split <;> simp [uqA]
  | y :: l, acc => by
    rw [List.cons_append, uqA, uqA]
    split
    · exact uqA_snoc x l acc
    · exact uqA_snoc x l _
theorem uqA_front : ∀ (l acc : List (Int × List UInt8)), ∃ rest, uqA acc l = acc ++ rest
  | [], acc => ⟨[], by simp [uqA]⟩
  | x :: l, acc => by
    rw [uqA]
    split
    · exact uqA_front l acc
    · obtain ⟨r, h⟩ := uqA_front l (acc ++ [x])
      exact ⟨x :: r, by rw [h]; simp⟩
theorem uqA_append : ∀ (l m acc : List (Int × List UInt8)), uqA acc (l ++ m) = uqA (uqA acc l) m
  | [], _, _ => rfl
  | x :: l, m, acc => by
    rw [List.cons_append, uqA, uqA]
    split
    · exact uqA_append l m acc
    · exact uqA_append l m _
theorem uqA_take (xs : List (Int × List UInt8)) (k : Nat) : ∃ rest, uqA [] xs = uqA [] (xs.take k) ++ rest := by
  obtain ⟨r, h⟩ := uqA_front (xs.drop k) (uqA [] (xs.take k))
  exact ⟨r, by rw [← h, ← uqA_append, List.take_append_drop]⟩
theorem uqA_len : ∀ (l acc : List (Int × List UInt8)), (uqA acc l).length ≤ acc.length + l.length
  | [], acc => by simp [uqA]
  | x :: l, acc => by
    rw [uqA]
    split
    · have := uqA_len l acc; simp; omega
    · have := uqA_len l (acc ++ [x]); simp at this ⊢; omega
theorem uqA_mem : ∀ (l acc : List (Int × List UInt8)), ∀ x ∈ uqA acc l, x ∈ acc ∨ x ∈ l
  | [], acc, x, h => .inl (by simpa [uqA] using h)
  | y :: l, acc, x, h => by
    rw [uqA] at h
    split at h
    · rcases uqA_mem l acc x h with h | h
      · exact .inl h
      · exact .inr (List.mem_cons_of_mem _ h)
    · rcases uqA_mem l _ x h with h | h
      · rcases List.mem_append.1 h with h | h
        · exact .inl h
        · simp at h; subst h; exact .inr (by simp)
      · exact .inr (List.mem_cons_of_mem _ h)

/-! The map. -/
def keyA (x : Int × List UInt8) : Value := .agg #[.int .i64 x.1, .string ⟨x.2.toArray⟩]
def entA : Nat → List (Int × List UInt8) → List MapEntry
  | _, [] => []
  | i, x :: r => { key := keyA x, val := .bool true, born := i } :: entA (i + 1) r
theorem entA_snoc (x : Int × List UInt8) : ∀ (l : List (Int × List UInt8)) (i : Nat), entA i (l ++ [x]) = entA i l ++ [{ key := keyA x, val := .bool true, born := i + l.length }]
  | [], i => rfl
  | y :: l, i => by
    rw [List.cons_append, entA, entA, entA_snoc x l (i + 1), List.length_cons, show i + 1 + l.length = i + (l.length + 1) by omega]; rfl
/-- The map of what has been seen. -/
def MapA (W : World) (b : Nat) (l : List (Int × List UInt8)) : Prop := W.heap[b]? = some (.map (entA 0 l).toArray l.length)
theorem slotCheck (x : Int × List UInt8) (e : Bool) (w : World) : (Instr.checkKey e 10000 68 (keyA x)).run Tryd.prog w = .ok () w := by
  have h68 := Tryd.underlying68
  have h3 := MapKept.run_checkKey (P := Tryd.prog) (w := w) Tryd.underlying3 (k := .int .i64 x.1) rfl e 9998
  have h9 := MapKept.run_checkKey (P := Tryd.prog) (w := w) Tryd.underlying9 (k := .string ⟨x.2.toArray⟩) trivial e 9998
  rw [show (10000 : Nat) = 9999 + 1 from rfl]
  unfold Instr.checkKey keyA
  simp [run_underlying h68, go_sem, h3, h9]
theorem slotEq (x y : Int × List UInt8) (w : World) : (Op.equal 68 (keyA x) (keyA y)).run Tryd.prog w = .ok (y.1 == x.1 && y.2 == x.2) w := by
  have h68 := Tryd.underlying68
  unfold Op.equal keyA
  rw [show Op.maxDepth = 9998 + 1 + 1 from rfl]
  unfold Op.equalIn
  simp [run_underlying h68, go_sem]
  by_cases h1 : x.1 = y.1
  · rw [if_pos h1, show (y.1 == x.1) = true by rw [h1]; exact beq_self_eq_true _, Bool.true_and]
    by_cases h2 : x.2 = y.2
    · rw [if_pos h2, h2, beq_self_eq_true]
    · rw [if_neg h2, beq_eq_false_iff_ne.2 (Ne.symm h2)]
  · rw [if_neg h1, beq_eq_false_iff_ne.2 (Ne.symm h1), Bool.false_and]
theorem slotAsk (x : Int × List UInt8) (w : World) : ∀ (l : List (Int × List UInt8)) (j i : Nat), ∃ n, (Instr.findAsking 68 (keyA x) (entA j l) i).run Tryd.prog w = .ok (if hasA l x.1 x.2 then some (n, .bool true) else none) w
  | [], j, i => ⟨0, by unfold entA Instr.findAsking; rw [hasA_nil]; simp⟩
  | y :: l, j, i => by
    obtain ⟨n, hn⟩ := slotAsk x w l (j + 1) (i + 1)
    have he := slotEq x y w
    cases h : (y.1 == x.1 && y.2 == x.2) with
    | true =>
      rw [h] at he
      exact ⟨i, by unfold entA Instr.findAsking; rw [hasA_cons, h]; simp [he, Result.andThen]⟩
    | false =>
      rw [h] at he
      exact ⟨n, by unfold entA Instr.findAsking; rw [hasA_cons, h, Bool.false_or]; simp [he, hn, Result.andThen]⟩
theorem slotFind (x : Int × List UInt8) (w : World) (l : List (Int × List UInt8)) : ∃ n, (Instr.findKey 68 (keyA x) (entA 0 l)).run Tryd.prog w = .ok (if hasA l x.1 x.2 then some (n, .bool true) else none) w := by
  have h68 := Tryd.underlying68
  obtain ⟨n, hn⟩ := slotAsk x w l 0 0
  refine ⟨n, ?_⟩
  cases l with
  | nil => unfold Instr.findKey; simp [run_underlying h68, entA, Instr.findNow, hasA_nil, Result.andThen]
  | cons y l =>
    unfold Instr.findKey
    have : Instr.findNow (Tryd.t68.desc) (keyA x) (entA 0 (y :: l)) 0 = none := rfl
    simp [run_underlying h68, Result.andThen]
    unfold entA Instr.findNow
    simp only [keyA, Instr.sameNow]
    unfold entA keyA at hn
    exact hn
theorem slotLook (x : Int × List UInt8) {w : World} {b : Nat} {l : List (Int × List UInt8)} (h : MapA w b l) : (Instr.lookup 66 (.map (some b)) (keyA x) false).run Tryd.prog w = .ok (.bool (hasA l x.1 x.2)) w := by
  have h66 := Tryd.underlying66
  have hz : (zeroValue 4).run Tryd.prog w = .ok (.bool false) w := by kernel_rfl
  obtain ⟨n, hn⟩ := slotFind x w l
  have hc := fun e => slotCheck x e w
  unfold Instr.lookup
  cases hh : hasA l x.1 x.2 with
  | true => rw [hh] at hn; simp [run_underlying h66, MapKept.run_getObj_map h, hc, hn, Result.andThen]
  | false => rw [hh] at hn; simp [run_underlying h66, MapKept.run_getObj_map h, hc, hn, hz, Result.andThen]
theorem slotPut (x : Int × List UInt8) {w : World} {b : Nat} {l : List (Int × List UInt8)} (h : MapA w b l) (hn' : hasA l x.1 x.2 = false) : (Instr.mapUpdate 66 (.map (some b)) (keyA x) (.bool true)).run Tryd.prog w = .ok () (w.putObj b (.map (entA 0 (l ++ [x])).toArray (l.length + 1))) := by
  have h66 := Tryd.underlying66
  obtain ⟨n, hn⟩ := slotFind x w l
  rw [hn'] at hn
  have hc := fun e => slotCheck x e w
  have he : (entA 0 (l ++ [x])).toArray = (entA 0 l).toArray.push { key := keyA x, val := .bool true, born := l.length } := by
    rw [entA_snoc, Nat.zero_add]; simp
  unfold Instr.mapUpdate
  rw [he]
  simp [run_underlying h66, MapKept.run_getObj_map h, hc, hn, MapKept.run_setObj_map _ h, Result.andThen, World.putObj]
theorem MapA.put {w : World} {b : Nat} {l : List (Int × List UInt8)} (h : MapA w b l) (x : Int × List UInt8) : MapA (w.putObj b (.map (entA 0 (l ++ [x])).toArray (l.length + 1))) b (l ++ [x]) := by
  unfold MapA
  rw [World.putObj_heap_same (Array.getElem?_eq_some_iff.1 h).1, List.length_append]; rfl
end Go.Proofs.YthpfomjibfbiiaaDoor
namespace Go.Proofs.YthpfomjibfbiiaaDoor
open Go Go.RowKit
set_option linter.unusedVariables false

theorem Stab.cell {B : Nat} (a : Addr) (v : Value) : Stab B (fun W => W.cell? a = some v) := fun W W' l _ hn hg hc => by
  have hc : W.cell? a = some v := hc
  refine hg.cell hc ?_
  intro e
  injection e with e
  subst e
  unfold World.cell? at hc
  cases ho : W.heap[a.block]? with
  | none => rw [ho] at hc; simp at hc
  | some o =>
    cases o with
    | cells cs t fr => exact hn cs t fr ho
    | _ => simp [ho] at hc
theorem Stab.ds {B : Nat} (v : Value) (xs : List (Int × List UInt8)) : Stab B (fun W => DS W v xs) := fun W W' l hl hn hg ⟨A, c, hv, h1, h2, h3⟩ => ⟨A, c, hv, h1, h2, fun i hi => by
  obtain ⟨ad, C, d, e1, e2, e3, e4⟩ := h3 i hi
  exact ⟨ad, C, d, e1, (Stab.cell _ _) W W' l hl hn hg e2, (Stab.cell _ _) W W' l hl hn hg e3, (Stab.bs _ _) W W' l hl hn hg e4⟩⟩
/-- Addresses in a box. -/
def XA (w : World) (g : Nat) (A : Option Addr) (n c : Nat) : Prop := w.heap[g]? = some (.cells #[.slice A n c] 35 (0, 0))
theorem XA.ext {w w' : World} {g : Nat} {A : Option Addr} {n c : Nat} (h : XA w g A n c) (hx : Ext w w') : XA w' g A n c := hx.heap h
def ItV (g : Nat) (A : Option Addr) (c : Nat) (xs : List (Int × List UInt8)) (W : World) : Prop := XA W g A xs.length c ∧ DS W (.slice A xs.length c) xs
theorem ItV.stab (B : Nat) (g : Nat) (A : Option Addr) (c : Nat) (xs : List (Int × List UInt8)) : Stab B (ItV g A c xs) := (Stab.heap _ _ _ _).and (Stab.ds _ _)
theorem ItV.ext {g : Nat} {A : Option Addr} {c : Nat} {xs : List (Int × List UInt8)} {w w' : World} (h : ItV g A c xs w) (hx : Ext w w') : ItV g A c xs w' := ⟨h.1.ext hx, h.2.ext hx⟩
/-- What is handed over: an address. -/
structure AdE where
  k : Int
  A : Option Addr
  c : Nat
  b : List UInt8
def AdE.key (x : AdE) : Int × List UInt8 := (x.k, x.b)
def AdE.encs (x : AdE) : Array Value := #[adv x.k x.A x.b.length x.c]
def GV (xs : List (Int × List UInt8)) (pre : List AdE) (x : AdE) (W : World) : Prop := (∃ j, j < xs.length ∧ pre.map AdE.key = xs.take j ∧ xs[j]? = some x.key) ∧ BS W (.slice x.A x.b.length x.c) x.b
theorem AValues_at (A : Option Addr) (n c : Nat) (w : World) :
    Calls Tryd.prog 39 #[.slice A n c] w fun e w' => e = .returned (.func (.func 50) #[] #[.pointer (some ⟨w.heap.size, 0, none⟩)]) ∧ XA w' w.heap.size A n c ∧ Ext w w' := by
  have hmf : ∀ (fn : Fn) (first cap : Array Value) (w : World), (Instr.makeFunc fn first cap).run Tryd.prog w = .ok (.func fn first cap) w := fun _ _ _ _ => rfl
  have h0 := heap_alloc_new w (.cells #[.slice A n c] 35)
  have H0 := Lib.hid h0; have HX := Lib.hid ((Ext.refl w).alloc (.cells #[.slice A n c] 35))
  clear h0
  go_enter Tryd.func39, Tryd.ntmps39
  go_wp2
  go_ret
  exact ⟨rfl, H0.out, HX.out⟩
attribute [local go_sem] Oper.semAt_some

set_option maxRecDepth 100000 in
set_option maxHeartbeats 2000000 in
theorem avalues_iter (g : Nat) (A : Option Addr) (c : Nat) (xs : List (Int × List UInt8)) (hL : xs.length ≤ 1000) :
    IterM Tryd.prog 50 #[.pointer (some ⟨g, 0, none⟩)] AdE.encs (ItV g A c xs) (GV xs) (fun _ => False) (fun ys => ys.map AdE.key = xs) (fun pre => ∃ j, pre.map AdE.key = xs.take j) := by
  intro lp J Jx W hJ hJx hY hit h0
  refine callsIn_of_wp Tryd.func50 rfl trivial ?_ rfl
  simp only [Tryd.ntmps50, List.size_toArray, List.length_cons, List.length_nil, Nat.reduceAdd, Nat.reduceSub, Array.replicate_succ, Array.replicate_zero, List.push_toArray, List.append_toArray, List.nil_append, List.cons_append]
  have c0 := (row1 hit.1).1
  have HIT := Lib.hid hit; have HJ0 := Lib.hid h0
  clear hit h0
  obtain ⟨n, hn'⟩ : ∃ n, xs.length = n := ⟨_, rfl⟩
  rw [hn'] at c0 hL
  have HN := Lib.hid hn'
  clear hn'
  gi_wp2_with fail
  gi_loopw [7] (fun i wr => ∃ (k : Nat) (pre : List AdE), k ≤ n ∧ i = .int .i64 (k : Int) ∧ Hid (pre.map AdE.key = xs.take k) ∧ Hid (J pre wr) ∧ Hid (ItV g A c xs wr)) (fun i _ => n - (intOf i).toNat)
  case atStart => exact ⟨0, [], by omega, rfl, Lib.hid rfl, HJ0, HIT⟩
  case round =>
    obtain ⟨k, pre, hk, rfl, HP, HJ, HI⟩ := hrel
    by_cases hlt : k < n
    · have hlx : k < xs.length := by rw [HN.out]; exact hlt
      obtain ⟨A', c', he, hc1, hc2, hcell⟩ := HI.out.2
      injection he with e1 e2 e3
      subst e1; subst e3
      obtain ⟨ad, B, d, rfl, hc0, hc3, hbk⟩ := hcell k hlx
      have hc3' : wr.cell? ⟨(ad.add (k * 2)).block, (ad.add (k * 2)).off + 1, none⟩ = some (.slice B xs[k].2.length d) := by rw [cell_add1, add_of_add]; exact hc3
      have HTK := Lib.hid (show xs.take (k + 1) = xs.take k ++ [(xs[k].1, xs[k].2)] from List.take_succ_eq_append_getElem hlx)
      have HGK := Lib.hid (show xs[k]? = some (xs[k].1, xs[k].2) from List.getElem?_eq_getElem hlx)
      have HLX := Lib.hid hlx
      generalize xs[k].1 = kk at *
      generalize xs[k].2 = bb at *
      obtain ⟨Y, Z, hYY, hZZ, hy, hz, hxz⟩ := boxA wr kk B bb.length d
      have f0 := hy.soft 0; have f1 := hy.soft 1
      obtain ⟨g0, g1⟩ := hy.cells
      obtain ⟨q0, q1⟩ := hz.cells
      obtain ⟨fn, tmps, assign, body, hyy, hR⟩ := hY pre ⟨kk, B, d, bb⟩ Z (hJ pre wr Z none (by simp) (grown_none hxz) HJ.out) (HI.out.ext hxz) ⟨⟨k, HLX.out, HP.out, HGK.out⟩, hbk.ext hxz⟩
      unfold AdE.encs adv at hyy
      dsimp only at hyy
      clear hcell hc3 hbk hy hz hxz hlx hc1 hc2 e2 c0
      gi_wp2_with fail
      refine ⟨rfl, hR.mono ?_⟩
      rintro e W3 ⟨hq3, (⟨rfl, hJ3, hI3⟩ | ⟨rfl, hJx3⟩)⟩
      · have HJ3 := Lib.hid hJ3; have HI3 := Lib.hid hI3
        clear hq3 hJ3 hI3 hyy hc0 hc3' f0 f1 g0 g1 q0 q1 hYY hZZ hR
        gi_wp2_with fail
        go_roundw
        case rel => exact ⟨k + 1, pre ++ [⟨kk, B, d, bb⟩], by omega, by go_num, Lib.hid (by rw [HTK.out, List.map_append, HP.out]; rfl), HJ3, HI3⟩
        case measure => simp [intOf]; omega
      · have HX3 := Lib.hid hJx3
        clear hq3 hJx3 hyy hc0 hc3' f0 f1 g0 g1 q0 q1 hYY hZZ hR
        gi_wp2_with fail
        first | go_end0 | refine bodyPost_ret (results_none rfl _ _ _) rfl ?_
        exact ⟨⟨_, rfl⟩, .inr ⟨_, ⟨k + 1, by rw [HTK.out, List.map_append, HP.out]; rfl⟩, HX3.out⟩⟩
    · obtain rfl : k = n := by omega
      have HPE := Lib.hid (show pre.map AdE.key = xs by have h := HP.out; rwa [List.take_of_length_le (by rw [HN.out]; exact Nat.le_refl _)] at h)
      have hnx : ¬ (k : Int) < (k : Int) := by omega
      clear hlt
      gi_wp2_with fail
      first | go_end0 | refine bodyPost_ret (results_none rfl _ _ _) rfl ?_
      exact ⟨⟨_, rfl⟩, .inl ⟨pre, HPE.out, HJ.out, HI.out⟩⟩
end Go.Proofs.YthpfomjibfbiiaaDoor
namespace Go.Proofs.YthpfomjibfbiiaaDoor
open Go Go.RowKit
set_option linter.unusedVariables false

def ItU (g B : Nat) (A : Option Addr) (c : Nat) (xs : List (Int × List UInt8)) (W : World) : Prop := ItV g A c xs W ∧ B ≤ W.heap.size
theorem ItU.stab (B0 g B : Nat) (A : Option Addr) (c : Nat) (xs : List (Int × List UInt8)) : Stab B0 (ItU g B A c xs) := (ItV.stab _ _ _ _ _).and (Stab.size _)
theorem ItU.ext {g B : Nat} {A : Option Addr} {c : Nat} {xs : List (Int × List UInt8)} {w w' : World} (h : ItU g B A c xs w) (hx : Ext w w') : ItU g B A c xs w' := ⟨h.1.ext hx, Nat.le_trans h.2 hx.size⟩
def GU (B : Nat) (xs : List (Int × List UInt8)) (pre : List AdE) (x : AdE) (W : World) : Prop := (∃ rest, uqA [] xs = pre.map AdE.key ++ x.key :: rest) ∧ OB 5 W B (.slice x.A x.b.length x.c) x.b
def frA (x : AdE) (k : Nat) : Prop := (Value.slice x.A x.b.length x.c).ownBlock = some k
theorem GU.free {B : Nat} {xs : List (Int × List UInt8)} (pre : List AdE) (x : AdE) (W : World) (h : GU B xs pre x W) (k : Nat) (hk : frA x k) : ∃ cs t f, W.heap[k]? = some (.cells cs t f) := by
  obtain ⟨_, cs, h1⟩ := h.2.blk hk
  exact ⟨cs, _, _, h1⟩
theorem slot0 {w : World} {g : Nat} {k : Int} {s : ByteArray} (h : w.heap[g]? = some (.cells #[.int .i64 k, .string s] 68 (0, 0))) : w.cell? ⟨g, 0, none⟩ = some (.int .i64 k) ∧ w.cell? ⟨g, 1, none⟩ = some (.string s) :=
  ⟨by rw [cell_of_row w g 0 _ _ (0, 0) h]; rfl, by rw [cell_of_row w g 1 _ _ (0, 0) h]; rfl⟩
theorem boxS (w : World) (k : Int) (s : ByteArray) : ∃ Y Z, w.alloc (.cells #[.int .i64 0, .string ⟨#[]⟩] 68) = Y ∧ (Y.setCell ⟨w.heap.size, 0, none⟩ (.int .i64 k)).setCell ⟨w.heap.size, 1, none⟩ (.string s) = Z ∧ Y.heap[w.heap.size]? = some (.cells #[.int .i64 0, .string ⟨#[]⟩] 68 (0, 0)) ∧ Z.heap[w.heap.size]? = some (.cells #[.int .i64 k, .string s] 68 (0, 0)) ∧ Ext w Z := by
  have h0 := heap_alloc_new w (.cells #[.int .i64 0, .string ⟨#[]⟩] 68)
  refine ⟨_, _, rfl, rfl, h0, ?_, ((Ext.refl w).alloc _).set2 (Nat.le_refl _) _ _⟩
  have h1 := heap_setCell_same _ w.heap.size 0 _ _ (.int .i64 k) h0
  have h2 := heap_setCell_same _ w.heap.size 1 _ _ (.string s) h1
  rw [h2]; rfl
/-- What holds between two rounds. -/
def InU (J : List AdE → World → Prop) (g B : Nat) (A : Option Addr) (c : Nat) (xs : List (Int × List UInt8)) (lp y m b : Nat) (pre : List AdE) (V : World) : Prop :=
  ∃ us : List AdE, us.map AdE.key = uqA [] (pre.map AdE.key) ∧ J us V ∧ ItU g B A c xs V ∧ V.heap[y]? = some (.cells #[.func (.yield lp) #[] #[]] 43 (0, 0)) ∧ MapA V m (us.map AdE.key) ∧ V.heap[b]? = some (.cells #[.map (some m)] 66 (0, 0))
theorem InU.stab {J : List AdE → World → Prop} {g B : Nat} {A : Option Addr} {c : Nat} {xs : List (Int × List UInt8)} {lp y m b : Nat} {B0 : Nat} (hJ : ∀ us, Stab B0 (J us)) (hm : m < B0) (pre : List AdE) : Stab B0 (InU J g B A c xs lp y m b pre) :=
  Stab.ex fun us => (Stab.pure _).and ((hJ us).and ((ItU.stab _ _ _ _ _ _).and ((Stab.heap _ _ _ _).and ((Stab.obj _ _ hm).and (Stab.heap _ _ _ _)))))
theorem InU.ext {J : List AdE → World → Prop} {g B : Nat} {A : Option Addr} {c : Nat} {xs : List (Int × List UInt8)} {lp y m b : Nat} {pre : List AdE} {V V' : World} (hJ : ∀ us, J us V → J us V') (h : InU J g B A c xs lp y m b pre V) (hx : Ext V V') : InU J g B A c xs lp y m b pre V' := by
  obtain ⟨us, h1, h2, h3, h4, h5, h6⟩ := h
  exact ⟨us, h1, hJ us h2, h3.ext hx, hx.heap h4, hx.heap h5, hx.heap h6⟩
attribute [local go_sem] Oper.semAt_some

set_option maxRecDepth 100000 in
set_option maxHeartbeats 4000000 in
theorem uniq_iter (g B : Nat) (A : Option Addr) (c : Nat) (xs : List (Int × List UInt8)) (hL : xs.length ≤ 1000) (hl : ∀ x ∈ xs, x.2.length ≤ 1000) :
    IterX Tryd.prog 38 #[.pointer (some ⟨g, 0, none⟩)] AdE.encs (ItU g B A c xs) (GU B xs) frA (fun _ => False) (fun ys => ys.map AdE.key = uqA [] xs) (fun pre => ∃ rest, uqA [] xs = pre.map AdE.key ++ rest) := by
  intro lp J Jx W hJ hJx hsJ hsJx hY hit h0
  refine callsIn_of_wp_marks Tryd.func38 rfl trivial (wpIn_wide.2 ?_)
  simp only [Tryd.ntmps38, List.size_toArray, List.length_cons, List.length_nil, Nat.reduceAdd, Nat.reduceSub, Array.replicate_succ, Array.replicate_zero, List.push_toArray, List.append_toArray, List.nil_append, List.cons_append]
  have hmm := @run_makeMap Tryd.prog
  have hbx := heap_alloc_new W (.cells #[.func (.yield lp) #[] #[]] 43)
  obtain ⟨W1, hW1⟩ : ∃ W1, W.alloc (.cells #[.func (.yield lp) #[] #[]] 43) = W1 := ⟨_, rfl⟩
  have hx1 : Ext W W1 := hW1 ▸ (Ext.refl W).alloc _
  have hz1 : W1.heap.size = W.heap.size + 1 := by rw [← hW1]; simp
  rw [hW1] at hbx
  have hmp := heap_alloc_new W1 (.map #[] 0)
  obtain ⟨W2, hW2⟩ : ∃ W2, W1.alloc (.map #[] 0) = W2 := ⟨_, rfl⟩
  have hx2 : Ext W1 W2 := hW2 ▸ (Ext.refl W1).alloc _
  have hz2 : W2.heap.size = W.heap.size + 2 := by rw [← hW2]; simp [hz1]
  rw [hW2] at hmp
  have hmb := heap_alloc_new W2 (.cells #[.map none] 66)
  obtain ⟨W3, hW3⟩ : ∃ W3, W2.alloc (.cells #[.map none] 66) = W3 := ⟨_, rfl⟩
  have hx3 : Ext W2 W3 := hW3 ▸ (Ext.refl W2).alloc _
  rw [hW3] at hmb
  obtain ⟨m0, m1⟩ := row1 hmb
  have hmb4 := row1_set (.map (some W1.heap.size)) hmb
  have hx4 : Ext W2 (W3.setCell ⟨W2.heap.size, 0, none⟩ (.map (some W1.heap.size))) := hx3.setCell (p := ⟨W2.heap.size, 0, none⟩) (Nat.le_refl _) _
  obtain ⟨W4, hW4⟩ : ∃ W4, W3.setCell ⟨W2.heap.size, 0, none⟩ (.map (some W1.heap.size)) = W4 := ⟨_, rfl⟩
  rw [hW4] at hmb4 hx4
  have hx14 := hx1.trans (hx2.trans hx4)
  have hit4 := hit.ext hx14
  have hj4 := hJ [] W W4 none (by simp) (grown_none hx14) h0
  have hbx4 := (hx2.trans hx4).heap hbx
  have hmp4 : MapA W4 W1.heap.size [] := hx4.heap hmp
  have c0 := (row1 hit4.1.1).1
  have HIT := Lib.hid hit4; have HJ := Lib.hid hj4; have HBX := Lib.hid hbx4; have HMP := Lib.hid hmp4; have HMB := Lib.hid hmb4; have HX := Lib.hid hx14; have HZ1 := Lib.hid hz1; have HZ2 := Lib.hid hz2
  have HZ4 := Lib.hid (show W.heap.size + 3 ≤ W4.heap.size by have h1 := hx4.size; have h2 := (Array.getElem?_eq_some_iff.1 hmb4).1; omega)
  clear hit hit4 hj4 h0 hbx hbx4 hmp hmp4 hmb hmb4 hx1 hx2 hx3 hx4 hx14 hz1 hz2
  go_wp2_with fail
  go_step3
  go_wp2_with fail
  try (go_step3; go_wp2_with fail)
  refine (AValues_at A xs.length c W4).mono ?_
  rintro e W5 ⟨rfl, hxr, hx5⟩
  have HI5 := Lib.hid (show ItV W4.heap.size A c xs W5 from ⟨hxr, HIT.out.1.2.ext hx5⟩)
  have HIN := Lib.hid (show InU J g B A c xs lp W.heap.size W1.heap.size W2.heap.size [] W5 from ⟨[], rfl, hJ [] W4 W5 none (by simp) (grown_none hx5) HJ.out, HIT.out.ext hx5, hx5.heap HBX.out, hx5.heap HMP.out, hx5.heap HMB.out⟩)
  have HX5 := Lib.hid (HX.out.trans hx5)
  have HZ5 := Lib.hid (show W.heap.size + 3 ≤ W5.heap.size by have h1 := hx5.size; have h2 := HZ4.out; omega)
  clear hxr hx5 HIT HJ HBX HMP HMB HX hW1 hW2 hW3 hW4 m0 m1 c0
  have upJ : ∀ us, Stab W5.heap.size (J us) := fun us X Y l hl hn hg h => hsJ us X Y l (by have := HZ5.out; omega) hn hg h
  have upI : ∀ pre, Stab W5.heap.size (InU J g B A c xs lp W.heap.size W1.heap.size W2.heap.size pre) := fun pre => InU.stab upJ (by have := HZ5.out; have := HZ1.out; omega) pre
  go_wp2_with fail
  refine wpIn_wide.1 (wp_rangeM (gf := 50) (lb := #[.pointer (some ⟨W4.heap.size, 0, none⟩)]) rfl (Go.Proofs.enters_of Tryd.func50 (by kernel_rfl) rfl)
    (avalues_iter W4.heap.size A c xs hL) (fun _ => rfl) (fun k hk => hk.elim) HI5.out (ItV.stab _ _ _ _ _)
    (InU J g B A c xs lp W.heap.size W1.heap.size W2.heap.size) (fun cd pre V => cd = .exit 0 ∧ ∃ us : List AdE, (∃ rest, uqA [] xs = us.map AdE.key ++ rest) ∧ Jx us V)
    upI (fun cd pre => (Stab.pure _).and (Stab.ex fun us => (Stab.pure _).and (fun X Y l hl hn hg h => hsJx us X Y l (by have := HZ5.out; omega) hn hg h)))
    (fun pre X Y r hr hg h => ?_) (fun cd pre X Y r hr hg h => ?_) HIN.out ?_ ?_ ?_)
  · have hn : r = none := by cases r with | none => rfl | some k => exact (hr k rfl).elim
    subst hn
    exact h.ext (fun us hj => hJ us X Y none (by simp) hg hj) (grown_of_ext hg)
  · obtain ⟨h1, us, h2, h3⟩ := h
    exact ⟨h1, us, h2, hJx us X Y r hr hg h3⟩
  · intro l pre x V hl' hnl hzV hIV hitV hGV
    obtain ⟨⟨j, hj, hpre, hget⟩, hbs⟩ := hGV
    obtain ⟨xk, xA, xc, xb⟩ := x
    dsimp only [AdE.encs, adv, AdE.key] at hbs hget ⊢
    have hbl : xb.length ≤ 1000 := hl (xk, xb) (List.mem_of_getElem? hget)
    obtain ⟨Y, Z, hYY, hZZ, hy, hz, hxz⟩ := boxA V xk xA xb.length xc
    have f0 := hy.soft 0; have f1 := hy.soft 1
    obtain ⟨g0, g1⟩ := hy.cells
    have hIZ := hIV.ext (fun us hj => hJ us V Z none (by simp) (grown_none hxz) hj) hxz
    have hitZ := hitV.ext hxz
    have hbz := hbs.ext hxz
    have HL' := Lib.hid hl'; have HZV := Lib.hid hzV; have HBL := Lib.hid hbl
    have HPRE := Lib.hid (show ∃ rest, uqA [] xs = uqA [] ((pre ++ [(⟨xk, xA, xc, xb⟩ : AdE)]).map AdE.key) ++ rest by
      have h := uqA_take xs (j + 1)
      rw [List.take_succ_eq_append_getElem hj] at h
      have h2 : xs[j] = (xk, xb) := by have := List.getElem?_eq_getElem hj; rw [hget] at this; injection this with this; exact this.symm
      rw [h2, ← hpre] at h
      rw [List.map_append]
      exact h)
    clear hIV hitV hbs hy hpre hget hj hl' hzV hbl
    gi_wp2_with fail
    refine ⟨hxz.keeps _, fun V2 hg2 hn2 hsz2 => ?_⟩
    have hab : AB V2 V.heap.size xk xA xb.length xc := heap_nc hn2 hg2 hz
    have hbs2 := (Stab.bs (B := W5.heap.size) _ _) Z V2 l HL'.out hn2 hg2 hbz
    have hit2 := (ItV.stab W5.heap.size W4.heap.size A c xs) Z V2 l HL'.out hn2 hg2 hitZ
    obtain ⟨us, hus, hJ2, hIU2, hBX2, hMA2, hMB2⟩ := upI pre Z V2 l HL'.out hn2 hg2 hIZ
    have hcv := run_str (P := Tryd.prog) V2 23 9 5 (.slice xA xb.length xc) xb Tryd.underlying23 Tryd.underlying5 Tryd.underlying9 hbs2
    obtain ⟨q0, q1⟩ := hab.cells
    obtain ⟨YS, ZS, hYS, hZS, hs0, hs1, hxs⟩ := boxS V2 xk ⟨xb.toArray⟩
    have s0 := frozen_of_row YS V2.heap.size 0 _ _ hs0; have s1 := frozen_of_row YS V2.heap.size 1 _ _ hs0
    obtain ⟨t0, t1⟩ := slot0 hs0
    obtain ⟨v0, v1⟩ := slot0 hs1
    have mb := (row1 (hxs.heap hMB2)).1
    have hMAS : MapA ZS W1.heap.size (us.map AdE.key) := hxs.heap hMA2
    have hlk := slotLook (xk, xb) hMAS
    have hUS := uqA_snoc (xk, xb) (pre.map AdE.key) []
    rw [← hus] at hUS
    have HPU := Lib.hid (show ∀ us' : List AdE, us'.map AdE.key = uqA [] (pre.map AdE.key ++ [(xk, xb)]) → ∃ rest, uqA [] xs = us'.map AdE.key ++ rest from fun us' h => by
      obtain ⟨rest, hr⟩ := HPRE.out
      rw [List.map_append] at hr
      exact ⟨rest, by rw [h]; exact hr⟩)
    have HXS := Lib.hid hxs; have HITS := Lib.hid (hit2.ext hxs); have HJS := Lib.hid (hJ us V2 ZS none (by simp) (grown_none hxs) hJ2); have HIUS := Lib.hid (hIU2.ext hxs); have HBXS := Lib.hid (hxs.heap hBX2); have HMBS := Lib.hid (hxs.heap hMB2); have HMAS := Lib.hid hMAS; have HABS := Lib.hid (hab.ext hxs); have HBSS := Lib.hid (hbs2.ext hxs); have HUS := Lib.hid hUS; have HUE := Lib.hid hus
    clear hit2 hJ2 hIU2 hBX2 hMA2 hMB2 hMAS hab hbs2 hxs hs0 hs1 hg2 hn2 hsz2 hUS hus hIZ hitZ hbz hxz hz hnl hYY hZZ f0 f1 g0 g1
    unfold keyA at hlk
    dsimp only at hlk
    cases hh : hasA (us.map AdE.key) xk xb with
    | true =>
      rw [hh] at hlk
      have HU := Lib.hid (show us.map AdE.key = uqA [] (pre.map AdE.key ++ [(xk, xb)]) by rw [HUS.out, if_pos hh])
      clear hh
      gi_wp2_with fail
      exact ⟨HXS.out.keeps _, HITS.out, us, by rw [List.map_append]; exact HU.out, HJS.out, HIUS.out, HBXS.out, HMAS.out, HMBS.out⟩
    | false =>
      rw [hh] at hlk
      have HU := Lib.hid (show us.map AdE.key ++ [(xk, xb)] = uqA [] (pre.map AdE.key ++ [(xk, xb)]) by rw [HUS.out, if_neg (by simp [hh])])
      have hpt := slotPut (xk, xb) HMAS.out hh
      obtain ⟨V4, hV4⟩ : ∃ V4, ZS.putObj W1.heap.size (.map (entA 0 (us.map AdE.key ++ [(xk, xb)])).toArray ((us.map AdE.key).length + 1)) = V4 := ⟨_, rfl⟩
      have hma4 := HMAS.out.put (xk, xb)
      have hgp := grown_put (o' := .map (entA 0 (us.map AdE.key ++ [(xk, xb)])).toArray ((us.map AdE.key).length + 1)) HMAS.out
      have hnp : NC ZS W1.heap.size := NC.of HMAS.out rfl
      rw [hV4] at hpt hma4 hgp
      unfold keyA at hpt
      dsimp only at hpt
      have hw1W : W.heap.size ≤ W1.heap.size := by have := HZ1.out; omega
      have HJ4 := Lib.hid (hsJ us ZS V4 W1.heap.size hw1W hnp hgp HJS.out)
      have HIU4 := Lib.hid ((ItU.stab W.heap.size g B A c xs) ZS V4 W1.heap.size hw1W hnp hgp HIUS.out)
      have HIT4 := Lib.hid ((ItV.stab W.heap.size W4.heap.size A c xs) ZS V4 W1.heap.size hw1W hnp hgp HITS.out)
      have HBX4 := Lib.hid (heap_nc hnp hgp HBXS.out); have HMB4 := Lib.hid (heap_nc hnp hgp HMBS.out)
      have HAB4 : Hid (AB V4 V.heap.size xk xA xb.length xc) := Lib.hid (heap_nc hnp hgp HABS.out)
      have HBS4 := Lib.hid ((Stab.bs (B := W.heap.size) _ _) ZS V4 W1.heap.size hw1W hnp hgp HBSS.out)
      have HMA4 := Lib.hid hma4; have HSZ4 := Lib.hid hgp.size
      have HK4 := Lib.hid (show KeepsFrom W5.heap.size V2 V4 from (HXS.out.keeps _).trans ⟨hgp.size, fun k o hk ho _ => (hgp.block k (Array.getElem?_eq_some_iff.1 ho).1 (by intro e; injection e with e; have := HZ5.out; have := HZ1.out; omega)).trans ho⟩)
      have HYC := Lib.hid (row1 HBX4.out).1
      have HCP := Lib.hid (show ∀ W' : World, Ext V4 W' → Calls Tryd.prog 40 #[adv xk xA xb.length xc] W' (fun e w' => ∃ A3 c3, e = .returned (adv xk A3 xb.length c3) ∧ OB 5 w' V4.heap.size (.slice A3 xb.length c3) xb ∧ Ext W' w') from fun W' hx => (copied_at xk xb xA xc W' (HBS4.out.ext hx) HBL.out).mono (by rintro e w' ⟨A3, c3, h1, h2, h3⟩; exact ⟨A3, c3, h1, h2.mono hx.size, h3⟩))
      unfold adv at HCP
      clear hh hma4 hgp hnp hw1W HJS HIUS HITS HBXS HMBS HABS HBSS HMAS
      gi_wp2_with fail
      refine wp_round_ext_tail 3 (fun i v' w' => match i with | 2 => ∃ A3 c3, v' = .agg #[.int .i64 xk, .slice A3 xb.length c3] ∧ OB 5 w' V4.heap.size (.slice A3 xb.length c3) xb | _ => False) (by kernel_rfl) (by kernel_rfl) ?_
      refine wpE_op rfl rfl (fun w' hw' K' hK' => ?_)
      have hE := hw'.1
      have u0 := ((Ext.drew _).trans hE).cell HYC.out
      go_step
      refine hK' _ ⟨_, rfl⟩ ?_
      clear hK' K' u0 hE hw' w'
      refine wpE_op rfl rfl (fun w' hw' K' hK' => ?_)
      have hE := hw'.1
      obtain ⟨u0, u1⟩ := (HAB4.out.ext ((Ext.drew V4).trans hE)).cells
      go_step
      refine hK' _ ⟨_, rfl⟩ ?_
      clear hK' K' u0 u1 hE hw' w'
      refine wpE_call 23 rfl (by simp) rfl (fun w' hw' K' hK' => ?_) ?_
      · have hE := hw'.1
        go_step
        refine (HCP.out _ ((Ext.drew _).trans hE)).mono ?_
        rintro _ w2 ⟨A3, c3, rfl, hob, hx⟩
        exact hK' _ _ ⟨_, rfl, ⟨A3, c3, rfl, hob⟩⟩ hx
      rintro _ w23 hx23 ⟨A3, c3, rfl, hob23⟩
      simp only [Act.put, List.setIfInBounds_toArray, List.set_cons_succ, List.set_cons_zero]
      refine wpE_nil (fun W7 hw7 => ?_)
      have hx7 := (Ext.drew _).trans hw7.1
      have hob7 := hob23.ext (hw7.2 23 w23 (by simp [adds]))
      have hJ7 := hJ us V4 W7 none (by simp) (grown_none hx7) HJ4.out
      obtain ⟨rest, hrest⟩ := HPU.out (us ++ [⟨xk, A3, c3, xb⟩]) (by rw [List.map_append]; exact HU.out)
      have hyy := hY us ⟨xk, A3, c3, xb⟩ W7 hJ7 (HIU4.out.ext hx7) ⟨⟨rest, by rw [hrest, List.map_append]; simp⟩, hob7.mono HIU4.out.2⟩
      obtain ⟨fn, tmps, assign, body, hy, hR⟩ := hyy
      dsimp only [AdE.encs, adv] at hy
      have HK7 := Lib.hid (HK4.out.trans (hx7.keeps _))
      have HFR := Lib.hid (show ∀ k, frA ⟨xk, A3, c3, xb⟩ k → V4.heap.size ≤ k ∧ ∃ cs, W7.heap[k]? = some (.cells cs 5 (0, 0)) from fun k hk => hob7.blk hk)
      have HLT := Lib.hid (show W4.heap.size < V4.heap.size by have h1 := (Array.getElem?_eq_some_iff.1 HAB4.out).1; have h2 := HZV.out; have h3 := (Array.getElem?_eq_some_iff.1 HI5.out.1).1; omega)
      have HIT7 := Lib.hid (HIT4.out.ext hx7); have HBX7 := Lib.hid (hx7.heap HBX4.out); have HMB7 := Lib.hid (hx7.heap HMB4.out)
      have HMA7 : Hid (MapA W7 W1.heap.size (us.map AdE.key ++ [(xk, xb)])) := Lib.hid (hx7.heap HMA4.out)
      have HR7 := Lib.hid (show uqA [] xs = (us ++ [(⟨xk, A3, c3, xb⟩ : AdE)]).map AdE.key ++ rest from hrest)
      clear hw7 hx7 hob7 hJ7 hrest hx23 hob23
      simp only [List.drop_succ_cons, List.drop_zero]
      gi_wp2_with fail
      have hR' : RoundIn (Fence.wide.inRound l) 0 Tryd.prog lp fn tmps assign body W7 _ := hR
      clear hR
      refine ⟨rfl, hR'.mono ?_⟩
      rintro e W8 ⟨hq3, h8⟩
      have HK8 := Lib.hid (show KeepsFrom W5.heap.size V2 W8 from HK7.out.trans ⟨hq3.1, fun k o hk ho hc => hq3.2 k o (by have := HZ5.out; omega) (fun hf => by obtain ⟨_, cs, h1⟩ := HFR.out k hf; rw [h1] at ho; cases ho; simp [Obj.isCells] at hc) ho⟩)
      have HKK := Lib.hid (show ∀ k o, W.heap.size ≤ k → k ≤ W4.heap.size → W7.heap[k]? = some o → W8.heap[k]? = some o from fun k o h1 h2 ho => hq3.2 k o h1 (fun hf => by have h3 := (HFR.out k hf).1; have h4 := HLT.out; omega) ho)
      rcases h8 with ⟨rfl, hJ8, hI8⟩ | ⟨rfl, hJx8⟩
      · have HJ8 := Lib.hid hJ8; have HI8 := Lib.hid hI8
        clear hq3 hJ8 hI8 hy hR'
        gi_wp2_with fail
        have hz1 := HZ1.out; have hz2 := HZ2.out; have hz5 := HZ4.out
        refine ⟨HK8.out, ⟨HKK.out _ _ (by omega) (Nat.le_refl _) HIT7.out.1, HI8.out.1.2⟩, us ++ [⟨xk, A3, c3, xb⟩], ?_, HJ8.out, HI8.out, HKK.out _ _ (Nat.le_refl _) (by omega) HBX7.out, ?_, HKK.out _ _ (by omega) (by omega) HMB7.out⟩
        · rw [List.map_append, List.map_append]; exact HU.out
        · rw [List.map_append]; exact HKK.out _ _ (by omega) (by omega) HMA7.out
      · have HJ8 := Lib.hid hJx8
        clear hq3 hJx8 hy hR'
        gi_wp2_with fail
        exact ⟨HK8.out, rfl, us ++ [⟨xk, A3, c3, xb⟩], ⟨rest, HR7.out⟩, HJ8.out⟩
  · intro D ys V hD hS hIV hit hdf
    obtain ⟨us, hus, hJV, hIU, _⟩ := hIV
    have hJ4 := upJ us V (V.putObj D (.deferred none)) D hD (NC.of hdf rfl) (grown_put hdf) hJV
    have hI4 := (ItU.stab W5.heap.size g B A c xs) V (V.putObj D (.deferred none)) D hD (NC.of hdf rfl) (grown_put hdf) hIU
    refine ⟨by simp, .inl ⟨_, _, rfl, run_takeDeferred hdf, ?_⟩⟩
    exact ⟨.tuple #[], by simp [results, Tryd.results38, go_sem], ⟨_, rfl⟩, .inl ⟨us, by rw [hus, hS], hJ4, hI4⟩⟩
  · intro D cd pre V hD hSp hIx hdf
    obtain ⟨rfl, us, hsp, hx⟩ := hIx
    have hJ4 := hsJx us V (V.putObj D (.deferred none)) D (by have := HZ5.out; omega) (NC.of hdf rfl) (grown_put hdf) hx
    have HX4 := Lib.hid hJ4; have HSP := Lib.hid hsp; have HDF := Lib.hid hdf
    clear hx hSp hJ4 hdf hsp
    gi_wp2_with fail
    refine ⟨by simp, .inl ⟨_, _, rfl, run_takeDeferred HDF.out, ?_⟩⟩
    exact ⟨.tuple #[], by simp [results, Tryd.results38, go_sem], ⟨_, rfl⟩, .inr ⟨_, HSP.out, HX4.out⟩⟩
set_option maxRecDepth 100000 in
set_option maxHeartbeats 1000000 in
theorem Unique_at (A : Option Addr) (c : Nat) (xs : List (Int × List UInt8)) (w : World) (hD : DS w (.slice A xs.length c) xs) (hn : xs.length ≤ 100) (hl : ∀ x ∈ xs, x.2.length ≤ 1000) :
    Calls Tryd.prog 20 #[.slice A xs.length c] w fun e w' => ∃ A' c', e = .returned (.func (.func 38) #[] #[.pointer (some ⟨w.heap.size, 0, none⟩)]) ∧ XA w' w.heap.size A' xs.length c' ∧ AOV w' (w.heap.size + 1) (.slice A' xs.length c') xs ∧ Ext w w' := by
  have hmf : ∀ (fn : Fn) (first cap : Array Value) (w : World), (Instr.makeFunc fn first cap).run Tryd.prog w = .ok (.func fn first cap) w := fun _ _ _ _ => rfl
  have h0 := heap_alloc_new w (.cells #[.slice A xs.length c] 35)
  have hz0 : (w.alloc (.cells #[.slice A xs.length c] 35)).heap.size = w.heap.size + 1 := by simp
  have hx0 := (Ext.refl w).alloc (.cells #[.slice A xs.length c] 35)
  obtain ⟨W1, hW1⟩ : ∃ W1, w.alloc (.cells #[.slice A xs.length c] 35) = W1 := ⟨_, rfl⟩
  rw [hW1] at h0 hz0 hx0
  have HCO := Lib.hid (Copy_at A c xs W1 (hD.ext hx0) hn hl)
  have c0 := (row1 h0).1
  have H0 := Lib.hid h0; have HZ := Lib.hid hz0; have HX := Lib.hid hx0
  clear h0 hz0 hx0 hD hl
  go_enter Tryd.func20, Tryd.ntmps20
  go_wp2_with fail
  refine HCO.out.mono ?_
  rintro _ w2 ⟨V, rfl, hov, hx2⟩
  obtain ⟨A', c', rfl⟩ := hov.shape
  have h2 := hx2.heap H0.out
  obtain ⟨d0, d1⟩ := row1 h2
  have h3 := row1_set (.slice A' xs.length c') h2
  have hgr := grown_set1 w2 w.heap.size (.slice A' xs.length c')
  have HOV := Lib.hid (show AOV (w2.setCell ⟨w.heap.size, 0, none⟩ (.slice A' xs.length c')) (w.heap.size + 1) (.slice A' xs.length c') xs from (hov.down (Nat.le_of_eq HZ.out.symm)).keep fun k o hk ho => (hgr.block k (Array.getElem?_eq_some_iff.1 ho).1 (by intro e; injection e with e; omega)).trans ho)
  have H3 := Lib.hid h3
  have HX3 := Lib.hid ((HX.out.trans hx2).setCell (p := ⟨w.heap.size, 0, none⟩) (Nat.le_refl _) (.slice A' xs.length c'))
  clear hov hx2 h2 h3 hgr
  go_wp2
  go_ret
  exact ⟨A', c', rfl, H3.out, HOV.out, HX3.out⟩
end Go.Proofs.YthpfomjibfbiiaaDoor
namespace Go.Proofs.YthpfomjibfbiiaaDoor
open Go Go.RowKit
set_option linter.unusedVariables false
attribute [local go_sem] Oper.semAt_some

theorem seq_nilA (cap : Array Value) (w : World) : (binOp .eql 46 (.func (.func 38) #[] cap) .nilFunc).run Tryd.prog w = .ok (.bool false) w := by kernel_rfl
/-- The block of an own row, or none. -/
theorem OB.row2 {e : TypeId} {w : World} {B c : Nat} {A : Option Addr} {X : List UInt8} (h : OB e w B (.slice A X.length c) X) :
    ∃ g, B ≤ g ∧ (0 < X.length → A = some ⟨g, 0, none⟩) ∧ (∀ o, w.heap[g]? = some o → (Value.slice A X.length c).ownBlock = some g) := by
  rcases h.2 with ⟨_, h0⟩ | ⟨g, cap, cur, hv, hb, hh, r⟩
  · refine ⟨B + w.heap.size, by omega, fun hp => ?_, fun o ho => ?_⟩
    · rw [show X.length = 0 by simpa using h0] at hp; omega
    · have := (Array.getElem?_eq_some_iff.1 ho).1
      omega
  · injection hv with h1
    exact ⟨g, hb, fun _ => h1, fun o ho => by rw [h1]; rfl⟩
/-- The law's own boxes. -/
def OvB (b : Nat) (v : Value) (many k : Int) (V : World) : Prop :=
  V.heap[b]? = some (.cells #[v] 35 (0, 0)) ∧ V.heap[b + 1]? = some (.cells #[.int .i64 many] 3 (0, 0)) ∧ V.heap[b + 1 + 1]? = some (.cells #[.bool false] 4 (0, 0)) ∧ V.heap[b + 1 + 1 + 1]? = some (.cells #[.int .i64 k] 3 (0, 0))
theorem OvB.stab {B b : Nat} {v : Value} {many k : Int} : Stab B (OvB b v many k) := (Stab.heap _ _ _ _).and ((Stab.heap _ _ _ _).and ((Stab.heap _ _ _ _).and (Stab.heap _ _ _ _)))
theorem OvB.ext {b : Nat} {v : Value} {many k : Int} {V V' : World} (h : OvB b v many k V) (hx : Ext V V') : OvB b v many k V' := ⟨hx.heap h.1, hx.heap h.2.1, hx.heap h.2.2.1, hx.heap h.2.2.2⟩
theorem OvB.far {b g : Nat} {v : Value} {many k : Int} {V V' : World} (h : OvB b v many k V) (hg : V.grownBy V' (some g)) (hb : b + 4 ≤ g) : OvB b v many k V' := ⟨heap_far hg h.1 (by omega), heap_far hg h.2.1 (by omega), heap_far hg h.2.2.1 (by omega), heap_far hg h.2.2.2 (by omega)⟩
def OvI (b : Nat) (v : Value) (many : Int) (w : World) (pre : List AdE) (V : World) : Prop := OvB b v many pre.length V ∧ (pre = [] ∨ (pre.length : Int) < many) ∧ Ext w V
def OvX (b : Nat) (v : Value) (many : Int) (w : World) (cd : Code) (pre : List AdE) (V : World) : Prop := cd = .exit 0 ∧ OvB b v many pre.length V ∧ (1 ≤ pre.length ∧ many ≤ pre.length ∧ (pre.length = 1 ∨ (pre.length : Int) - 1 < many)) ∧ Ext w V
theorem OvI.stab {B b : Nat} {v : Value} {many : Int} {w : World} (h : w.heap.size ≤ B) (pre : List AdE) : Stab B (OvI b v many w pre) := OvB.stab.and ((Stab.pure _).and (Stab.ext w h))
theorem OvX.stab {B b : Nat} {v : Value} {many : Int} {w : World} (h : w.heap.size ≤ B) (cd : Code) (pre : List AdE) : Stab B (OvX b v many w cd pre) := (Stab.pure _).and (OvB.stab.and ((Stab.pure _).and (Stab.ext w h)))

set_option maxRecDepth 100000 in
set_option maxHeartbeats 4000000 in
theorem over_at (g : Nat) (A : Option Addr) (c : Nat) (xs : List (Int × List UInt8)) (hL : xs.length ≤ 100) (hl : ∀ x ∈ xs, x.2.length ≤ 1000) (A1 : Option Addr) (c1 : Nat) (L : List (Int × List UInt8)) (hLL : uqA [] xs = L) (many : Int) (w : World) (hit : ItV g A c xs w) (hD : DS w (.slice A1 L.length c1) L) :
    Calls Tryd.prog 22 #[.func (.func 38) #[] #[.pointer (some ⟨g, 0, none⟩)], .slice A1 L.length c1, .int .i64 many] w fun e w' => e = .returned (.bool true) ∧ Ext w w' := by
  have hLn : L.length ≤ 100 := by have := uqA_len xs []; rw [hLL] at this; simp at this; omega
  have hLb : ∀ x ∈ L, x.2.length ≤ 1000 := fun x hx => by
    rw [← hLL] at hx
    rcases uqA_mem xs [] x hx with h | h
    · cases h
    · exact hl x h
  obtain ⟨V0, hV0⟩ : ∃ V0, V0 = (((w.alloc (.cells #[.slice A1 L.length c1] 35)).alloc (.cells #[.int .i64 many] 3)).alloc (.cells #[.bool false] 4)).alloc (.cells #[.int .i64 0] 3) := ⟨_, rfl⟩
  have hx0 : Ext w V0 := by rw [hV0]; exact ((((Ext.refl w).alloc _).alloc _).alloc _).alloc _
  have hb0 : OvB w.heap.size (.slice A1 L.length c1) many 0 V0 := by
    rw [hV0]
    have h1 := heap_alloc_new w (.cells #[.slice A1 L.length c1] 35)
    have h2 := heap_alloc_new (w.alloc (.cells #[.slice A1 L.length c1] 35)) (.cells #[.int .i64 many] 3)
    have h3 := heap_alloc_new ((w.alloc (.cells #[.slice A1 L.length c1] 35)).alloc (.cells #[.int .i64 many] 3)) (.cells #[.bool false] 4)
    have h4 := heap_alloc_new (((w.alloc (.cells #[.slice A1 L.length c1] 35)).alloc (.cells #[.int .i64 many] 3)).alloc (.cells #[.bool false] 4)) (.cells #[.int .i64 0] 3)
    rw [World.size_alloc] at h2
    rw [World.size_alloc, World.size_alloc] at h3
    rw [World.size_alloc, World.size_alloc, World.size_alloc] at h4
    exact ⟨((((Ext.refl _).alloc _).alloc _).alloc _).heap h1, (((Ext.refl _).alloc _).alloc _).heap h2, ((Ext.refl _).alloc _).heap h3, h4⟩
  have hz0 : V0.heap.size = w.heap.size + 4 := by rw [hV0]; simp
  have HX0 := Lib.hid hx0; have HB0 := Lib.hid hb0; have HITW := Lib.hid hit; have HIT := Lib.hid (show ItU g V0.heap.size A c xs V0 from ⟨hit.ext hx0, Nat.le_refl _⟩); have HD := Lib.hid hD; have HLN := Lib.hid hLn; have HZ := Lib.hid hz0; have HLEQ := Lib.hid hLL; have HLB := Lib.hid hLb
  have hq := seq_nilA #[.pointer (some ⟨g, 0, none⟩)]
  clear hx0 hb0 hit hD hz0 hLL hLb hLn
  refine calls_of_marks Tryd.func22 rfl ?_
  simp only [Tryd.ntmps22, List.size_toArray, List.length_cons, List.length_nil, Nat.reduceAdd, Nat.reduceSub, Array.replicate_succ, Array.replicate_zero, List.push_toArray, List.append_toArray, List.nil_append, List.cons_append]
  go_wp2_with fail
  rw [← hV0]
  clear hV0 hq
  refine wpIn_wide.1 (wp_rangeX (gf := 38) (lb := #[.pointer (some ⟨g, 0, none⟩)]) rfl (Go.Proofs.enters_of Tryd.func38 (by kernel_rfl) rfl)
    (uniq_iter g V0.heap.size A c xs (by omega) hl) GU.free (fun _ => rfl) (fun k hk => hk.elim) HIT.out (ItU.stab _ _ _ _ _ _)
    (OvI w.heap.size (.slice A1 L.length c1) many w) (OvX w.heap.size (.slice A1 L.length c1) many w)
    (fun pre => OvI.stab HX0.out.size pre) (fun cd pre => OvX.stab HX0.out.size cd pre)
    (fun pre X Y r hr hg h => ?_) (fun cd pre X Y r hr hg h => ?_) ⟨HB0.out, .inl rfl, HX0.out⟩ ?_ ?_ ?_)
  · have hn : r = none := by cases r with | none => rfl | some k => exact (hr k rfl).elim
    subst hn
    exact ⟨h.1.ext (grown_of_ext hg), h.2.1, h.2.2.trans (grown_of_ext hg)⟩
  · have hn : r = none := by cases r with | none => rfl | some k => exact (hr k rfl).elim
    subst hn
    exact ⟨h.1, h.2.1.ext (grown_of_ext hg), h.2.2.1, h.2.2.2.trans (grown_of_ext hg)⟩
  · intro l pre x V hl' hnl hzV hIV hitV hGV
    obtain ⟨⟨rest, hrest⟩, hobV⟩ := hGV
    rw [HLEQ.out] at hrest
    have hxm : x.key ∈ L := by rw [hrest]; simp
    obtain ⟨xk, xA, xc, xb⟩ := x
    dsimp only [AdE.encs, adv, AdE.key] at hobV hrest hxm ⊢
    have hxb : xb.length ≤ 1000 := HLB.out _ hxm
    obtain ⟨Y, Z, hYY, hZZ, hy, hz, hxz⟩ := boxA V xk xA xb.length xc
    have f0 := hy.soft 0; have f1 := hy.soft 1
    obtain ⟨g0, g1⟩ := hy.cells
    have HL' := Lib.hid hl'; have HZV := Lib.hid hzV; have HXB := Lib.hid hxb
    gi_wp2_with fail
    refine ⟨KA.of_ext hxz, fun V2 hg2 hn2 hsz2 => ?_⟩
    obtain ⟨hbx, hpre, hx2⟩ := (OvI.stab (B := V0.heap.size) HX0.out.size pre) Z V2 l HL'.out hn2 hg2 ⟨hIV.1.ext hxz, hIV.2.1, hIV.2.2.trans hxz⟩
    have hab : AB V2 V.heap.size xk xA xb.length xc := heap_nc hn2 hg2 hz
    have hob2 := (Stab.ob (B := V0.heap.size) _ _ _ _) Z V2 l HL'.out hn2 hg2 (hobV.ext hxz)
    have HVLT := Lib.hid (Array.getElem?_eq_some_iff.1 hab).1
    have hlt : pre.length < L.length := by have h := congrArg List.length hrest; simp at h; omega
    have hLk : L[pre.length]? = some (xk, xb) := by rw [hrest, List.getElem?_append_right (by simp)]; simp
    obtain ⟨A', c', he, e1, e2, e3⟩ := HD.out.ext hx2
    injection he with z1 _ z3
    subst z1; subst z3
    obtain ⟨ad, BB, dd, rfl, hc0, hc3, hbk⟩ := e3 pre.length hlt
    have hLk' : L[pre.length] = (xk, xb) := by have := List.getElem?_eq_getElem hlt; rw [hLk] at this; injection this with this; exact this.symm
    rw [hLk'] at hc0 hc3 hbk
    have hc3' : V2.cell? ⟨(ad.add (pre.length * 2)).block, (ad.add (pre.length * 2)).off + 1, none⟩ = some (.slice BB xb.length dd) := by rw [cell_add1, add_of_add]; exact hc3
    obtain ⟨h1, h2, h3, h4⟩ := hbx
    have hkn : (pre.length : Int) < (L.length : Int) := by omega
    have hge : decide ((L.length : Int) ≤ (pre.length : Int)) = false := decide_eq_false (by omega)
    have hge2 : decide (L.length ≤ pre.length) = false := decide_eq_false (by omega)
    have hk7 : pre.length ≤ 100 := by have := HLN.out; omega
    have HC4 := Lib.hid (row1 h1).1; have HC7 := Lib.hid (row1 h4).1; have HL0 := Lib.hid hc0; have HL1 := Lib.hid hc3'
    have HA0 := Lib.hid hab.cells.1; have HA1 := Lib.hid hab.cells.2
    have HEQ := Lib.hid (show ∀ W, Ext V2 W → Calls Tryd.prog 10 #[adv xk xA xb.length xc, adv xk BB xb.length dd] W (fun e w' => e = .returned (.bool true) ∧ Ext W w') from fun W hx => by
      have h := RAEqual_at xk xk xb xb xA BB xc dd W (hob2.bs.ext hx) (hbk.ext hx)
      rwa [show (xk == xk && xb == xb) = true by simp] at h)
    unfold adv at HEQ
    have HBX := Lib.hid (show OvB w.heap.size (.slice (some ad) L.length c1) many pre.length V2 from ⟨h1, h2, h3, h4⟩); have HX2 := Lib.hid hx2; have HP := Lib.hid hpre; have HOB := Lib.hid hob2; have HAB := Lib.hid hab
    have HSN := Lib.hid (show ((pre ++ [(⟨xk, xA, xc, xb⟩ : AdE)]).length : Int) = (pre.length : Int) + 1 by simp)
    have HLT := Lib.hid hlt
    obtain ⟨k, hk⟩ : ∃ k, pre.length = k := ⟨_, rfl⟩
    rw [hk] at hkn hge hge2 hk7 HC7 HL0 HL1 HLT
    have HK := Lib.hid hk
    clear h1 h2 h3 h4 hx2 hpre hrest e1 e2 e3 hIV hitV hg2 hn2 hnl hk hsz2 hab hob2 hobV hbk hc0 hc3 hc3' hLk hLk' hxm hxz hz hy f0 f1 g0 g1 hYY hZZ hlt
    gi_wp2_with fail
    refine wp_round_ext (fun i v' w' => match i with | 10 => v' = .bool true | _ => False) (by kernel_rfl) (by kernel_rfl) ?_
    refine wpE_op rfl rfl (fun w' hw' K' hK' => ?_)
    have hE := hw'.1
    have u0 := ((Ext.drew _).trans hE).cell HC7.out
    go_step
    refine hK' _ ⟨_, rfl⟩ ?_
    clear hK' K' u0 hE hw' w'
    refine wpE_op rfl rfl (fun w' hw' K' hK' => ?_)
    have hE := hw'.1
    have u0 := ((Ext.drew _).trans hE).cell HC4.out
    go_step
    refine hK' _ ⟨_, rfl⟩ ?_
    clear hK' K' u0 hE hw' w'
    refine wpE_op rfl rfl (fun w' hw' K' hK' => ?_)
    have hE := hw'.1
    go_step
    refine hK' _ ⟨_, rfl⟩ ?_
    clear hK' K' hE hw' w'
    refine wpE_op rfl rfl (fun w' hw' K' hK' => ?_)
    have hE := hw'.1
    go_step
    refine hK' _ ⟨_, rfl⟩ ?_
    clear hK' K' hE hw' w'
    refine wpE_op rfl rfl (fun w' hw' K' hK' => ?_)
    have hE := hw'.1
    go_step
    refine hK' _ ⟨_, rfl⟩ ?_
    clear hK' K' hE hw' w'
    refine wpE_op (by kernel_rfl) rfl (fun w' hw' K' hK' => ?_)
    have hE := hw'.1
    have u0 := ((Ext.drew _).trans hE).cell HA0.out
    have u1 := ((Ext.drew _).trans hE).cell HA1.out
    go_step
    refine hK' _ ⟨_, rfl⟩ ?_
    clear hK' K' u0 u1 hE hw' w'
    refine wpE_op (by kernel_rfl) rfl (fun w' hw' K' hK' => ?_)
    have hE := hw'.1
    have u0 := ((Ext.drew _).trans hE).cell HC4.out
    go_step
    refine hK' _ ⟨_, rfl⟩ ?_
    clear hK' K' u0 hE hw' w'
    refine wpE_op (by kernel_rfl) rfl (fun w' hw' K' hK' => ?_)
    have hE := hw'.1
    have u0 := ((Ext.drew _).trans hE).cell HC7.out
    go_step
    refine hK' _ ⟨_, rfl⟩ ?_
    clear hK' K' u0 hE hw' w'
    refine wpE_op (by kernel_rfl) rfl (fun w' hw' K' hK' => ?_)
    have hE := hw'.1
    go_step
    refine hK' _ ⟨_, rfl⟩ ?_
    clear hK' K' hE hw' w'
    refine wpE_op (by kernel_rfl) rfl (fun w' hw' K' hK' => ?_)
    have hE := hw'.1
    have u0 := ((Ext.drew _).trans hE).cell HL0.out
    have u1 := ((Ext.drew _).trans hE).cell HL1.out
    go_step
    refine hK' _ ⟨_, rfl⟩ ?_
    clear hK' K' u0 u1 hE hw' w'
    refine wpE_call 24 rfl (by simp) (by kernel_rfl) (fun w' hw' K' hK' => ?_) ?_
    · have hE := hw'.1
      go_step
      refine (HEQ.out _ ((Ext.drew _).trans hE)).mono ?_
      rintro _ w2 ⟨rfl, hx⟩
      exact hK' _ _ ⟨_, rfl, rfl⟩ hx
    rintro _ w24 hx24 rfl
    simp only [Act.put, List.setIfInBounds_toArray, List.set_cons_succ, List.set_cons_zero]
    refine wpE_op (by kernel_rfl) rfl (fun w' hw' K' hK' => ?_)
    have hE := hw'.1
    go_step
    refine hK' _ ⟨_, rfl⟩ ?_
    clear hK' K' hE hw' w'
    refine wpE_op rfl rfl (fun w' hw' K' hK' => ?_)
    have hE := hw'.1
    go_step
    refine hK' _ ⟨_, rfl⟩ ?_
    clear hK' K' hE hw' w'
    refine wpE_nil (fun V3 hW => ?_)
    have hx3 := (Ext.drew _).trans hW.1
    have hob3 := HOB.out.ext hx3
    obtain ⟨gx, hgx1, hgx2, hgx3⟩ := hob3.row2
    obtain ⟨q0, q1⟩ := (HAB.out.ext hx3).cells
    have hbx3 := HBX.out.ext hx3
    have HX3 := Lib.hid hx3; have HOB3 := Lib.hid hob3; have HG1 := Lib.hid hgx1; have HG2 := Lib.hid hgx2; have HG3 := Lib.hid hgx3; have HBX3 := Lib.hid hbx3
    have HNE := Lib.hid (show V.heap.size ≠ gx from fun e => by
      have h := HAB.out.ext hx3
      have h2 : V3.heap[gx]? = some (.cells #[.int .i64 xk, .slice xA xb.length xc] 25 (0, 0)) := by rw [← e]; exact h
      obtain ⟨_, cs, h3⟩ := hob3.blk (hgx3 _ h2)
      rw [h2] at h3
      cases h3)
    have HAB3 := Lib.hid (HAB.out.ext hx3)
    have hxb' := HXB.out
    clear hW hx3 hob3 hgx1 hgx2 hgx3 hbx3
    gi_wp2_with fail
    gi_loopw [9] (fun i wr => ∃ (j : Nat) (X : List UInt8), j ≤ xb.length ∧ i = .int .i64 (j : Int) ∧ X.length = xb.length ∧ Hid (OB 5 wr V0.heap.size (.slice xA X.length xc) X) ∧ Hid (V3.grownBy wr (some gx))) (fun i _ => xb.length - (intOf i).toNat)
    case atStart => exact ⟨0, xb, Nat.zero_le _, rfl, rfl, HOB3, Lib.hid (grown_refl _ _)⟩
    case round =>
      obtain ⟨j, X, hj, rfl, hX, HOBk, HGK⟩ := hrel
      obtain ⟨p0, p1⟩ := AB.cells (heap_far HGK.out HAB3.out HNE.out)
      clear q0 q1
      by_cases hlt : j < xb.length
      · have h3 := HG2.out (by omega)
        subst h3
        obtain ⟨hc, hf⟩ := HOBk.out.at_ j (by omega)
        have HS := Lib.hid (HOBk.out.set j (X[j] + 1) _ (u8_inc X[j]))
        gi_wp2_with fail
        go_roundw
        case rel => exact ⟨j + 1, _, by omega, by go_num, by rw [List.length_set]; exact hX, Lib.hid HS.out.1, Lib.hid (grown_trans HGK.out HS.out.2)⟩
        case measure => simp [intOf]; omega
      · obtain rfl : j = xb.length := by omega
        have hz := HZ.out
        have hgx := HG1.out
        obtain ⟨h1, h2, h3, h4⟩ := HBX3.out.far HGK.out (by omega)
        have k7 := (row1 h4).1; have s7 := (row1 h4).2; have k5 := (row1 h2).1
        have hk9 : (k : Int) ≤ 100 := by omega
        have hx4 : Ext w wr := Ext.of_grown (HX2.out.trans HX3.out) HGK.out (by omega)
        have HB2 := Lib.hid (show OvB w.heap.size (.slice (some ad) L.length c1) many ((pre ++ [(⟨xk, xA, xc, xb⟩ : AdE)]).length : Int) (wr.setCell ⟨w.heap.size + 1 + 1 + 1, 0, none⟩ (.int .i64 ((k : Int) + 1))) from
          ⟨heap_far (grown_set1 _ _ _) h1 (by omega), heap_far (grown_set1 _ _ _) h2 (by omega), heap_far (grown_set1 _ _ _) h3 (by omega), by rw [HSN.out, HK.out]; rw [HK.out] at h4; exact row1_set _ h4⟩)
        have hxx := hx4.setCell (p := ⟨w.heap.size + 1 + 1 + 1, 0, none⟩) (by show w.heap.size ≤ w.heap.size + 1 + 1 + 1; omega) (.int .i64 ((k : Int) + 1))
        have HXX := Lib.hid hxx
        have HI3 := Lib.hid (show ItU g V0.heap.size A c xs (wr.setCell ⟨w.heap.size + 1 + 1 + 1, 0, none⟩ (.int .i64 ((k : Int) + 1))) from ⟨HITW.out.ext hxx, by
          have h5 := (grown_set1 wr (w.heap.size + 1 + 1 + 1) (.int .i64 ((k : Int) + 1))).size; have h6 := HGK.out.size; have h7 := HX3.out.size; have h8 := HVLT.out; have h9 := HZV.out; omega⟩)
        have HKX := Lib.hid (show KX V0.heap.size (frA ⟨xk, xA, xc, xb⟩) V2 (wr.setCell ⟨w.heap.size + 1 + 1 + 1, 0, none⟩ (.int .i64 ((k : Int) + 1))) from
          ((KA.of_ext HX3.out).kx.trans (⟨HGK.out.size, fun k' o hB hF hi => (HGK.out.block k' (Array.getElem?_eq_some_iff.1 hi).1 (by intro e; injection e with e; subst e; exact hF (HG3.out o hi))).trans hi⟩ : KX V0.heap.size (frA ⟨xk, xA, xc, xb⟩) V3 wr)).trans (KA.of_grown (grown_set1 _ _ _) (by omega)).kx)
        rw [HK.out] at k7
        clear h1 h2 h3 h4 hx4 hxx hz hgx
        by_cases hm : many ≤ (k : Int) + 1
        · have HM := Lib.hid hm
          gi_wp2_with fail
          refine ⟨HKX.out, rfl, HB2.out, ⟨by simp, ?_, ?_⟩, HXX.out⟩
          · have := HSN.out; have := HK.out; have := HM.out; omega
          · rcases HP.out with h | h
            · left; rw [h]; rfl
            · right; have := HSN.out; omega
        · have HM := Lib.hid hm
          have hm2 : (k : Int) + 1 < many := by omega
          gi_wp2_with fail
          refine ⟨HKX.out, HI3.out, HB2.out, .inr ?_, HXX.out⟩
          have := HSN.out; have := HK.out; omega
  · intro D xs' V hD' hS hIV hit hdf
    obtain ⟨⟨h1, h2, h3, h4⟩, hpre, hx2⟩ := hIV
    have hz := HZ.out
    have q1 := (row1 h1).1; have q2 := (row1 h2).1; have q3 := (row1 h3).1; have s3 := (row1 h3).2; have q4 := (row1 h4).1
    have n3 := heap_far (grown_set1 V (w.heap.size + 1 + 1) (.bool true)) hdf (by omega)
    have d0 := (row1 (heap_far (grown_put (o' := .deferred none) n3) (row1_set (.bool true) h3) (by omega))).1
    have HXF := Lib.hid (Ext.of_grown (hx2.setCell (p := ⟨w.heap.size + 1 + 1, 0, none⟩) (by show w.heap.size ≤ w.heap.size + 1 + 1; omega) (.bool true)) (grown_put (o' := .deferred none) n3) (by omega))
    have HN3 := Lib.hid n3; have HD0 := Lib.hid d0
    have hll : L.length = xs'.length := by rw [← HLEQ.out, ← hS, List.length_map]
    rw [hll] at q1
    have hl9 : xs'.length ≤ 100 := by have := HLN.out; omega
    have hlen : (1 < many ∧ (xs'.length : Int) ≤ many) ∨ (many ≤ 1 ∧ (xs'.length : Int) ≤ 1) := by
      rcases hpre with h | h
      · subst h; simp only [List.length_nil]; omega
      · omega
    clear h1 h2 h3 h4 hx2 n3 d0 hdf hz hit hpre hS hll
    rcases hlen with ⟨m1, m2⟩ | ⟨m1, m2⟩
    all_goals
      have q5 : ((xs'.length : Int) == min (xs'.length : Int) (max 1 many)) = true := by rw [beq_iff_eq]; omega
      go_wp2_with fail
      refine ⟨by simp, .inl ⟨_, _, rfl, run_takeDeferred HN3.out, ?_⟩⟩
      have d0 := HD0.out
      exact ⟨.bool true, by simp [results, Tryd.results22, go_sem, d0]; try rfl, rfl, HXF.out⟩
  · intro D cd pre V hD' hSp hIx hdf
    obtain ⟨rfl, ⟨h1, h2, h3, h4⟩, ⟨k1, k2, k3⟩, hx2⟩ := hIx
    obtain ⟨rest, hrest⟩ := hSp
    rw [HLEQ.out] at hrest
    have hle : pre.length ≤ L.length := by rw [hrest]; simp
    have hz := HZ.out
    have q1 := (row1 h1).1; have q2 := (row1 h2).1; have q3 := (row1 h3).1; have s3 := (row1 h3).2; have q4 := (row1 h4).1
    have n3 := heap_far (grown_set1 V (w.heap.size + 1 + 1) (.bool true)) hdf (by omega)
    have d0 := (row1 (heap_far (grown_put (o' := .deferred none) n3) (row1_set (.bool true) h3) (by omega))).1
    have HXF := Lib.hid (Ext.of_grown (hx2.setCell (p := ⟨w.heap.size + 1 + 1, 0, none⟩) (by show w.heap.size ≤ w.heap.size + 1 + 1; omega) (.bool true)) (grown_put (o' := .deferred none) n3) (by omega))
    have HN3 := Lib.hid n3; have HD0 := Lib.hid d0
    have hlen : (1 < many ∧ (pre.length : Int) = many ∧ many < L.length) ∨ (1 < many ∧ (pre.length : Int) = many ∧ many = L.length) ∨ (many ≤ 1 ∧ pre.length = 1 ∧ 1 < (L.length : Int)) ∨ (many ≤ 1 ∧ pre.length = 1 ∧ (L.length : Int) = 1) := by omega
    have hln := HLN.out
    clear h1 h2 h3 h4 hx2 n3 d0 hdf hz hrest k1 k2 k3 hle
    rcases hlen with ⟨m1, m2, m3⟩ | ⟨m1, m2, m3⟩ | ⟨m1, m2, m3⟩ | ⟨m1, m2, m3⟩
    all_goals
      have q5 : ((pre.length : Int) == min (L.length : Int) (max 1 many)) = true := by rw [beq_iff_eq]; omega
      first
        | (have q6 : (many == min (L.length : Int) (max 1 many)) = true := by rw [beq_iff_eq]; omega)
        | (have q6 : ((1 : Int) == min (L.length : Int) (max 1 many)) = true := by rw [beq_iff_eq]; omega)
      try (have q7 : ((L.length : Int) == min (L.length : Int) (max 1 (L.length : Int))) = true := by rw [beq_iff_eq]; omega)
      try (have q8 : ((1 : Int) == min 1 (max 1 many)) = true := by rw [beq_iff_eq]; omega)
      gi_wp2_with fail
      go_wp2_with fail
      refine ⟨by simp, .inl ⟨_, _, rfl, run_takeDeferred HN3.out, ?_⟩⟩
      have d0 := HD0.out
      exact ⟨.bool true, by simp [results, Tryd.results22, go_sem, d0]; try rfl, rfl, HXF.out⟩
end Go.Proofs.YthpfomjibfbiiaaDoor
namespace Go.Proofs.YthpfomjibfbiiaaDoor
open Go Go.RowKit
set_option linter.unusedVariables false

theorem dcs_set0 (vs : List (Int × Value)) : ∀ (i : Nat) (h : i < vs.length) (y : Int), (dcs vs).set (i * 2) (.int .i64 y) = dcs (vs.set i (y, vs[i].2)) := by
  induction vs with
  | nil => intro i h; simp at h
  | cons x t ih =>
    intro i h y
    cases i with
    | zero => simp [dcs]
    | succ j =>
      have h' : j < t.length := by simpa using h
      have := ih j h' y
      rw [show (j + 1) * 2 = j * 2 + 2 by omega]
      simp only [dcs, List.flatMap_cons, List.cons_append, List.nil_append, List.set_cons_succ, List.getElem_cons_succ] at this ⊢
      rw [this]
/-- A byte is written somewhere: a row of bytes stays one. -/
theorem OB.poke {e : TypeId} {w : World} {B : Nat} {v : Value} {L : List UInt8} (h : OB e w B v L) (gb k : Nat) (y : UInt8) : ∃ L' : List UInt8, L'.length = L.length ∧ OB e (w.setCell ⟨gb, k, none⟩ (.int .u8 (y.toNat : Int))) B v L' := by
  rcases h.2 with ⟨hv, hn⟩ | ⟨g, cap, cur, hv, hb, hh, r⟩
  · exact ⟨L, rfl, h.1, .inl ⟨hv, hn⟩⟩
  · by_cases hg : g = gb
    · subst hg
      rw [hv] at h ⊢
      have := (h.set k y _ rfl).1
      rw [List.length_set] at this
      exact ⟨L.set k y, by simp, this⟩
    · refine ⟨L, rfl, h.keep fun j cs hB hc hj => ?_⟩
      rw [hv] at hj
      injection hj with hj
      subst hj
      exact heap_far (grown_set (grown_refl w _) k _) hc hg
/-- A list of the law's own: its blocks lie from B on and below C. -/
def OwnX (w : World) (B C : Nat) (v : Value) (n : Nat) : Prop :=
  (∀ k, v.ownBlock = some k → k < C) ∧ ∃ vs : List (Int × Value), vs.length = n ∧ w.ownsRow B 25 2 v vs.length (dcs vs) ∧
    ∀ i (h : i < vs.length), (∀ k, vs[i].2.ownBlock = some k → k < C) ∧ ∃ L : List UInt8, L.length ≤ 40 ∧ OB 5 w B vs[i].2 L
theorem OwnX.of_aov {w : World} {B C : Nat} {v : Value} {ls : List (Int × List UInt8)} (h : AOV w B v ls) (hC : w.heap.size ≤ C) (hl : ∀ x ∈ ls, x.2.length ≤ 40) : OwnX w B C v ls.length := by
  obtain ⟨vs, h1, h2, h3⟩ := h
  refine ⟨fun k hk => by have := (World.ownsRow.lt h2 k hk).2; omega, vs, h1, h2, fun i hi => ⟨fun k hk => ?_, _, hl _ (List.getElem_mem (by omega)), (h3 i hi (by omega)).2⟩⟩
  obtain ⟨_, cs, hc⟩ := (h3 i hi (by omega)).2.blk hk
  have := (Array.getElem?_eq_some_iff.1 hc).1
  omega
theorem OwnX.ext {w w' : World} {B C : Nat} {v : Value} {n : Nat} (h : OwnX w B C v n) (hx : Ext w w') : OwnX w' B C v n := by
  obtain ⟨h0, vs, h1, h2, h3⟩ := h
  refine ⟨h0, vs, h1, ⟨h2.1, ?_⟩, fun i hi => ⟨(h3 i hi).1, ?_⟩⟩
  · rcases h2.2 with hh | ⟨g, cap, cur, hv, hb, hh, r⟩
    · exact .inl hh
    · exact .inr ⟨g, cap, cur, hv, hb, hx.heap hh, r⟩
  · obtain ⟨L, hL, ho⟩ := (h3 i hi).2
    exact ⟨L, hL, ho.ext hx⟩
theorem OwnX.shape {w : World} {B C n : Nat} {A : Option Addr} {m c : Nat} (h : OwnX w B C (.slice A m c) n) (hn : 0 < n) : ∃ g, A = some ⟨g, 0, none⟩ ∧ B ≤ g ∧ g < C := by
  obtain ⟨h0, vs, h1, h2, h3⟩ := h
  rcases h2.2 with ⟨hv, hz⟩ | ⟨g, cap, cur, hv, hb, hh, r⟩
  · omega
  · injection hv with e1 e2 e3
    subst e1
    exact ⟨g, rfl, hb, h0 g rfl⟩
/-- An address of such a list. -/
theorem OwnX.at_ {w : World} {B C n g c : Nat} (h : OwnX w B C (.slice (some ⟨g, 0, none⟩) n c) n) (i : Nat) (hi : i < n) :
    ∃ (x : Int) (v : Value) (m cb : Nat) (A : Option Addr), w.cell? ⟨g, i * 2, none⟩ = some (.int .i64 x) ∧ w.frozen? ⟨g, i * 2, none⟩ = false ∧ w.cell? ⟨g, i * 2 + 1, none⟩ = some (.slice A m cb) ∧ m ≤ 40 ∧ w.grownBy (w.setCell ⟨g, i * 2, none⟩ v) (some g) ∧
      (∀ y : Int, OwnX (w.setCell ⟨g, i * 2, none⟩ (.int .i64 y)) B C (.slice (some ⟨g, 0, none⟩) n c) n ∧ (w.setCell ⟨g, i * 2, none⟩ (.int .i64 y)).cell? ⟨g, i * 2 + 1, none⟩ = some (.slice A m cb)) := by
  obtain ⟨h0, vs, h1, h2, h3⟩ := h
  subst h1
  obtain ⟨k1, k2⟩ := dcs_get vs i hi
  obtain ⟨L, hL, ho⟩ := (h3 i hi).2
  obtain ⟨A, cb, hv⟩ := ho.shape
  refine ⟨vs[i].1, .int .i64 0, L.length, cb, A, (h2.cellAt (i * 2) (by omega)).trans k1, h2.frozenAt _, ?_, hL, (h2.stored (i * 2) _).2, fun y => ?_⟩
  · rw [← hv]; exact (h2.cellAt (i * 2 + 1) (by omega)).trans k2
  · have hs := h2.stored (i * 2) (.int .i64 y)
    rw [dcs_set0 vs i hi] at hs
    have hk2 := (dcs_get (vs.set i (y, vs[i].2)) i (by simpa using hi)).2
    rw [List.getElem_set_self] at hk2
    refine ⟨⟨h0, vs.set i (y, vs[i].2), by simp, by rw [List.length_set]; exact hs.1, fun j hj => ?_⟩, by rw [← hv]; exact (hs.1.cellAt (i * 2 + 1) (by omega)).trans hk2⟩
    have hj' : j < vs.length := by simpa using hj
    have he : (vs.set i (y, vs[i].2))[j].2 = vs[j].2 := by
      by_cases hij : i = j
      · subst hij; simp
      · rw [List.getElem_set_ne hij]
    rw [he]
    obtain ⟨L', hL', ho'⟩ := (h3 j hj').2
    refine ⟨(h3 j hj').1, L', hL', ho'.keep fun k cs hB hc hk => heap_far hs.2 hc ?_⟩
    rintro rfl
    rcases h2.2 with ⟨hv2, _⟩ | ⟨g', cap, cur, hv2, _, hh, _⟩
    · cases hv2
    · injection hv2 with e1 _ _
      injection e1 with e1
      injection e1 with e1
      subst e1
      rw [hh] at hc
      cases hc
/-- A byte of an address of such a list. -/
theorem OwnX.byte {w : World} {B C n g c : Nat} (h : OwnX w B C (.slice (some ⟨g, 0, none⟩) n c) n) (i : Nat) (hi : i < n) {A : Option Addr} {m cb : Nat} (hc : w.cell? ⟨g, i * 2 + 1, none⟩ = some (.slice A m cb)) (j : Nat) (hj : j < m) :
    ∃ (gb : Nat) (x : UInt8), A = some ⟨gb, 0, none⟩ ∧ B ≤ gb ∧ gb < C ∧ w.cell? ⟨gb, j, none⟩ = some (.int .u8 (x.toNat : Int)) ∧ w.frozen? ⟨gb, j, none⟩ = false ∧
      w.grownBy (w.setCell ⟨gb, j, none⟩ (.int .u8 ((x + 1).toNat : Int))) (some gb) ∧ OwnX (w.setCell ⟨gb, j, none⟩ (.int .u8 ((x + 1).toNat : Int))) B C (.slice (some ⟨g, 0, none⟩) n c) n ∧ (w.setCell ⟨gb, j, none⟩ (.int .u8 ((x + 1).toNat : Int))).cell? ⟨g, i * 2 + 1, none⟩ = some (.slice A m cb) := by
  obtain ⟨h0, vs, h1, h2, h3⟩ := h
  subst h1
  obtain ⟨k1, k2⟩ := dcs_get vs i hi
  obtain ⟨L, hL, ho⟩ := (h3 i hi).2
  have hce := (h2.cellAt (i * 2 + 1) (by omega)).trans k2
  rw [hc] at hce
  injection hce with hce
  rw [← hce] at ho
  obtain ⟨A', cb', hv⟩ := ho.shape
  injection hv with e1 e2 e3
  subst e2
  rcases ho.2 with ⟨hv2, hn⟩ | ⟨gb, cap, cur, hv2, hb, hh, r⟩
  · omega
  · injection hv2 with z1 z2 z3
    subst z1
    obtain ⟨p1, p2⟩ := ho.at_ j hj
    have hg : w.grownBy (w.setCell ⟨gb, j, none⟩ (.int .u8 ((L[j] + 1).toNat : Int))) (some gb) := grown_set (grown_refl w _) j _
    have hne : g ≠ gb := by
      rintro rfl
      rcases h2.2 with ⟨hv2, _⟩ | ⟨g', cap', cur', hv2, _, hh', _⟩
      · cases hv2
      · injection hv2 with e1 _ _
        injection e1 with e1
        injection e1 with e1
        subst e1
        rw [hh] at hh'
        cases hh'
    have hrow : (w.setCell ⟨gb, j, none⟩ (.int .u8 ((L[j] + 1).toNat : Int))).ownsRow B 25 2 (.slice (some ⟨g, 0, none⟩) vs.length c) vs.length (dcs vs) := h2.kept hg (.inr (by intro e; injection e with e; exact hne e))
    refine ⟨gb, L[j], rfl, hb, (h3 i hi).1 gb (by rw [← hce]; rfl), p1, p2, hg, ⟨h0, vs, rfl, hrow, fun q hq => ⟨(h3 q hq).1, ?_⟩⟩, ?_⟩
    · obtain ⟨L', hL', ho'⟩ := (h3 q hq).2
      obtain ⟨L2, hL2, ho2⟩ := ho'.poke gb j (L[j] + 1)
      exact ⟨L2, by omega, ho2⟩
    · rw [hce]; exact (hrow.cellAt (i * 2 + 1) (by omega)).trans k2
theorem OwnX.byte2 {w : World} {B C n g c : Nat} (h : OwnX w B C (.slice (some ⟨g, 0, none⟩) n c) n) (i : Nat) (hi : i < n) {A : Option Addr} {m cb : Nat} (hc : w.cell? ⟨g, i * 2 + 1, none⟩ = some (.slice A m cb)) (j : Nat) (hj : j < m) :
    ∃ (gb : Nat) (x : UInt8), A = some ⟨gb, 0, none⟩ ∧ B ≤ gb ∧ gb < C ∧ w.cell? ⟨gb, j, none⟩ = some (.int .u8 (x.toNat : Int)) ∧ w.frozen? ⟨gb, j, none⟩ = false ∧
      w.grownBy (w.setCell ⟨gb, j, none⟩ (.int .u8 (((x.toNat : Int) + 1) % 256))) (some gb) ∧ OwnX (w.setCell ⟨gb, j, none⟩ (.int .u8 (((x.toNat : Int) + 1) % 256))) B C (.slice (some ⟨g, 0, none⟩) n c) n ∧ (w.setCell ⟨gb, j, none⟩ (.int .u8 (((x.toNat : Int) + 1) % 256))).cell? ⟨g, i * 2 + 1, none⟩ = some (.slice A m cb) := by
  obtain ⟨gb, x, h1, h2, h3, h4, h5, h6, h7, h8⟩ := h.byte i hi hc j hj
  rw [← u8_inc] at h6 h7 h8
  exact ⟨gb, x, h1, h2, h3, h4, h5, h6, h7, h8⟩
section
variable {P : Program}
/-- append of one address that is the call's own, in a drawn region. -/
theorem step_append_aov (w : World) {ops : Array Oper} {o : Oper} {a : Act} {K : Act → World → Prop} {Q : Exit → Act → World → Prop} {E : Prop} (hgd : o.guard = none) (s x : Operand) (t : TypeId)
    (ho : o.op = .call { callee := .builtin .append, args := #[s, x], argTypes := #[t, t] })
    (base : Nat) (i : TypeInfo) (z : Value) (ht : P.underlying t = some (.slice 25)) (hi : P.info? 25 = some i) (hz : i.zero = some z)
    (hsize : i.size = 2) (hby : i.bytes = 32) (hzs : z.cells.size = 2)
    (v : Value) (ls : List (Int × List UInt8)) (hs : a.eval s = v) (hown : AOV w base v ls)
    (ad : Addr) (c : Nat) (k : Int) (A : Option Addr) (n d : Nat) (l : List UInt8) (hx : a.eval x = .slice (some ad) 1 c) (hc0 : w.cell? (ad.add 0) = some (.int .i64 k)) (hc1 : w.cell? (ad.add 1) = some (.slice A n d)) (hu : OB 5 w base (.slice A n d) l)
    (hbytes : ls.length ≤ 100000) (hbase : base ≤ w.heap.size)
    (h : ∀ v' w', AOV w' base v' (ls ++ [(k, l)]) → w.grownBy w' v.ownBlock → K (a.put o.dst v') w') : if Region.wanted o (yielded ops a.tmps) = true then Oper.wp P o a w K Q else E := by
  have hw : Region.wanted o (yielded ops a.tmps) = true := by simp [Region.wanted, hgd]
  rw [if_pos hw]
  obtain ⟨vs, h1, h2, h3⟩ := hown
  have h63 : vs.length + 1 ≤ maxLen := by unfold maxLen; omega
  have hnews : ∀ j u, ([.int .i64 k, .slice A n d] : List Value)[j]? = some u → w.cell? (ad.add j) = some u := by
    intro j u hju
    rcases j with _ | _ | j
    · simp at hju; subst hju; exact hc0
    · simp at hju; subst hju; exact hc1
    · simp at hju
  have hone : ∀ u ∈ ([.int .i64 k, .slice A n d] : List Value), u.oneCell' = true := by intro u hm; simp at hm; rcases hm with rfl | rfl <;> rfl
  obtain ⟨v', w', hrun, g1, g2, _, g3⟩ := run_append_own_at (P := P) w base t o.type 25 i z 2 32 ht hi hz hsize hby hzs (by omega) v vs.length (dcs vs) h2 ad 1 c [.int .i64 k, .slice A n d] rfl
    hnews hone h63 (by omega) hbase
  unfold Oper.wp execOp
  simp only [ho, resolve, invoke, builtin, Sem.run_bind, Sem.run_pure, Result.andThen_ok, List.map_toArray, List.map_cons, List.map_nil, hs, hx, hrun]
  refine h v' w' ⟨vs ++ [(k, .slice A n d)], by simp [h1], ?_, fun i hi hi' => ?_⟩ g2
  · rw [dcs_snoc]
    simpa using g1
  · have key : ∀ (y : Value) (m : List UInt8), OB 5 w base y m → OB 5 w' base y m := by
      intro y m hy
      refine hy.keep fun j cs hB hh _ => (g2.block j (Array.getElem?_eq_some_iff.1 hh).1 (fun e => ?_)).trans hh
      rcases h2.2 with ⟨rfl, _⟩ | ⟨g, cap, cur, rfl, _, hg, _⟩
      · cases e
      · injection e with e
        subst e
        rw [hg] at hh
        cases hh
    by_cases hlt : i < vs.length
    · have e1 : (vs ++ [(k, Value.slice A n d)])[i] = vs[i] := List.getElem_append_left hlt
      have e2 : (ls ++ [(k, l)])[i] = ls[i]'(by omega) := List.getElem_append_left (by omega)
      rw [e1, e2]
      exact ⟨(h3 i hlt (by omega)).1, key _ _ (h3 i hlt (by omega)).2⟩
    · have hi2 : i = vs.length := by simp at hi; omega
      subst hi2
      have e1 : (vs ++ [(k, Value.slice A n d)])[vs.length] = (k, .slice A n d) := by simp
      have e2 : (ls ++ [(k, l)])[vs.length]'hi' = (k, l) := by simp [h1]
      rw [e1, e2]
      exact ⟨rfl, key _ _ hu⟩
end
end Go.Proofs.YthpfomjibfbiiaaDoor
namespace Go.Proofs.YthpfomjibfbiiaaDoor
open Go Go.RowKit
set_option linter.unusedVariables false

theorem dat_zero' : ∀ x ∈ (Value.agg #[.int .i64 0, .slice none 0 0]).cells.toList, ∀ n, x ≠ .int .u8 n := by
  intro x hx n
  have : x = .int .i64 0 ∨ x = .slice none 0 0 := by simpa [Value.cells] using hx
  rcases this with rfl | rfl <;> simp
set_option maxRecDepth 100000 in
set_option maxHeartbeats 1000000 in
theorem RAContains_at (A : Option Addr) (c : Nat) (xs : List (Int × List UInt8)) (k0 : Int) (b0 : List UInt8) (B0 : Option Addr) (d0 : Nat) (w : World) (hD : DS w (.slice A xs.length c) xs) (hb : BS w (.slice B0 b0.length d0) b0) (hn : xs.length ≤ 1000) :
    Calls Tryd.prog 41 #[.slice A xs.length c, adv k0 B0 b0.length d0] w fun e w' => e = .returned (.bool (hasA xs k0 b0)) ∧ Ext w w' := by
  have h0 := AB.new w k0 B0 b0.length d0
  have x0 := (Ext.refl w).alloc (.cells #[.int .i64 k0, .slice B0 b0.length d0] 25)
  obtain ⟨W1, e1⟩ : ∃ W, w.alloc (.cells #[.int .i64 k0, .slice B0 b0.length d0] 25) = W := ⟨_, rfl⟩
  rw [e1] at h0 x0
  obtain ⟨A', c', he, hc1, hc2, hcell⟩ := hD
  injection he with e1' e2 e3
  subst e1'; subst e3
  unfold maxLen at hc2
  have HC := Lib.hid hcell; have H0 := Lib.hid h0; have HX := Lib.hid x0; have HBB := Lib.hid hb
  clear hcell e2 h0 x0 hb
  obtain ⟨n, hn'⟩ : ∃ n, xs.length = n := ⟨_, rfl⟩
  rw [hn'] at hc1 hn ⊢
  have HN := Lib.hid hn'
  clear hn'
  unfold adv
  go_enter Tryd.func41, Tryd.ntmps41
  go_wp2_with fail
  go_loopw [5] (fun i wr => ∃ k : Nat, i = .int .i64 (k : Int) ∧ k ≤ n ∧ Hid (hasA (xs.take k) k0 b0 = false) ∧ Hid (Ext W1 wr)) (fun i _ => n - (intOf i).toNat)
  case atStart => exact ⟨0, rfl, by omega, Lib.hid rfl, Lib.hid (Ext.refl _)⟩
  case round =>
    obtain ⟨k, rfl, hk, HF, HW⟩ := hrel
    by_cases hlt : k < n
    · have hlx : k < xs.length := by rw [HN.out]; exact hlt
      obtain ⟨ad, B, d, rfl, hc0, hc3, hbk⟩ := HC.out k hlx
      have hc3' : w.cell? ⟨(ad.add (k * 2)).block, (ad.add (k * 2)).off + 1, none⟩ = some (.slice B xs[k].2.length d) := by rw [cell_add1, add_of_add]; exact hc3
      have hwr := HX.out.trans HW.out
      have HC0 := Lib.hid (hwr.cell hc0); have HC3 := Lib.hid (hwr.cell hc3')
      have HB := Lib.hid (H0.out.ext HW.out)
      have HEQ := Lib.hid (fun W (hx : Ext wr W) => RAEqual_at xs[k].1 k0 xs[k].2 b0 B B0 d d0 W (hbk.ext (hwr.trans hx)) (HBB.out.ext (hwr.trans hx)))
      have HTK := Lib.hid (show hasA (xs.take (k + 1)) k0 b0 = (xs[k].1 == k0 && xs[k].2 == b0) by rw [List.take_succ_eq_append_getElem hlx, hasA_snoc, HF.out, Bool.false_or])
      have HYS := Lib.hid (show (xs[k].1 == k0 && xs[k].2 == b0) = true → hasA xs k0 b0 = true from fun h => List.any_eq_true.2 ⟨xs[k], List.getElem_mem hlx, h⟩)
      unfold adv at HEQ
      generalize xs[k].1 = kk at *
      generalize xs[k].2 = bb at *
      obtain ⟨q1, hq1⟩ : ∃ q, (kk == k0) = q := ⟨_, rfl⟩
      obtain ⟨q2, hq2⟩ : ∃ q, (bb == b0) = q := ⟨_, rfl⟩
      rw [hq1, hq2] at HEQ HTK HYS
      clear hc0 hc3 hc3' hbk hwr hlx hq1 hq2
      go_upto_region 4 with fail
      refine wp_region_ext (fun i v' w' => match i with | 5 => v' = .bool (q1 && q2) | _ => False) (by kernel_rfl) (by kernel_rfl) ?_
      refine wpE_op rfl rfl (fun w' hw' K' hK' => ?_)
      have hE := hw'.1
      go_step
      refine hK' _ ⟨_, rfl⟩ ?_
      clear hK' K' hE hw' w'
      refine wpE_op rfl rfl (fun w' hw' K' hK' => ?_)
      have hE := hw'.1
      go_step
      refine hK' _ ⟨_, rfl⟩ ?_
      clear hK' K' hE hw' w'
      refine wpE_op rfl rfl (fun w' hw' K' hK' => ?_)
      have hE := hw'.1
      go_step
      refine hK' _ ⟨_, rfl⟩ ?_
      clear hK' K' hE hw' w'
      refine wpE_op rfl rfl (fun w' hw' K' hK' => ?_)
      have hE := hw'.1
      have u0 := ((Ext.drew _).trans hE).cell HC0.out
      have u1 := ((Ext.drew _).trans hE).cell HC3.out
      go_step
      refine hK' _ ⟨_, rfl⟩ ?_
      clear hK' K' u0 u1 hE hw' w'
      refine wpE_op rfl rfl (fun w' hw' K' hK' => ?_)
      have hE := hw'.1
      obtain ⟨u0, u1⟩ := (HB.out.ext ((Ext.drew wr).trans hE)).cells
      go_step
      refine hK' _ ⟨_, rfl⟩ ?_
      clear hK' K' u0 u1 hE hw' w'
      refine wpE_call 17 rfl (by simp) rfl (fun w' hw' K' hK' => ?_) ?_
      · have hE := hw'.1
        go_step
        refine (HEQ.out _ ((Ext.drew _).trans hE)).mono ?_
        rintro _ w2 ⟨rfl, hx⟩
        exact hK' _ _ ⟨_, rfl, rfl⟩ hx
      rintro _ w17x _ rfl
      simp only [Act.put, List.setIfInBounds_toArray, List.set_cons_succ, List.set_cons_zero]
      refine wpE_nil (fun W hW => ?_)
      have HXW := Lib.hid ((HW.out.trans (Ext.drew _)).trans hW.1)
      clear hW
      obtain ⟨q, hq⟩ : ∃ q, (q1 && q2) = q := ⟨_, rfl⟩
      rw [hq] at HTK HYS
      simp only [hq]
      clear hq
      cases q with
      | true =>
        go_wp2_with fail
        go_ret
        rw [HYS.out (by first | exact rfl | trivial)]
        exact ⟨rfl, HX.out.trans HXW.out⟩
      | false =>
        go_wp2_with fail
        go_roundw
        case rel => exact ⟨k + 1, by go_num, by omega, HTK, HXW⟩
        case measure => simp [intOf]; omega
    · obtain rfl : k = n := by omega
      have HF2 := Lib.hid (show hasA xs k0 b0 = false by have h := HF.out; rwa [List.take_of_length_le (by rw [HN.out]; exact Nat.le_refl _)] at h)
      clear hlt
      go_wp2_with fail
      go_ret
      rw [HF2.out]
      exact ⟨rfl, HX.out.trans HW.out⟩
set_option maxRecDepth 100000 in
set_option maxHeartbeats 2000000 in
theorem RAUnique_at (A : Option Addr) (c : Nat) (xs : List (Int × List UInt8)) (w : World) (hD : DS w (.slice A xs.length c) xs) (hn : xs.length ≤ 100) :
    Calls Tryd.prog 21 #[.slice A xs.length c] w fun e w' => ∃ V, e = .returned V ∧ DOV 25 w' w.heap.size V (uqA [] xs) ∧ Ext w w' := by
  obtain ⟨i0, hi, hz0, hz1, hz2⟩ := info_parts adrinfo
  obtain ⟨A', c', he, hc1, hc2, hcell⟩ := hD
  injection he with e1' e2 e3
  subst e1'; subst e3
  unfold maxLen at hc2
  have HC := Lib.hid hcell
  clear hcell e2
  obtain ⟨n, hn'⟩ : ∃ n, xs.length = n := ⟨_, rfl⟩
  rw [hn'] at hc1 hn ⊢
  have HN := Lib.hid hn'
  clear hn'
  go_enter Tryd.func21, Tryd.ntmps21
  go_wp2_with fail
  go_loopw [3, 4] (fun v i wr => ∃ k : Nat, i = .int .i64 (k : Int) ∧ k ≤ n ∧ Hid (DOV 25 wr w.heap.size v (uqA [] (xs.take k))) ∧ Hid (Ext w wr)) (fun _ i _ => n - (intOf i).toNat)
  case atStart => exact ⟨0, rfl, by omega, Lib.hid (DOV.nil _ _ _), Lib.hid (Ext.refl _)⟩
  case round =>
    obtain ⟨k, rfl, hk, HV, HX⟩ := hrel
    have hul := uqA_len (xs.take k) []
    obtain ⟨VA, vc, rfl⟩ := HV.out.shape
    by_cases hlt : k < n
    · have hlx : k < xs.length := by rw [HN.out]; exact hlt
      obtain ⟨ad, B, d, rfl, hc0, hc3, hbk⟩ := HC.out k hlx
      have hc3' : w.cell? ⟨(ad.add (k * 2)).block, (ad.add (k * 2)).off + 1, none⟩ = some (.slice B xs[k].2.length d) := by rw [cell_add1, add_of_add]; exact hc3
      have HUS := Lib.hid (show uqA [] (xs.take (k + 1)) = if hasA (uqA [] (xs.take k)) xs[k].1 xs[k].2 then uqA [] (xs.take k) else uqA [] (xs.take k) ++ [(xs[k].1, xs[k].2)] by rw [List.take_succ_eq_append_getElem hlx, uqA_snoc])
      have HUL := Lib.hid (show (uqA [] (xs.take k)).length ≤ 100 by rw [List.length_take] at hul; simp at hul; omega)
      have HBK := Lib.hid hbk
      generalize xs[k].1 = kk at *
      generalize xs[k].2 = bb at *
      have g0 := HX.out.cell hc0; have g1 := HX.out.cell hc3'
      have HCT := Lib.hid (RAContains_at VA vc (uqA [] (xs.take k)) kk bb B d wr HV.out.ds (HBK.out.ext HX.out) (by have := HUL.out; omega))
      unfold adv at HCT
      clear hul
      generalize uqA [] (xs.take k) = U at *
      cases hh : hasA U kk bb with
      | true =>
        rw [hh] at HCT
        have HU := Lib.hid (show uqA [] (xs.take (k + 1)) = U by rw [HUS.out, if_pos hh])
        clear hh hc0 hc3 hc3' hbk hlx
        go_wp2_with fail
        refine HCT.out.mono ?_
        rintro _ w2 ⟨rfl, hx2⟩
        have HX2 := Lib.hid (HX.out.trans hx2); have HV2 := Lib.hid (HV.out.ext hx2)
        clear hx2 g0 g1
        go_wp2_with fail
        go_roundw
        case rel => exact ⟨k + 1, by go_num, by omega, by rw [HU.out]; exact HV2, HX2⟩
        case measure => simp [intOf]; omega
      | false =>
        rw [hh] at HCT
        have HU := Lib.hid (show uqA [] (xs.take (k + 1)) = U ++ [(kk, bb)] by rw [HUS.out, if_neg (by simp [hh])])
        have HC0 := Lib.hid hc0; have HC3 := Lib.hid hc3'
        clear hh hc0 hc3 hc3' hbk hlx
        go_wp2_with fail
        refine HCT.out.mono ?_
        rintro _ w2 ⟨rfl, hx2⟩
        have hxa := HX.out.trans hx2
        have g0 := hxa.cell HC0.out; have g1 := hxa.cell HC3.out
        obtain ⟨W7, hW7⟩ : ∃ W7, w2.alloc (.cells #[.int .i64 kk, .slice B bb.length d] 25) = W7 := ⟨_, rfl⟩
        have hx7 : Ext w2 W7 := by rw [← hW7]; exact (Ext.refl _).alloc _
        have hcells := heap_alloc_new w2 (.cells #[.int .i64 kk, .slice B bb.length d] 25)
        rw [hW7] at hcells
        have hd0 : W7.cell? ((⟨w2.heap.size, 0, none⟩ : Addr).add 0) = some (.int .i64 kk) := by
          rw [show ((⟨w2.heap.size, 0, none⟩ : Addr).add 0) = ⟨w2.heap.size, 0, none⟩ from rfl, cell_of_row _ _ 0 _ _ (0, 0) hcells]; rfl
        have hd1 : W7.cell? ((⟨w2.heap.size, 0, none⟩ : Addr).add 1) = some (.slice B bb.length d) := by
          rw [show ((⟨w2.heap.size, 0, none⟩ : Addr).add 1) = ⟨w2.heap.size, 1, none⟩ from rfl, cell_of_row _ _ 1 _ _ (0, 0) hcells]; rfl
        have hap : bb ≠ [] → ∀ b', (Value.slice B bb.length d).ownBlock = some b' → (Value.slice VA U.length vc).ownBlock ≠ some b' := by
          intro hne b' hb' e
          have h1 := HBK.out.blockLt hne b' hb'
          have h2 := (HV.out.lt b' e).1
          omega
        have HV7 := Lib.hid ((HV.out.ext hx2).ext hx7); have HD0 := Lib.hid hd0; have HD1 := Lib.hid hd1; have HAP := Lib.hid hap; have HB7 := Lib.hid (HBK.out.ext (hxa.trans hx7))
        have HX7 := Lib.hid (hxa.trans hx7)
        clear hx2 hxa hx7 hcells hd0 hd1 hap
        go_wp2_with (at_builtin; refine wpList_append_dov _ rfl (.tmp 18) (.tmp 23) 35 rfl w.heap.size 25 i0 (.agg #[.int .i64 0, .slice none 0 0]) 32 Tryd.underlying35 hi hz0 hz1 hz2 rfl dat_zero' _ U rfl HV7.out ⟨w2.heap.size, 0, none⟩ 1 kk B bb.length d bb rfl HD0.out HD1.out HB7.out HAP.out (by have := HUL.out; omega) (by decide) (by exact HX7.out.size) ?_; intro v7 w7 hd7 hg7 ho7)
        have HD7 := Lib.hid (show DOV 25 w7 w.heap.size v7 (uqA [] (xs.take (k + 1))) by rw [HU.out]; exact hd7)
        have HX8 := Lib.hid (show Ext w w7 from HX7.out.grown hg7 (fun j hj => (HV.out.lt j hj).1))
        clear hd7 hg7 ho7
        go_wp2_with fail
        go_roundw
        case rel => exact ⟨k + 1, by go_num, by omega, HD7, HX8⟩
        case measure => simp [intOf]; omega
    · obtain rfl : k = n := by omega
      have HF := Lib.hid (show DOV 25 wr w.heap.size (.slice VA (uqA [] (xs.take k)).length vc) (uqA [] xs) by
        have h := HV.out
        rw [List.take_of_length_le (by rw [HN.out]; exact Nat.le_refl _)] at h ⊢
        exact h)
      clear hlt
      go_wp2_with fail
      go_ret
      exact ⟨_, rfl, HF.out, HX.out⟩
end Go.Proofs.YthpfomjibfbiiaaDoor
namespace Go.Proofs.YthpfomjibfbiiaaDoor
open Go Go.RowKit
set_option linter.unusedVariables false

/-- What lies there while the law's own list is written. -/
def K2 (w w2 w3 : World) (own : Value) (n : Nat) (W : World) : Prop := (∀ k o, w2.heap.size ≤ k → w3.heap[k]? = some o → W.heap[k]? = some o) ∧ Ext w W ∧ OwnX W w.heap.size w2.heap.size own n
theorem K2.set {w w2 w3 : World} {own : Value} {n : Nat} {W W' : World} {g : Nat} (h : K2 w w2 w3 own n W) (hg : W.grownBy W' (some g)) (h1 : w.heap.size ≤ g) (h2 : g < w2.heap.size) (ho : OwnX W' w.heap.size w2.heap.size own n) : K2 w w2 w3 own n W' :=
  ⟨fun k o hk hi => heap_far hg (h.1 k o hk hi) (by omega), h.2.1.grown hg (fun j hj => by injection hj with hj; omega), ho⟩
set_option maxRecDepth 100000 in
set_option maxHeartbeats 4000000 in
theorem lawUn (A : Option Addr) (c : Nat) (xs : List (Int × List UInt8)) (many : Int) (w : World) (hD : DS w (.slice A xs.length c) xs) (hE : EnvA w) :
    Calls Tryd.prog 6 #[.slice A xs.length c, .int .i64 many] w fun e w' => e = .returned (.bool true) ∧ Ext w w' := by
  obtain ⟨i0, hi, hz0, hz1, hz2⟩ := info_parts adrinfo
  obtain ⟨i1, hj, hy0, hy1, hy2⟩ := info_parts u8inf
  have HS := Lib.hid (small_at A c xs w hD)
  cases hs : smA xs with
  | false =>
    rw [hs] at HS
    have HE := Lib.hid hE
    clear hs hE hD
    go_enter Tryd.func6, Tryd.ntmps6
    go_wp2_with fail
    refine HS.out.mono ?_
    rintro _ w1 ⟨rfl, hx1⟩
    have HX1 := Lib.hid hx1
    clear hx1
    go_wp2_with fail
    refine (AKnown_at _ (HE.out.ext HX1.out)).mono ?_
    rintro _ w5 ⟨rfl, hx5⟩
    have HX5 := Lib.hid (HX1.out.trans hx5)
    clear hx5
    go_wp2_with fail
    go_ret
    exact ⟨rfl, HX5.out⟩
  | true =>
    rw [hs] at HS
    unfold smA at hs
    rw [Bool.and_eq_true, List.all_eq_true, decide_eq_true_eq] at hs
    obtain ⟨hs1, hs2⟩ := hs
    have HE := Lib.hid hE; have HDD := Lib.hid hD; have HL40 := Lib.hid (show ∀ x ∈ xs, x.2.length ≤ 40 from fun x hx => by simpa using hs1 x hx)
    obtain ⟨A', c', he, hc1, hc2, hcell⟩ := hD
    injection he with e1 e2 e3
    subst e1; subst e3
    unfold maxLen at hc2
    have HC := Lib.hid hcell
    clear hcell e2 hE hs1
    obtain ⟨n, hn'⟩ : ∃ n, xs.length = n := ⟨_, rfl⟩
    rw [hn'] at hc1 hs2 HS ⊢
    have HN := Lib.hid hn'
    clear hn'
    go_enter Tryd.func6, Tryd.ntmps6
    go_wp2_with fail
    refine HS.out.mono ?_
    rintro _ w1 ⟨rfl, hx1⟩
    have HX1 := Lib.hid hx1
    clear hx1 HS
    go_wp2_with fail
    go_loopw [5, 6] (fun v i wr => ∃ k : Nat, i = .int .i64 (k : Int) ∧ k ≤ n ∧ Hid (AOV wr w.heap.size v (xs.take k)) ∧ Hid (Ext w wr)) (fun _ i _ => n - (intOf i).toNat)
    case atStart => exact ⟨0, rfl, by omega, Lib.hid (AOV.nil _ _), HX1⟩
    case round =>
      obtain ⟨k, rfl, hk, HV, HX⟩ := hrel
      by_cases hlt : k < n
      · have hlx : k < xs.length := by rw [HN.out]; exact hlt
        obtain ⟨ad, B, d, rfl, hc0, hc3, hbk⟩ := HC.out k hlx
        have hb40 := HL40.out xs[k] (List.getElem_mem hlx)
        have HTK := Lib.hid (AOV.snoc_len xs k hlx)
        obtain ⟨kd, hkd⟩ : ∃ kd, xs[k].1 = kd := ⟨_, rfl⟩
        obtain ⟨b, hbb⟩ : ∃ b, xs[k].2 = b := ⟨_, rfl⟩
        rw [hkd, hbb] at HTK
        rw [hkd] at hc0
        rw [hbb] at hc3 hbk hb40
        have hc3' : w.cell? ⟨(ad.add (k * 2)).block, (ad.add (k * 2)).off + 1, none⟩ = some (.slice B b.length d) := by rw [cell_add1, add_of_add]; exact hc3
        have hxd := Ext.drew wr
        have hxa := ((Ext.refl wr).alloc (.cells #[] 5)).trans (Ext.drew _)
        have g0 := (HX.out.trans hxd).cell hc0; have g1 := (HX.out.trans hxd).cell hc3'
        have g2 := (HX.out.trans hxa).cell hc0; have g3 := (HX.out.trans hxa).cell hc3'
        have HC0 := Lib.hid hc0
        have HOB0 := Lib.hid (show OB 5 (wr.alloc (.cells #[] 5)).drew wr.heap.size (.slice (some ⟨wr.heap.size, 0, none⟩) 0 0) [] from (OB.lit wr 5 wr.heap.size [] [] rfl 0 rfl (by simp [maxLen]) (Nat.le_refl _) (z := wr.heap.size) rfl).ext (Ext.drew _))
        have HBB := Lib.hid (hbk.ext (HX.out.trans hxa))
        have HXA := Lib.hid hxa
        have HB40 := Lib.hid hb40
        have HTL := Lib.hid (show (xs.take k).length ≤ 100000 by rw [List.length_take]; omega)
        clear hkd hbb hc0 hc3 hc3' hbk hb40 hxd hxa hlx
        go_upto_region 7 with fail
        go_region_law (first
          | (refine step_append_bs _ (by rfl) (.tmp 27) (.tmp 32) 23 (by rfl) wr.heap.size 5 i1 (.int .u8 0) Tryd.underlying23 hj hy0 hy1 hy2 (by rfl) _ [] (by rfl) HOB0.out _ b (by rfl) HBB.out (by have := HB40.out; simp; omega) (by have := HXA.out.size; omega) ?_; intro v5 w5 ho5 hg5; rw [List.nil_append] at ho5; obtain ⟨A5, c5, rfl⟩ := OB.shape ho5; obtain ⟨W7, hW7⟩ : ∃ W, w5.alloc (.cells #[.int .i64 kd, .slice A5 b.length c5] 25) = W := ⟨_, rfl⟩; have hcells := heap_alloc_new w5 (.cells #[.int .i64 kd, .slice A5 b.length c5] 25); rw [hW7] at hcells; have hx7 : Ext w5 W7 := (by rw [← hW7]; exact (Ext.refl _).alloc _); have hd0 : W7.cell? ((⟨w5.heap.size, 0, none⟩ : Addr).add 0) = some (.int .i64 kd) := (by rw [show ((⟨w5.heap.size, 0, none⟩ : Addr).add 0) = ⟨w5.heap.size, 0, none⟩ from rfl, cell_of_row _ _ 0 _ _ (0, 0) hcells]; rfl); have hd1 : W7.cell? ((⟨w5.heap.size, 0, none⟩ : Addr).add 1) = some (.slice A5 b.length c5) := (by rw [show ((⟨w5.heap.size, 0, none⟩ : Addr).add 1) = ⟨w5.heap.size, 1, none⟩ from rfl, cell_of_row _ _ 1 _ _ (0, 0) hcells]; rfl); have hx5 := (HXA.out.grown hg5 (fun j hj => by injection hj with hj; exact Nat.le_of_eq hj)); have g5 := (HX.out.trans hx5).cell HC0.out; have HXW := Lib.hid (show Ext wr W7 from hx5.trans hx7); have HO7 := Lib.hid ((ho5.ext hx7).mono HX.out.size); have HV7 := Lib.hid (HV.out.ext HXW.out); have HD0 := Lib.hid hd0; have HD1 := Lib.hid hd1; clear hcells hx5 hx7 hd0 hd1 ho5 hg5)
          | (refine step_append_aov _ (by rfl) (.tmp 21) (.tmp 35) 35 (by rfl) w.heap.size i0 (.agg #[.int .i64 0, .slice none 0 0]) Tryd.underlying35 hi hz0 hz1 hz2 (by rfl) _ (xs.take k) (by rfl) HV7.out ⟨w5.heap.size, 0, none⟩ 1 kd A5 b.length c5 b (by rfl) HD0.out HD1.out HO7.out HTL.out (HX.out.trans HXW.out).size ?_; intro v8 w8 hd8 hg8))
        all_goals
          focus
            have HD8 := Lib.hid (show AOV w8 w.heap.size v8 (xs.take (k + 1)) by rw [HTK.out]; exact hd8)
            have HX8 := Lib.hid (show Ext w w8 from (HX.out.trans HXW.out).grown hg8 (fun j hj => (HV.out.lt j hj).1))
            clear hd8 hg8
            go_wp2_with fail
            go_roundw
            case rel => exact ⟨k + 1, by go_num, by omega, HD8, HX8⟩
            case measure => simp [intOf]; omega
      · obtain rfl : k = n := by omega
        obtain ⟨w2, rfl⟩ : ∃ wo : World, wo = wr := ⟨_, rfl⟩
        have hv : AOV w2 w.heap.size u5 xs := by
          have h := HV.out
          rwa [List.take_of_length_le (by rw [HN.out]; exact Nat.le_refl _)] at h
        obtain ⟨VA, vc, rfl⟩ := hv.shape
        have HUN := Lib.hid (Unique_at VA vc xs w2 hv.ds (by rw [HN.out]; omega) (fun x hx => by have := HL40.out x hx; omega))
        have HOW := Lib.hid (OwnX.of_aov hv (Nat.le_refl w2.heap.size) HL40.out)
        rw [HN.out] at HUN HOW
        try rw [HN.out]
        clear hv hlt HV
        go_wp2_with fail
        refine HUN.out.mono ?_
        rintro _ w3 ⟨SA, sc, rfl, hxa3, hov3, hx3⟩
        have HK3 := Lib.hid (show K2 w w2 w3 (.slice VA k vc) k w3 from ⟨fun _ _ _ h => h, HX.out.trans hx3, HOW.out.ext hx3⟩)
        have HXA3 := Lib.hid hxa3; have HOV3 := Lib.hid hov3; have HX3 := Lib.hid (HX.out.trans hx3)
        clear hxa3 hov3 hx3 HUN HOW
        go_wp2_with fail
        go_loopw [8] (fun i wl => ∃ q : Nat, i = .int .i64 (q : Int) ∧ q ≤ k ∧ Hid (K2 w w2 w3 (.slice VA k vc) k wl)) (fun i _ => k - (intOf i).toNat)
        case atStart => exact ⟨0, rfl, by omega, HK3⟩
        case round =>
          obtain ⟨q, rfl, hq, HK⟩ := hrel
          obtain ⟨wl, rfl⟩ : ∃ wo : World, wo = wr := ⟨_, rfl⟩
          by_cases hqk : q < k
          · obtain ⟨g, rfl, hg1, hg2⟩ := HK.out.2.2.shape (by omega)
            obtain ⟨x, _, m, cb, AB', p0, p1, p2, hm40, hgr, hnew⟩ := HK.out.2.2.at_ q hqk
            obtain ⟨y, hy⟩ : ∃ y, wrap64 (x + 1) = y := ⟨_, rfl⟩
            have HKN := Lib.hid (show K2 w w2 w3 (.slice (some ⟨g, 0, none⟩) k vc) k (wl.setCell ⟨g, q * 2, none⟩ (.int .i64 y)) from HK.out.set (grown_set (grown_refl wl _) (q * 2) _) hg1 hg2 (hnew y).1)
            have hp2 := (hnew y).2
            obtain ⟨wm, hwm⟩ : ∃ W, wl.setCell ⟨g, q * 2, none⟩ (.int .i64 y) = W := ⟨_, rfl⟩
            rw [hwm] at HKN hp2
            have HP2 := Lib.hid hp2
            clear hgr hnew
            go_wp2_with fail
            clear hwm p0 p1 p2 hp2 hy
            go_loopw [9] (fun i wq => ∃ j : Nat, i = .int .i64 (j : Int) ∧ j ≤ m ∧ Hid (K2 w w2 w3 (.slice (some ⟨g, 0, none⟩) k vc) k wq) ∧ Hid (wq.cell? ⟨g, q * 2 + 1, none⟩ = some (.slice AB' m cb))) (fun i _ => m - (intOf i).toNat)
            case atStart => exact ⟨0, rfl, by omega, HKN, HP2⟩
            case round =>
              obtain ⟨j, rfl, hj', HKJ, HPJ⟩ := hrel
              have p2 := HPJ.out
              by_cases hjm : j < m
              · obtain ⟨gb, z, rfl, hb1, hb2, z0, z1, hgz, hoz, hpz⟩ := HKJ.out.2.2.byte2 q hqk HPJ.out j hjm
                have HKZ := Lib.hid (HKJ.out.set hgz hb1 hb2 hoz); have HPZ := Lib.hid hpz
                clear hgz hoz hpz
                go_wp2_with fail
                go_roundw
                case rel => exact ⟨j + 1, by go_num, by omega, HKZ, HPZ⟩
                case measure => simp [intOf]; omega
              · have hjm' : (m : Int) ≤ (j : Int) := by omega
                go_wp2_with fail
                go_roundw
                case rel => exact ⟨q + 1, by go_num, by omega, HKJ⟩
                case measure => simp [intOf]; omega
          · have hqk' : (k : Int) ≤ (q : Int) := by omega
            have HUQ := Lib.hid (RAUnique_at A c xs wl (HDD.out.ext HK.out.2.1) (by rw [HN.out]; omega))
            rw [HN.out] at HUQ
            have HIL := Lib.hid (show ItV w2.heap.size SA sc xs wl from ⟨by rw [HN.out]; exact HK.out.1 _ _ (Nat.le_refl _) HXA3.out, by rw [HN.out]; exact (HOV3.out.keep (fun k' o hB ho => HK.out.1 k' o (by omega) ho)).ds⟩)
            have HXL := Lib.hid HK.out.2.1
            go_wp2_with fail
            refine HUQ.out.mono ?_
            rintro _ w4 ⟨V, rfl, hdv, hx4⟩
            obtain ⟨A1, c1, rfl⟩ := hdv.shape
            have hit4 := HIL.out.ext hx4
            have HO1 := Lib.hid (over_at w2.heap.size SA sc xs (by rw [HN.out]; omega) (fun x hx => by have := HL40.out x hx; omega) A1 c1 (uqA [] xs) rfl many w4 hit4 hdv.ds)
            have HO2 := Lib.hid (fun w5 (hx : Ext w4 w5) => over_at w2.heap.size SA sc xs (by rw [HN.out]; omega) (fun x hx => by have := HL40.out x hx; omega) A1 c1 (uqA [] xs) rfl 99 w5 (hit4.ext hx) (hdv.ds.ext hx))
            have HX4 := Lib.hid (HXL.out.trans hx4)
            generalize uqA [] xs = L at *
            clear hdv hit4 hx4
            go_wp2_with fail
            refine HO1.out.mono ?_
            rintro _ w5 ⟨rfl, hx5⟩
            have HX5 := Lib.hid hx5
            clear hx5
            go_wp2_with fail
            refine (HO2.out w5 HX5.out).mono ?_
            rintro _ w6 ⟨rfl, hx6⟩
            have HX6 := Lib.hid ((HX4.out.trans HX5.out).trans hx6)
            clear hx6
            go_wp2_with fail
            refine (AKnown_at _ (HE.out.ext HX6.out)).mono ?_
            rintro _ w7 ⟨rfl, hx7⟩
            have HX7 := Lib.hid (HX6.out.trans hx7)
            clear hx7
            go_wp2_with fail
            go_ret
            exact ⟨rfl, HX7.out⟩
end Go.Proofs.YthpfomjibfbiiaaDoor
