/- Texts laid together (wip/tools/merge.py): AdU1, AdU2, AdU3, AdU7. -/
import Derived.Test.YthpfomjibfbiiaaGreatDoorDov
import Derived.Test.YthpfomjibfbiiaaGreatDoorDerZ
import Derived.Test.YthpfomjibfbiiaaGreatDoorAd7
import Derived.Test.YthpfomjibfbiiaaGreatDoorAd8
import Derived.Test.YthpfomjibfbiiaaGreatDoorAdZb
import Derived.Test.YthpfomjibfbiiaaGreatDoorRange
import Derived.MapKept
import Derived.Test.YthpfomjibfbiiaaGreatDoorAdR1
namespace Go.Proofs.YthpfomjibfbiiaaGreatDoor
open Go Go.RowKit
set_option linter.unusedVariables false

theorem adrinfo : (Tryz.prog.info? 25).map (fun i => (i.zero, i.size, i.bytes)) = some (some (.agg #[.int .i64 0, .slice none 0 0]), 2, 32) := by kernel_rfl
theorem OB.blk {e : TypeId} {w : World} {B : Nat} {v : Value} {l : List UInt8} (h : OB e w B v l) {k : Nat} (hk : v.ownBlock = some k) : B ≤ k ∧ ∃ cs, w.heap[k]? = some (.cells cs e (0, 0)) := by
  rcases h.2 with ⟨rfl, _⟩ | ⟨g, cap, cur, rfl, hb, hh, _⟩
  · cases hk
  · injection hk with hk
    subst hk
    exact ⟨hb, _, hh⟩
theorem OB.keep {e : TypeId} {w w' : World} {B : Nat} {v : Value} {l : List UInt8} (h : OB e w B v l) (hk : ∀ k cs, B ≤ k → w.heap[k]? = some (.cells cs e (0, 0)) → v.ownBlock = some k → w'.heap[k]? = some (.cells cs e (0, 0))) : OB e w' B v l := by
  refine ⟨h.1, ?_⟩
  rcases h.2 with hh | ⟨g, cap, cur, hv, hb, hh, r⟩
  · exact .inl hh
  · exact .inr ⟨g, cap, cur, hv, hb, hk g cur hb hh (by subst hv; rfl), r⟩
/-- The call's own row of addresses and their bytes. -/
def AOV (w : World) (B : Nat) (v : Value) (ls : List (Int × List UInt8)) : Prop :=
  ∃ vs : List (Int × Value), vs.length = ls.length ∧ w.ownsRow B 25 2 v vs.length (dcs vs) ∧ ∀ i (h : i < vs.length) (h' : i < ls.length), vs[i].1 = ls[i].1 ∧ OB 5 w B vs[i].2 ls[i].2
theorem AOV.nil (w : World) (B : Nat) : AOV w B (.slice none 0 0) [] := ⟨[], rfl, World.ownsRow_nil _ _ _ _, fun i h => absurd h (by simp)⟩
theorem AOV.keep {w w' : World} {B : Nat} {v : Value} {ls : List (Int × List UInt8)} (h : AOV w B v ls) (hk : ∀ k o, B ≤ k → w.heap[k]? = some o → w'.heap[k]? = some o) : AOV w' B v ls := by
  obtain ⟨vs, h1, h2, h3⟩ := h
  refine ⟨vs, h1, ⟨h2.1, ?_⟩, fun i hi hi' => ⟨(h3 i hi hi').1, (h3 i hi hi').2.keep (fun k cs hB hh _ => hk k _ hB hh)⟩⟩
  rcases h2.2 with hh | ⟨g, cap, cur, hv, hb, hh, r⟩
  · exact .inl hh
  · exact .inr ⟨g, cap, cur, hv, hb, hk g _ hb hh, r⟩
theorem AOV.ext {w w' : World} {B : Nat} {v : Value} {ls : List (Int × List UInt8)} (h : AOV w B v ls) (he : Ext w w') : AOV w' B v ls := h.keep fun k o _ ho => he.heap ho
theorem AOV.shape {w : World} {B : Nat} {v : Value} {ls : List (Int × List UInt8)} (h : AOV w B v ls) : ∃ A c, v = .slice A ls.length c := by
  obtain ⟨vs, h1, h2, _⟩ := h
  rcases h2.2 with ⟨rfl, h0⟩ | ⟨g, cap, cur, rfl, _⟩
  · exact ⟨none, 0, by rw [← h1, h0]⟩
  · exact ⟨_, cap, by rw [h1]⟩
theorem AOV.lt {w : World} {B : Nat} {v : Value} {ls : List (Int × List UInt8)} (h : AOV w B v ls) : ∀ k, v.ownBlock = some k → B ≤ k ∧ k < w.heap.size := by
  obtain ⟨vs, _, h2, _⟩ := h
  exact World.ownsRow.lt h2
theorem AOV.down {w : World} {B B' : Nat} {v : Value} {ls : List (Int × List UInt8)} (h : AOV w B v ls) (hB : B' ≤ B) : AOV w B' v ls := by
  obtain ⟨vs, h1, ⟨h2, h2'⟩, h3⟩ := h
  refine ⟨vs, h1, ⟨h2, ?_⟩, fun i hi hi' => ⟨(h3 i hi hi').1, (h3 i hi hi').2.mono hB⟩⟩
  rcases h2' with h | ⟨g, cap, cur, e1, e2, r⟩
  · exact .inl h
  · exact .inr ⟨g, cap, cur, e1, Nat.le_trans hB e2, r⟩
theorem AOV.ds {w : World} {B : Nat} {v : Value} {ls : List (Int × List UInt8)} (h : AOV w B v ls) : DS w v ls := by
  obtain ⟨vs, h1, h2, h3⟩ := h
  have h2' := h2
  rcases h2.2 with ⟨rfl, h0⟩ | ⟨g, cap, cur, rfl, hb, hh, hnc, hcm, _⟩
  · have : ls.length = 0 := by omega
    exact ⟨none, 0, by rw [this], by omega, by unfold maxLen; omega, fun i hi => by omega⟩
  · refine ⟨some ⟨g, 0, none⟩, cap, by rw [h1], by omega, hcm, fun i hi => ?_⟩
    have hi' : i < vs.length := by omega
    obtain ⟨e1, e2⟩ := h3 i hi' hi
    obtain ⟨k1, k2⟩ := dcs_get vs i hi'
    have c1 := h2'.cells rfl _ _ k1
    have c2 := h2'.cells rfl _ _ k2
    have e2 := e2.bs
    obtain ⟨B', d, hv, _⟩ := e2.open_
    rw [hv] at c2 e2
    exact ⟨_, B', d, rfl, by rw [c1, e1], c2, e2⟩
section
variable {P : Program}
/-- append of one address that is the call's own. -/
theorem wpList_append_aov (w : World) {ops : Array Oper} {rest : List Oper} {o : Oper} {a : Act} {Q : Exit → Act → World → Prop} (hgd : o.guard = none) (s x : Operand) (t : TypeId)
    (ho : o.op = .call { callee := .builtin .append, args := #[s, x], argTypes := #[t, t] })
    (base : Nat) (i : TypeInfo) (z : Value) (ht : P.underlying t = some (.slice 25)) (hi : P.info? 25 = some i) (hz : i.zero = some z)
    (hsize : i.size = 2) (hby : i.bytes = 32) (hzs : z.cells.size = 2)
    (v : Value) (ls : List (Int × List UInt8)) (hs : a.eval s = v) (hown : AOV w base v ls)
    (ad : Addr) (c : Nat) (k : Int) (A : Option Addr) (n d : Nat) (l : List UInt8) (hx : a.eval x = .slice (some ad) 1 c) (hc0 : w.cell? (ad.add 0) = some (.int .i64 k)) (hc1 : w.cell? (ad.add 1) = some (.slice A n d)) (hu : OB 5 w base (.slice A n d) l)
    (hbytes : ls.length ≤ 100000) (hbase : base ≤ w.heap.size)
    (h : ∀ v' w', AOV w' base v' (ls ++ [(k, l)]) → w.grownBy w' v.ownBlock → (v'.ownBlock = v.ownBlock ∨ v'.ownBlock = some w.heap.size) → wpList P ops Q rest (a.put o.dst v') w') : wpList P ops Q (o :: rest) a w := by
  obtain ⟨vs, h1, h2, h3⟩ := hown
  refine wpList_plain hgd fun K hK => ?_
  have h63 : vs.length + 1 ≤ maxLen := by unfold maxLen; omega
  have hnews : ∀ j u, ([.int .i64 k, .slice A n d] : List Value)[j]? = some u → w.cell? (ad.add j) = some u := by
    intro j u hju
    rcases j with _ | _ | j
    · simp at hju; subst hju; exact hc0
    · simp at hju; subst hju; exact hc1
    · simp at hju
  have hone : ∀ u ∈ ([.int .i64 k, .slice A n d] : List Value), u.oneCell' = true := by intro u hm; simp at hm; rcases hm with rfl | rfl <;> rfl
  obtain ⟨v', w', hrun, g1, g2, _, g3⟩ := run_append_own_at (P := P) w base t o.type 25 i z 2 32 ht hi hz hsize hby hzs (by omega) v vs.length (dcs vs) h2 ad 1 c [.int .i64 k, .slice A n d] rfl
    hnews hone h63 (by omega) hbase
  unfold Oper.wp execOp
  simp only [ho, resolve, invoke, builtin, Sem.run_bind, Sem.run_pure, Result.andThen_ok, List.map_toArray, List.map_cons, List.map_nil, hs, hx, hrun]
  refine hK _ _ (h v' w' ⟨vs ++ [(k, .slice A n d)], by simp [h1], ?_, fun i hi hi' => ?_⟩ g2 g3)
  · rw [dcs_snoc]
    simpa using g1
  · have key : ∀ (y : Value) (m : List UInt8), OB 5 w base y m → OB 5 w' base y m := by
      intro y m hy
      refine hy.keep fun j cs hB hh _ => (g2.block j (Array.getElem?_eq_some_iff.1 hh).1 (fun e => ?_)).trans hh
      rcases h2.2 with ⟨rfl, _⟩ | ⟨g, cap, cur, rfl, _, hg, _⟩
      · cases e
      · injection e with e
        subst e
        rw [hg] at hh
        cases hh
    by_cases hlt : i < vs.length
    · have e1 : (vs ++ [(k, Value.slice A n d)])[i] = vs[i] := List.getElem_append_left hlt
      have e2 : (ls ++ [(k, l)])[i] = ls[i]'(by omega) := List.getElem_append_left (by omega)
      rw [e1, e2]
      exact ⟨(h3 i hlt (by omega)).1, key _ _ (h3 i hlt (by omega)).2⟩
    · have hi2 : i = vs.length := by simp at hi; omega
      subst hi2
      have e1 : (vs ++ [(k, Value.slice A n d)])[vs.length] = (k, .slice A n d) := by simp
      have e2 : (ls ++ [(k, l)])[vs.length]'hi' = (k, l) := by simp [h1]
      rw [e1, e2]
      exact ⟨rfl, key _ _ hu⟩
end
theorem ab_put1 {w : World} {g : Nat} {k : Int} {A : Option Addr} {n c : Nat} (h : AB w g k A n c) (A' : Option Addr) (n' c' : Nat) : AB (w.setCell ⟨g, 1, none⟩ (.slice A' n' c')) g k A' n' c' := by
  unfold AB at h ⊢
  rw [heap_setCell_same w g 1 _ _ _ h]; rfl
theorem OB.two {e : TypeId} {w : World} {B g : Nat} {v : Value} {l : List UInt8} (h : OB e w B v l) (hg : g < B) (u t : Value) : OB e ((w.setCell ⟨g, 0, none⟩ u).setCell ⟨g, 1, none⟩ t) B v l := h.far (grown_set2 w g u t) hg
set_option maxRecDepth 100000 in
set_option maxHeartbeats 1000000 in
theorem copied_at (k : Int) (b : List UInt8) (A : Option Addr) (c : Nat) (w : World) (hb : BS w (.slice A b.length c) b) (hl : b.length ≤ 1000) :
    Calls Tryz.prog 36 #[adv k A b.length c] w fun e w' => ∃ A' c', e = .returned (adv k A' b.length c') ∧ OB 5 w' w.heap.size (.slice A' b.length c') b ∧ Ext w w' := by
  have h0 := AB.new w k A b.length c
  have x0 := (Ext.refl w).alloc (.cells #[.int .i64 k, .slice A b.length c] 25)
  have h1 := AB.new (w.alloc (.cells #[.int .i64 k, .slice A b.length c] 25)) 0 none 0 0
  have x1 := (Ext.refl (w.alloc (.cells #[.int .i64 k, .slice A b.length c] 25))).alloc (.cells #[.int .i64 0, .slice none 0 0] 25)
  rw [World.size_alloc] at h1
  have hz : ((w.alloc (.cells #[.int .i64 k, .slice A b.length c] 25)).alloc (.cells #[.int .i64 0, .slice none 0 0] 25)).heap.size = w.heap.size + 2 := by simp
  obtain ⟨W2, e2⟩ : ∃ W, (w.alloc (.cells #[.int .i64 k, .slice A b.length c] 25)).alloc (.cells #[.int .i64 0, .slice none 0 0] 25) = W := ⟨_, rfl⟩
  have h01 := h0.ext x1
  have x01 := x0.trans x1
  rw [e2] at h1 h01 x01 hz
  have HC := Lib.hid (Clone_at A c b W2 (hb.ext x01) (by omega))
  have H0 := Lib.hid h01; have H1 := Lib.hid h1; have HX := Lib.hid x01; have HZ := Lib.hid hz
  obtain ⟨c0, c1⟩ := h01.cells
  clear h0 x0 h1 x1 h01 x01 hz hb
  unfold adv
  go_enter Tryz.func36, Tryz.ntmps36
  go_wp2_with fail
  refine HC.out.mono ?_
  rintro _ w3 ⟨A', c', rfl, hob, hx⟩
  have hz3 : w.heap.size + 2 ≤ w3.heap.size := by have := hx.size; have := HZ.out; omega
  have h3 := H0.out.ext hx; have h3' := H1.out.ext hx
  have s1 := h3.soft 1
  obtain ⟨d0, d1⟩ := h3.cells
  have h4 := ab_put1 h3 A' b.length c'
  have h4' : AB (w3.setCell ⟨w.heap.size, 1, none⟩ (.slice A' b.length c')) (w.heap.size + 1) 0 none 0 0 := heap_far (grown_set (grown_refl w3 _) 1 _) h3' (by omega)
  have hob4 := hob.far (grown_set (grown_refl w3 _) 1 (.slice A' b.length c')) (show w.heap.size < W2.heap.size by have := HZ.out; omega)
  have hx4 := (HX.out.trans hx).setCell (p := ⟨w.heap.size, 1, none⟩) (Nat.le_refl _) (.slice A' b.length c')
  obtain ⟨W4, e4⟩ : ∃ W, w3.setCell ⟨w.heap.size, 1, none⟩ (.slice A' b.length c') = W := ⟨_, rfl⟩
  rw [e4] at h4 h4' hob4 hx4
  obtain ⟨g0, g1⟩ := h4.cells
  have r0 := h4'.soft 0; have r1 := h4'.soft 1
  obtain ⟨q0, q1⟩ := h4'.cells
  obtain ⟨y0, y1⟩ := (h4'.set k A' b.length c').cells
  have HOB := Lib.hid (hob4.two (show w.heap.size + 1 < W2.heap.size by have := HZ.out; omega) (.int .i64 k) (.slice A' b.length c'))
  have HXF := Lib.hid (hx4.set2 (g := w.heap.size + 1) (by omega) (.int .i64 k) (.slice A' b.length c'))
  have Y0 := Lib.hid y0; have Y1 := Lib.hid y1
  clear hz3 h3 h3' h4 h4' hob hob4 hx hx4 y0 y1 c0 c1
  go_wp2_with fail
  have y0 := Y0.out; have y1 := Y1.out
  refine bodyPost_ret (v := adv k A' b.length c') (by simp [results, Tryz.results36, go_sem, y0, y1, adv]; try rfl) rfl ?_
  exact ⟨A', c', rfl, HOB.out.mono (by have := HZ.out; omega), HXF.out⟩
theorem AOV.snoc_len (xs : List (Int × List UInt8)) (k : Nat) (h : k < xs.length) : xs.take (k + 1) = xs.take k ++ [(xs[k].1, xs[k].2)] := List.take_succ_eq_append_getElem h
set_option maxRecDepth 100000 in
set_option maxHeartbeats 2000000 in
theorem Copy_at (A : Option Addr) (c : Nat) (xs : List (Int × List UInt8)) (w : World) (hD : DS w (.slice A xs.length c) xs) (hn : xs.length ≤ 100) (hl : ∀ x ∈ xs, x.2.length ≤ 1000) :
    Calls Tryz.prog 13 #[.slice A xs.length c] w fun e w' => ∃ V, e = .returned V ∧ AOV w' w.heap.size V xs ∧ Ext w w' := by
  obtain ⟨i0, hi, hz0, hz1, hz2⟩ := info_parts adrinfo
  obtain ⟨A', c', he, hc1, hc2, hcell⟩ := hD
  injection he with e1 e2 e3
  subst e1; subst e3
  unfold maxLen at hc2
  have HC := Lib.hid hcell; have HL := Lib.hid hl
  clear hcell e2 hl
  obtain ⟨n, hn'⟩ : ∃ n, xs.length = n := ⟨_, rfl⟩
  rw [hn'] at hc1 hn ⊢
  have HN := Lib.hid hn'
  clear hn'
  go_enter Tryz.func13, Tryz.ntmps13
  go_wp2_with fail
  go_loopw [3, 8] (fun v i wr => ∃ k : Nat, i = .int .i64 (k : Int) ∧ k ≤ n ∧ Hid (AOV wr w.heap.size v (xs.take k)) ∧ Hid (Ext w wr)) (fun _ i _ => n - (intOf i).toNat)
  case atStart => exact ⟨0, rfl, by omega, Lib.hid (AOV.nil _ _), Lib.hid (Ext.refl _)⟩
  case round =>
    obtain ⟨k, rfl, hk, HV, HX⟩ := hrel
    by_cases hlt : k < n
    · have hlx : k < xs.length := by rw [HN.out]; exact hlt
      obtain ⟨ad, B, d, rfl, hc0, hc3, hbk⟩ := HC.out k hlx
      have hb40 := HL.out xs[k] (List.getElem_mem hlx)
      have HTK := Lib.hid (AOV.snoc_len xs k hlx)
      obtain ⟨kd, hkd⟩ : ∃ kd, xs[k].1 = kd := ⟨_, rfl⟩
      obtain ⟨b, hbb⟩ : ∃ b, xs[k].2 = b := ⟨_, rfl⟩
      rw [hkd, hbb] at HTK
      rw [hkd] at hc0
      rw [hbb] at hc3 hbk hb40
      have hd0 := HX.out.cell hc0
      have hd1 : wr.cell? ⟨(ad.add (k * 2)).block, (ad.add (k * 2)).off + 1, none⟩ = some (.slice B b.length d) := by rw [cell_add1, add_of_add]; exact HX.out.cell hc3
      obtain ⟨Y, Z, hY, hZ, hy, hz, hxz⟩ := boxA wr kd B b.length d
      have f0 := hy.soft 0; have f1 := hy.soft 1
      obtain ⟨g0, g1⟩ := hy.cells
      obtain ⟨q0, q1⟩ := hz.cells
      have HCP := Lib.hid (copied_at kd b B d Z ((hbk.ext HX.out).ext hxz) hb40)
      have HXZ := Lib.hid hxz
      unfold adv at HCP
      clear hkd hbb hc0 hc3 hbk hb40 hy hz hxz hlx
      go_wp2_with fail
      refine HCP.out.mono ?_
      rintro _ w3 ⟨A3, c3, rfl, hob, hx3⟩
      obtain ⟨W7, hW7⟩ : ∃ W7, w3.alloc (.cells #[.int .i64 kd, .slice A3 b.length c3] 25) = W7 := ⟨_, rfl⟩
      have hx7 : Ext w3 W7 := by rw [← hW7]; exact (Ext.refl _).alloc _
      have hcells := heap_alloc_new w3 (.cells #[.int .i64 kd, .slice A3 b.length c3] 25)
      rw [hW7] at hcells
      have hc0 : W7.cell? ((⟨w3.heap.size, 0, none⟩ : Addr).add 0) = some (.int .i64 kd) := by
        rw [show ((⟨w3.heap.size, 0, none⟩ : Addr).add 0) = ⟨w3.heap.size, 0, none⟩ from rfl, cell_of_row _ _ 0 _ _ (0, 0) hcells]; rfl
      have hc1' : W7.cell? ((⟨w3.heap.size, 0, none⟩ : Addr).add 1) = some (.slice A3 b.length c3) := by
        rw [show ((⟨w3.heap.size, 0, none⟩ : Addr).add 1) = ⟨w3.heap.size, 1, none⟩ from rfl, cell_of_row _ _ 1 _ _ (0, 0) hcells]; rfl
      have HXX := Lib.hid ((HXZ.out.trans hx3).trans hx7)
      have HO := Lib.hid ((hob.ext hx7).mono (show w.heap.size ≤ Z.heap.size by have := HX.out.size; have := HXZ.out.size; omega))
      have HV7 := Lib.hid (HV.out.ext HXX.out)
      have HC0 := Lib.hid hc0; have HC1 := Lib.hid hc1'
      have HTL := Lib.hid (show (xs.take k).length ≤ 100000 by rw [List.length_take]; omega)
      have HBS := Lib.hid (show w.heap.size ≤ W7.heap.size from (HX.out.trans HXX.out).size)
      clear hob hx3 hx7 hc0 hc1' hcells hd0 hd1 g0 g1 q0 q1
      go_wp2_with (at_builtin; refine wpList_append_aov _ rfl (.tmp 12) (.tmp 15) 22 rfl w.heap.size i0 (.agg #[.int .i64 0, .slice none 0 0]) Tryz.underlying22 hi hz0 hz1 hz2 rfl _ (xs.take k) rfl HV7.out ⟨w3.heap.size, 0, none⟩ 1 kd A3 b.length c3 b rfl HC0.out HC1.out HO.out HTL.out HBS.out ?_; intro v7 w7 hd7 hg7 ho7)
      have HD7 := Lib.hid (show AOV w7 w.heap.size v7 (xs.take (k + 1)) by rw [HTK.out]; exact hd7)
      have HX7 := Lib.hid (show Ext w w7 from (HX.out.trans HXX.out).grown hg7 (fun j hj => (HV.out.lt j hj).1))
      clear hd7 hg7 ho7
      go_roundw
      case rel => exact ⟨k + 1, by go_num, by omega, HD7, HX7⟩
      case measure => simp [intOf]; omega
    · obtain rfl : k = n := by omega
      have HF := Lib.hid (show AOV wr w.heap.size u3 xs by
        have h := HV.out
        rwa [List.take_of_length_le (by rw [HN.out]; exact Nat.le_refl _)] at h)
      clear hlt
      go_wp2_with fail
      go_ret
      exact ⟨_, rfl, HF.out, HX.out⟩
end Go.Proofs.YthpfomjibfbiiaaGreatDoor
namespace Go.Proofs.YthpfomjibfbiiaaGreatDoor
open Go Go.RowKit
set_option linter.unusedVariables false

/-- A list has an address. -/
def hasA (xs : List (Int × List UInt8)) (k : Int) (b : List UInt8) : Bool := xs.any fun x => x.1 == k && x.2 == b
theorem hasA_nil (k : Int) (b : List UInt8) : hasA [] k b = false := rfl
theorem hasA_cons (x : Int × List UInt8) (xs : List (Int × List UInt8)) (k : Int) (b : List UInt8) : hasA (x :: xs) k b = ((x.1 == k && x.2 == b) || hasA xs k b) := rfl
theorem hasA_snoc (x : Int × List UInt8) (xs : List (Int × List UInt8)) (k : Int) (b : List UInt8) : hasA (xs ++ [x]) k b = (hasA xs k b || (x.1 == k && x.2 == b)) := by simp [hasA]
/-- The different ones, behind those that are there. -/
def uqA (acc : List (Int × List UInt8)) : List (Int × List UInt8) → List (Int × List UInt8)
  | [] => acc
  | x :: r => if hasA acc x.1 x.2 then uqA acc r else uqA (acc ++ [x]) r
theorem uqA_snoc (x : Int × List UInt8) : ∀ (l acc : List (Int × List UInt8)), uqA acc (l ++ [x]) = if hasA (uqA acc l) x.1 x.2 then uqA acc l else uqA acc l ++ [x]
  | [], acc => by
    rw [List.nil_append, uqA, uqA]
    split <;> simp [uqA]
  | y :: l, acc => by
    rw [List.cons_append, uqA, uqA]
    split
    · exact uqA_snoc x l acc
    · exact uqA_snoc x l _
theorem uqA_front : ∀ (l acc : List (Int × List UInt8)), ∃ rest, uqA acc l = acc ++ rest
  | [], acc => ⟨[], by simp [uqA]⟩
  | x :: l, acc => by
    rw [uqA]
    split
    · exact uqA_front l acc
    · obtain ⟨r, h⟩ := uqA_front l (acc ++ [x])
      exact ⟨x :: r, by rw [h]; simp⟩
theorem uqA_append : ∀ (l m acc : List (Int × List UInt8)), uqA acc (l ++ m) = uqA (uqA acc l) m
  | [], _, _ => rfl
  | x :: l, m, acc => by
    rw [List.cons_append, uqA, uqA]
    split
    · exact uqA_append l m acc
    · exact uqA_append l m _
theorem uqA_take (xs : List (Int × List UInt8)) (k : Nat) : ∃ rest, uqA [] xs = uqA [] (xs.take k) ++ rest := by
  obtain ⟨r, h⟩ := uqA_front (xs.drop k) (uqA [] (xs.take k))
  exact ⟨r, by rw [← h, ← uqA_append, List.take_append_drop]⟩
theorem uqA_len : ∀ (l acc : List (Int × List UInt8)), (uqA acc l).length ≤ acc.length + l.length
  | [], acc => by simp [uqA]
  | x :: l, acc => by
    rw [uqA]
    split
    · have := uqA_len l acc; simp; omega
    · have := uqA_len l (acc ++ [x]); simp at this ⊢; omega
theorem uqA_mem : ∀ (l acc : List (Int × List UInt8)), ∀ x ∈ uqA acc l, x ∈ acc ∨ x ∈ l
  | [], acc, x, h => .inl (by simpa [uqA] using h)
  | y :: l, acc, x, h => by
    rw [uqA] at h
    split at h
    · rcases uqA_mem l acc x h with h | h
      · exact .inl h
      · exact .inr (List.mem_cons_of_mem _ h)
    · rcases uqA_mem l _ x h with h | h
      · rcases List.mem_append.1 h with h | h
        · exact .inl h
        · simp at h; subst h; exact .inr (by simp)
      · exact .inr (List.mem_cons_of_mem _ h)

/-! The map. -/
def keyA (x : Int × List UInt8) : Value := .agg #[.int .i64 x.1, .string ⟨x.2.toArray⟩]
def entA : Nat → List (Int × List UInt8) → List MapEntry
  | _, [] => []
  | i, x :: r => { key := keyA x, val := .bool true, born := i } :: entA (i + 1) r
theorem entA_snoc (x : Int × List UInt8) : ∀ (l : List (Int × List UInt8)) (i : Nat), entA i (l ++ [x]) = entA i l ++ [{ key := keyA x, val := .bool true, born := i + l.length }]
  | [], i => rfl
  | y :: l, i => by
    rw [List.cons_append, entA, entA, entA_snoc x l (i + 1), List.length_cons, show i + 1 + l.length = i + (l.length + 1) by omega]; rfl
/-- The map of what has been seen. -/
def MapA (W : World) (b : Nat) (l : List (Int × List UInt8)) : Prop := W.heap[b]? = some (.map (entA 0 l).toArray l.length)
theorem MapA.put {w : World} {b : Nat} {l : List (Int × List UInt8)} (h : MapA w b l) (x : Int × List UInt8) : MapA (w.putObj b (.map (entA 0 (l ++ [x])).toArray (l.length + 1))) b (l ++ [x]) := by
  unfold MapA
  rw [World.putObj_heap_same (Array.getElem?_eq_some_iff.1 h).1, List.length_append]; rfl
end Go.Proofs.YthpfomjibfbiiaaGreatDoor
namespace Go.Proofs.YthpfomjibfbiiaaGreatDoor
open Go Go.RowKit
set_option linter.unusedVariables false

theorem dat_zero' : ∀ x ∈ (Value.agg #[.int .i64 0, .slice none 0 0]).cells.toList, ∀ n, x ≠ .int .u8 n := by
  intro x hx n
  have : x = .int .i64 0 ∨ x = .slice none 0 0 := by simpa [Value.cells] using hx
  rcases this with rfl | rfl <;> simp
set_option maxRecDepth 100000 in
set_option maxHeartbeats 1000000 in
theorem RAContains_at (A : Option Addr) (c : Nat) (xs : List (Int × List UInt8)) (k0 : Int) (b0 : List UInt8) (B0 : Option Addr) (d0 : Nat) (w : World) (hD : DS w (.slice A xs.length c) xs) (hb : BS w (.slice B0 b0.length d0) b0) (hn : xs.length ≤ 1000) :
    Calls Tryz.prog 8 #[.slice A xs.length c, adv k0 B0 b0.length d0] w fun e w' => e = .returned (.bool (hasA xs k0 b0)) ∧ Ext w w' := by
  have h0 := AB.new w k0 B0 b0.length d0
  have x0 := (Ext.refl w).alloc (.cells #[.int .i64 k0, .slice B0 b0.length d0] 25)
  obtain ⟨W1, e1⟩ : ∃ W, w.alloc (.cells #[.int .i64 k0, .slice B0 b0.length d0] 25) = W := ⟨_, rfl⟩
  rw [e1] at h0 x0
  obtain ⟨A', c', he, hc1, hc2, hcell⟩ := hD
  injection he with e1' e2 e3
  subst e1'; subst e3
  unfold maxLen at hc2
  have HC := Lib.hid hcell; have H0 := Lib.hid h0; have HX := Lib.hid x0; have HBB := Lib.hid hb
  clear hcell e2 h0 x0 hb
  obtain ⟨n, hn'⟩ : ∃ n, xs.length = n := ⟨_, rfl⟩
  rw [hn'] at hc1 hn ⊢
  have HN := Lib.hid hn'
  clear hn'
  unfold adv
  go_enter Tryz.func8, Tryz.ntmps8
  go_wp2_with fail
  go_loopw [5] (fun i wr => ∃ k : Nat, i = .int .i64 (k : Int) ∧ k ≤ n ∧ Hid (hasA (xs.take k) k0 b0 = false) ∧ Hid (Ext W1 wr)) (fun i _ => n - (intOf i).toNat)
  case atStart => exact ⟨0, rfl, by omega, Lib.hid rfl, Lib.hid (Ext.refl _)⟩
  case round =>
    obtain ⟨k, rfl, hk, HF, HW⟩ := hrel
    by_cases hlt : k < n
    · have hlx : k < xs.length := by rw [HN.out]; exact hlt
      obtain ⟨ad, B, d, rfl, hc0, hc3, hbk⟩ := HC.out k hlx
      have hc3' : w.cell? ⟨(ad.add (k * 2)).block, (ad.add (k * 2)).off + 1, none⟩ = some (.slice B xs[k].2.length d) := by rw [cell_add1, add_of_add]; exact hc3
      have hwr := HX.out.trans HW.out
      have HC0 := Lib.hid (hwr.cell hc0); have HC3 := Lib.hid (hwr.cell hc3')
      have HB := Lib.hid (H0.out.ext HW.out)
      have HEQ := Lib.hid (fun W (hx : Ext wr W) => RAEqual_at xs[k].1 k0 xs[k].2 b0 B B0 d d0 W (hbk.ext (hwr.trans hx)) (HBB.out.ext (hwr.trans hx)))
      have HTK := Lib.hid (show hasA (xs.take (k + 1)) k0 b0 = (xs[k].1 == k0 && xs[k].2 == b0) by rw [List.take_succ_eq_append_getElem hlx, hasA_snoc, HF.out, Bool.false_or])
      have HYS := Lib.hid (show (xs[k].1 == k0 && xs[k].2 == b0) = true → hasA xs k0 b0 = true from fun h => List.any_eq_true.2 ⟨xs[k], List.getElem_mem hlx, h⟩)
      unfold adv at HEQ
      generalize xs[k].1 = kk at *
      generalize xs[k].2 = bb at *
      obtain ⟨q1, hq1⟩ : ∃ q, (kk == k0) = q := ⟨_, rfl⟩
      obtain ⟨q2, hq2⟩ : ∃ q, (bb == b0) = q := ⟨_, rfl⟩
      rw [hq1, hq2] at HEQ HTK HYS
      clear hc0 hc3 hc3' hbk hwr hlx hq1 hq2
      go_upto_region 4 with fail
      refine wp_region_ext (fun i v' w' => match i with | 5 => v' = .bool (q1 && q2) | _ => False) (by kernel_rfl) (by kernel_rfl) ?_
      refine wpE_op rfl rfl (fun w' hw' K' hK' => ?_)
      have hE := hw'.1
      go_step
      refine hK' _ ⟨_, rfl⟩ ?_
      clear hK' K' hE hw' w'
      refine wpE_op rfl rfl (fun w' hw' K' hK' => ?_)
      have hE := hw'.1
      go_step
      refine hK' _ ⟨_, rfl⟩ ?_
      clear hK' K' hE hw' w'
      refine wpE_op rfl rfl (fun w' hw' K' hK' => ?_)
      have hE := hw'.1
      go_step
      refine hK' _ ⟨_, rfl⟩ ?_
      clear hK' K' hE hw' w'
      refine wpE_op rfl rfl (fun w' hw' K' hK' => ?_)
      have hE := hw'.1
      have u0 := ((Ext.drew _).trans hE).cell HC0.out
      have u1 := ((Ext.drew _).trans hE).cell HC3.out
      go_step
      refine hK' _ ⟨_, rfl⟩ ?_
      clear hK' K' u0 u1 hE hw' w'
      refine wpE_op rfl rfl (fun w' hw' K' hK' => ?_)
      have hE := hw'.1
      obtain ⟨u0, u1⟩ := (HB.out.ext ((Ext.drew wr).trans hE)).cells
      go_step
      refine hK' _ ⟨_, rfl⟩ ?_
      clear hK' K' u0 u1 hE hw' w'
      refine wpE_call 17 rfl (by simp) rfl (fun w' hw' K' hK' => ?_) ?_
      · have hE := hw'.1
        go_step
        refine (HEQ.out _ ((Ext.drew _).trans hE)).mono ?_
        rintro _ w2 ⟨rfl, hx⟩
        exact hK' _ _ ⟨_, rfl, rfl⟩ hx
      rintro _ w17x _ rfl
      simp only [Act.put, List.setIfInBounds_toArray, List.set_cons_succ, List.set_cons_zero]
      refine wpE_nil (fun W hW => ?_)
      have HXW := Lib.hid ((HW.out.trans (Ext.drew _)).trans hW.1)
      clear hW
      obtain ⟨q, hq⟩ : ∃ q, (q1 && q2) = q := ⟨_, rfl⟩
      rw [hq] at HTK HYS
      simp only [hq]
      clear hq
      cases q with
      | true =>
        go_wp2_with fail
        go_ret
        rw [HYS.out (by first | exact rfl | trivial)]
        exact ⟨rfl, HX.out.trans HXW.out⟩
      | false =>
        go_wp2_with fail
        go_roundw
        case rel => exact ⟨k + 1, by go_num, by omega, HTK, HXW⟩
        case measure => simp [intOf]; omega
    · obtain rfl : k = n := by omega
      have HF2 := Lib.hid (show hasA xs k0 b0 = false by have h := HF.out; rwa [List.take_of_length_le (by rw [HN.out]; exact Nat.le_refl _)] at h)
      clear hlt
      go_wp2_with fail
      go_ret
      rw [HF2.out]
      exact ⟨rfl, HX.out.trans HW.out⟩
end Go.Proofs.YthpfomjibfbiiaaGreatDoor
namespace Go.Proofs.YthpfomjibfbiiaaGreatDoor
open Go Go.RowKit
set_option linter.unusedVariables false

theorem dcs_set0 (vs : List (Int × Value)) : ∀ (i : Nat) (h : i < vs.length) (y : Int), (dcs vs).set (i * 2) (.int .i64 y) = dcs (vs.set i (y, vs[i].2)) := by
  induction vs with
  | nil => intro i h; simp at h
  | cons x t ih =>
    intro i h y
    cases i with
    | zero => simp [dcs]
    | succ j =>
      have h' : j < t.length := by simpa using h
      have := ih j h' y
      rw [show (j + 1) * 2 = j * 2 + 2 by omega]
      simp only [dcs, List.flatMap_cons, List.cons_append, List.nil_append, List.set_cons_succ, List.getElem_cons_succ] at this ⊢
      rw [this]
/-- A byte is written somewhere: a row of bytes stays one. -/
theorem OB.poke {e : TypeId} {w : World} {B : Nat} {v : Value} {L : List UInt8} (h : OB e w B v L) (gb k : Nat) (y : UInt8) : ∃ L' : List UInt8, L'.length = L.length ∧ OB e (w.setCell ⟨gb, k, none⟩ (.int .u8 (y.toNat : Int))) B v L' := by
  rcases h.2 with ⟨hv, hn⟩ | ⟨g, cap, cur, hv, hb, hh, r⟩
  · exact ⟨L, rfl, h.1, .inl ⟨hv, hn⟩⟩
  · by_cases hg : g = gb
    · subst hg
      rw [hv] at h ⊢
      have := (h.set k y _ rfl).1
      rw [List.length_set] at this
      exact ⟨L.set k y, by simp, this⟩
    · refine ⟨L, rfl, h.keep fun j cs hB hc hj => ?_⟩
      rw [hv] at hj
      injection hj with hj
      subst hj
      exact heap_far (grown_set (grown_refl w _) k _) hc hg
/-- A list of the law's own: its blocks lie from B on and below C. -/
def OwnX (w : World) (B C : Nat) (v : Value) (n : Nat) : Prop :=
  (∀ k, v.ownBlock = some k → k < C) ∧ ∃ vs : List (Int × Value), vs.length = n ∧ w.ownsRow B 25 2 v vs.length (dcs vs) ∧
    ∀ i (h : i < vs.length), (∀ k, vs[i].2.ownBlock = some k → k < C) ∧ ∃ L : List UInt8, L.length ≤ 40 ∧ OB 5 w B vs[i].2 L
theorem OwnX.of_aov {w : World} {B C : Nat} {v : Value} {ls : List (Int × List UInt8)} (h : AOV w B v ls) (hC : w.heap.size ≤ C) (hl : ∀ x ∈ ls, x.2.length ≤ 40) : OwnX w B C v ls.length := by
  obtain ⟨vs, h1, h2, h3⟩ := h
  refine ⟨fun k hk => by have := (World.ownsRow.lt h2 k hk).2; omega, vs, h1, h2, fun i hi => ⟨fun k hk => ?_, _, hl _ (List.getElem_mem (by omega)), (h3 i hi (by omega)).2⟩⟩
  obtain ⟨_, cs, hc⟩ := (h3 i hi (by omega)).2.blk hk
  have := (Array.getElem?_eq_some_iff.1 hc).1
  omega
theorem OwnX.ext {w w' : World} {B C : Nat} {v : Value} {n : Nat} (h : OwnX w B C v n) (hx : Ext w w') : OwnX w' B C v n := by
  obtain ⟨h0, vs, h1, h2, h3⟩ := h
  refine ⟨h0, vs, h1, ⟨h2.1, ?_⟩, fun i hi => ⟨(h3 i hi).1, ?_⟩⟩
  · rcases h2.2 with hh | ⟨g, cap, cur, hv, hb, hh, r⟩
    · exact .inl hh
    · exact .inr ⟨g, cap, cur, hv, hb, hx.heap hh, r⟩
  · obtain ⟨L, hL, ho⟩ := (h3 i hi).2
    exact ⟨L, hL, ho.ext hx⟩
theorem OwnX.shape {w : World} {B C n : Nat} {A : Option Addr} {m c : Nat} (h : OwnX w B C (.slice A m c) n) (hn : 0 < n) : ∃ g, A = some ⟨g, 0, none⟩ ∧ B ≤ g ∧ g < C := by
  obtain ⟨h0, vs, h1, h2, h3⟩ := h
  rcases h2.2 with ⟨hv, hz⟩ | ⟨g, cap, cur, hv, hb, hh, r⟩
  · omega
  · injection hv with e1 e2 e3
    subst e1
    exact ⟨g, rfl, hb, h0 g rfl⟩
/-- An address of such a list. -/
theorem OwnX.at_ {w : World} {B C n g c : Nat} (h : OwnX w B C (.slice (some ⟨g, 0, none⟩) n c) n) (i : Nat) (hi : i < n) :
    ∃ (x : Int) (v : Value) (m cb : Nat) (A : Option Addr), w.cell? ⟨g, i * 2, none⟩ = some (.int .i64 x) ∧ w.frozen? ⟨g, i * 2, none⟩ = false ∧ w.cell? ⟨g, i * 2 + 1, none⟩ = some (.slice A m cb) ∧ m ≤ 40 ∧ w.grownBy (w.setCell ⟨g, i * 2, none⟩ v) (some g) ∧
      (∀ y : Int, OwnX (w.setCell ⟨g, i * 2, none⟩ (.int .i64 y)) B C (.slice (some ⟨g, 0, none⟩) n c) n ∧ (w.setCell ⟨g, i * 2, none⟩ (.int .i64 y)).cell? ⟨g, i * 2 + 1, none⟩ = some (.slice A m cb)) := by
  obtain ⟨h0, vs, h1, h2, h3⟩ := h
  subst h1
  obtain ⟨k1, k2⟩ := dcs_get vs i hi
  obtain ⟨L, hL, ho⟩ := (h3 i hi).2
  obtain ⟨A, cb, hv⟩ := ho.shape
  refine ⟨vs[i].1, .int .i64 0, L.length, cb, A, (h2.cellAt (i * 2) (by omega)).trans k1, h2.frozenAt _, ?_, hL, (h2.stored (i * 2) _).2, fun y => ?_⟩
  · rw [← hv]; exact (h2.cellAt (i * 2 + 1) (by omega)).trans k2
  · have hs := h2.stored (i * 2) (.int .i64 y)
    rw [dcs_set0 vs i hi] at hs
    have hk2 := (dcs_get (vs.set i (y, vs[i].2)) i (by simpa using hi)).2
    rw [List.getElem_set_self] at hk2
    refine ⟨⟨h0, vs.set i (y, vs[i].2), by simp, by rw [List.length_set]; exact hs.1, fun j hj => ?_⟩, by rw [← hv]; exact (hs.1.cellAt (i * 2 + 1) (by omega)).trans hk2⟩
    have hj' : j < vs.length := by simpa using hj
    have he : (vs.set i (y, vs[i].2))[j].2 = vs[j].2 := by
      by_cases hij : i = j
      · subst hij; simp
      · rw [List.getElem_set_ne hij]
    rw [he]
    obtain ⟨L', hL', ho'⟩ := (h3 j hj').2
    refine ⟨(h3 j hj').1, L', hL', ho'.keep fun k cs hB hc hk => heap_far hs.2 hc ?_⟩
    rintro rfl
    rcases h2.2 with ⟨hv2, _⟩ | ⟨g', cap, cur, hv2, _, hh, _⟩
    · cases hv2
    · injection hv2 with e1 _ _
      injection e1 with e1
      injection e1 with e1
      subst e1
      rw [hh] at hc
      cases hc
/-- A byte of an address of such a list. -/
theorem OwnX.byte {w : World} {B C n g c : Nat} (h : OwnX w B C (.slice (some ⟨g, 0, none⟩) n c) n) (i : Nat) (hi : i < n) {A : Option Addr} {m cb : Nat} (hc : w.cell? ⟨g, i * 2 + 1, none⟩ = some (.slice A m cb)) (j : Nat) (hj : j < m) :
    ∃ (gb : Nat) (x : UInt8), A = some ⟨gb, 0, none⟩ ∧ B ≤ gb ∧ gb < C ∧ w.cell? ⟨gb, j, none⟩ = some (.int .u8 (x.toNat : Int)) ∧ w.frozen? ⟨gb, j, none⟩ = false ∧
      w.grownBy (w.setCell ⟨gb, j, none⟩ (.int .u8 ((x + 1).toNat : Int))) (some gb) ∧ OwnX (w.setCell ⟨gb, j, none⟩ (.int .u8 ((x + 1).toNat : Int))) B C (.slice (some ⟨g, 0, none⟩) n c) n ∧ (w.setCell ⟨gb, j, none⟩ (.int .u8 ((x + 1).toNat : Int))).cell? ⟨g, i * 2 + 1, none⟩ = some (.slice A m cb) := by
  obtain ⟨h0, vs, h1, h2, h3⟩ := h
  subst h1
  obtain ⟨k1, k2⟩ := dcs_get vs i hi
  obtain ⟨L, hL, ho⟩ := (h3 i hi).2
  have hce := (h2.cellAt (i * 2 + 1) (by omega)).trans k2
  rw [hc] at hce
  injection hce with hce
  rw [← hce] at ho
  obtain ⟨A', cb', hv⟩ := ho.shape
  injection hv with e1 e2 e3
  subst e2
  rcases ho.2 with ⟨hv2, hn⟩ | ⟨gb, cap, cur, hv2, hb, hh, r⟩
  · omega
  · injection hv2 with z1 z2 z3
    subst z1
    obtain ⟨p1, p2⟩ := ho.at_ j hj
    have hg : w.grownBy (w.setCell ⟨gb, j, none⟩ (.int .u8 ((L[j] + 1).toNat : Int))) (some gb) := grown_set (grown_refl w _) j _
    have hne : g ≠ gb := by
      rintro rfl
      rcases h2.2 with ⟨hv2, _⟩ | ⟨g', cap', cur', hv2, _, hh', _⟩
      · cases hv2
      · injection hv2 with e1 _ _
        injection e1 with e1
        injection e1 with e1
        subst e1
        rw [hh] at hh'
        cases hh'
    have hrow : (w.setCell ⟨gb, j, none⟩ (.int .u8 ((L[j] + 1).toNat : Int))).ownsRow B 25 2 (.slice (some ⟨g, 0, none⟩) vs.length c) vs.length (dcs vs) := h2.kept hg (.inr (by intro e; injection e with e; exact hne e))
    refine ⟨gb, L[j], rfl, hb, (h3 i hi).1 gb (by rw [← hce]; rfl), p1, p2, hg, ⟨h0, vs, rfl, hrow, fun q hq => ⟨(h3 q hq).1, ?_⟩⟩, ?_⟩
    · obtain ⟨L', hL', ho'⟩ := (h3 q hq).2
      obtain ⟨L2, hL2, ho2⟩ := ho'.poke gb j (L[j] + 1)
      exact ⟨L2, by omega, ho2⟩
    · rw [hce]; exact (hrow.cellAt (i * 2 + 1) (by omega)).trans k2
theorem OwnX.byte2 {w : World} {B C n g c : Nat} (h : OwnX w B C (.slice (some ⟨g, 0, none⟩) n c) n) (i : Nat) (hi : i < n) {A : Option Addr} {m cb : Nat} (hc : w.cell? ⟨g, i * 2 + 1, none⟩ = some (.slice A m cb)) (j : Nat) (hj : j < m) :
    ∃ (gb : Nat) (x : UInt8), A = some ⟨gb, 0, none⟩ ∧ B ≤ gb ∧ gb < C ∧ w.cell? ⟨gb, j, none⟩ = some (.int .u8 (x.toNat : Int)) ∧ w.frozen? ⟨gb, j, none⟩ = false ∧
      w.grownBy (w.setCell ⟨gb, j, none⟩ (.int .u8 (((x.toNat : Int) + 1) % 256))) (some gb) ∧ OwnX (w.setCell ⟨gb, j, none⟩ (.int .u8 (((x.toNat : Int) + 1) % 256))) B C (.slice (some ⟨g, 0, none⟩) n c) n ∧ (w.setCell ⟨gb, j, none⟩ (.int .u8 (((x.toNat : Int) + 1) % 256))).cell? ⟨g, i * 2 + 1, none⟩ = some (.slice A m cb) := by
  obtain ⟨gb, x, h1, h2, h3, h4, h5, h6, h7, h8⟩ := h.byte i hi hc j hj
  rw [← u8_inc] at h6 h7 h8
  exact ⟨gb, x, h1, h2, h3, h4, h5, h6, h7, h8⟩
section
variable {P : Program}
/-- append of one address that is the call's own, in a drawn region. -/
theorem step_append_aov (w : World) {ops : Array Oper} {o : Oper} {a : Act} {K : Act → World → Prop} {Q : Exit → Act → World → Prop} {E : Prop} (hgd : o.guard = none) (s x : Operand) (t : TypeId)
    (ho : o.op = .call { callee := .builtin .append, args := #[s, x], argTypes := #[t, t] })
    (base : Nat) (i : TypeInfo) (z : Value) (ht : P.underlying t = some (.slice 25)) (hi : P.info? 25 = some i) (hz : i.zero = some z)
    (hsize : i.size = 2) (hby : i.bytes = 32) (hzs : z.cells.size = 2)
    (v : Value) (ls : List (Int × List UInt8)) (hs : a.eval s = v) (hown : AOV w base v ls)
    (ad : Addr) (c : Nat) (k : Int) (A : Option Addr) (n d : Nat) (l : List UInt8) (hx : a.eval x = .slice (some ad) 1 c) (hc0 : w.cell? (ad.add 0) = some (.int .i64 k)) (hc1 : w.cell? (ad.add 1) = some (.slice A n d)) (hu : OB 5 w base (.slice A n d) l)
    (hbytes : ls.length ≤ 100000) (hbase : base ≤ w.heap.size)
    (h : ∀ v' w', AOV w' base v' (ls ++ [(k, l)]) → w.grownBy w' v.ownBlock → K (a.put o.dst v') w') : if Region.wanted o (yielded ops a.tmps) = true then Oper.wp P o a w K Q else E := by
  have hw : Region.wanted o (yielded ops a.tmps) = true := by simp [Region.wanted, hgd]
  rw [if_pos hw]
  obtain ⟨vs, h1, h2, h3⟩ := hown
  have h63 : vs.length + 1 ≤ maxLen := by unfold maxLen; omega
  have hnews : ∀ j u, ([.int .i64 k, .slice A n d] : List Value)[j]? = some u → w.cell? (ad.add j) = some u := by
    intro j u hju
    rcases j with _ | _ | j
    · simp at hju; subst hju; exact hc0
    · simp at hju; subst hju; exact hc1
    · simp at hju
  have hone : ∀ u ∈ ([.int .i64 k, .slice A n d] : List Value), u.oneCell' = true := by intro u hm; simp at hm; rcases hm with rfl | rfl <;> rfl
  obtain ⟨v', w', hrun, g1, g2, _, g3⟩ := run_append_own_at (P := P) w base t o.type 25 i z 2 32 ht hi hz hsize hby hzs (by omega) v vs.length (dcs vs) h2 ad 1 c [.int .i64 k, .slice A n d] rfl
    hnews hone h63 (by omega) hbase
  unfold Oper.wp execOp
  simp only [ho, resolve, invoke, builtin, Sem.run_bind, Sem.run_pure, Result.andThen_ok, List.map_toArray, List.map_cons, List.map_nil, hs, hx, hrun]
  refine h v' w' ⟨vs ++ [(k, .slice A n d)], by simp [h1], ?_, fun i hi hi' => ?_⟩ g2
  · rw [dcs_snoc]
    simpa using g1
  · have key : ∀ (y : Value) (m : List UInt8), OB 5 w base y m → OB 5 w' base y m := by
      intro y m hy
      refine hy.keep fun j cs hB hh _ => (g2.block j (Array.getElem?_eq_some_iff.1 hh).1 (fun e => ?_)).trans hh
      rcases h2.2 with ⟨rfl, _⟩ | ⟨g, cap, cur, rfl, _, hg, _⟩
      · cases e
      · injection e with e
        subst e
        rw [hg] at hh
        cases hh
    by_cases hlt : i < vs.length
    · have e1 : (vs ++ [(k, Value.slice A n d)])[i] = vs[i] := List.getElem_append_left hlt
      have e2 : (ls ++ [(k, l)])[i] = ls[i]'(by omega) := List.getElem_append_left (by omega)
      rw [e1, e2]
      exact ⟨(h3 i hlt (by omega)).1, key _ _ (h3 i hlt (by omega)).2⟩
    · have hi2 : i = vs.length := by simp at hi; omega
      subst hi2
      have e1 : (vs ++ [(k, Value.slice A n d)])[vs.length] = (k, .slice A n d) := by simp
      have e2 : (ls ++ [(k, l)])[vs.length]'hi' = (k, l) := by simp [h1]
      rw [e1, e2]
      exact ⟨rfl, key _ _ hu⟩
end
end Go.Proofs.YthpfomjibfbiiaaGreatDoor
