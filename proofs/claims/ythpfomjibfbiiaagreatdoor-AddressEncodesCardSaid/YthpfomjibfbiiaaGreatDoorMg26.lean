/- Texts laid together (wip/tools/automerge.py): AdU1, AdU2. -/
import Derived.Test.YthpfomjibfbiiaaGreatDoorMg11
import Derived.Test.YthpfomjibfbiiaaGreatDoorDer5
import Derived.Test.YthpfomjibfbiiaaGreatDoorAd7
import Derived.Test.YthpfomjibfbiiaaGreatDoorAd8
import Derived.Test.YthpfomjibfbiiaaGreatDoorMg25
import Derived.Test.YthpfomjibfbiiaaGreatDoorMg5
import Derived.MapKept
namespace Go.Proofs.YthpfomjibfbiiaaGreatDoor
open Go Go.RowKit
set_option linter.unusedVariables false

theorem adrinfo : (Tryz.prog.info? 25).map (fun i => (i.zero, i.size, i.bytes)) = some (some (.agg #[.int .i64 0, .slice none 0 0]), 2, 32) := by kernel_rfl
theorem OB.blk {e : TypeId} {w : World} {B : Nat} {v : Value} {l : List UInt8} (h : OB e w B v l) {k : Nat} (hk : v.ownBlock = some k) : B ≤ k ∧ ∃ cs, w.heap[k]? = some (.cells cs e (0, 0)) := by
  rcases h.2 with ⟨rfl, _⟩ | ⟨g, cap, cur, rfl, hb, hh, _⟩
  · cases hk
  · injection hk with hk
    subst hk
    exact ⟨hb, _, hh⟩
theorem OB.keep {e : TypeId} {w w' : World} {B : Nat} {v : Value} {l : List UInt8} (h : OB e w B v l) (hk : ∀ k cs, B ≤ k → w.heap[k]? = some (.cells cs e (0, 0)) → v.ownBlock = some k → w'.heap[k]? = some (.cells cs e (0, 0))) : OB e w' B v l := by
  refine ⟨h.1, ?_⟩
  rcases h.2 with hh | ⟨g, cap, cur, hv, hb, hh, r⟩
  · exact .inl hh
  · exact .inr ⟨g, cap, cur, hv, hb, hk g cur hb hh (by subst hv; rfl), r⟩
/-- The call's own row of addresses and their bytes. -/
def AOV (w : World) (B : Nat) (v : Value) (ls : List (Int × List UInt8)) : Prop :=
  ∃ vs : List (Int × Value), vs.length = ls.length ∧ w.ownsRow B 25 2 v vs.length (dcs vs) ∧ ∀ i (h : i < vs.length) (h' : i < ls.length), vs[i].1 = ls[i].1 ∧ OB 5 w B vs[i].2 ls[i].2
theorem AOV.nil (w : World) (B : Nat) : AOV w B (.slice none 0 0) [] := ⟨[], rfl, World.ownsRow_nil _ _ _ _, fun i h => absurd h (by simp)⟩
theorem AOV.keep {w w' : World} {B : Nat} {v : Value} {ls : List (Int × List UInt8)} (h : AOV w B v ls) (hk : ∀ k o, B ≤ k → w.heap[k]? = some o → w'.heap[k]? = some o) : AOV w' B v ls := by
  obtain ⟨vs, h1, h2, h3⟩ := h
  refine ⟨vs, h1, ⟨h2.1, ?_⟩, fun i hi hi' => ⟨(h3 i hi hi').1, (h3 i hi hi').2.keep (fun k cs hB hh _ => hk k _ hB hh)⟩⟩
  rcases h2.2 with hh | ⟨g, cap, cur, hv, hb, hh, r⟩
  · exact .inl hh
  · exact .inr ⟨g, cap, cur, hv, hb, hk g _ hb hh, r⟩
theorem AOV.ext {w w' : World} {B : Nat} {v : Value} {ls : List (Int × List UInt8)} (h : AOV w B v ls) (he : Ext w w') : AOV w' B v ls := h.keep fun k o _ ho => he.heap ho
theorem AOV.shape {w : World} {B : Nat} {v : Value} {ls : List (Int × List UInt8)} (h : AOV w B v ls) : ∃ A c, v = .slice A ls.length c := by
  obtain ⟨vs, h1, h2, _⟩ := h
  rcases h2.2 with ⟨rfl, h0⟩ | ⟨g, cap, cur, rfl, _⟩
  · exact ⟨none, 0, by rw [← h1, h0]⟩
  · exact ⟨_, cap, by rw [h1]⟩
theorem AOV.lt {w : World} {B : Nat} {v : Value} {ls : List (Int × List UInt8)} (h : AOV w B v ls) : ∀ k, v.ownBlock = some k → B ≤ k ∧ k < w.heap.size := by
  obtain ⟨vs, _, h2, _⟩ := h
  exact World.ownsRow.lt h2
theorem AOV.down {w : World} {B B' : Nat} {v : Value} {ls : List (Int × List UInt8)} (h : AOV w B v ls) (hB : B' ≤ B) : AOV w B' v ls := by
  obtain ⟨vs, h1, ⟨h2, h2'⟩, h3⟩ := h
  refine ⟨vs, h1, ⟨h2, ?_⟩, fun i hi hi' => ⟨(h3 i hi hi').1, (h3 i hi hi').2.mono hB⟩⟩
  rcases h2' with h | ⟨g, cap, cur, e1, e2, r⟩
  · exact .inl h
  · exact .inr ⟨g, cap, cur, e1, Nat.le_trans hB e2, r⟩
theorem AOV.ds {w : World} {B : Nat} {v : Value} {ls : List (Int × List UInt8)} (h : AOV w B v ls) : DS w v ls := by
  obtain ⟨vs, h1, h2, h3⟩ := h
  have h2' := h2
  rcases h2.2 with ⟨rfl, h0⟩ | ⟨g, cap, cur, rfl, hb, hh, hnc, hcm, _⟩
  · have : ls.length = 0 := by omega
    exact ⟨none, 0, by rw [this], by omega, by unfold maxLen; omega, fun i hi => by omega⟩
  · refine ⟨some ⟨g, 0, none⟩, cap, by rw [h1], by omega, hcm, fun i hi => ?_⟩
    have hi' : i < vs.length := by omega
    obtain ⟨e1, e2⟩ := h3 i hi' hi
    obtain ⟨k1, k2⟩ := dcs_get vs i hi'
    have c1 := h2'.cells rfl _ _ k1
    have c2 := h2'.cells rfl _ _ k2
    have e2 := e2.bs
    obtain ⟨B', d, hv, _⟩ := e2.open_
    rw [hv] at c2 e2
    exact ⟨_, B', d, rfl, by rw [c1, e1], c2, e2⟩
section
variable {P : Program}
/-- append of one address that is the call's own. -/
theorem wpList_append_aov (w : World) {ops : Array Oper} {rest : List Oper} {o : Oper} {a : Act} {Q : Exit → Act → World → Prop} (hgd : o.guard = none) (s x : Operand) (t : TypeId)
    (ho : o.op = .call { callee := .builtin .append, args := #[s, x], argTypes := #[t, t] })
    (base : Nat) (i : TypeInfo) (z : Value) (ht : P.underlying t = some (.slice 25)) (hi : P.info? 25 = some i) (hz : i.zero = some z)
    (hsize : i.size = 2) (hby : i.bytes = 32) (hzs : z.cells.size = 2)
    (v : Value) (ls : List (Int × List UInt8)) (hs : a.eval s = v) (hown : AOV w base v ls)
    (ad : Addr) (c : Nat) (k : Int) (A : Option Addr) (n d : Nat) (l : List UInt8) (hx : a.eval x = .slice (some ad) 1 c) (hc0 : w.cell? (ad.add 0) = some (.int .i64 k)) (hc1 : w.cell? (ad.add 1) = some (.slice A n d)) (hu : OB 5 w base (.slice A n d) l)
    (hbytes : ls.length ≤ 100000) (hbase : base ≤ w.heap.size)
    (h : ∀ v' w', AOV w' base v' (ls ++ [(k, l)]) → w.grownBy w' v.ownBlock → (v'.ownBlock = v.ownBlock ∨ v'.ownBlock = some w.heap.size) → wpList P ops Q rest (a.put o.dst v') w') : wpList P ops Q (o :: rest) a w := by
  obtain ⟨vs, h1, h2, h3⟩ := hown
  refine wpList_plain hgd fun K hK => ?_
  have h63 : vs.length + 1 ≤ maxLen := by unfold maxLen; omega
  have hnews : ∀ j u, ([.int .i64 k, .slice A n d] : List Value)[j]? = some u → w.cell? (ad.add j) = some u := by
    intro j u hju
    rcases j with _ | _ | j
    · simp at hju; subst hju; exact hc0
    · simp at hju; subst hju; exact hc1
    · simp at hju
  have hone : ∀ u ∈ ([.int .i64 k, .slice A n d] : List Value), u.oneCell' = true := by intro u hm; simp at hm; rcases hm with rfl | rfl <;> rfl
  obtain ⟨v', w', hrun, g1, g2, _, g3⟩ := run_append_own_at (P := P) w base t o.type 25 i z 2 32 ht hi hz hsize hby hzs (by omega) v vs.length (dcs vs) h2 ad 1 c [.int .i64 k, .slice A n d] rfl
    hnews hone h63 (by omega) hbase
  unfold Oper.wp execOp
  simp only [ho, resolve, invoke, builtin, Sem.run_bind, Sem.run_pure, Result.andThen_ok, List.map_toArray, List.map_cons, List.map_nil, hs, hx, hrun]
  refine hK _ _ (h v' w' ⟨vs ++ [(k, .slice A n d)], by simp [h1], ?_, fun i hi hi' => ?_⟩ g2 g3)
  · rw [dcs_snoc]
    simpa using g1
  · have key : ∀ (y : Value) (m : List UInt8), OB 5 w base y m → OB 5 w' base y m := by
      intro y m hy
      refine hy.keep fun j cs hB hh _ => (g2.block j (Array.getElem?_eq_some_iff.1 hh).1 (fun e => ?_)).trans hh
      rcases h2.2 with ⟨rfl, _⟩ | ⟨g, cap, cur, rfl, _, hg, _⟩
      · cases e
      · injection e with e
        subst e
        rw [hg] at hh
        cases hh
    by_cases hlt : i < vs.length
    · have e1 : (vs ++ [(k, Value.slice A n d)])[i] = vs[i] := List.getElem_append_left hlt
      have e2 : (ls ++ [(k, l)])[i] = ls[i]'(by omega) := List.getElem_append_left (by omega)
      rw [e1, e2]
      exact ⟨(h3 i hlt (by omega)).1, key _ _ (h3 i hlt (by omega)).2⟩
    · have hi2 : i = vs.length := by simp at hi; omega
      subst hi2
      have e1 : (vs ++ [(k, Value.slice A n d)])[vs.length] = (k, .slice A n d) := by simp
      have e2 : (ls ++ [(k, l)])[vs.length]'hi' = (k, l) := by simp [h1]
      rw [e1, e2]
      exact ⟨rfl, key _ _ hu⟩
end
theorem ab_put1 {w : World} {g : Nat} {k : Int} {A : Option Addr} {n c : Nat} (h : AB w g k A n c) (A' : Option Addr) (n' c' : Nat) : AB (w.setCell ⟨g, 1, none⟩ (.slice A' n' c')) g k A' n' c' := by
  unfold AB at h ⊢
  rw [heap_setCell_same w g 1 _ _ _ h]; rfl
theorem OB.two {e : TypeId} {w : World} {B g : Nat} {v : Value} {l : List UInt8} (h : OB e w B v l) (hg : g < B) (u t : Value) : OB e ((w.setCell ⟨g, 0, none⟩ u).setCell ⟨g, 1, none⟩ t) B v l := h.far (grown_set2 w g u t) hg
set_option maxRecDepth 100000 in
set_option maxHeartbeats 1000000 in
theorem copied_at (k : Int) (b : List UInt8) (A : Option Addr) (c : Nat) (w : World) (hb : BS w (.slice A b.length c) b) (hl : b.length ≤ 1000) :
    Calls Tryz.prog 36 #[adv k A b.length c] w fun e w' => ∃ A' c', e = .returned (adv k A' b.length c') ∧ OB 5 w' w.heap.size (.slice A' b.length c') b ∧ Ext w w' := by
  have h0 := AB.new w k A b.length c
  have x0 := (Ext.refl w).alloc (.cells #[.int .i64 k, .slice A b.length c] 25)
  have h1 := AB.new (w.alloc (.cells #[.int .i64 k, .slice A b.length c] 25)) 0 none 0 0
  have x1 := (Ext.refl (w.alloc (.cells #[.int .i64 k, .slice A b.length c] 25))).alloc (.cells #[.int .i64 0, .slice none 0 0] 25)
  rw [World.size_alloc] at h1
  have hz : ((w.alloc (.cells #[.int .i64 k, .slice A b.length c] 25)).alloc (.cells #[.int .i64 0, .slice none 0 0] 25)).heap.size = w.heap.size + 2 := by simp
  obtain ⟨W2, e2⟩ : ∃ W, (w.alloc (.cells #[.int .i64 k, .slice A b.length c] 25)).alloc (.cells #[.int .i64 0, .slice none 0 0] 25) = W := ⟨_, rfl⟩
  have h01 := h0.ext x1
  have x01 := x0.trans x1
  rw [e2] at h1 h01 x01 hz
  have HC := Lib.hid (Clone_at A c b W2 (hb.ext x01) (by omega))
  have H0 := Lib.hid h01; have H1 := Lib.hid h1; have HX := Lib.hid x01; have HZ := Lib.hid hz
  obtain ⟨c0, c1⟩ := h01.cells
  clear h0 x0 h1 x1 h01 x01 hz hb
  unfold adv
  go_enter Tryz.func36, Tryz.ntmps36
  go_wp2_with fail
  refine HC.out.mono ?_
  rintro _ w3 ⟨A', c', rfl, hob, hx⟩
  have hz3 : w.heap.size + 2 ≤ w3.heap.size := by have := hx.size; have := HZ.out; omega
  have h3 := H0.out.ext hx; have h3' := H1.out.ext hx
  have s1 := h3.soft 1
  obtain ⟨d0, d1⟩ := h3.cells
  have h4 := ab_put1 h3 A' b.length c'
  have h4' : AB (w3.setCell ⟨w.heap.size, 1, none⟩ (.slice A' b.length c')) (w.heap.size + 1) 0 none 0 0 := heap_far (grown_set (grown_refl w3 _) 1 _) h3' (by omega)
  have hob4 := hob.far (grown_set (grown_refl w3 _) 1 (.slice A' b.length c')) (show w.heap.size < W2.heap.size by have := HZ.out; omega)
  have hx4 := (HX.out.trans hx).setCell (p := ⟨w.heap.size, 1, none⟩) (Nat.le_refl _) (.slice A' b.length c')
  obtain ⟨W4, e4⟩ : ∃ W, w3.setCell ⟨w.heap.size, 1, none⟩ (.slice A' b.length c') = W := ⟨_, rfl⟩
  rw [e4] at h4 h4' hob4 hx4
  obtain ⟨g0, g1⟩ := h4.cells
  have r0 := h4'.soft 0; have r1 := h4'.soft 1
  obtain ⟨q0, q1⟩ := h4'.cells
  obtain ⟨y0, y1⟩ := (h4'.set k A' b.length c').cells
  have HOB := Lib.hid (hob4.two (show w.heap.size + 1 < W2.heap.size by have := HZ.out; omega) (.int .i64 k) (.slice A' b.length c'))
  have HXF := Lib.hid (hx4.set2 (g := w.heap.size + 1) (by omega) (.int .i64 k) (.slice A' b.length c'))
  have Y0 := Lib.hid y0; have Y1 := Lib.hid y1
  clear hz3 h3 h3' h4 h4' hob hob4 hx hx4 y0 y1 c0 c1
  go_wp2_with fail
  have y0 := Y0.out; have y1 := Y1.out
  refine bodyPost_ret (v := adv k A' b.length c') (by simp [results, Tryz.results36, go_sem, y0, y1, adv]; try rfl) rfl ?_
  exact ⟨A', c', rfl, HOB.out.mono (by have := HZ.out; omega), HXF.out⟩
theorem AOV.snoc_len (xs : List (Int × List UInt8)) (k : Nat) (h : k < xs.length) : xs.take (k + 1) = xs.take k ++ [(xs[k].1, xs[k].2)] := List.take_succ_eq_append_getElem h
set_option maxRecDepth 100000 in
set_option maxHeartbeats 2000000 in
theorem Copy_at (A : Option Addr) (c : Nat) (xs : List (Int × List UInt8)) (w : World) (hD : DS w (.slice A xs.length c) xs) (hn : xs.length ≤ 100) (hl : ∀ x ∈ xs, x.2.length ≤ 1000) :
    Calls Tryz.prog 13 #[.slice A xs.length c] w fun e w' => ∃ V, e = .returned V ∧ AOV w' w.heap.size V xs ∧ Ext w w' := by
  obtain ⟨i0, hi, hz0, hz1, hz2⟩ := info_parts adrinfo
  obtain ⟨A', c', he, hc1, hc2, hcell⟩ := hD
  injection he with e1 e2 e3
  subst e1; subst e3
  unfold maxLen at hc2
  have HC := Lib.hid hcell; have HL := Lib.hid hl
  clear hcell e2 hl
  obtain ⟨n, hn'⟩ : ∃ n, xs.length = n := ⟨_, rfl⟩
  rw [hn'] at hc1 hn ⊢
  have HN := Lib.hid hn'
  clear hn'
  go_enter Tryz.func13, Tryz.ntmps13
  go_wp2_with fail
  go_loopw [3, 8] (fun v i wr => ∃ k : Nat, i = .int .i64 (k : Int) ∧ k ≤ n ∧ Hid (AOV wr w.heap.size v (xs.take k)) ∧ Hid (Ext w wr)) (fun _ i _ => n - (intOf i).toNat)
  case atStart => exact ⟨0, rfl, by omega, Lib.hid (AOV.nil _ _), Lib.hid (Ext.refl _)⟩
  case round =>
    obtain ⟨k, rfl, hk, HV, HX⟩ := hrel
    by_cases hlt : k < n
    · have hlx : k < xs.length := by rw [HN.out]; exact hlt
      obtain ⟨ad, B, d, rfl, hc0, hc3, hbk⟩ := HC.out k hlx
      have hb40 := HL.out xs[k] (List.getElem_mem hlx)
      have HTK := Lib.hid (AOV.snoc_len xs k hlx)
      obtain ⟨kd, hkd⟩ : ∃ kd, xs[k].1 = kd := ⟨_, rfl⟩
      obtain ⟨b, hbb⟩ : ∃ b, xs[k].2 = b := ⟨_, rfl⟩
      rw [hkd, hbb] at HTK
      rw [hkd] at hc0
      rw [hbb] at hc3 hbk hb40
      have hd0 := HX.out.cell hc0
      have hd1 : wr.cell? ⟨(ad.add (k * 2)).block, (ad.add (k * 2)).off + 1, none⟩ = some (.slice B b.length d) := by rw [cell_add1, add_of_add]; exact HX.out.cell hc3
      obtain ⟨Y, Z, hY, hZ, hy, hz, hxz⟩ := boxA wr kd B b.length d
      have f0 := hy.soft 0; have f1 := hy.soft 1
      obtain ⟨g0, g1⟩ := hy.cells
      obtain ⟨q0, q1⟩ := hz.cells
      have HCP := Lib.hid (copied_at kd b B d Z ((hbk.ext HX.out).ext hxz) hb40)
      have HXZ := Lib.hid hxz
      unfold adv at HCP
      clear hkd hbb hc0 hc3 hbk hb40 hy hz hxz hlx
      go_wp2_with fail
      refine HCP.out.mono ?_
      rintro _ w3 ⟨A3, c3, rfl, hob, hx3⟩
      obtain ⟨W7, hW7⟩ : ∃ W7, w3.alloc (.cells #[.int .i64 kd, .slice A3 b.length c3] 25) = W7 := ⟨_, rfl⟩
      have hx7 : Ext w3 W7 := by rw [← hW7]; exact (Ext.refl _).alloc _
      have hcells := heap_alloc_new w3 (.cells #[.int .i64 kd, .slice A3 b.length c3] 25)
      rw [hW7] at hcells
      have hc0 : W7.cell? ((⟨w3.heap.size, 0, none⟩ : Addr).add 0) = some (.int .i64 kd) := by
        rw [show ((⟨w3.heap.size, 0, none⟩ : Addr).add 0) = ⟨w3.heap.size, 0, none⟩ from rfl, cell_of_row _ _ 0 _ _ (0, 0) hcells]; rfl
      have hc1' : W7.cell? ((⟨w3.heap.size, 0, none⟩ : Addr).add 1) = some (.slice A3 b.length c3) := by
        rw [show ((⟨w3.heap.size, 0, none⟩ : Addr).add 1) = ⟨w3.heap.size, 1, none⟩ from rfl, cell_of_row _ _ 1 _ _ (0, 0) hcells]; rfl
      have HXX := Lib.hid ((HXZ.out.trans hx3).trans hx7)
      have HO := Lib.hid ((hob.ext hx7).mono (show w.heap.size ≤ Z.heap.size by have := HX.out.size; have := HXZ.out.size; omega))
      have HV7 := Lib.hid (HV.out.ext HXX.out)
      have HC0 := Lib.hid hc0; have HC1 := Lib.hid hc1'
      have HTL := Lib.hid (show (xs.take k).length ≤ 100000 by rw [List.length_take]; omega)
      have HBS := Lib.hid (show w.heap.size ≤ W7.heap.size from (HX.out.trans HXX.out).size)
      clear hob hx3 hx7 hc0 hc1' hcells hd0 hd1 g0 g1 q0 q1
      go_wp2_with (at_builtin; refine wpList_append_aov _ rfl (.tmp 12) (.tmp 15) 22 rfl w.heap.size i0 (.agg #[.int .i64 0, .slice none 0 0]) Tryz.underlying22 hi hz0 hz1 hz2 rfl _ (xs.take k) rfl HV7.out ⟨w3.heap.size, 0, none⟩ 1 kd A3 b.length c3 b rfl HC0.out HC1.out HO.out HTL.out HBS.out ?_; intro v7 w7 hd7 hg7 ho7)
      have HD7 := Lib.hid (show AOV w7 w.heap.size v7 (xs.take (k + 1)) by rw [HTK.out]; exact hd7)
      have HX7 := Lib.hid (show Ext w w7 from (HX.out.trans HXX.out).grown hg7 (fun j hj => (HV.out.lt j hj).1))
      clear hd7 hg7 ho7
      go_roundw
      case rel => exact ⟨k + 1, by go_num, by omega, HD7, HX7⟩
      case measure => simp [intOf]; omega
    · obtain rfl : k = n := by omega
      have HF := Lib.hid (show AOV wr w.heap.size u3 xs by
        have h := HV.out
        rwa [List.take_of_length_le (by rw [HN.out]; exact Nat.le_refl _)] at h)
      clear hlt
      go_wp2_with fail
      go_ret
      exact ⟨_, rfl, HF.out, HX.out⟩
end Go.Proofs.YthpfomjibfbiiaaGreatDoor
namespace Go.Proofs.YthpfomjibfbiiaaGreatDoor
open Go Go.RowKit
set_option linter.unusedVariables false

/-- A list has an address. -/
def hasA (xs : List (Int × List UInt8)) (k : Int) (b : List UInt8) : Bool := xs.any fun x => x.1 == k && x.2 == b
theorem hasA_nil (k : Int) (b : List UInt8) : hasA [] k b = false := rfl
theorem hasA_cons (x : Int × List UInt8) (xs : List (Int × List UInt8)) (k : Int) (b : List UInt8) : hasA (x :: xs) k b = ((x.1 == k && x.2 == b) || hasA xs k b) := rfl
theorem hasA_snoc (x : Int × List UInt8) (xs : List (Int × List UInt8)) (k : Int) (b : List UInt8) : hasA (xs ++ [x]) k b = (hasA xs k b || (x.1 == k && x.2 == b)) := by simp [hasA]
/-- The different ones, behind those that are there. -/
def uqA (acc : List (Int × List UInt8)) : List (Int × List UInt8) → List (Int × List UInt8)
  | [] => acc
  | x :: r => if hasA acc x.1 x.2 then uqA acc r else uqA (acc ++ [x]) r
theorem uqA_snoc (x : Int × List UInt8) : ∀ (l acc : List (Int × List UInt8)), uqA acc (l ++ [x]) = if hasA (uqA acc l) x.1 x.2 then uqA acc l else uqA acc l ++ [x]
  | [], acc => by
    rw [List.nil_append, uqA, uqA]
    split <;> simp [uqA]
  | y :: l, acc => by
    rw [List.cons_append, uqA, uqA]
    split
    · exact uqA_snoc x l acc
    · exact uqA_snoc x l _
theorem uqA_front : ∀ (l acc : List (Int × List UInt8)), ∃ rest, uqA acc l = acc ++ rest
  | [], acc => ⟨[], by simp [uqA]⟩
  | x :: l, acc => by
    rw [uqA]
    split
    · exact uqA_front l acc
    · obtain ⟨r, h⟩ := uqA_front l (acc ++ [x])
      exact ⟨x :: r, by rw [h]; simp⟩
theorem uqA_append : ∀ (l m acc : List (Int × List UInt8)), uqA acc (l ++ m) = uqA (uqA acc l) m
  | [], _, _ => rfl
  | x :: l, m, acc => by
    rw [List.cons_append, uqA, uqA]
    split
    · exact uqA_append l m acc
    · exact uqA_append l m _
theorem uqA_take (xs : List (Int × List UInt8)) (k : Nat) : ∃ rest, uqA [] xs = uqA [] (xs.take k) ++ rest := by
  obtain ⟨r, h⟩ := uqA_front (xs.drop k) (uqA [] (xs.take k))
  exact ⟨r, by rw [← h, ← uqA_append, List.take_append_drop]⟩
theorem uqA_len : ∀ (l acc : List (Int × List UInt8)), (uqA acc l).length ≤ acc.length + l.length
  | [], acc => by simp [uqA]
  | x :: l, acc => by
    rw [uqA]
    split
    · have := uqA_len l acc; simp; omega
    · have := uqA_len l (acc ++ [x]); simp at this ⊢; omega
theorem uqA_mem : ∀ (l acc : List (Int × List UInt8)), ∀ x ∈ uqA acc l, x ∈ acc ∨ x ∈ l
  | [], acc, x, h => .inl (by simpa [uqA] using h)
  | y :: l, acc, x, h => by
    rw [uqA] at h
    split at h
    · rcases uqA_mem l acc x h with h | h
      · exact .inl h
      · exact .inr (List.mem_cons_of_mem _ h)
    · rcases uqA_mem l _ x h with h | h
      · rcases List.mem_append.1 h with h | h
        · exact .inl h
        · simp at h; subst h; exact .inr (by simp)
      · exact .inr (List.mem_cons_of_mem _ h)

/-! The map. -/
def keyA (x : Int × List UInt8) : Value := .agg #[.int .i64 x.1, .string ⟨x.2.toArray⟩]
def entA : Nat → List (Int × List UInt8) → List MapEntry
  | _, [] => []
  | i, x :: r => { key := keyA x, val := .bool true, born := i } :: entA (i + 1) r
theorem entA_snoc (x : Int × List UInt8) : ∀ (l : List (Int × List UInt8)) (i : Nat), entA i (l ++ [x]) = entA i l ++ [{ key := keyA x, val := .bool true, born := i + l.length }]
  | [], i => rfl
  | y :: l, i => by
    rw [List.cons_append, entA, entA, entA_snoc x l (i + 1), List.length_cons, show i + 1 + l.length = i + (l.length + 1) by omega]; rfl
/-- The map of what has been seen. -/
def MapA (W : World) (b : Nat) (l : List (Int × List UInt8)) : Prop := W.heap[b]? = some (.map (entA 0 l).toArray l.length)
theorem MapA.put {w : World} {b : Nat} {l : List (Int × List UInt8)} (h : MapA w b l) (x : Int × List UInt8) : MapA (w.putObj b (.map (entA 0 (l ++ [x])).toArray (l.length + 1))) b (l ++ [x]) := by
  unfold MapA
  rw [World.putObj_heap_same (Array.getElem?_eq_some_iff.1 h).1, List.length_append]; rfl
end Go.Proofs.YthpfomjibfbiiaaGreatDoor
