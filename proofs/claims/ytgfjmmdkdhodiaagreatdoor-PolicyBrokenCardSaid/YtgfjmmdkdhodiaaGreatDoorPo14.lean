/- Policy: the functions that read numbers. -/
import Derived.Test.YtgfjmmdkdhodiaaGreatDoorMg13
import Derived.Test.YtgfjmmdkdhodiaaGreatDoorMg4
import Derived.Test.YtgfjmmdkdhodiaaGreatDoorMg1
import Derived.Test.YtgfjmmdkdhodiaaGreatDoorMg5
import Derived.Laws.EntriesVeiled
import Derived.Laws.Rows
namespace Go.Proofs.YtgfjmmdkdhodiaaGreatDoor
open Go Go.RowKit
set_option linter.unusedVariables false

theorem numV_some {l : List UInt8} {v : Int} (h : numV l = some v) : Lib.atoiAll l = .ok v := by
  unfold numV at h
  cases ha : Lib.atoiAll l with
  | ok x => rw [ha] at h; injection h with h; rw [h]
  | _ => rw [ha] at h; cases h
theorem numV_none {l : List UInt8} (h : numV l = none) : ∀ v, Lib.atoiAll l ≠ .ok v := fun v ha => by
  unfold numV at h
  rw [ha] at h
  cases h
/-- A pointer in a box. -/
def PP (W : World) (b : Nat) (a : Addr) : Prop := W.heap[b]? = some (.cells #[.pointer (some a)] 75 (0, 0))
theorem PP.ext {W W' : World} {b : Nat} {a : Addr} (h : PP W b a) (hx : Ext W W') : PP W' b a := hx.heap h
/-- The closure of a number. -/
def NF (a : Addr) (v : Value) (W : World) : Prop := ∃ g, v = .func (.func 43) #[] #[.pointer (some ⟨g, 0, none⟩)] ∧ PP W g a
theorem number_at (a : Addr) (w : World) :
    Calls Tryz.prog 42 #[.pointer (some a)] w fun e w' => (∃ v, e = .returned v ∧ v = .func (.func 43) #[] #[.pointer (some ⟨w.heap.size, 0, none⟩)] ∧ PP w' w.heap.size a) ∧ Ext w w' := by
  have hmf : ∀ (fn : Fn) (first cap : Array Value) (w : World), (Instr.makeFunc fn first cap).run Tryz.prog w = .ok (.func fn first cap) w := fun _ _ _ _ => rfl
  have h0 := heap_alloc_new w (.cells #[.pointer (some a)] 75)
  have H0 := Lib.hid h0; have HX := Lib.hid ((Ext.refl w).alloc (.cells #[.pointer (some a)] 75))
  clear h0
  go_enter Tryz.func42, Tryz.ntmps42
  go_wp2
  go_ret
  exact ⟨⟨_, rfl, rfl, H0.out⟩, HX.out⟩
theorem PL.set {W : World} {G : Nat} {p : Pol} (h : PL W G p) (i : Nat) (h1 : 1 ≤ i) (h9 : i ≤ 9) (v : Int) : PL (W.setCell ⟨G, i, none⟩ (.int .i64 v)) G (p.set i v) := by
  unfold PL at h ⊢
  rw [heap_setCell_same W G i _ _ _ h]
  rcases (show i = 1 ∨ i = 2 ∨ i = 3 ∨ i = 4 ∨ i = 5 ∨ i = 6 ∨ i = 7 ∨ i = 8 ∨ i = 9 by omega) with rfl | rfl | rfl | rfl | rfl | rfl | rfl | rfl | rfl <;> rfl
theorem PL.soft {W : World} {G : Nat} {p : Pol} (h : PL W G p) (i : Nat) : W.frozen? ⟨G, i, none⟩ = false := by
  unfold PL at h
  simp [World.frozen?, h]
theorem PL.at_ {W : World} {G : Nat} {p : Pol} (h : PL W G p) (i : Nat) (h9 : i ≤ 9) : ∃ u, W.cell? ⟨G, i, none⟩ = some u := by
  have hc := h.cells
  rcases (show i = 0 ∨ i = 1 ∨ i = 2 ∨ i = 3 ∨ i = 4 ∨ i = 5 ∨ i = 6 ∨ i = 7 ∨ i = 8 ∨ i = 9 by omega) with rfl | rfl | rfl | rfl | rfl | rfl | rfl | rfl | rfl | rfl
  · exact ⟨_, hc.c0⟩
  · exact ⟨_, hc.c1⟩
  · exact ⟨_, hc.c2⟩
  · exact ⟨_, hc.c3⟩
  · exact ⟨_, hc.c4⟩
  · exact ⟨_, hc.c5⟩
  · exact ⟨_, hc.c6⟩
  · exact ⟨_, hc.c7⟩
  · exact ⟨_, hc.c8⟩
  · exact ⟨_, hc.c9⟩
/-- How a field is read: the policy that comes of it, or none. -/
def RdE (G : Nat) (w : World) (o : Option Pol) (e : Ending) (w' : World) : Prop := ∃ q, w.grownBy w' (some G) ∧ PL w' G q ∧ ((o = some q ∧ e = .returned (.bool true)) ∨ (o = none ∧ e = .returned (.bool false)))
set_option maxRecDepth 100000 in
theorem readNum_at (s : ByteArray) (hs : s.size ≤ 1000) (g G i : Nat) (h1 : 1 ≤ i) (h9 : i ≤ 9) (p : Pol) (w : World) (hE : Env w) (hp : PP w g ⟨G, i, none⟩) (hG : PL w G p) :
    Calls Tryz.prog 43 #[.string s, .pointer (some ⟨g, 0, none⟩)] w (RdE G w (rdNum i s.data.toList p)) := by
  have hfin : ∀ (v : Int) (w2 : World), Ext w w2 → w.grownBy (w2.setCell ⟨G, i, none⟩ (.int .i64 v)) (some G) ∧ PL (w2.setCell ⟨G, i, none⟩ (.int .i64 v)) G (p.set i v) := fun v w2 hx =>
    ⟨grown_set (hx.but _) i _, (hG.ext hx).set i h1 h9 v⟩
  have HF := Lib.hid hfin; have HG := Lib.hid hG; have HP := Lib.hid hp
  cases hn : numV s.data.toList with
  | some v =>
    have HA := Lib.hid (Atoi_ok s hs v (numV_some hn) w)
    have HR := Lib.hid (show rdNum i s.data.toList p = some (p.set i v) by unfold rdNum; rw [hn])
    clear hn hp hE hG hfin
    go_enter Tryz.func43, Tryz.ntmps43
    go_wp2_with fail
    refine HA.out.mono ?_
    rintro _ w2 ⟨rfl, hx⟩
    have c0 := (row1 (HP.out.ext hx)).1
    obtain ⟨u, c1⟩ := (HG.out.ext hx).at_ i h9
    have c2 := (HG.out.ext hx).soft i
    have HX := Lib.hid hx
    clear hx
    go_wp2_with fail
    go_ret
    exact ⟨_, (HF.out v w2 HX.out).1, (HF.out v w2 HX.out).2, .inl ⟨HR.out, rfl⟩⟩
  | none =>
    have HA := Lib.hid (Atoi_bad s hs (numV_none hn) w hE)
    have HR := Lib.hid (show rdNum i s.data.toList p = none by unfold rdNum; rw [hn])
    clear hn hp hE hG hfin
    go_enter Tryz.func43, Tryz.ntmps43
    go_wp2_with fail
    refine HA.out.mono ?_
    rintro _ w2 ⟨x, pv, rfl, hx⟩
    have c0 := (row1 (HP.out.ext hx)).1
    obtain ⟨u, c1⟩ := (HG.out.ext hx).at_ i h9
    have c2 := (HG.out.ext hx).soft i
    have HX := Lib.hid hx
    clear hx
    go_wp2_with fail
    go_ret
    exact ⟨_, (HF.out x w2 HX.out).1, (HF.out x w2 HX.out).2, .inr ⟨HR.out, rfl⟩⟩
/-- The closure of the name. -/
theorem readName_at (s : ByteArray) (G : Nat) (p : Pol) (w : World) (hG : PL w G p) :
    Calls Tryz.prog 48 #[.string s, .pointer (some ⟨G, 0, none⟩)] w (RdE G w (some { p with nm := s })) := by
  have c1 := hG.cells.c0
  have c2 := hG.soft 0
  have HF := Lib.hid (show PL (w.setCell ⟨G, 0, none⟩ (.string s)) G { p with nm := s } by
    unfold PL at hG ⊢
    rw [heap_setCell_same w G 0 _ _ _ hG]
    rfl)
  clear hG
  go_enter Tryz.func48, Tryz.ntmps48
  go_wp2_with fail
  go_ret
  exact ⟨_, grown_set (grown_refl _ _) 0 _, HF.out, .inl ⟨rfl, rfl⟩⟩
/-- The variable that holds the maker of closures. -/
def F5 (W : World) (t : Nat) : Prop := W.heap[t]? = some (.cells #[.func (.func 42) #[] #[]] 80 (0, 0))
theorem F5.ext' {W W' : World} {t : Nat} (h : F5 W t) (hx : Ext W W') : F5 W' t := hx.heap h
def SB (W : World) (t : Nat) (s : ByteArray) : Prop := W.heap[t]? = some (.cells #[.string s] 9 (0, 0))
theorem pair_at (sep : ByteArray) (a b : Addr) (t : Nat) (w : World) :
    Calls Tryz.prog 45 #[.string sep, .pointer (some a), .pointer (some b), .pointer (some ⟨t, 0, none⟩)] w fun e w' => (∃ v, e = .returned v ∧ v = .func (.func 46) #[] #[.pointer (some ⟨w.heap.size, 0, none⟩), .pointer (some ⟨t, 0, none⟩), .pointer (some ⟨w.heap.size + 1, 0, none⟩), .pointer (some ⟨w.heap.size + 1 + 1, 0, none⟩)] ∧
      SB w' w.heap.size sep ∧ PP w' (w.heap.size + 1) a ∧ PP w' (w.heap.size + 1 + 1) b) ∧ Ext w w' := by
  have hmf : ∀ (fn : Fn) (first cap : Array Value) (w : World), (Instr.makeFunc fn first cap).run Tryz.prog w = .ok (.func fn first cap) w := fun _ _ _ _ => rfl
  have h0 := heap_alloc_new w (.cells #[.string sep] 9)
  have h1 := heap_alloc_new (w.alloc (.cells #[.string sep] 9)) (.cells #[.pointer (some a)] 75)
  have h2 := heap_alloc_new ((w.alloc (.cells #[.string sep] 9)).alloc (.cells #[.pointer (some a)] 75)) (.cells #[.pointer (some b)] 75)
  rw [World.size_alloc] at h1
  rw [World.size_alloc, World.size_alloc] at h2
  have x1 := (Ext.refl (w.alloc (.cells #[.string sep] 9))).alloc (.cells #[.pointer (some a)] 75)
  have x2 := (Ext.refl ((w.alloc (.cells #[.string sep] 9)).alloc (.cells #[.pointer (some a)] 75))).alloc (.cells #[.pointer (some b)] 75)
  have H0 := Lib.hid ((x1.trans x2).heap h0); have H1 := Lib.hid (x2.heap h1); have H2 := Lib.hid h2
  have HX := Lib.hid ((((Ext.refl w).alloc (.cells #[.string sep] 9)).alloc (.cells #[.pointer (some a)] 75)).alloc (.cells #[.pointer (some b)] 75))
  clear h0 h1 h2 x1 x2
  go_enter Tryz.func45, Tryz.ntmps45
  go_wp2
  go_ret
  exact ⟨⟨_, rfl, rfl, H0.out, H1.out, H2.out⟩, HX.out⟩
theorem cut_some' {l sep a b : List UInt8} (h : cutL l sep = some (a, b)) : Lib.cut l sep = (a, b, true) := by
  unfold cutL at h
  unfold Lib.cut
  split at h
  · cases h
  · rw [if_pos (by omega)]
    injection h with h
    injection h with h1 h2
    rw [h1, h2]
theorem cut_none' {l sep : List UInt8} (h : cutL l sep = none) : Lib.cut l sep = (l, [], false) := by
  unfold cutL at h
  unfold Lib.cut
  split at h
  · rw [if_neg (by omega)]
  · cases h
theorem cutL_len {l sep a b : List UInt8} (h : cutL l sep = some (a, b)) : a.length ≤ l.length ∧ b.length ≤ l.length := by
  unfold cutL at h
  split at h
  · cases h
  · injection h with h
    injection h with h1 h2
    rw [← h1, ← h2, List.length_take, List.length_drop]
    omega
theorem heap_no {W W' : World} {G k : Nat} {o : Obj} (hg : W.grownBy W' (some G)) (h : W.heap[k]? = some o) (hne : k ≠ G) : W'.heap[k]? = some o := heap_far hg h hne
set_option maxRecDepth 100000 in
set_option maxHeartbeats 2000000 in
theorem readPair_at (s sep : ByteArray) (hs : s.size ≤ 1000) (t g1 g2 g3 G i j : Nat) (hi : 1 ≤ i ∧ i ≤ 9) (hj : 1 ≤ j ∧ j ≤ 9) (hne : t ≠ G ∧ g1 ≠ G ∧ g2 ≠ G ∧ g3 ≠ G) (p : Pol) (w : World) (hE : Env w) (hEG : ∀ w2, w.grownBy w2 (some G) → Env w2)
    (h5 : F5 w t) (hsb : SB w g1 sep) (hp2 : PP w g2 ⟨G, i, none⟩) (hp3 : PP w g3 ⟨G, j, none⟩) (hG : PL w G p) :
    Calls Tryz.prog 46 #[.string s, .pointer (some ⟨g1, 0, none⟩), .pointer (some ⟨t, 0, none⟩), .pointer (some ⟨g2, 0, none⟩), .pointer (some ⟨g3, 0, none⟩)] w (RdE G w (rdPair sep.data.toList i j s.data.toList p)) := by
  obtain ⟨m, hm⟩ := hE.maxl 2 (by kernel_rfl)
  have hcut := Tryz.strings_Cut s sep m w (by omega) hm
  have hsz := size_list s
  have c1 := (row1 hsb).1
  have HG := Lib.hid hG; have H5 := Lib.hid h5; have HP2 := Lib.hid hp2; have HP3 := Lib.hid hp3; have HEG := Lib.hid hEG
  obtain ⟨n1, n2, n3, n4⟩ := hne
  cases hc : cutL s.data.toList sep.data.toList with
  | none =>
    rw [cut_none' hc] at hcut
    have HCU := Lib.hid hcut
    have HR := Lib.hid (show rdPair sep.data.toList i j s.data.toList p = none by unfold rdPair pairV; rw [hc])
    clear hc hcut h5 hsb hp2 hp3 hG hE hEG hsz
    go_enter Tryz.func46, Tryz.ntmps46
    go_wp2_with fail
    refine HCU.out.mono ?_
    rintro _ w2 ⟨rfl, n, hw2⟩
    have HX := Lib.hid (show Ext w w2 from hw2 ▸ (Ext.refl w).drewN n)
    clear hw2
    go_wp2_with fail
    go_ret
    exact ⟨_, HX.out.but _, HG.out.ext HX.out, .inr ⟨HR.out, rfl⟩⟩
  | some ab =>
    obtain ⟨a, b⟩ := ab
    rw [cut_some' hc] at hcut
    have HCU := Lib.hid hcut
    have hla := (cutL_len hc).1
    have hlb := (cutL_len hc).2
    have ha1 : (⟨a.toArray⟩ : ByteArray).size ≤ 1000 := by show a.toArray.size ≤ 1000; simp; omega
    have hb1 : (⟨b.toArray⟩ : ByteArray).size ≤ 1000 := by show b.toArray.size ≤ 1000; simp; omega
    have HA := Lib.hid ha1; have HB := Lib.hid hb1; have HCC := Lib.hid hc
    clear hc hcut h5 hsb hp2 hp3 hG hE hEG hsz hla hlb ha1 hb1
    cases hna : numV a with
    | none =>
      have HR := Lib.hid (show rdPair sep.data.toList i j s.data.toList p = none by unfold rdPair pairV; rw [HCC.out]; simp only [hna])
      have HNA := Lib.hid (show rdNum i a p = none by unfold rdNum; rw [hna])
      clear hna
      go_enter Tryz.func46, Tryz.ntmps46
      go_wp2_with fail
      refine HCU.out.mono ?_
      rintro _ w2 ⟨rfl, n, hw2⟩
      have hx2 : Ext w w2 := hw2 ▸ (Ext.refl w).drewN n
      have k1 := (row1 (H5.out.ext' hx2)).1
      have k2 := (row1 (HP2.out.ext hx2)).1
      have HX := Lib.hid hx2
      clear hw2 hx2
      go_wp2_with fail
      refine (number_at _ w2).mono ?_
      rintro _ w3 ⟨⟨v, rfl, rfl, hpp⟩, hx3⟩
      have HX3 := Lib.hid (HX.out.trans hx3); have HPP := Lib.hid hpp
      clear hx3 hpp
      go_wp2_with fail
      refine (readNum_at ⟨a.toArray⟩ HA.out w2.heap.size G i hi.1 hi.2 p w3 (HEG.out w3 (HX3.out.but _)) HPP.out (HG.out.ext HX3.out)).mono ?_
      rintro _ w4 ⟨q, hg4, hq4, (⟨hq, rfl⟩ | ⟨hq, rfl⟩)⟩
      · rw [show (⟨a.toArray⟩ : ByteArray).data.toList = a by simp, HNA.out] at hq
        cases hq
      · have HQ := Lib.hid hq4; have HG4 := Lib.hid (grown_trans (HX3.out.but _) hg4)
        clear hq4 hg4 hq
        go_wp2_with fail
        go_ret
        exact ⟨q, HG4.out, HQ.out, .inr ⟨HR.out, rfl⟩⟩
    | some x =>
      have HNA := Lib.hid (show rdNum i a p = some (p.set i x) by unfold rdNum; rw [hna])
      have HRB := Lib.hid (show rdPair sep.data.toList i j s.data.toList p = rdNum j b (p.set i x) by
        unfold rdPair pairV rdNum; rw [HCC.out]; simp only [hna]; cases numV b <;> rfl)
      clear hna
      go_enter Tryz.func46, Tryz.ntmps46
      go_wp2_with fail
      refine HCU.out.mono ?_
      rintro _ w2 ⟨rfl, n, hw2⟩
      have hx2 : Ext w w2 := hw2 ▸ (Ext.refl w).drewN n
      have k1 := (row1 (H5.out.ext' hx2)).1
      have k2 := (row1 (HP2.out.ext hx2)).1
      have HX := Lib.hid hx2
      clear hw2 hx2
      go_wp2_with fail
      refine (number_at _ w2).mono ?_
      rintro _ w3 ⟨⟨v, rfl, rfl, hpp⟩, hx3⟩
      have HX3 := Lib.hid (HX.out.trans hx3); have HPP := Lib.hid hpp
      clear hx3 hpp
      go_wp2_with fail
      refine (readNum_at ⟨a.toArray⟩ HA.out w2.heap.size G i hi.1 hi.2 p w3 (HEG.out w3 (HX3.out.but _)) HPP.out (HG.out.ext HX3.out)).mono ?_
      rintro _ w4 ⟨q, hg4, hq4, (⟨hq, rfl⟩ | ⟨hq, rfl⟩)⟩
      · rw [show (⟨a.toArray⟩ : ByteArray).data.toList = a by simp, HNA.out] at hq
        injection hq with hq
        subst hq
        have hg4' := grown_trans (HX3.out.but (some G)) hg4
        have k3 := (row1 (heap_no hg4' H5.out n1)).1
        have k4 := (row1 (heap_no hg4' HP3.out n4)).1
        have HQ := Lib.hid hq4; have HG4 := Lib.hid hg4'
        clear hq4 hg4 hg4'
        go_wp2_with fail
        refine (number_at _ w4).mono ?_
        rintro _ w5 ⟨⟨v, rfl, rfl, hpp⟩, hx5⟩
        have HX5 := Lib.hid hx5; have HPP5 := Lib.hid hpp; have HG5 := Lib.hid (grown_trans HG4.out (hx5.but _))
        clear hx5 hpp
        go_wp2_with fail
        refine (readNum_at ⟨b.toArray⟩ HB.out w4.heap.size G j hj.1 hj.2 (p.set i x) w5 (HEG.out w5 HG5.out) HPP5.out (HQ.out.ext HX5.out)).mono ?_
        rintro _ w6 ⟨q, hg6, hq6, hq⟩
        rw [show (⟨b.toArray⟩ : ByteArray).data.toList = b by simp, ← HRB.out] at hq
        have HQ6 := Lib.hid hq6; have HG6 := Lib.hid (grown_trans HG5.out hg6)
        clear hq6 hg6
        rcases hq with ⟨hq, rfl⟩ | ⟨hq, rfl⟩
        · have HQQ := Lib.hid hq
          clear hq
          go_wp2_with fail
          go_ret
          exact ⟨q, HG6.out, HQ6.out, .inl ⟨HQQ.out, rfl⟩⟩
        · have HQQ := Lib.hid hq
          clear hq
          go_wp2_with fail
          go_ret
          exact ⟨q, HG6.out, HQ6.out, .inr ⟨HQQ.out, rfl⟩⟩
      · rw [show (⟨a.toArray⟩ : ByteArray).data.toList = a by simp, HNA.out] at hq
        cases hq
end Go.Proofs.YtgfjmmdkdhodiaaGreatDoor
