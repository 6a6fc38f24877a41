/- Texts laid together (wip/tools/automerge.py): Gr9, Gr13, Gr14, Gr20. -/
import Derived.Test.YtnjmndofcpnmeaaGreatDoorTx40
import Derived.Test.YtnjmndofcpnmeaaGreatDoorTx41
import Derived.Test.YtnjmndofcpnmeaaGreatDoorTx29
import Derived.BigQuiet
import Derived.Test.YtnjmndofcpnmeaaGreatDoorTx16
namespace Go.Proofs.YtnjmndofcpnmeaaGreatDoor
open Go Go.RowKit Go.Maps
set_option linter.unusedVariables false

/-- An alarm, as it lies in memory. -/
structure MV where
  CA : Option Addr
  cp : List ByteArray
  cc : Nat
  cr : ByteArray
  fk : Int
  FA : Option Addr
  fb : List UInt8
  fc : Nat
  n : Int
  b : Int
  t : Int
/-- What it says. -/
structure Alm where
  cp : List (List UInt8)
  cr : List UInt8
  fk : Int
  fb : List UInt8
  n : Int
  b : Int
  t : Int
  deriving DecidableEq
def MV.alm (m : MV) : Alm := ⟨dat m.cp, m.cr.data.toList, m.fk, m.fb, m.n, m.b, m.t⟩
def MV.cs (m : MV) : List Value := [.slice m.CA m.cp.length m.cc, .string m.cr, .int .i64 m.fk, .slice m.FA m.fb.length m.fc, .int .i64 m.n, .int .i64 m.b, .int .i64 m.t]
structure MV.In (w : World) (m : MV) : Prop where
  cp : RS w (.slice m.CA m.cp.length m.cc) (sv m.cp)
  fb : BS w (.slice m.FA m.fb.length m.fc) m.fb
def MV.Blk (m : MV) (b : Nat) : Prop := m.cp ≠ [] ∧ ∃ ad, m.CA = some ad ∧ ad.block = b
theorem MV.In.ext {w w' : World} {m : MV} (h : m.In w) (hx : Ext w w') : m.In w' := ⟨h.cp.ext hx, h.fb.ext hx⟩
def EM : Ek MV where
  k := 7
  kp := by decide
  cs := MV.cs
  len := fun _ => rfl
  one := fun x u hu => by simp [MV.cs] at hu; rcases hu with rfl | rfl | rfl | rfl | rfl | rfl | rfl <;> rfl
  no8 := fun x u hu n e => by subst e; simp [MV.cs] at hu
  In := MV.In
  Blk := MV.Blk
  blt := fun w m b h hb => by
    obtain ⟨hne, ad, ha, rfl⟩ := hb
    exact (h.cp.lt (sv_ne hne) ha).1
  keep := fun w w' m row h hg hr => ⟨h.cp.off (fun hne ad ha e => (hr _ e).2 ⟨ne_sv hne, ad, ha, rfl⟩) hg, h.fb.offRow (fun b hb => (hr b hb).1) hg⟩
def almZ7 : Value := .agg #[.slice none 0 0, .string ⟨#[]⟩, .int .i64 0, .slice none 0 0, .int .i64 0, .int .i64 0, .int .i64 0]
theorem alm7_info : ∃ i : TypeInfo, Tryz.prog.info? 50 = some i ∧ i.zero = some almZ7 ∧ i.size = 7 ∧ i.bytes = 96 :=
  info_parts (show (Tryz.prog.info? 50).map (fun i => (i.zero, i.size, i.bytes)) = some (some almZ7, 7, 96) by kernel_rfl)
theorem alm7_zs : almZ7.cells.size = 7 := rfl
theorem alm7_zn : ∀ x ∈ almZ7.cells.toList, ∀ n, x ≠ .int .u8 n := by
  intro x hx n e
  subst e
  simp [almZ7, Value.cells] at hx
def M7 (w : World) (g : Nat) (m : MV) : Prop := w.heap[g]? = some (.cells #[.slice m.CA m.cp.length m.cc, .string m.cr, .int .i64 m.fk, .slice m.FA m.fb.length m.fc, .int .i64 m.n, .int .i64 m.b, .int .i64 m.t] 50 (0, 0))
theorem M7.news {w : World} {g : Nat} {m : MV} (h : M7 w g m) : ∀ j u, (EM.all [m])[j]? = some u → w.cell? ((⟨g, 0, none⟩ : Addr).add j) = some u := fun j u hu => by
  rw [Ek.all_one] at hu
  rw [add0, cell_of_row _ _ j _ _ (0, 0) h, ← hu]
  show _ = (MV.cs m)[j]?
  unfold MV.cs
  rw [← List.getElem?_toArray]
/-- What an alarm says, by the index of its last failure. -/
def almO (l : List Fct) (win : Int) (ad : Bool) (i : Nat) : Alm :=
  if ad then ⟨[], [], (atF l i).fk, (atF l i).fb, (cntF l win ad i : Int), begF l win ad i, (atF l i).t⟩ else ⟨(atF l i).cp, (atF l i).cr, 0, [], (cntF l win ad i : Int), begF l win ad i, (atF l i).t⟩
/-- The eight cells of a box. -/
theorem rw8 {w : World} {g : Nat} {t : TypeId} {a0 a1 a2 a3 a4 a5 a6 a7 : Value} (h : RW w g t #[a0, a1, a2, a3, a4, a5, a6, a7]) : (w.cell? ⟨g, 0, none⟩ = some a0 ∧ w.cell? ⟨g, 1, none⟩ = some a1 ∧ w.cell? ⟨g, 2, none⟩ = some a2 ∧ w.cell? ⟨g, 3, none⟩ = some a3 ∧ w.cell? ⟨g, 4, none⟩ = some a4 ∧ w.cell? ⟨g, 5, none⟩ = some a5 ∧ w.cell? ⟨g, 6, none⟩ = some a6 ∧ w.cell? ⟨g, 7, none⟩ = some a7) ∧ w.frozen? ⟨g, 0, none⟩ = false ∧ w.frozen? ⟨g, 1, none⟩ = false ∧ w.frozen? ⟨g, 2, none⟩ = false ∧ w.frozen? ⟨g, 3, none⟩ = false := by
  unfold RW at h
  refine ⟨⟨?_, ?_, ?_, ?_, ?_, ?_, ?_, ?_⟩, ?_, ?_, ?_, ?_⟩
  all_goals first
    | exact frozen_of_row w g _ _ _ h
    | (rw [cell_of_row _ _ _ _ _ (0, 0) h]; rfl)
/-- An element of the list of alarms, in the walk's form. -/
theorem RDS.alm_at {w : World} {A : Option Addr} {n c : Nat} {l : List Fct} {win : Int} {ad : Bool} {al : List Nat} (h : RDS (EA l win ad) w (.slice A n c) al) (k : Nat) (hk : k < al.length) : ∃ p, A = some p ∧ w.cell? (p.add (k * 8)) = some (.slice none 0 0) ∧ w.cell? ⟨(p.add (k * 8)).block, (p.add (k * 8)).off + 1, none⟩ = some (.string ⟨#[]⟩) ∧ w.cell? ⟨(p.add (k * 8)).block, (p.add (k * 8)).off + 2, none⟩ = some (.int .i64 0) ∧ w.cell? ⟨(p.add (k * 8)).block, (p.add (k * 8)).off + 3, none⟩ = some (.slice none 0 0) ∧ w.cell? ⟨(p.add (k * 8)).block, (p.add (k * 8)).off + 4, none⟩ = some (.int .i64 (cntF l win ad al[k] : Int)) ∧ w.cell? ⟨(p.add (k * 8)).block, (p.add (k * 8)).off + 5, none⟩ = some (.int .i64 (begF l win ad al[k])) ∧ w.cell? ⟨(p.add (k * 8)).block, (p.add (k * 8)).off + 6, none⟩ = some (.int .i64 (atF l al[k]).t) ∧ w.cell? ⟨(p.add (k * 8)).block, (p.add (k * 8)).off + 7, none⟩ = some (.int .i64 (al[k] : Int)) := by
  obtain ⟨A', c', he, _, _, h4⟩ := h
  injection he with e1 e2 e3
  subst e1
  obtain ⟨p, rfl, k3⟩ := h4 k hk
  change ∀ j u, (almV l win ad al[k])[j]? = some u → w.cell? (p.add (k * 8 + j)) = some u at k3
  refine ⟨p, rfl, ?_, ?_, ?_, ?_, ?_, ?_, ?_, ?_⟩
  · exact k3 0 _ rfl
  · rw [cell_addj w p (k * 8) 1 (by decide)]; exact k3 1 _ rfl
  · rw [cell_addj w p (k * 8) 2 (by decide)]; exact k3 2 _ rfl
  · rw [cell_addj w p (k * 8) 3 (by decide)]; exact k3 3 _ rfl
  · rw [cell_addj w p (k * 8) 4 (by decide)]; exact k3 4 _ rfl
  · rw [cell_addj w p (k * 8) 5 (by decide)]; exact k3 5 _ rfl
  · rw [cell_addj w p (k * 8) 6 (by decide)]; exact k3 6 _ rfl
  · rw [cell_addj w p (k * 8) 7 (by decide)]; exact k3 7 _ rfl
theorem RDS.shape {α : Type} {E : Ek α} {w : World} {v : Value} {xs : List α} (h : RDS E w v xs) : ∃ A c, v = .slice A xs.length c ∧ xs.length ≤ c ∧ c ≤ maxLen := by
  obtain ⟨A, c, h1, h2, h3, _⟩ := h
  exact ⟨A, c, h1, h2, h3⟩
/-- What Clients and Addresses hand back. -/
def ALM (l : List Fct) (win lim : Int) (ad : Bool) (w : World) (e : Ending) (w' : World) : Prop :=
  (¬ argB l win lim ∧ e = .returned (.tuple #[.slice none 0 0, .int .i64 2])) ∨
  (argB l win lim ∧ ∃ v ms, e = .returned (.tuple #[v, .int .i64 0]) ∧ ROW EM 50 w' w.heap.size v ms ∧ ms.map MV.alm = (almF l win lim ad).map (almO l win ad))
end Go.Proofs.YtnjmndofcpnmeaaGreatDoor
namespace Go.Proofs.YtnjmndofcpnmeaaGreatDoor
open Go Go.RowKit
set_option linter.unusedVariables false

/-- Two names are one. -/
def sameP (ps : List ByteArray) (r : ByteArray) (qs : List ByteArray) (t : ByteArray) : Bool := decide (r = t) && decide (ps = qs)
theorem dat_inj {ps qs : List ByteArray} (h : dat ps = dat qs) : ps = qs := by
  unfold dat at h
  exact (List.map_inj_right (fun x y e => by cases x; cases y; simp at e; exact congrArg _ e)).1 h
theorem ba_inj {r t : ByteArray} (h : r.data.toList = t.data.toList) : r = t := by cases r; cases t; simp at h; exact congrArg _ h
theorem sameP_eq (ps : List ByteArray) (r : ByteArray) (qs : List ByteArray) (t : ByteArray) : sameP ps r qs t = (decide (dat ps = dat qs) && decide (r.data.toList = t.data.toList)) := by
  unfold sameP
  rw [Bool.and_comm]
  congr 1
  · exact decide_eq_decide.2 ⟨fun e => by rw [e], dat_inj⟩
  · exact decide_eq_decide.2 ⟨fun e => by rw [e], ba_inj⟩
theorem boxes2 (w : World) (a b c d : Value) : ∃ W, ((w.alloc (.cells #[a, b] 37)).alloc (.cells #[c, d] 37)) = W ∧ RW W w.heap.size 37 #[a, b] ∧ RW W (w.heap.size + 1) 37 #[c, d] ∧ Ext w W := by
  have hT := heap_alloc_new w (.cells #[a, b] 37)
  have hU := heap_alloc_new (w.alloc (.cells #[a, b] 37)) (.cells #[c, d] 37)
  rw [World.size_alloc] at hU
  have x1 := (Ext.refl w).alloc (.cells #[a, b] 37)
  have x2 := (Ext.refl (w.alloc (.cells #[a, b] 37))).alloc (.cells #[c, d] 37)
  exact ⟨_, rfl, x2.heap hT, hU, x1.trans x2⟩
theorem rw2 {w : World} {g : Nat} {t : TypeId} {a b : Value} (h : RW w g t #[a, b]) : w.cell? ⟨g, 0, none⟩ = some a ∧ w.cell? ⟨g, 1, none⟩ = some b := by
  unfold RW at h
  refine ⟨?_, ?_⟩ <;> (rw [cell_of_row _ _ _ _ _ (0, 0) h]; rfl)
set_option maxRecDepth 100000 in
set_option maxHeartbeats 800000 in
theorem SameP_at (A : Option Addr) (c : Nat) (ps : List ByteArray) (r : ByteArray) (B : Option Addr) (d : Nat) (qs : List ByteArray) (t : ByteArray) (hn : ps.length ≤ 1000) (hm : qs.length ≤ 1000) (w : World) (hR : RS w (.slice A ps.length c) (sv ps)) (hQ : RS w (.slice B qs.length d) (sv qs)) :
    Calls Tryz.prog 38 #[.agg #[.slice A ps.length c, .string r], .agg #[.slice B qs.length d, .string t]] w fun e w' => e = .returned (.bool (sameP ps r qs t)) ∧ Ext w w' := by
  obtain ⟨W2, e2, hT, hU, hx⟩ := boxes2 w (.slice A ps.length c) (.string r) (.slice B qs.length d) (.string t)
  have HT := Lib.hid hT; have HU := Lib.hid hU; have HX := Lib.hid hx; have HR := Lib.hid (hR.ext hx); have HQ := Lib.hid (hQ.ext hx)
  obtain ⟨c0, c1⟩ := rw2 hT
  obtain ⟨d0, d1⟩ := rw2 hU
  clear hT hU hx hR hQ
  by_cases hr : r = t
  · subst hr
    by_cases hl : ps.length = qs.length
    · obtain ⟨n, hnn⟩ : ∃ n, ps.length = n := ⟨_, rfl⟩
      have HN := Lib.hid hnn
      have HM := Lib.hid (hl.symm.trans hnn)
      rw [hnn] at hn c0 HT e2 HR ⊢
      rw [hl.symm.trans hnn] at hm d0 HU e2 HQ ⊢
      clear hnn hl
      have HS := Lib.hid (show sameP ps r qs r = decide (ps = qs) by unfold sameP; simp)
      generalize sameP ps r qs r = sb at *
      go_enter Tryz.func38, Tryz.ntmps38
      go_wp2_with fail
      go_loopw [5] (fun v wr => ∃ k : Nat, v = .int .i64 (k : Int) ∧ k ≤ n ∧ Hid (ps.take k = qs.take k) ∧ Hid (Ext W2 wr)) (fun v _ => n - (intOf v).toNat)
      case atStart => exact ⟨0, rfl, by omega, Lib.hid (by simp), Lib.hid (Ext.refl _)⟩
      case round =>
        obtain ⟨k, rfl, hk, HK, HXK⟩ := hrel
        clear c0 c1 d0 d1
        obtain ⟨c0, c1⟩ := rw2 (HT.out.ext HXK.out)
        obtain ⟨d0, d1⟩ := rw2 (HU.out.ext HXK.out)
        by_cases hlt : k < n
        · have hkp : k < ps.length := by rw [HN.out]; exact hlt
          have hkq : k < qs.length := by rw [HM.out]; exact hlt
          obtain ⟨A', c', he, h1, h2, h3⟩ := HR.out
          rw [sv_length, HN.out] at he h1 h3
          injection he with e4 _ e5
          subst e4; subst e5
          obtain ⟨pa, rfl, _, hcp⟩ := h3 (by omega)
          obtain ⟨B', d', he', h1', h2', h3'⟩ := HQ.out
          rw [sv_length, HM.out] at he' h1' h3'
          injection he' with e4 _ e5
          subst e4; subst e5
          obtain ⟨qa, rfl, _, hcq⟩ := h3' (by omega)
          unfold maxLen at h2 h2'
          have y0 := HXK.out.cell (hcp k _ (sv_get ps k hkp))
          have y1 := HXK.out.cell (hcq k _ (sv_get qs k hkq))
          have HTP := Lib.hid (List.take_succ_eq_append_getElem hkp)
          have HTQ := Lib.hid (List.take_succ_eq_append_getElem hkq)
          have HGP := Lib.hid (List.getElem?_eq_getElem hkp)
          have HGQ := Lib.hid (List.getElem?_eq_getElem hkq)
          generalize ps[k] = x at *
          generalize qs[k] = y at *
          clear h3 h3' hcp hcq hkp hkq
          by_cases hxy : x = y
          · subst hxy
            go_wp2_with fail
            go_quiet (fail)
            go_wp2_with fail
            go_roundw
            case rel => exact ⟨k + 1, by go_num, by omega, Lib.hid (by rw [HTP.out, HTQ.out, HK.out]), Lib.hid (HXK.out.drewN _)⟩
            case measure => simp [intOf]; omega
          · have hq : (x.toList == y.toList) = false := by rw [beq_eq_false_iff_ne, ByteArray.toList_eq, ByteArray.toList_eq]; exact fun e => hxy (ba_inj e)
            have HNE := Lib.hid (show sb = false by rw [HS.out]; exact decide_eq_false (fun e => by
              have h5 := HGP.out
              rw [e, HGQ.out] at h5
              injection h5 with h5
              exact hxy h5.symm))
            clear hxy
            go_wp2_with fail
            go_quiet (fail)
            go_wp2_with fail
            go_ret
            exact ⟨by rw [HNE.out]; rfl, (HX.out.trans HXK.out).drewN _⟩
        · obtain rfl : k = n := by omega
          have HYES := Lib.hid (show sb = true by
            rw [HS.out]
            have h5 := HK.out
            rw [List.take_of_length_le (by rw [HN.out]; exact Nat.le_refl _), List.take_of_length_le (by rw [HM.out]; exact Nat.le_refl _)] at h5
            exact decide_eq_true h5)
          go_wp2_with fail
          go_ret
          exact ⟨by rw [HYES.out]; rfl, HX.out.trans HXK.out⟩
    · have HNE := Lib.hid (show sameP ps r qs r = false by unfold sameP; rw [decide_eq_false (fun e : ps = qs => hl (by rw [e]))]; simp)
      generalize sameP ps r qs r = sb at *
      have hq : ((ps.length : Int) == (qs.length : Int)) = false := by rw [beq_eq_false_iff_ne]; omega
      clear hl
      go_enter Tryz.func38, Tryz.ntmps38
      go_wp2_with fail
      go_ret
      exact ⟨by rw [HNE.out]; rfl, HX.out⟩
  · have HNE := Lib.hid (show sameP ps r qs t = false by unfold sameP; rw [decide_eq_false hr]; simp)
    generalize sameP ps r qs t = sb at *
    have hq : (r.toList == t.toList) = false := by rw [beq_eq_false_iff_ne, ByteArray.toList_eq, ByteArray.toList_eq]; exact fun e => hr (ba_inj e)
    clear hr
    go_enter Tryz.func38, Tryz.ntmps38
    go_wp2_with fail
    go_ret
    exact ⟨by rw [HNE.out]; rfl, HX.out⟩
end Go.Proofs.YtnjmndofcpnmeaaGreatDoor
namespace Go.Proofs.YtnjmndofcpnmeaaGreatDoor
open Go Go.RowKit
set_option linter.unusedVariables false

def A7 (w : World) (g : Nat) (m : MV) : Prop := RW w g 50 #[.slice m.CA m.cp.length m.cc, .string m.cr, .int .i64 m.fk, .slice m.FA m.fb.length m.fc, .int .i64 m.n, .int .i64 m.b, .int .i64 m.t]
theorem A7.ext {w w' : World} {g : Nat} {m : MV} (h : A7 w g m) (hx : Ext w w') : A7 w' g m := RW.ext h hx
theorem A7.cells {w : World} {g : Nat} {m : MV} (h : A7 w g m) : w.cell? ⟨g, 0, none⟩ = some (.slice m.CA m.cp.length m.cc) ∧ w.cell? ⟨g, 1, none⟩ = some (.string m.cr) ∧ w.cell? ⟨g, 2, none⟩ = some (.int .i64 m.fk) ∧ w.cell? ⟨g, 3, none⟩ = some (.slice m.FA m.fb.length m.fc) ∧ w.cell? ⟨g, 4, none⟩ = some (.int .i64 m.n) ∧ w.cell? ⟨g, 5, none⟩ = some (.int .i64 m.b) ∧ w.cell? ⟨g, 6, none⟩ = some (.int .i64 m.t) := by
  unfold A7 RW at h
  refine ⟨?_, ?_, ?_, ?_, ?_, ?_, ?_⟩ <;> (rw [cell_of_row _ _ _ _ _ (0, 0) h]; rfl)
theorem boxesA (w : World) (m q : MV) : ∃ W, ((w.alloc (.cells #[.slice m.CA m.cp.length m.cc, .string m.cr, .int .i64 m.fk, .slice m.FA m.fb.length m.fc, .int .i64 m.n, .int .i64 m.b, .int .i64 m.t] 50)).alloc (.cells #[.slice q.CA q.cp.length q.cc, .string q.cr, .int .i64 q.fk, .slice q.FA q.fb.length q.fc, .int .i64 q.n, .int .i64 q.b, .int .i64 q.t] 50)) = W ∧ A7 W w.heap.size m ∧ A7 W (w.heap.size + 1) q ∧ Ext w W := by
  have hT := heap_alloc_new w (.cells #[.slice m.CA m.cp.length m.cc, .string m.cr, .int .i64 m.fk, .slice m.FA m.fb.length m.fc, .int .i64 m.n, .int .i64 m.b, .int .i64 m.t] 50)
  have hU := heap_alloc_new (w.alloc (.cells #[.slice m.CA m.cp.length m.cc, .string m.cr, .int .i64 m.fk, .slice m.FA m.fb.length m.fc, .int .i64 m.n, .int .i64 m.b, .int .i64 m.t] 50)) (.cells #[.slice q.CA q.cp.length q.cc, .string q.cr, .int .i64 q.fk, .slice q.FA q.fb.length q.fc, .int .i64 q.n, .int .i64 q.b, .int .i64 q.t] 50)
  rw [World.size_alloc] at hU
  have x1 := (Ext.refl w).alloc (.cells #[.slice m.CA m.cp.length m.cc, .string m.cr, .int .i64 m.fk, .slice m.FA m.fb.length m.fc, .int .i64 m.n, .int .i64 m.b, .int .i64 m.t] 50)
  have x2 := (Ext.refl (w.alloc (.cells #[.slice m.CA m.cp.length m.cc, .string m.cr, .int .i64 m.fk, .slice m.FA m.fb.length m.fc, .int .i64 m.n, .int .i64 m.b, .int .i64 m.t] 50))).alloc (.cells #[.slice q.CA q.cp.length q.cc, .string q.cr, .int .i64 q.fk, .slice q.FA q.fb.length q.fc, .int .i64 q.n, .int .i64 q.b, .int .i64 q.t] 50)
  exact ⟨_, rfl, x2.heap hT, hU, x1.trans x2⟩
/-- Two alarms are one. -/
def sameA (m q : MV) : Bool := ((((sameP m.cp m.cr q.cp q.cr && (m.fk == q.fk && m.fb == q.fb)) && m.n == q.n) && m.b == q.b) && m.t == q.t)
theorem sameA_alm {m q : MV} (h : m.alm = q.alm) : sameA m q = true := by
  unfold MV.alm at h
  simp only [Alm.mk.injEq] at h
  obtain ⟨h1, h2, h3, h4, h5, h6, h7⟩ := h
  unfold sameA
  rw [sameP_eq, h1, h2, h3, h4, h5, h6, h7]
  simp
set_option maxRecDepth 100000 in
set_option maxHeartbeats 1000000 in
theorem SameA_at (m q : MV) (w : World) (hm : m.In w) (hq : q.In w) (hml : m.cp.length ≤ 1000) (hql : q.cp.length ≤ 1000) :
    Calls Tryz.prog 17 #[.agg #[.slice m.CA m.cp.length m.cc, .string m.cr, .int .i64 m.fk, .slice m.FA m.fb.length m.fc, .int .i64 m.n, .int .i64 m.b, .int .i64 m.t], .agg #[.slice q.CA q.cp.length q.cc, .string q.cr, .int .i64 q.fk, .slice q.FA q.fb.length q.fc, .int .i64 q.n, .int .i64 q.b, .int .i64 q.t]] w fun e w' => e = .returned (.bool (sameA m q)) ∧ Ext w w' := by
  obtain ⟨W2, e2, h0, h1, hx⟩ := boxesA w m q
  have HM := Lib.hid h0; have HQ := Lib.hid h1; have HX := Lib.hid hx
  have HC0 := Lib.hid (fun W (hw : Ext W2 W) => SameP_at m.CA m.cc m.cp m.cr q.CA q.cc q.cp q.cr hml hql W (hm.cp.ext (hx.trans hw)) (hq.cp.ext (hx.trans hw)))
  have HC1 := Lib.hid (fun W (hw : Ext W2 W) => RAEqual_at m.fk q.fk m.fb q.fb m.FA q.FA m.fc q.fc W (hm.fb.ext (hx.trans hw)) (hq.fb.ext (hx.trans hw)))
  unfold adv at HC1
  have hsa : sameA m q = ((((sameP m.cp m.cr q.cp q.cr && (m.fk == q.fk && m.fb == q.fb)) && m.n == q.n) && m.b == q.b) && m.t == q.t) := rfl
  rw [hsa]
  clear hsa
  obtain ⟨pc, hpc⟩ : ∃ b, sameP m.cp m.cr q.cp q.cr = b := ⟨_, rfl⟩
  obtain ⟨ac, hac⟩ : ∃ b, (m.fk == q.fk && m.fb == q.fb) = b := ⟨_, rfl⟩
  rw [hpc] at HC0 ⊢
  rw [hac] at HC1 ⊢
  clear hpc hac h0 h1 hx hm hq
  obtain ⟨p1, hp1⟩ : ∃ p1 : Bool, (pc && ac) = p1 := ⟨_, rfl⟩
  have Hp1 := Lib.hid hp1; clear hp1
  obtain ⟨q2, hq2⟩ : ∃ q2 : Bool, (m.n == q.n) = q2 := ⟨_, rfl⟩
  have Hq2 := Lib.hid hq2; clear hq2
  obtain ⟨p3, hp3⟩ : ∃ p3 : Bool, (p1 && q2) = p3 := ⟨_, rfl⟩
  have Hp3 := Lib.hid hp3; clear hp3
  obtain ⟨q4, hq4⟩ : ∃ q4 : Bool, (m.b == q.b) = q4 := ⟨_, rfl⟩
  have Hq4 := Lib.hid hq4; clear hq4
  obtain ⟨p5, hp5⟩ : ∃ p5 : Bool, (p3 && q4) = p5 := ⟨_, rfl⟩
  have Hp5 := Lib.hid hp5; clear hp5
  obtain ⟨q6, hq6⟩ : ∃ q6 : Bool, (m.t == q.t) = q6 := ⟨_, rfl⟩
  have Hq6 := Lib.hid hq6; clear hq6
  obtain ⟨p7, hp7⟩ : ∃ p7 : Bool, (p5 && q6) = p7 := ⟨_, rfl⟩
  have Hp7 := Lib.hid hp7; clear hp7
  have HX0 := Lib.hid (Ext.refl W2)
  go_enter Tryz.func17, Tryz.ntmps17
  go_upto_region 1 with fail
  refine wp_region_lit ?_
  refine wpL_val (.pointer (some ⟨w.heap.size, 0, none⟩)) rfl (fun K' hK' => ?_) ?_
  · go_step
    exact hK'
  simp only [Act.put, List.setIfInBounds_toArray, List.set_cons_succ, List.set_cons_zero]
  refine wpL_val (.agg #[.slice m.CA m.cp.length m.cc, .string m.cr]) rfl (fun K' hK' => ?_) ?_
  · obtain ⟨u0, u1, u2, u3, u4, u5, u6⟩ := (HM.out.ext HX0.out).cells
    go_step
    exact hK'
  simp only [Act.put, List.setIfInBounds_toArray, List.set_cons_succ, List.set_cons_zero]
  refine wpL_val (.pointer (some ⟨(w.heap.size + 1), 0, none⟩)) rfl (fun K' hK' => ?_) ?_
  · go_step
    exact hK'
  simp only [Act.put, List.setIfInBounds_toArray, List.set_cons_succ, List.set_cons_zero]
  refine wpL_val (.agg #[.slice q.CA q.cp.length q.cc, .string q.cr]) rfl (fun K' hK' => ?_) ?_
  · obtain ⟨u0, u1, u2, u3, u4, u5, u6⟩ := (HQ.out.ext HX0.out).cells
    go_step
    exact hK'
  simp only [Act.put, List.setIfInBounds_toArray, List.set_cons_succ, List.set_cons_zero]
  refine wpL_symcall true (.bool pc) (rfl) (fun hc K' hK' => ?_) (fun wc9 hx => ?_)
  · skip
    try simp only [cond_true]
    go_step
    refine (HC0.out W2 HX0.out).mono ?_
    rintro _ w2 ⟨rfl, hx⟩
    exact hK' _ hx
  have HX9 := Lib.hid (HX0.out.trans hx); clear hx
  simp only [cond_true, Act.put, List.setIfInBounds_toArray, List.set_cons_succ, List.set_cons_zero]
  refine wpL_val (.bool pc) rfl (fun K' hK' => ?_) ?_
  · go_step
    exact hK'
  simp only [Act.put, List.setIfInBounds_toArray, List.set_cons_succ, List.set_cons_zero]
  refine wpL_sym pc (.pointer (some ⟨w.heap.size, 2, none⟩)) (by cases pc <;> kernel_rfl) (fun hc K' hK' => ?_) ?_
  · subst hc
    try simp only [cond_true]
    go_step
    exact hK'
  simp only [Act.put, List.setIfInBounds_toArray, List.set_cons_succ, List.set_cons_zero]
  refine wpL_sym pc (.agg #[.int .i64 m.fk, .slice m.FA m.fb.length m.fc]) (by cases pc <;> kernel_rfl) (fun hc K' hK' => ?_) ?_
  · subst hc
    try simp only [cond_true]
    obtain ⟨u0, u1, u2, u3, u4, u5, u6⟩ := (HM.out.ext HX9.out).cells
    go_step
    exact hK'
  simp only [Act.put, List.setIfInBounds_toArray, List.set_cons_succ, List.set_cons_zero]
  refine wpL_sym pc (.pointer (some ⟨(w.heap.size + 1), 2, none⟩)) (by cases pc <;> kernel_rfl) (fun hc K' hK' => ?_) ?_
  · subst hc
    try simp only [cond_true]
    go_step
    exact hK'
  simp only [Act.put, List.setIfInBounds_toArray, List.set_cons_succ, List.set_cons_zero]
  refine wpL_sym pc (.agg #[.int .i64 q.fk, .slice q.FA q.fb.length q.fc]) (by cases pc <;> kernel_rfl) (fun hc K' hK' => ?_) ?_
  · subst hc
    try simp only [cond_true]
    obtain ⟨u0, u1, u2, u3, u4, u5, u6⟩ := (HQ.out.ext HX9.out).cells
    go_step
    exact hK'
  simp only [Act.put, List.setIfInBounds_toArray, List.set_cons_succ, List.set_cons_zero]
  refine wpL_symcall pc (.bool ac) (by cases pc <;> kernel_rfl) (fun hc K' hK' => ?_) (fun wc15 hx => ?_)
  · subst hc
    try simp only [cond_true]
    go_step
    refine (HC1.out wc9 HX9.out).mono ?_
    rintro _ w2 ⟨rfl, hx⟩
    exact hK' _ hx
  have HX15 := Lib.hid (HX9.out.trans hx); clear hx
  simp only [Act.put, List.setIfInBounds_toArray, List.set_cons_succ, List.set_cons_zero]
  refine wpL_val (.bool p1) rfl (fun K' hK' => ?_) ?_
  · have hp := Hp1.out
    subst hp
    cases pc
    · go_step
      exact hK'
    · go_step
      exact hK'
  simp only [Act.put, List.setIfInBounds_toArray, List.set_cons_succ, List.set_cons_zero]
  refine wpL_val (.bool p1) rfl (fun K' hK' => ?_) ?_
  · go_step
    exact hK'
  simp only [Act.put, List.setIfInBounds_toArray, List.set_cons_succ, List.set_cons_zero]
  refine wpL_sym p1 (.pointer (some ⟨w.heap.size, 4, none⟩)) (by cases p1 <;> kernel_rfl) (fun hc K' hK' => ?_) ?_
  · subst hc
    try simp only [cond_true]
    go_step
    exact hK'
  simp only [Act.put, List.setIfInBounds_toArray, List.set_cons_succ, List.set_cons_zero]
  refine wpL_sym p1 (.int .i64 m.n) (by cases p1 <;> kernel_rfl) (fun hc K' hK' => ?_) ?_
  · subst hc
    try simp only [cond_true]
    obtain ⟨u0, u1, u2, u3, u4, u5, u6⟩ := (HM.out.ext HX15.out).cells
    go_step
    exact hK'
  simp only [Act.put, List.setIfInBounds_toArray, List.set_cons_succ, List.set_cons_zero]
  refine wpL_sym p1 (.pointer (some ⟨(w.heap.size + 1), 4, none⟩)) (by cases p1 <;> kernel_rfl) (fun hc K' hK' => ?_) ?_
  · subst hc
    try simp only [cond_true]
    go_step
    exact hK'
  simp only [Act.put, List.setIfInBounds_toArray, List.set_cons_succ, List.set_cons_zero]
  refine wpL_sym p1 (.int .i64 q.n) (by cases p1 <;> kernel_rfl) (fun hc K' hK' => ?_) ?_
  · subst hc
    try simp only [cond_true]
    obtain ⟨u0, u1, u2, u3, u4, u5, u6⟩ := (HQ.out.ext HX15.out).cells
    go_step
    exact hK'
  simp only [Act.put, List.setIfInBounds_toArray, List.set_cons_succ, List.set_cons_zero]
  refine wpL_sym p1 (.bool q2) (by cases p1 <;> kernel_rfl) (fun hc K' hK' => ?_) ?_
  · subst hc
    try simp only [cond_true]
    have hq := Hq2.out
    subst hq
    go_step
    exact hK'
  simp only [Act.put, List.setIfInBounds_toArray, List.set_cons_succ, List.set_cons_zero]
  refine wpL_val (.bool p3) rfl (fun K' hK' => ?_) ?_
  · have hp := Hp3.out
    subst hp
    cases p1
    · go_step
      exact hK'
    · go_step
      exact hK'
  simp only [Act.put, List.setIfInBounds_toArray, List.set_cons_succ, List.set_cons_zero]
  refine wpL_val (.bool p3) rfl (fun K' hK' => ?_) ?_
  · go_step
    exact hK'
  simp only [Act.put, List.setIfInBounds_toArray, List.set_cons_succ, List.set_cons_zero]
  refine wpL_sym p3 (.pointer (some ⟨w.heap.size, 5, none⟩)) (by cases p3 <;> kernel_rfl) (fun hc K' hK' => ?_) ?_
  · subst hc
    try simp only [cond_true]
    go_step
    exact hK'
  simp only [Act.put, List.setIfInBounds_toArray, List.set_cons_succ, List.set_cons_zero]
  refine wpL_sym p3 (.int .i64 m.b) (by cases p3 <;> kernel_rfl) (fun hc K' hK' => ?_) ?_
  · subst hc
    try simp only [cond_true]
    obtain ⟨u0, u1, u2, u3, u4, u5, u6⟩ := (HM.out.ext HX15.out).cells
    go_step
    exact hK'
  simp only [Act.put, List.setIfInBounds_toArray, List.set_cons_succ, List.set_cons_zero]
  refine wpL_sym p3 (.pointer (some ⟨(w.heap.size + 1), 5, none⟩)) (by cases p3 <;> kernel_rfl) (fun hc K' hK' => ?_) ?_
  · subst hc
    try simp only [cond_true]
    go_step
    exact hK'
  simp only [Act.put, List.setIfInBounds_toArray, List.set_cons_succ, List.set_cons_zero]
  refine wpL_sym p3 (.int .i64 q.b) (by cases p3 <;> kernel_rfl) (fun hc K' hK' => ?_) ?_
  · subst hc
    try simp only [cond_true]
    obtain ⟨u0, u1, u2, u3, u4, u5, u6⟩ := (HQ.out.ext HX15.out).cells
    go_step
    exact hK'
  simp only [Act.put, List.setIfInBounds_toArray, List.set_cons_succ, List.set_cons_zero]
  refine wpL_sym p3 (.bool q4) (by cases p3 <;> kernel_rfl) (fun hc K' hK' => ?_) ?_
  · subst hc
    try simp only [cond_true]
    have hq := Hq4.out
    subst hq
    go_step
    exact hK'
  simp only [Act.put, List.setIfInBounds_toArray, List.set_cons_succ, List.set_cons_zero]
  refine wpL_val (.bool p5) rfl (fun K' hK' => ?_) ?_
  · have hp := Hp5.out
    subst hp
    cases p3
    · go_step
      exact hK'
    · go_step
      exact hK'
  simp only [Act.put, List.setIfInBounds_toArray, List.set_cons_succ, List.set_cons_zero]
  refine wpL_val (.bool p5) rfl (fun K' hK' => ?_) ?_
  · go_step
    exact hK'
  simp only [Act.put, List.setIfInBounds_toArray, List.set_cons_succ, List.set_cons_zero]
  refine wpL_sym p5 (.pointer (some ⟨w.heap.size, 6, none⟩)) (by cases p5 <;> kernel_rfl) (fun hc K' hK' => ?_) ?_
  · subst hc
    try simp only [cond_true]
    go_step
    exact hK'
  simp only [Act.put, List.setIfInBounds_toArray, List.set_cons_succ, List.set_cons_zero]
  refine wpL_sym p5 (.int .i64 m.t) (by cases p5 <;> kernel_rfl) (fun hc K' hK' => ?_) ?_
  · subst hc
    try simp only [cond_true]
    obtain ⟨u0, u1, u2, u3, u4, u5, u6⟩ := (HM.out.ext HX15.out).cells
    go_step
    exact hK'
  simp only [Act.put, List.setIfInBounds_toArray, List.set_cons_succ, List.set_cons_zero]
  refine wpL_sym p5 (.pointer (some ⟨(w.heap.size + 1), 6, none⟩)) (by cases p5 <;> kernel_rfl) (fun hc K' hK' => ?_) ?_
  · subst hc
    try simp only [cond_true]
    go_step
    exact hK'
  simp only [Act.put, List.setIfInBounds_toArray, List.set_cons_succ, List.set_cons_zero]
  refine wpL_sym p5 (.int .i64 q.t) (by cases p5 <;> kernel_rfl) (fun hc K' hK' => ?_) ?_
  · subst hc
    try simp only [cond_true]
    obtain ⟨u0, u1, u2, u3, u4, u5, u6⟩ := (HQ.out.ext HX15.out).cells
    go_step
    exact hK'
  simp only [Act.put, List.setIfInBounds_toArray, List.set_cons_succ, List.set_cons_zero]
  refine wpL_sym p5 (.bool q6) (by cases p5 <;> kernel_rfl) (fun hc K' hK' => ?_) ?_
  · subst hc
    try simp only [cond_true]
    have hq := Hq6.out
    subst hq
    go_step
    exact hK'
  simp only [Act.put, List.setIfInBounds_toArray, List.set_cons_succ, List.set_cons_zero]
  refine wpL_val (.bool p7) rfl (fun K' hK' => ?_) ?_
  · have hp := Hp7.out
    subst hp
    cases p5
    · go_step
      exact hK'
    · go_step
      exact hK'
  simp only [Act.put, List.setIfInBounds_toArray, List.set_cons_succ, List.set_cons_zero]
  go_wp2_with fail
  go_ret
  refine ⟨?_, HX.out.trans HX15.out⟩
  have h := Hp7.out; subst h
  have h := Hq6.out; subst h
  have h := Hp5.out; subst h
  have h := Hq4.out; subst h
  have h := Hp3.out; subst h
  have h := Hq2.out; subst h
  have h := Hp1.out; subst h
  rfl
end Go.Proofs.YtnjmndofcpnmeaaGreatDoor
namespace Go.Proofs.YtnjmndofcpnmeaaGreatDoor
open Go Go.RowKit
set_option linter.unusedVariables false

def FQ (w : World) (g : Nat) (m : FV) : Prop := FBx w g m
theorem FQ.ext {w w' : World} {g : Nat} {m : FV} (h : FQ w g m) (hx : Ext w w') : FQ w' g m := FBx.ext h hx
theorem FQ.cells {w : World} {g : Nat} {m : FV} (h : FQ w g m) : w.cell? ⟨g, 0, none⟩ = some (.int .i64 m.t) ∧ w.cell? ⟨g, 1, none⟩ = some (.int .i64 m.mi) ∧ w.cell? ⟨g, 2, none⟩ = some (.int .i64 m.kd) ∧ w.cell? ⟨g, 3, none⟩ = some (.int .i64 m.fk) ∧ w.cell? ⟨g, 4, none⟩ = some (.slice m.FA m.fb.length m.fc) ∧ w.cell? ⟨g, 5, none⟩ = some (.slice m.CA m.cp.length m.cc) ∧ w.cell? ⟨g, 6, none⟩ = some (.string m.cr) ∧ w.cell? ⟨g, 7, none⟩ = some (.slice m.SA m.sp.length m.sc) ∧ w.cell? ⟨g, 8, none⟩ = some (.string m.sr) ∧ w.cell? ⟨g, 9, none⟩ = some (.int .i64 m.co) ∧ w.cell? ⟨g, 10, none⟩ = some (.int .i64 m.pr) ∧ w.cell? ⟨g, 11, none⟩ = some (.int .u32 (m.fl.toNat : Int)) := by
  obtain ⟨t, mi, kd, fk, FA, fb, fc, CA, cp, cc, cr, SA, sp, sc, sr, co, pr, fl⟩ := m
  exact FBx.cells h
end Go.Proofs.YtnjmndofcpnmeaaGreatDoor
