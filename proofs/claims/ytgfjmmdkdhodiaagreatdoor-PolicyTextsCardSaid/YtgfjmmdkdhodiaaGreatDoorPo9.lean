/- Policy: broken. (wip/tools/genpo9.py printed this.) -/
import Derived.Test.YtgfjmmdkdhodiaaGreatDoorPo8
import Derived.Test.YtgfjmmdkdhodiaaGreatDoorMg0
import Derived.Test.YtgfjmmdkdhodiaaGreatDoorMg1
import Derived.Laws.Rows
import Derived.Laws.EntriesVeiled
namespace Go.Proofs.YtgfjmmdkdhodiaaGreatDoor
open Go Go.RowKit Go.Maps
set_option linter.unusedVariables false

theorem zeroInt (w : World) : (zeroValue 3).run Tryz.prog w = .ok (.int .i64 0) w := by kernel_rfl
theorem lawInt : Keyed Tryz.prog 3 := int_keyed Tryz.underlying3
theorem lawU8 : Keyed Tryz.prog 5 := int_keyed Tryz.underlying5
theorem wf_i64 {n : Int} (h0 : 0 ≤ n) (h1 : n ≤ 1000) : (Lit.int .i64 n).wf = true := by
  simp only [Lit.wf, IntKind.min, IntKind.max, IntKind.signed, IntKind.bits, Bool.and_eq_true, decide_eq_true_eq]
  simp; omega
theorem Class_q (c : UInt8) (w : World) : Calls Tryz.prog 12 #[.int .u8 (c.toNat : Int)] w fun e w' => e = .returned (.int .i64 (cls c : Int)) ∧ w' = w := (Class_at c w).mono fun _ _ h => ⟨h.1, h.2.symm⟩
theorem wf_u8 (c : UInt8) : (Lit.int .u8 (c.toNat : Int)).wf = true := by
  have := c.toNat_lt
  simp only [Lit.wf, IntKind.min, IntKind.max, IntKind.signed, IntKind.bits, Bool.and_eq_true]
  simp; omega
/-- What lies there while the bytes are counted. -/
structure BI (w : World) (p : Pol) (A1 : Option Addr) (n1 c1 : Nat) (r : ByteArray) (A : Option Addr) (n c : Nat) (l1 l2 : List Nat) (k : Nat) (W : World) : Prop where
  pl : PL W w.heap.size p
  nb : NB W (w.heap.size + 1) (.slice A1 n1 c1) r
  xb : XB W (w.heap.size + 1 + 1) A n c
  m1 : MB 96 W (w.heap.size + 1 + 1 + 1 + 1 + 1) (w.heap.size + 1 + 1 + 1)
  m2 : MB 97 W (w.heap.size + 1 + 1 + 1 + 1 + 1 + 1) (w.heap.size + 1 + 1 + 1 + 1)
  k1 : MK .i64 3 6 W (w.heap.size + 1 + 1 + 1) k l1
  k2 : MK .u8 5 256 W (w.heap.size + 1 + 1 + 1 + 1) k l2
  ext : Ext w W
  sz : w.heap.size + 7 ≤ W.heap.size
theorem BI.start (w : World) (p : Pol) (A1 : Option Addr) (n1 c1 : Nat) (r : ByteArray) (A : Option Addr) (n c : Nat) :
    BI w p A1 n1 c1 r A n c [] [] 0 (((((((w.alloc (.cells p.cs 23)).alloc (.cells #[.slice A1 n1 c1, .string r] 30)).alloc (.cells #[.slice A n c] 31)).alloc (.map #[] 0)).alloc (.map #[] 0)).alloc
      (.cells #[.map (some (w.heap.size + 1 + 1 + 1))] 96)).alloc (.cells #[.map (some (w.heap.size + 1 + 1 + 1 + 1))] 97)) := by
  have h0 := heap_alloc_new w (.cells p.cs 23)
  obtain ⟨W1, e1⟩ : ∃ W, w.alloc (.cells p.cs 23) = W := ⟨_, rfl⟩
  have x1 : Ext w W1 := e1 ▸ (Ext.refl w).alloc _
  have z1 : W1.heap.size = w.heap.size + 1 := by rw [← e1]; simp
  rw [e1] at h0 ⊢
  have h1 := heap_alloc_new W1 (.cells #[.slice A1 n1 c1, .string r] 30)
  obtain ⟨W2, e2⟩ : ∃ W, W1.alloc (.cells #[.slice A1 n1 c1, .string r] 30) = W := ⟨_, rfl⟩
  have x2 : Ext W1 W2 := e2 ▸ (Ext.refl W1).alloc _
  have z2 : W2.heap.size = w.heap.size + 1 + 1 := by rw [← e2]; simp [z1]
  rw [e2, z1] at h1
  rw [e2]
  have h2 := heap_alloc_new W2 (.cells #[.slice A n c] 31)
  obtain ⟨W3, e3⟩ : ∃ W, W2.alloc (.cells #[.slice A n c] 31) = W := ⟨_, rfl⟩
  have x3 : Ext W2 W3 := e3 ▸ (Ext.refl W2).alloc _
  have z3 : W3.heap.size = w.heap.size + 1 + 1 + 1 := by rw [← e3]; simp [z2]
  rw [e3, z2] at h2
  rw [e3]
  have h3 := MK.new .i64 3 6 W3
  obtain ⟨W4, e4⟩ : ∃ W, W3.alloc (.map #[] 0) = W := ⟨_, rfl⟩
  have x4 : Ext W3 W4 := e4 ▸ (Ext.refl W3).alloc _
  have z4 : W4.heap.size = w.heap.size + 1 + 1 + 1 + 1 := by rw [← e4]; simp [z3]
  rw [e4, z3] at h3
  rw [e4]
  have h4 := MK.new .u8 5 256 W4
  obtain ⟨W5, e5⟩ : ∃ W, W4.alloc (.map #[] 0) = W := ⟨_, rfl⟩
  have x5 : Ext W4 W5 := e5 ▸ (Ext.refl W4).alloc _
  have z5 : W5.heap.size = w.heap.size + 1 + 1 + 1 + 1 + 1 := by rw [← e5]; simp [z4]
  rw [e5, z4] at h4
  rw [e5]
  have h5 := heap_alloc_new W5 (.cells #[.map (some (w.heap.size + 1 + 1 + 1))] 96)
  obtain ⟨W6, e6⟩ : ∃ W, W5.alloc (.cells #[.map (some (w.heap.size + 1 + 1 + 1))] 96) = W := ⟨_, rfl⟩
  have x6 : Ext W5 W6 := e6 ▸ (Ext.refl W5).alloc _
  have z6 : W6.heap.size = w.heap.size + 1 + 1 + 1 + 1 + 1 + 1 := by rw [← e6]; simp [z5]
  rw [e6, z5] at h5
  rw [e6]
  have h6 := heap_alloc_new W6 (.cells #[.map (some (w.heap.size + 1 + 1 + 1 + 1))] 97)
  obtain ⟨W7, e7⟩ : ∃ W, W6.alloc (.cells #[.map (some (w.heap.size + 1 + 1 + 1 + 1))] 97) = W := ⟨_, rfl⟩
  have x7 : Ext W6 W7 := e7 ▸ (Ext.refl W6).alloc _
  have z7 : W7.heap.size = w.heap.size + 7 := by rw [← e7]; simp [z6]
  rw [e7, z6] at h6
  rw [e7]
  have y67 := x7
  have y57 := x6.trans y67
  have y47 := x5.trans y57
  have y37 := x4.trans y47
  have y27 := x3.trans y37
  have y17 := x2.trans y27
  exact ⟨y17.heap h0, y27.heap h1, y37.heap h2, y67.heap h5, h6, h3.ext y47, h4.ext y57, x1.trans y17, by omega⟩
theorem BI.ext' {w : World} {p : Pol} {A1 : Option Addr} {n1 c1 : Nat} {r : ByteArray} {A : Option Addr} {n c : Nat} {l1 l2 : List Nat} {k : Nat} {W W' : World} (h : BI w p A1 n1 c1 r A n c l1 l2 k W) (hx : Ext W W') : BI w p A1 n1 c1 r A n c l1 l2 k W' :=
  ⟨h.pl.ext hx, h.nb.ext hx, h.xb.ext hx, h.m1.ext hx, h.m2.ext hx, h.k1.ext hx, h.k2.ext hx, h.ext.trans hx, Nat.le_trans h.sz hx.size⟩
theorem ext_far {w W W' : World} {g : Nat} (h : Ext w W) (hg : W.grownBy W' (some g)) (hl : w.heap.size ≤ g) : Ext w W' := h.grown hg (fun j hj => by injection hj with hj; omega)
theorem heap_but {W W' : World} {g k : Nat} {o : Obj} (hg : W.grownBy W' (some g)) (h : W.heap[k]? = some o) (hne : k ≠ g) : W'.heap[k]? = some o := heap_far hg h hne
theorem BI.step1 {w : World} {p : Pol} {A1 : Option Addr} {n1 c1 : Nat} {r : ByteArray} {A : Option Addr} {n c : Nat} {l1 l2 : List Nat} {k : Nat} {W W' : World} (h : BI w p A1 n1 c1 r A n c l1 l2 k W) {l1' : List Nat} (hg : W.grownBy W' (some (w.heap.size + 1 + 1 + 1)))
    (hm : MK .i64 3 6 W' (w.heap.size + 1 + 1 + 1) (k + 1) l1') : PL W' w.heap.size p ∧ NB W' (w.heap.size + 1) (.slice A1 n1 c1) r ∧ XB W' (w.heap.size + 1 + 1) A n c ∧ MB 96 W' (w.heap.size + 1 + 1 + 1 + 1 + 1) (w.heap.size + 1 + 1 + 1) ∧
      MB 97 W' (w.heap.size + 1 + 1 + 1 + 1 + 1 + 1) (w.heap.size + 1 + 1 + 1 + 1) ∧ MK .u8 5 256 W' (w.heap.size + 1 + 1 + 1 + 1) k l2 ∧ Ext w W' ∧ w.heap.size + 7 ≤ W'.heap.size :=
  ⟨heap_but hg h.pl (by omega), heap_but hg h.nb (by omega), heap_but hg h.xb (by omega), heap_but hg h.m1 (by omega), heap_but hg h.m2 (by omega), h.k2.kept hg (by simp), ext_far h.ext hg (by omega), Nat.le_trans h.sz hg.size⟩
/-- Numbers of rules as values. -/
def rv (l : List Nat) : List Value := l.map fun (n : Nat) => .int .i64 (n : Int)
theorem rv_length (l : List Nat) : (rv l).length = l.length := by simp [rv]
theorem rv_snoc (l : List Nat) (x : Nat) : rv (l ++ [x]) = rv l ++ [.int .i64 (x : Int)] := by simp [rv]
theorem ruleinfo : (Tryz.prog.info? 33).map (fun i => (i.zero, i.size, i.bytes)) = some (some (.int .i64 0), 1, 8) := by kernel_rfl
theorem rls_yes {bl : List Bool} {k : Nat} (h : bl[k]? = some true) : rls 1 (bl.take (k + 1)) = rls 1 (bl.take k) ++ [k + 1] := by
  obtain ⟨hlt, he⟩ := List.getElem?_eq_some_iff.1 h
  rw [List.take_succ_eq_append_getElem hlt, rls_append, he]
  congr 1
  rw [List.length_take, Nat.min_eq_left (by omega), Nat.add_comm]
  rfl
theorem rls_not {bl : List Bool} {k : Nat} (h : bl[k]? = some false) : rls 1 (bl.take (k + 1)) = rls 1 (bl.take k) := by
  obtain ⟨hlt, he⟩ := List.getElem?_eq_some_iff.1 h
  rw [List.take_succ_eq_append_getElem hlt, rls_append, he]
  simp [rls]
theorem ownsRow_ext1 {w w' : World} {B : Nat} {e : TypeId} {v : Value} {n : Nat} {xs : List Value} (h : w.ownsRow B e 1 v n xs) (he : Ext w w') : w'.ownsRow B e 1 v n xs :=
  h.kept (he.but none) (by cases hv : v.ownBlock <;> simp)
def RetRules (L : List Nat) (w : World) (e : Ending) (w' : World) : Prop := (∃ A c, e = .returned (.slice A L.length c) ∧ RS w' (.slice A L.length c) (rv L) ∧ ∀ ad, A = some ad → w.heap.size ≤ ad.block) ∧ Ext w w'
theorem RS.far {w w' : World} {A : Option Addr} {n c g : Nat} {xs : List Value} (h : RS w (.slice A n c) xs) (hg : w.grownBy w' (some g)) (hne : ∀ ad, A = some ad → ad.block ≠ g) : RS w' (.slice A n c) xs := by
  obtain ⟨A', c', he, h1, h2, h3⟩ := h
  refine ⟨A', c', he, h1, h2, fun hp => ?_⟩
  obtain ⟨ad, ha, hb, hc⟩ := h3 hp
  injection he with e1 _ _
  subst e1
  refine ⟨ad, ha, Nat.lt_of_lt_of_le hb hg.size, fun j u hu => hg.cell (hc j u hu) ?_⟩
  rw [block_of_add]
  intro e
  exact hne ad ha (Option.some.inj e)
set_option maxRecDepth 100000 in
set_option maxHeartbeats 8000000 in
theorem broken_at (p : Pol) (A1 : Option Addr) (c1 : Nat) (ps : List ByteArray) (r : ByteArray) (hn : ps.length ≤ 1000) (hps : ∀ p ∈ ps, p.size ≤ 1000) (A : Option Addr) (c : Nat) (b : List UInt8) (hb : b.length ≤ 1000) (w : World)
    (hR : RS w (.slice A1 ps.length c1) (svP ps)) (hB : BS w (.slice A b.length c) b) :
    Calls Tryz.prog 37 #[p.v, .agg #[.slice A1 ps.length c1, .string r], .slice A b.length c] w (RetRules (brk p.len p.cla p.dis (datP ps) b) w) := by
  have hmm := @run_makeMap Tryz.prog
  have hmf : ∀ (fn : Fn) (first cap : Array Value) (w : World), (Instr.makeFunc fn first cap).run Tryz.prog w = .ok (.func fn first cap) w := fun _ _ _ _ => rfl
  obtain ⟨i0, hi, hz0, hz1, hz2⟩ := info_parts ruleinfo
  obtain ⟨ad, hcell⟩ : ∃ ad : Addr, ∀ j (hj : j < b.length), A = some ad ∧ w.cell? (ad.add j) = some (.int .u8 (b[j].toNat : Int)) := by
    obtain ⟨A', c', he, k1, k2, k3⟩ := hB.open_
    injection he with e1 _ e3
    subst e1; subst e3
    by_cases h0 : 0 < b.length
    · obtain ⟨ad, h1, _, h3⟩ := k3 h0
      exact ⟨ad, fun j hj => ⟨h1, h3 j hj⟩⟩
    · exact ⟨⟨0, 0, none⟩, fun j hj => by omega⟩
  have HC := Lib.hid hcell
  have HR := Lib.hid hR; have HB := Lib.hid hB; have HPS := Lib.hid hps
  have hst := BI.start w p A1 ps.length c1 r A b.length c
  have HST := Lib.hid hst
  clear hR hB hps hcell hst
  go_enter Tryz.func37, Tryz.ntmps37
  unfold Pol.v
  go_wp2_with fail
  go_loopw [10, 19] (fun _ i wr => ∃ k : Nat, k ≤ b.length ∧ i = .int .i64 k ∧ BI w p A1 ps.length c1 r A b.length c ((b.take k).map cls) ((b.take k).map UInt8.toNat) k wr) (fun _ i _ => b.length - (intOf i).toNat)
  case atStart => exact ⟨0, Nat.zero_le _, rfl, HST.out⟩
  case round =>
    obtain ⟨k, hk, rfl, hbi⟩ := hrel
    clear HST
    have HBI := Lib.hid hbi; clear hbi
    by_cases hlt : k < b.length
    · have hcc := HBI.out.ext.cell (HC.out k hlt).2
      have hA := (HC.out k hlt).1
      obtain ⟨x, hx⟩ : ∃ x, b[k] = x := ⟨_, rfl⟩
      rw [hx] at hcc
      have HS1 := Lib.hid (show (b.take (k + 1)).map cls = (b.take k).map cls ++ [cls x] by rw [List.take_succ_eq_append_getElem hlt, hx]; simp)
      have HS2 := Lib.hid (show (b.take (k + 1)).map UInt8.toNat = (b.take k).map UInt8.toNat ++ [x.toNat] by rw [List.take_succ_eq_append_getElem hlt, hx]; simp)
      have HLT := Lib.hid hlt
      subst hA
      have hbd := HBI.out.ext' (Ext.drew wr)
      have d1 := (row1 hbd.m1).1
      obtain ⟨D1, hD1, hT1, hh1, hs1⟩ := hbd.k1
      have hkey1 : keyOf Tryz.prog 3 (.int .i64 (cls x : Int)) = some (.int .i64 (cls x : Int)) := keyOf_int_mk Tryz.underlying3 (wf_i64 (by omega) (by have := cls_bd x; omega))
      have hkey2 : keyOf Tryz.prog 5 (.int .u8 (x.toNat : Int)) = some (.int .u8 (x.toNat : Int)) := keyOf_int_mk Tryz.underlying5 (wf_u8 x)
      have HD1 := Lib.hid hD1; have HT1 := Lib.hid hT1; have HH1 := Lib.hid hh1; have HZ1 := Lib.hid hs1; have HK1 := Lib.hid hkey1; have HK2 := Lib.hid hkey2; have HBD := Lib.hid hbd
      clear hx hlt hD1 hT1 hh1 hs1 hkey1 hkey2 hbd
      go_wp2_with fail
      refine still_tail 3 (by kernel_rfl) (by kernel_rfl) ?_
      simp only [List.take_succ_cons, List.take_zero, List.drop_succ_cons, List.drop_zero]
      repeat still_step
      still_call (Class_q x _)
      refine wpStill_nil ?_
      go_wp2_with (first
        | (at_lookup; refine wpList_lookup_own_int _ rfl (.tmp 23) (.tmp 25) 96 rfl 3 3 .i64 lawInt Tryz.underlying96 Tryz.underlying3 (zeroInt _) (w.heap.size + 1 + 1 + 1) k D1 rfl HD1.out _ _ rfl HK1.out ?_; intro q1 _ _)
        | (at_mapUpdate; refine wpList_mapUpdate_own _ rfl (.tmp 23) (.tmp 25) (.tmp 27) 96 rfl 3 3 lawInt Tryz.underlying96 _ (w.heap.size + 1 + 1 + 1) k D1 rfl HD1.out (by unfold maxLen; omega) _ _ _ rfl rfl HK1.out _ [] (plainElem_int Tryz.underlying3 (wrap64_wf _)) ?_; intro w1 hown1 hgrow1; obtain ⟨p1, p2, p3, p4, p5, p6, p7, p8⟩ := HBD.out.step1 (l1' := (b.take k).map cls ++ [cls x]) hgrow1 ⟨_, hown1, hown1.tidy lawInt, (has_step (by have := cls_bd x; omega) HT1.out HH1.out HZ1.out trivial).1, (has_step (by have := cls_bd x; omega) HT1.out HH1.out HZ1.out trivial).2⟩; obtain ⟨D2, hD2, hT2, hh2, hs2⟩ := p6; have d2 := (row1 p5).1; have HP1 := Lib.hid p1; have HP2 := Lib.hid p2; have HP3 := Lib.hid p3; have HP4 := Lib.hid p4; have HP5 := Lib.hid p5; have HP7 := Lib.hid p7; have HP8 := Lib.hid p8; have HD2 := Lib.hid hD2; have HT2 := Lib.hid hT2; have HH2 := Lib.hid hh2; have HZ2 := Lib.hid hs2; have HO1 := Lib.hid hown1; clear p1 p2 p3 p4 p5 p7 p8 hD2 hT2 hh2 hs2 hown1 hgrow1)
        | (at_lookup; refine wpList_lookup_own_int _ rfl (.tmp 28) (.tmp 29) 97 rfl 5 3 .i64 lawU8 Tryz.underlying97 Tryz.underlying3 (zeroInt _) (w.heap.size + 1 + 1 + 1 + 1) k D2 rfl HD2.out _ _ rfl HK2.out ?_; intro q2 _ _)
        | (at_mapUpdate; refine wpList_mapUpdate_own _ rfl (.tmp 28) (.tmp 29) (.tmp 31) 97 rfl 5 3 lawU8 Tryz.underlying97 _ (w.heap.size + 1 + 1 + 1 + 1) k D2 rfl HD2.out (by unfold maxLen; omega) _ _ _ rfl rfl HK2.out _ [] (plainElem_int Tryz.underlying3 (wrap64_wf _)) ?_; intro w2 hown2 hgrow2; have HO2 := Lib.hid hown2; have HG2 := Lib.hid hgrow2; clear hown2 hgrow2))
      go_roundw
      case rel =>
        have hg := HG2.out
        refine ⟨k + 1, by have := HLT.out; omega, by go_num, ?_⟩
        rw [HS1.out, HS2.out]
        exact ⟨heap_but hg HP1.out (by omega), heap_but hg HP2.out (by omega), heap_but hg HP3.out (by omega), heap_but hg HP4.out (by omega), heap_but hg HP5.out (by omega),
          (show MK .i64 3 6 w1 (w.heap.size + 1 + 1 + 1) (k + 1) ((b.take k).map cls ++ [cls x]) from ⟨_, HO1.out, HO1.out.tidy lawInt, (has_step (by have := cls_bd x; omega) HT1.out HH1.out HZ1.out trivial).1, (has_step (by have := cls_bd x; omega) HT1.out HH1.out HZ1.out trivial).2⟩).kept hg (by simp),
          ⟨_, HO2.out, HO2.out.tidy lawU8, (has_step (by have := x.toNat_lt; omega) HT2.out HH2.out HZ2.out trivial).1, (has_step (by have := x.toNat_lt; omega) HT2.out HH2.out HZ2.out trivial).2⟩,
          ext_far HP7.out hg (by omega), Nat.le_trans HP8.out hg.size⟩
      case measure => have := HLT.out; simp [intOf]; omega
    · obtain rfl : k = b.length := by omega
      obtain ⟨wk, rfl⟩ : ∃ wk, wk = wr := ⟨_, rfl⟩
      have hbi := HBI.out
      simp only [List.take_length] at hbi
      clear HBI
      have HBI := Lib.hid hbi
      have hall : ∃ b0 b1 b2 b3 b4 b5 b6 : Bool, brk p.len p.cla p.dis (datP ps) b = rls 1 [b0, b1, b2, b3, b4, b5, b6] ∧
          (∀ W, Ext wk W → Calls Tryz.prog 55 #[.pointer (some ⟨w.heap.size + 1 + 1, 0, none⟩), .pointer (some ⟨w.heap.size, 0, none⟩)] W fun e w' => e = .returned (.bool b0) ∧ Ext W w') ∧
          (∀ W, Ext wk W → Calls Tryz.prog 56 #[.pointer (some ⟨w.heap.size + 1 + 1, 0, none⟩)] W fun e w' => e = .returned (.bool b1) ∧ Ext W w') ∧
          (∀ W, Ext wk W → Calls Tryz.prog 57 #[.pointer (some ⟨w.heap.size + 1 + 1, 0, none⟩)] W fun e w' => e = .returned (.bool b2) ∧ Ext W w') ∧
          (∀ W, Ext wk W → Calls Tryz.prog 60 #[.pointer (some ⟨w.heap.size + 1 + 1 + 1 + 1 + 1, 0, none⟩), .pointer (some ⟨w.heap.size, 0, none⟩)] W fun e w' => e = .returned (.bool b3) ∧ Ext W w') ∧
          (∀ W, Ext wk W → Calls Tryz.prog 61 #[.pointer (some ⟨w.heap.size + 1 + 1 + 1 + 1 + 1 + 1, 0, none⟩), .pointer (some ⟨w.heap.size, 0, none⟩)] W fun e w' => e = .returned (.bool b4) ∧ Ext W w') ∧
          (∀ W, Ext wk W → Calls Tryz.prog 62 #[.pointer (some ⟨w.heap.size + 1, 0, none⟩), .pointer (some ⟨w.heap.size + 1 + 1, 0, none⟩)] W fun e w' => e = .returned (.bool b5) ∧ Ext W w') ∧
          (∀ W, Ext wk W → Calls Tryz.prog 66 #[.pointer (some ⟨w.heap.size + 1 + 1, 0, none⟩)] W fun e w' => e = .returned (.bool b6) ∧ Ext W w') := by
        refine ⟨_, _, _, _, _, _, _, rfl, fun W hx => K1_at _ _ A c b p W (hbi.ext' hx).xb (hbi.ext' hx).pl, fun W hx => K2_at _ A c b W (hbi.ext' hx).xb, fun W hx => K3_at _ A c b hb W (hbi.ext' hx).xb (HB.out.ext (hbi.ext.trans hx)),
          fun W hx => K4_at _ _ _ _ _ p W (hbi.ext' hx).m1 (hbi.ext' hx).k1 (hbi.ext' hx).pl, fun W hx => K5_at _ _ _ _ _ p W (hbi.ext' hx).m2 (hbi.ext' hx).k2 (hbi.ext' hx).pl,
          fun W hx => K6_at _ _ A1 c1 ps r hn HPS.out A c b hb W (hbi.ext' hx).nb (HR.out.ext (hbi.ext.trans hx)) (hbi.ext' hx).xb (HB.out.ext (hbi.ext.trans hx)), fun W hx => K7_at _ A c b hb W (hbi.ext' hx).xb (HB.out.ext (hbi.ext.trans hx))⟩
      clear hbi
      obtain ⟨b0, b1, b2, b3, b4, b5, b6, hbrk, hk0, hk1, hk2, hk3, hk4, hk5, hk6⟩ := hall
      have HBRK := Lib.hid hbrk
      have HK0 := Lib.hid hk0; have HK1 := Lib.hid hk1; have HK2 := Lib.hid hk2; have HK3 := Lib.hid hk3; have HK4 := Lib.hid hk4; have HK5 := Lib.hid hk5; have HK6 := Lib.hid hk6
      have hnx : ¬ (b.length : Int) < (b.length : Int) := by omega
      clear hbrk hk0 hk1 hk2 hk3 hk4 hk5 hk6 hlt
      have hrow := heap_alloc_new wk (.cells #[.func (.func 55) #[] #[.pointer (some ⟨w.heap.size + 1 + 1, 0, none⟩), .pointer (some ⟨w.heap.size, 0, none⟩)], .func (.func 56) #[] #[.pointer (some ⟨w.heap.size + 1 + 1, 0, none⟩)], .func (.func 57) #[] #[.pointer (some ⟨w.heap.size + 1 + 1, 0, none⟩)], .func (.func 60) #[] #[.pointer (some ⟨w.heap.size + 1 + 1 + 1 + 1 + 1, 0, none⟩), .pointer (some ⟨w.heap.size, 0, none⟩)], .func (.func 61) #[] #[.pointer (some ⟨w.heap.size + 1 + 1 + 1 + 1 + 1 + 1, 0, none⟩), .pointer (some ⟨w.heap.size, 0, none⟩)], .func (.func 62) #[] #[.pointer (some ⟨w.heap.size + 1, 0, none⟩), .pointer (some ⟨w.heap.size + 1 + 1, 0, none⟩)], .func (.func 66) #[] #[.pointer (some ⟨w.heap.size + 1 + 1, 0, none⟩)]] 101)
      have HROW := Lib.hid hrow
      have HXW := Lib.hid ((Ext.refl wk).alloc (.cells #[.func (.func 55) #[] #[.pointer (some ⟨w.heap.size + 1 + 1, 0, none⟩), .pointer (some ⟨w.heap.size, 0, none⟩)], .func (.func 56) #[] #[.pointer (some ⟨w.heap.size + 1 + 1, 0, none⟩)], .func (.func 57) #[] #[.pointer (some ⟨w.heap.size + 1 + 1, 0, none⟩)], .func (.func 60) #[] #[.pointer (some ⟨w.heap.size + 1 + 1 + 1 + 1 + 1, 0, none⟩), .pointer (some ⟨w.heap.size, 0, none⟩)], .func (.func 61) #[] #[.pointer (some ⟨w.heap.size + 1 + 1 + 1 + 1 + 1 + 1, 0, none⟩), .pointer (some ⟨w.heap.size, 0, none⟩)], .func (.func 62) #[] #[.pointer (some ⟨w.heap.size + 1, 0, none⟩), .pointer (some ⟨w.heap.size + 1 + 1, 0, none⟩)], .func (.func 66) #[] #[.pointer (some ⟨w.heap.size + 1 + 1, 0, none⟩)]] 101))
      clear hrow
      go_wp2_with fail
      obtain ⟨w0, hw0⟩ : ∃ w0, wk.alloc (.cells #[.func (.func 55) #[] #[.pointer (some ⟨w.heap.size + 1 + 1, 0, none⟩), .pointer (some ⟨w.heap.size, 0, none⟩)], .func (.func 56) #[] #[.pointer (some ⟨w.heap.size + 1 + 1, 0, none⟩)], .func (.func 57) #[] #[.pointer (some ⟨w.heap.size + 1 + 1, 0, none⟩)], .func (.func 60) #[] #[.pointer (some ⟨w.heap.size + 1 + 1 + 1 + 1 + 1, 0, none⟩), .pointer (some ⟨w.heap.size, 0, none⟩)], .func (.func 61) #[] #[.pointer (some ⟨w.heap.size + 1 + 1 + 1 + 1 + 1 + 1, 0, none⟩), .pointer (some ⟨w.heap.size, 0, none⟩)], .func (.func 62) #[] #[.pointer (some ⟨w.heap.size + 1, 0, none⟩), .pointer (some ⟨w.heap.size + 1 + 1, 0, none⟩)], .func (.func 66) #[] #[.pointer (some ⟨w.heap.size + 1 + 1, 0, none⟩)]] 101) = w0 := ⟨_, rfl⟩
      rw [hw0] at HXW ⊢
      have hz0' : w0.heap.size = wk.heap.size + 1 := by rw [← hw0]; simp
      clear hw0 HROW
      have HXB := Lib.hid (HBI.out.ext.trans HXW.out)
      have HSZ := Lib.hid HBI.out.sz
      have HZ0 := Lib.hid hz0'
      clear hz0'
      have hj0 : ∀ W : World, (Instr.index 101 (.agg #[.func (.func 55) #[] #[.pointer (some ⟨w.heap.size + 1 + 1, 0, none⟩), .pointer (some ⟨w.heap.size, 0, none⟩)], .func (.func 56) #[] #[.pointer (some ⟨w.heap.size + 1 + 1, 0, none⟩)], .func (.func 57) #[] #[.pointer (some ⟨w.heap.size + 1 + 1, 0, none⟩)], .func (.func 60) #[] #[.pointer (some ⟨w.heap.size + 1 + 1 + 1 + 1 + 1, 0, none⟩), .pointer (some ⟨w.heap.size, 0, none⟩)], .func (.func 61) #[] #[.pointer (some ⟨w.heap.size + 1 + 1 + 1 + 1 + 1 + 1, 0, none⟩), .pointer (some ⟨w.heap.size, 0, none⟩)], .func (.func 62) #[] #[.pointer (some ⟨w.heap.size + 1, 0, none⟩), .pointer (some ⟨w.heap.size + 1 + 1, 0, none⟩)], .func (.func 66) #[] #[.pointer (some ⟨w.heap.size + 1 + 1, 0, none⟩)]]) (.int .i64 0)).run Tryz.prog W = .ok (.func (.func 55) #[] #[.pointer (some ⟨w.heap.size + 1 + 1, 0, none⟩), .pointer (some ⟨w.heap.size, 0, none⟩)]) W := fun _ => by kernel_rfl
      have hj1 : ∀ W : World, (Instr.index 101 (.agg #[.func (.func 55) #[] #[.pointer (some ⟨w.heap.size + 1 + 1, 0, none⟩), .pointer (some ⟨w.heap.size, 0, none⟩)], .func (.func 56) #[] #[.pointer (some ⟨w.heap.size + 1 + 1, 0, none⟩)], .func (.func 57) #[] #[.pointer (some ⟨w.heap.size + 1 + 1, 0, none⟩)], .func (.func 60) #[] #[.pointer (some ⟨w.heap.size + 1 + 1 + 1 + 1 + 1, 0, none⟩), .pointer (some ⟨w.heap.size, 0, none⟩)], .func (.func 61) #[] #[.pointer (some ⟨w.heap.size + 1 + 1 + 1 + 1 + 1 + 1, 0, none⟩), .pointer (some ⟨w.heap.size, 0, none⟩)], .func (.func 62) #[] #[.pointer (some ⟨w.heap.size + 1, 0, none⟩), .pointer (some ⟨w.heap.size + 1 + 1, 0, none⟩)], .func (.func 66) #[] #[.pointer (some ⟨w.heap.size + 1 + 1, 0, none⟩)]]) (.int .i64 1)).run Tryz.prog W = .ok (.func (.func 56) #[] #[.pointer (some ⟨w.heap.size + 1 + 1, 0, none⟩)]) W := fun _ => by kernel_rfl
      have hj2 : ∀ W : World, (Instr.index 101 (.agg #[.func (.func 55) #[] #[.pointer (some ⟨w.heap.size + 1 + 1, 0, none⟩), .pointer (some ⟨w.heap.size, 0, none⟩)], .func (.func 56) #[] #[.pointer (some ⟨w.heap.size + 1 + 1, 0, none⟩)], .func (.func 57) #[] #[.pointer (some ⟨w.heap.size + 1 + 1, 0, none⟩)], .func (.func 60) #[] #[.pointer (some ⟨w.heap.size + 1 + 1 + 1 + 1 + 1, 0, none⟩), .pointer (some ⟨w.heap.size, 0, none⟩)], .func (.func 61) #[] #[.pointer (some ⟨w.heap.size + 1 + 1 + 1 + 1 + 1 + 1, 0, none⟩), .pointer (some ⟨w.heap.size, 0, none⟩)], .func (.func 62) #[] #[.pointer (some ⟨w.heap.size + 1, 0, none⟩), .pointer (some ⟨w.heap.size + 1 + 1, 0, none⟩)], .func (.func 66) #[] #[.pointer (some ⟨w.heap.size + 1 + 1, 0, none⟩)]]) (.int .i64 2)).run Tryz.prog W = .ok (.func (.func 57) #[] #[.pointer (some ⟨w.heap.size + 1 + 1, 0, none⟩)]) W := fun _ => by kernel_rfl
      have hj3 : ∀ W : World, (Instr.index 101 (.agg #[.func (.func 55) #[] #[.pointer (some ⟨w.heap.size + 1 + 1, 0, none⟩), .pointer (some ⟨w.heap.size, 0, none⟩)], .func (.func 56) #[] #[.pointer (some ⟨w.heap.size + 1 + 1, 0, none⟩)], .func (.func 57) #[] #[.pointer (some ⟨w.heap.size + 1 + 1, 0, none⟩)], .func (.func 60) #[] #[.pointer (some ⟨w.heap.size + 1 + 1 + 1 + 1 + 1, 0, none⟩), .pointer (some ⟨w.heap.size, 0, none⟩)], .func (.func 61) #[] #[.pointer (some ⟨w.heap.size + 1 + 1 + 1 + 1 + 1 + 1, 0, none⟩), .pointer (some ⟨w.heap.size, 0, none⟩)], .func (.func 62) #[] #[.pointer (some ⟨w.heap.size + 1, 0, none⟩), .pointer (some ⟨w.heap.size + 1 + 1, 0, none⟩)], .func (.func 66) #[] #[.pointer (some ⟨w.heap.size + 1 + 1, 0, none⟩)]]) (.int .i64 3)).run Tryz.prog W = .ok (.func (.func 60) #[] #[.pointer (some ⟨w.heap.size + 1 + 1 + 1 + 1 + 1, 0, none⟩), .pointer (some ⟨w.heap.size, 0, none⟩)]) W := fun _ => by kernel_rfl
      have hj4 : ∀ W : World, (Instr.index 101 (.agg #[.func (.func 55) #[] #[.pointer (some ⟨w.heap.size + 1 + 1, 0, none⟩), .pointer (some ⟨w.heap.size, 0, none⟩)], .func (.func 56) #[] #[.pointer (some ⟨w.heap.size + 1 + 1, 0, none⟩)], .func (.func 57) #[] #[.pointer (some ⟨w.heap.size + 1 + 1, 0, none⟩)], .func (.func 60) #[] #[.pointer (some ⟨w.heap.size + 1 + 1 + 1 + 1 + 1, 0, none⟩), .pointer (some ⟨w.heap.size, 0, none⟩)], .func (.func 61) #[] #[.pointer (some ⟨w.heap.size + 1 + 1 + 1 + 1 + 1 + 1, 0, none⟩), .pointer (some ⟨w.heap.size, 0, none⟩)], .func (.func 62) #[] #[.pointer (some ⟨w.heap.size + 1, 0, none⟩), .pointer (some ⟨w.heap.size + 1 + 1, 0, none⟩)], .func (.func 66) #[] #[.pointer (some ⟨w.heap.size + 1 + 1, 0, none⟩)]]) (.int .i64 4)).run Tryz.prog W = .ok (.func (.func 61) #[] #[.pointer (some ⟨w.heap.size + 1 + 1 + 1 + 1 + 1 + 1, 0, none⟩), .pointer (some ⟨w.heap.size, 0, none⟩)]) W := fun _ => by kernel_rfl
      have hj5 : ∀ W : World, (Instr.index 101 (.agg #[.func (.func 55) #[] #[.pointer (some ⟨w.heap.size + 1 + 1, 0, none⟩), .pointer (some ⟨w.heap.size, 0, none⟩)], .func (.func 56) #[] #[.pointer (some ⟨w.heap.size + 1 + 1, 0, none⟩)], .func (.func 57) #[] #[.pointer (some ⟨w.heap.size + 1 + 1, 0, none⟩)], .func (.func 60) #[] #[.pointer (some ⟨w.heap.size + 1 + 1 + 1 + 1 + 1, 0, none⟩), .pointer (some ⟨w.heap.size, 0, none⟩)], .func (.func 61) #[] #[.pointer (some ⟨w.heap.size + 1 + 1 + 1 + 1 + 1 + 1, 0, none⟩), .pointer (some ⟨w.heap.size, 0, none⟩)], .func (.func 62) #[] #[.pointer (some ⟨w.heap.size + 1, 0, none⟩), .pointer (some ⟨w.heap.size + 1 + 1, 0, none⟩)], .func (.func 66) #[] #[.pointer (some ⟨w.heap.size + 1 + 1, 0, none⟩)]]) (.int .i64 5)).run Tryz.prog W = .ok (.func (.func 62) #[] #[.pointer (some ⟨w.heap.size + 1, 0, none⟩), .pointer (some ⟨w.heap.size + 1 + 1, 0, none⟩)]) W := fun _ => by kernel_rfl
      have hj6 : ∀ W : World, (Instr.index 101 (.agg #[.func (.func 55) #[] #[.pointer (some ⟨w.heap.size + 1 + 1, 0, none⟩), .pointer (some ⟨w.heap.size, 0, none⟩)], .func (.func 56) #[] #[.pointer (some ⟨w.heap.size + 1 + 1, 0, none⟩)], .func (.func 57) #[] #[.pointer (some ⟨w.heap.size + 1 + 1, 0, none⟩)], .func (.func 60) #[] #[.pointer (some ⟨w.heap.size + 1 + 1 + 1 + 1 + 1, 0, none⟩), .pointer (some ⟨w.heap.size, 0, none⟩)], .func (.func 61) #[] #[.pointer (some ⟨w.heap.size + 1 + 1 + 1 + 1 + 1 + 1, 0, none⟩), .pointer (some ⟨w.heap.size, 0, none⟩)], .func (.func 62) #[] #[.pointer (some ⟨w.heap.size + 1, 0, none⟩), .pointer (some ⟨w.heap.size + 1 + 1, 0, none⟩)], .func (.func 66) #[] #[.pointer (some ⟨w.heap.size + 1 + 1, 0, none⟩)]]) (.int .i64 6)).run Tryz.prog W = .ok (.func (.func 66) #[] #[.pointer (some ⟨w.heap.size + 1 + 1, 0, none⟩)]) W := fun _ => by kernel_rfl
      go_loopw [12, 13, 14, 42] (fun v _ _ i wr => ∃ k : Nat, k ≤ 7 ∧ i = .int .i64 k ∧ Hid (wr.ownsRow (wk.heap.size + 1) 33 1 v (rv (rls 1 ([b0, b1, b2, b3, b4, b5, b6].take k))).length (rv (rls 1 ([b0, b1, b2, b3, b4, b5, b6].take k)))) ∧ Hid (Ext w0 wr)) (fun _ _ _ i _ => 7 - (intOf i).toNat)
      case atStart => exact ⟨0, by omega, rfl, Lib.hid (World.ownsRow_nil _ _ _ _), Lib.hid (Ext.refl _)⟩
      case round =>
        obtain ⟨k, hk, rfl, HO, HX⟩ := hrel
        rcases (show k = 0 ∨ k = 1 ∨ k = 2 ∨ k = 3 ∨ k = 4 ∨ k = 5 ∨ k = 6 ∨ k = 7 by omega) with rfl | rfl | rfl | rfl | rfl | rfl | rfl | rfl
        · cases b0 with
          | false =>
            have HT := Lib.hid (show rls 1 ([false, b1, b2, b3, b4, b5, b6].take (0 + 1)) = rls 1 ([false, b1, b2, b3, b4, b5, b6].take 0) from rls_not rfl)
            go_wp2_with fail
            refine (HK0.out _ (HXW.out.trans HX.out)).mono ?_
            rintro _ w2 ⟨rfl, hx2⟩
            have HX2 := Lib.hid (HX.out.trans hx2)
            have HO2 := Lib.hid (ownsRow_ext1 HO.out hx2)
            clear hx2
            go_wp2_with fail
            go_roundw
            case rel => exact ⟨1, by omega, by go_num, by rw [show (1 : Nat) = 0 + 1 from rfl, HT.out]; exact HO2, HX2⟩
            case measure => simp [intOf]
          | true =>
            have HT := Lib.hid (show rv (rls 1 ([true, b1, b2, b3, b4, b5, b6].take (0 + 1))) = rv (rls 1 ([true, b1, b2, b3, b4, b5, b6].take 0)) ++ [.int .i64 ((0 + 1 : Nat) : Int)] by rw [rls_yes rfl, rv_snoc])
            have HLN := Lib.hid (show (rv (rls 1 ([true, b1, b2, b3, b4, b5, b6].take 0))).length ≤ 0 from Nat.le_trans (by rw [rv_length]; exact rls_len _ _) (by simp))
            go_wp2_with fail
            refine (HK0.out _ (HXW.out.trans HX.out)).mono ?_
            rintro _ w2 ⟨rfl, hx2⟩
            have HX2 := Lib.hid (HX.out.trans hx2)
            have HO2 := Lib.hid (ownsRow_ext1 HO.out hx2)
            clear hx2
            go_wp2_with (at_builtin; refine wpList_append_rs _ rfl (.tmp 48) (.tmp 51) 38 rfl (wk.heap.size + 1) 33 i0 (.int .i64 0) 8 Tryz.underlying38 hi hz0 hz1 hz2 rfl _ (rv (rls 1 ([true, b1, b2, b3, b4, b5, b6].take 0))) rfl (ownsRow_ext1 HO2.out ((Ext.refl w2).alloc _)) _ [.int .i64 1] rfl (RS.one _ _ _) (by simp [Value.oneCell']) (by have := HLN.out; rw [List.length_singleton]; omega) (by omega) ?hm ?_; rotate_right; intro v4 w4 hown4 hg4 _; have HO4 := Lib.hid hown4; have HG4 := Lib.hid hg4; clear hown4 hg4)
            case hm => have h1 := HX2.out.size; have h0 := HZ0.out; simp; omega
            go_roundw
            case rel => exact ⟨1, by omega, by go_num, by
              rw [show (1 : Nat) = 0 + 1 from rfl, HT.out]; exact HO4, Lib.hid ((HX2.out.alloc _).grown HG4.out (fun j hj => by have := (World.ownsRow.lt HO2.out j hj).1; have h0 := HZ0.out; omega))⟩
            case measure => simp [intOf]
        · cases b1 with
          | false =>
            have HT := Lib.hid (show rls 1 ([b0, false, b2, b3, b4, b5, b6].take (1 + 1)) = rls 1 ([b0, false, b2, b3, b4, b5, b6].take 1) from rls_not rfl)
            go_wp2_with fail
            refine (HK1.out _ (HXW.out.trans HX.out)).mono ?_
            rintro _ w2 ⟨rfl, hx2⟩
            have HX2 := Lib.hid (HX.out.trans hx2)
            have HO2 := Lib.hid (ownsRow_ext1 HO.out hx2)
            clear hx2
            go_wp2_with fail
            go_roundw
            case rel => exact ⟨2, by omega, by go_num, by rw [show (2 : Nat) = 1 + 1 from rfl, HT.out]; exact HO2, HX2⟩
            case measure => simp [intOf]
          | true =>
            have HT := Lib.hid (show rv (rls 1 ([b0, true, b2, b3, b4, b5, b6].take (1 + 1))) = rv (rls 1 ([b0, true, b2, b3, b4, b5, b6].take 1)) ++ [.int .i64 ((1 + 1 : Nat) : Int)] by rw [rls_yes rfl, rv_snoc])
            have HLN := Lib.hid (show (rv (rls 1 ([b0, true, b2, b3, b4, b5, b6].take 1))).length ≤ 1 from Nat.le_trans (by rw [rv_length]; exact rls_len _ _) (by simp))
            go_wp2_with fail
            refine (HK1.out _ (HXW.out.trans HX.out)).mono ?_
            rintro _ w2 ⟨rfl, hx2⟩
            have HX2 := Lib.hid (HX.out.trans hx2)
            have HO2 := Lib.hid (ownsRow_ext1 HO.out hx2)
            clear hx2
            go_wp2_with (at_builtin; refine wpList_append_rs _ rfl (.tmp 48) (.tmp 51) 38 rfl (wk.heap.size + 1) 33 i0 (.int .i64 0) 8 Tryz.underlying38 hi hz0 hz1 hz2 rfl _ (rv (rls 1 ([b0, true, b2, b3, b4, b5, b6].take 1))) rfl (ownsRow_ext1 HO2.out ((Ext.refl w2).alloc _)) _ [.int .i64 2] rfl (RS.one _ _ _) (by simp [Value.oneCell']) (by have := HLN.out; rw [List.length_singleton]; omega) (by omega) ?hm ?_; rotate_right; intro v4 w4 hown4 hg4 _; have HO4 := Lib.hid hown4; have HG4 := Lib.hid hg4; clear hown4 hg4)
            case hm => have h1 := HX2.out.size; have h0 := HZ0.out; simp; omega
            go_roundw
            case rel => exact ⟨2, by omega, by go_num, by
              rw [show (2 : Nat) = 1 + 1 from rfl, HT.out]; exact HO4, Lib.hid ((HX2.out.alloc _).grown HG4.out (fun j hj => by have := (World.ownsRow.lt HO2.out j hj).1; have h0 := HZ0.out; omega))⟩
            case measure => simp [intOf]
        · cases b2 with
          | false =>
            have HT := Lib.hid (show rls 1 ([b0, b1, false, b3, b4, b5, b6].take (2 + 1)) = rls 1 ([b0, b1, false, b3, b4, b5, b6].take 2) from rls_not rfl)
            go_wp2_with fail
            refine (HK2.out _ (HXW.out.trans HX.out)).mono ?_
            rintro _ w2 ⟨rfl, hx2⟩
            have HX2 := Lib.hid (HX.out.trans hx2)
            have HO2 := Lib.hid (ownsRow_ext1 HO.out hx2)
            clear hx2
            go_wp2_with fail
            go_roundw
            case rel => exact ⟨3, by omega, by go_num, by rw [show (3 : Nat) = 2 + 1 from rfl, HT.out]; exact HO2, HX2⟩
            case measure => simp [intOf]
          | true =>
            have HT := Lib.hid (show rv (rls 1 ([b0, b1, true, b3, b4, b5, b6].take (2 + 1))) = rv (rls 1 ([b0, b1, true, b3, b4, b5, b6].take 2)) ++ [.int .i64 ((2 + 1 : Nat) : Int)] by rw [rls_yes rfl, rv_snoc])
            have HLN := Lib.hid (show (rv (rls 1 ([b0, b1, true, b3, b4, b5, b6].take 2))).length ≤ 2 from Nat.le_trans (by rw [rv_length]; exact rls_len _ _) (by simp))
            go_wp2_with fail
            refine (HK2.out _ (HXW.out.trans HX.out)).mono ?_
            rintro _ w2 ⟨rfl, hx2⟩
            have HX2 := Lib.hid (HX.out.trans hx2)
            have HO2 := Lib.hid (ownsRow_ext1 HO.out hx2)
            clear hx2
            go_wp2_with (at_builtin; refine wpList_append_rs _ rfl (.tmp 48) (.tmp 51) 38 rfl (wk.heap.size + 1) 33 i0 (.int .i64 0) 8 Tryz.underlying38 hi hz0 hz1 hz2 rfl _ (rv (rls 1 ([b0, b1, true, b3, b4, b5, b6].take 2))) rfl (ownsRow_ext1 HO2.out ((Ext.refl w2).alloc _)) _ [.int .i64 3] rfl (RS.one _ _ _) (by simp [Value.oneCell']) (by have := HLN.out; rw [List.length_singleton]; omega) (by omega) ?hm ?_; rotate_right; intro v4 w4 hown4 hg4 _; have HO4 := Lib.hid hown4; have HG4 := Lib.hid hg4; clear hown4 hg4)
            case hm => have h1 := HX2.out.size; have h0 := HZ0.out; simp; omega
            go_roundw
            case rel => exact ⟨3, by omega, by go_num, by
              rw [show (3 : Nat) = 2 + 1 from rfl, HT.out]; exact HO4, Lib.hid ((HX2.out.alloc _).grown HG4.out (fun j hj => by have := (World.ownsRow.lt HO2.out j hj).1; have h0 := HZ0.out; omega))⟩
            case measure => simp [intOf]
        · cases b3 with
          | false =>
            have HT := Lib.hid (show rls 1 ([b0, b1, b2, false, b4, b5, b6].take (3 + 1)) = rls 1 ([b0, b1, b2, false, b4, b5, b6].take 3) from rls_not rfl)
            go_wp2_with fail
            refine (HK3.out _ (HXW.out.trans HX.out)).mono ?_
            rintro _ w2 ⟨rfl, hx2⟩
            have HX2 := Lib.hid (HX.out.trans hx2)
            have HO2 := Lib.hid (ownsRow_ext1 HO.out hx2)
            clear hx2
            go_wp2_with fail
            go_roundw
            case rel => exact ⟨4, by omega, by go_num, by rw [show (4 : Nat) = 3 + 1 from rfl, HT.out]; exact HO2, HX2⟩
            case measure => simp [intOf]
          | true =>
            have HT := Lib.hid (show rv (rls 1 ([b0, b1, b2, true, b4, b5, b6].take (3 + 1))) = rv (rls 1 ([b0, b1, b2, true, b4, b5, b6].take 3)) ++ [.int .i64 ((3 + 1 : Nat) : Int)] by rw [rls_yes rfl, rv_snoc])
            have HLN := Lib.hid (show (rv (rls 1 ([b0, b1, b2, true, b4, b5, b6].take 3))).length ≤ 3 from Nat.le_trans (by rw [rv_length]; exact rls_len _ _) (by simp))
            go_wp2_with fail
            refine (HK3.out _ (HXW.out.trans HX.out)).mono ?_
            rintro _ w2 ⟨rfl, hx2⟩
            have HX2 := Lib.hid (HX.out.trans hx2)
            have HO2 := Lib.hid (ownsRow_ext1 HO.out hx2)
            clear hx2
            go_wp2_with (at_builtin; refine wpList_append_rs _ rfl (.tmp 48) (.tmp 51) 38 rfl (wk.heap.size + 1) 33 i0 (.int .i64 0) 8 Tryz.underlying38 hi hz0 hz1 hz2 rfl _ (rv (rls 1 ([b0, b1, b2, true, b4, b5, b6].take 3))) rfl (ownsRow_ext1 HO2.out ((Ext.refl w2).alloc _)) _ [.int .i64 4] rfl (RS.one _ _ _) (by simp [Value.oneCell']) (by have := HLN.out; rw [List.length_singleton]; omega) (by omega) ?hm ?_; rotate_right; intro v4 w4 hown4 hg4 _; have HO4 := Lib.hid hown4; have HG4 := Lib.hid hg4; clear hown4 hg4)
            case hm => have h1 := HX2.out.size; have h0 := HZ0.out; simp; omega
            go_roundw
            case rel => exact ⟨4, by omega, by go_num, by
              rw [show (4 : Nat) = 3 + 1 from rfl, HT.out]; exact HO4, Lib.hid ((HX2.out.alloc _).grown HG4.out (fun j hj => by have := (World.ownsRow.lt HO2.out j hj).1; have h0 := HZ0.out; omega))⟩
            case measure => simp [intOf]
        · cases b4 with
          | false =>
            have HT := Lib.hid (show rls 1 ([b0, b1, b2, b3, false, b5, b6].take (4 + 1)) = rls 1 ([b0, b1, b2, b3, false, b5, b6].take 4) from rls_not rfl)
            go_wp2_with fail
            refine (HK4.out _ (HXW.out.trans HX.out)).mono ?_
            rintro _ w2 ⟨rfl, hx2⟩
            have HX2 := Lib.hid (HX.out.trans hx2)
            have HO2 := Lib.hid (ownsRow_ext1 HO.out hx2)
            clear hx2
            go_wp2_with fail
            go_roundw
            case rel => exact ⟨5, by omega, by go_num, by rw [show (5 : Nat) = 4 + 1 from rfl, HT.out]; exact HO2, HX2⟩
            case measure => simp [intOf]
          | true =>
            have HT := Lib.hid (show rv (rls 1 ([b0, b1, b2, b3, true, b5, b6].take (4 + 1))) = rv (rls 1 ([b0, b1, b2, b3, true, b5, b6].take 4)) ++ [.int .i64 ((4 + 1 : Nat) : Int)] by rw [rls_yes rfl, rv_snoc])
            have HLN := Lib.hid (show (rv (rls 1 ([b0, b1, b2, b3, true, b5, b6].take 4))).length ≤ 4 from Nat.le_trans (by rw [rv_length]; exact rls_len _ _) (by simp))
            go_wp2_with fail
            refine (HK4.out _ (HXW.out.trans HX.out)).mono ?_
            rintro _ w2 ⟨rfl, hx2⟩
            have HX2 := Lib.hid (HX.out.trans hx2)
            have HO2 := Lib.hid (ownsRow_ext1 HO.out hx2)
            clear hx2
            go_wp2_with (at_builtin; refine wpList_append_rs _ rfl (.tmp 48) (.tmp 51) 38 rfl (wk.heap.size + 1) 33 i0 (.int .i64 0) 8 Tryz.underlying38 hi hz0 hz1 hz2 rfl _ (rv (rls 1 ([b0, b1, b2, b3, true, b5, b6].take 4))) rfl (ownsRow_ext1 HO2.out ((Ext.refl w2).alloc _)) _ [.int .i64 5] rfl (RS.one _ _ _) (by simp [Value.oneCell']) (by have := HLN.out; rw [List.length_singleton]; omega) (by omega) ?hm ?_; rotate_right; intro v4 w4 hown4 hg4 _; have HO4 := Lib.hid hown4; have HG4 := Lib.hid hg4; clear hown4 hg4)
            case hm => have h1 := HX2.out.size; have h0 := HZ0.out; simp; omega
            go_roundw
            case rel => exact ⟨5, by omega, by go_num, by
              rw [show (5 : Nat) = 4 + 1 from rfl, HT.out]; exact HO4, Lib.hid ((HX2.out.alloc _).grown HG4.out (fun j hj => by have := (World.ownsRow.lt HO2.out j hj).1; have h0 := HZ0.out; omega))⟩
            case measure => simp [intOf]
        · cases b5 with
          | false =>
            have HT := Lib.hid (show rls 1 ([b0, b1, b2, b3, b4, false, b6].take (5 + 1)) = rls 1 ([b0, b1, b2, b3, b4, false, b6].take 5) from rls_not rfl)
            go_wp2_with fail
            refine (HK5.out _ (HXW.out.trans HX.out)).mono ?_
            rintro _ w2 ⟨rfl, hx2⟩
            have HX2 := Lib.hid (HX.out.trans hx2)
            have HO2 := Lib.hid (ownsRow_ext1 HO.out hx2)
            clear hx2
            go_wp2_with fail
            go_roundw
            case rel => exact ⟨6, by omega, by go_num, by rw [show (6 : Nat) = 5 + 1 from rfl, HT.out]; exact HO2, HX2⟩
            case measure => simp [intOf]
          | true =>
            have HT := Lib.hid (show rv (rls 1 ([b0, b1, b2, b3, b4, true, b6].take (5 + 1))) = rv (rls 1 ([b0, b1, b2, b3, b4, true, b6].take 5)) ++ [.int .i64 ((5 + 1 : Nat) : Int)] by rw [rls_yes rfl, rv_snoc])
            have HLN := Lib.hid (show (rv (rls 1 ([b0, b1, b2, b3, b4, true, b6].take 5))).length ≤ 5 from Nat.le_trans (by rw [rv_length]; exact rls_len _ _) (by simp))
            go_wp2_with fail
            refine (HK5.out _ (HXW.out.trans HX.out)).mono ?_
            rintro _ w2 ⟨rfl, hx2⟩
            have HX2 := Lib.hid (HX.out.trans hx2)
            have HO2 := Lib.hid (ownsRow_ext1 HO.out hx2)
            clear hx2
            go_wp2_with (at_builtin; refine wpList_append_rs _ rfl (.tmp 48) (.tmp 51) 38 rfl (wk.heap.size + 1) 33 i0 (.int .i64 0) 8 Tryz.underlying38 hi hz0 hz1 hz2 rfl _ (rv (rls 1 ([b0, b1, b2, b3, b4, true, b6].take 5))) rfl (ownsRow_ext1 HO2.out ((Ext.refl w2).alloc _)) _ [.int .i64 6] rfl (RS.one _ _ _) (by simp [Value.oneCell']) (by have := HLN.out; rw [List.length_singleton]; omega) (by omega) ?hm ?_; rotate_right; intro v4 w4 hown4 hg4 _; have HO4 := Lib.hid hown4; have HG4 := Lib.hid hg4; clear hown4 hg4)
            case hm => have h1 := HX2.out.size; have h0 := HZ0.out; simp; omega
            go_roundw
            case rel => exact ⟨6, by omega, by go_num, by
              rw [show (6 : Nat) = 5 + 1 from rfl, HT.out]; exact HO4, Lib.hid ((HX2.out.alloc _).grown HG4.out (fun j hj => by have := (World.ownsRow.lt HO2.out j hj).1; have h0 := HZ0.out; omega))⟩
            case measure => simp [intOf]
        · cases b6 with
          | false =>
            have HT := Lib.hid (show rls 1 ([b0, b1, b2, b3, b4, b5, false].take (6 + 1)) = rls 1 ([b0, b1, b2, b3, b4, b5, false].take 6) from rls_not rfl)
            go_wp2_with fail
            refine (HK6.out _ (HXW.out.trans HX.out)).mono ?_
            rintro _ w2 ⟨rfl, hx2⟩
            have HX2 := Lib.hid (HX.out.trans hx2)
            have HO2 := Lib.hid (ownsRow_ext1 HO.out hx2)
            clear hx2
            go_wp2_with fail
            go_roundw
            case rel => exact ⟨7, by omega, by go_num, by rw [show (7 : Nat) = 6 + 1 from rfl, HT.out]; exact HO2, HX2⟩
            case measure => simp [intOf]
          | true =>
            have HT := Lib.hid (show rv (rls 1 ([b0, b1, b2, b3, b4, b5, true].take (6 + 1))) = rv (rls 1 ([b0, b1, b2, b3, b4, b5, true].take 6)) ++ [.int .i64 ((6 + 1 : Nat) : Int)] by rw [rls_yes rfl, rv_snoc])
            have HLN := Lib.hid (show (rv (rls 1 ([b0, b1, b2, b3, b4, b5, true].take 6))).length ≤ 6 from Nat.le_trans (by rw [rv_length]; exact rls_len _ _) (by simp))
            go_wp2_with fail
            refine (HK6.out _ (HXW.out.trans HX.out)).mono ?_
            rintro _ w2 ⟨rfl, hx2⟩
            have HX2 := Lib.hid (HX.out.trans hx2)
            have HO2 := Lib.hid (ownsRow_ext1 HO.out hx2)
            clear hx2
            go_wp2_with (at_builtin; refine wpList_append_rs _ rfl (.tmp 48) (.tmp 51) 38 rfl (wk.heap.size + 1) 33 i0 (.int .i64 0) 8 Tryz.underlying38 hi hz0 hz1 hz2 rfl _ (rv (rls 1 ([b0, b1, b2, b3, b4, b5, true].take 6))) rfl (ownsRow_ext1 HO2.out ((Ext.refl w2).alloc _)) _ [.int .i64 7] rfl (RS.one _ _ _) (by simp [Value.oneCell']) (by have := HLN.out; rw [List.length_singleton]; omega) (by omega) ?hm ?_; rotate_right; intro v4 w4 hown4 hg4 _; have HO4 := Lib.hid hown4; have HG4 := Lib.hid hg4; clear hown4 hg4)
            case hm => have h1 := HX2.out.size; have h0 := HZ0.out; simp; omega
            go_roundw
            case rel => exact ⟨7, by omega, by go_num, by
              rw [show (7 : Nat) = 6 + 1 from rfl, HT.out]; exact HO4, Lib.hid ((HX2.out.alloc _).grown HG4.out (fun j hj => by have := (World.ownsRow.lt HO2.out j hj).1; have h0 := HZ0.out; omega))⟩
            case measure => simp [intOf]
        · have hO := HO.out
          have HOL := Lib.hid (show RetRules (brk p.len p.cla p.dis (datP ps) b) w (.returned u12) wr from by
            rw [HBRK.out]
            have hO : wr.ownsRow (wk.heap.size + 1) 33 1 u12 (rv (rls 1 [b0, b1, b2, b3, b4, b5, b6])).length (rv (rls 1 [b0, b1, b2, b3, b4, b5, b6])) := HO.out
            refine ⟨?_, HXB.out.trans HX.out⟩
            have hs := RS.of_own hO
            obtain ⟨A', c', he, _⟩ := hs.open_
            rw [rv_length] at he
            exact ⟨A', c', by rw [he], by rw [← he]; exact hs, fun ad ha => by
              subst ha
              have h1 := (World.ownsRow.lt hO ad.block (by rw [he]; rfl)).1
              have h2 := HSZ.out
              omega⟩)
          clear hO
          go_wp2_with fail
          go_ret
          exact HOL.out
end Go.Proofs.YtgfjmmdkdhodiaaGreatDoor
