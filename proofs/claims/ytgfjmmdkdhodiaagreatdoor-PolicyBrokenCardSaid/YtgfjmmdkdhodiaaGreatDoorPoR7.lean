/- Policy: the reference's Broken. (wip/tools/genpor7.py printed this.) -/
import Derived.Test.YtgfjmmdkdhodiaaGreatDoorPoR4
import Derived.Test.YtgfjmmdkdhodiaaGreatDoorPoR6
import Derived.Test.YtgfjmmdkdhodiaaGreatDoorPo9
import Derived.Deep.DeepCutAuto
namespace Go.Proofs.YtgfjmmdkdhodiaaGreatDoor
open Go Go.RowKit
set_option linter.unusedVariables false

theorem own_keep' {W W' : World} {row : Option Nat} {k B : Nat} {o : Obj} (hg : W.grownBy W' row) (hrow : ∀ j, row = some j → B ≤ j) (hk : k < B) (h : W.heap[k]? = some o) : W'.heap[k]? = some o :=
  (hg.block k (Array.getElem?_eq_some_iff.1 h).1 (fun e => by have := hrow k e.symm; omega)).trans h
/-- What lies there while the rules are tried. -/
structure RBI (w : World) (p : Pol) (A1 : Option Addr) (n1 c1 : Nat) (r : ByteArray) (L : List Nat) (v : Value) (W : World) : Prop where
  own : W.ownsRow (w.heap.size + 1 + 1) 33 1 v (rv L).length (rv L)
  pl : PL W w.heap.size p
  nb : NB W (w.heap.size + 1) (.slice A1 n1 c1) r
  ext : Ext w W
  sz : w.heap.size + 1 + 1 ≤ W.heap.size
theorem RBI.ext' {w : World} {p : Pol} {A1 : Option Addr} {n1 c1 : Nat} {r : ByteArray} {L : List Nat} {v : Value} {W W' : World} (h : RBI w p A1 n1 c1 r L v W) (hx : Ext W W') : RBI w p A1 n1 c1 r L v W' :=
  ⟨ownsRow_ext1 h.own hx, h.pl.ext hx, h.nb.ext hx, h.ext.trans hx, Nat.le_trans h.sz hx.size⟩
theorem RBI.more {w : World} {p : Pol} {A1 : Option Addr} {n1 c1 : Nat} {r : ByteArray} {L : List Nat} {x : Nat} {v v' : Value} {W W' : World} (h : RBI w p A1 n1 c1 r L v W) (ho : W'.ownsRow (w.heap.size + 1 + 1) 33 1 v' (rv L ++ [Value.int .i64 (x : Int)]).length (rv L ++ [Value.int .i64 (x : Int)])) (hg : W.grownBy W' v.ownBlock) : RBI w p A1 n1 c1 r (L ++ [x]) v' W' := by
  have hlt : ∀ k, v.ownBlock = some k → w.heap.size + 1 + 1 ≤ k := fun k hk => (World.ownsRow.lt h.own k hk).1
  exact ⟨by rw [rv_snoc]; exact ho, own_keep' hg hlt (by omega) h.pl, own_keep' hg hlt (by omega) h.nb, h.ext.grown hg (fun j hj => by have := hlt j hj; omega), Nat.le_trans h.sz hg.size⟩
set_option maxRecDepth 100000 in
set_option maxHeartbeats 8000000 in
theorem RBroken_at (p : Pol) (A1 : Option Addr) (c1 : Nat) (ps : List ByteArray) (r : ByteArray) (hn : ps.length ≤ 1000) (hps : ∀ p ∈ ps, p.size ≤ 1000) (A : Option Addr) (c : Nat) (b : List UInt8) (hb : b.length ≤ 1000) (w : World)
    (hR : RS w (.slice A1 ps.length c1) (svP ps)) (hB : BS w (.slice A b.length c) b) :
    Calls Tryz.prog 17 #[p.v, .agg #[.slice A1 ps.length c1, .string r], .slice A b.length c] w fun e w' => (∃ A c, e = .returned (.slice A (brk p.len p.cla p.dis (datP ps) b).length c) ∧ RS w' (.slice A (brk p.len p.cla p.dis (datP ps) b).length c) (rv (brk p.len p.cla p.dis (datP ps) b))) ∧ Ext w w' := by
  obtain ⟨i0, hi, hz0, hz1, hz2⟩ := info_parts ruleinfo
  obtain ⟨ad, hcell⟩ : ∃ ad : Addr, ∀ j (hj : j < b.length), A = some ad ∧ w.cell? (ad.add j) = some (.int .u8 (b[j].toNat : Int)) := by
    obtain ⟨A', c', he, k1, k2, k3⟩ := hB.open_
    injection he with e1 _ e3
    subst e1; subst e3
    by_cases h0 : 0 < b.length
    · obtain ⟨ad, h1, _, h3⟩ := k3 h0
      exact ⟨ad, fun j hj => ⟨h1, h3 j hj⟩⟩
    · exact ⟨⟨0, 0, none⟩, fun j hj => by omega⟩
  obtain ⟨ad2, hcell2⟩ : ∃ ad : Addr, ∀ j (hj : j < ps.length), A1 = some ad ∧ w.cell? (ad.add j) = some (.string ps[j]) := by
    obtain ⟨A', c', he, k1, k2, k3⟩ := hR.open_
    rw [svP_length] at he k1 k3
    injection he with e1 _ e3
    subst e1; subst e3
    by_cases h0 : 0 < ps.length
    · obtain ⟨ad, h1, _, h3⟩ := k3 h0
      exact ⟨ad, fun j hj => ⟨h1, h3 j _ (svP_get ps j hj)⟩⟩
    · exact ⟨⟨0, 0, none⟩, fun j hj => by omega⟩
  have HC := Lib.hid hcell; have HC2 := Lib.hid hcell2; have HB := Lib.hid hB; have HPS := Lib.hid hps
  obtain ⟨b0, b1, b2, b3, b4, b5, b6, hbrk, hb0, hb1, hb2, hb3, hb4, hb5, hb6⟩ : ∃ b0 b1 b2 b3 b4 b5 b6 : Bool, brk p.len p.cla p.dis (datP ps) b = rls 1 [b0, b1, b2, b3, b4, b5, b6] ∧ decide ((b.length : Int) < p.len) = b0 ∧ decide ((128 : Int) < (b.length : Int)) = b1 ∧
      b.any ctl = b2 ∧ decide ((kindsN 6 (b.map cls) : Int) < p.cla) = b3 ∧ decide ((kindsN 256 (b.map UInt8.toNat) : Int) < p.dis) = b4 ∧ (datP ps).any (partIn b) = b5 ∧ (runB b 0 || runB b 1 || runB b (-1)) = b6 :=
    ⟨_, _, _, _, _, _, _, rfl, rfl, by rw [decide_eq_decide]; omega, rfl, rfl, rfl, rfl, rfl⟩
  have HBRK := Lib.hid hbrk; have HB0 := Lib.hid hb0; have HB1 := Lib.hid hb1; have HB2 := Lib.hid hb2; have HB3 := Lib.hid hb3; have HB4 := Lib.hid hb4; have HB5 := Lib.hid hb5; have HB6 := Lib.hid hb6
  clear hbrk hb0 hb1 hb2 hb3 hb4 hb5 hb6 hcell hcell2 hB hR hps
  have h0 := heap_alloc_new w (.cells p.cs 23)
  obtain ⟨W1, e1⟩ : ∃ W, w.alloc (.cells p.cs 23) = W := ⟨_, rfl⟩
  have x1 : Ext w W1 := e1 ▸ (Ext.refl w).alloc _
  have z1 : W1.heap.size = w.heap.size + 1 := by rw [← e1]; simp
  rw [e1] at h0
  have h1 := heap_alloc_new W1 (.cells #[.slice A1 ps.length c1, .string r] 30)
  obtain ⟨W2, e2⟩ : ∃ W, W1.alloc (.cells #[.slice A1 ps.length c1, .string r] 30) = W := ⟨_, rfl⟩
  have x2 : Ext W1 W2 := e2 ▸ (Ext.refl W1).alloc _
  have z2 : W2.heap.size = w.heap.size + 1 + 1 := by rw [← e2]; simp [z1]
  rw [e2, z1] at h1
  have hI : RBI w p A1 ps.length c1 r (rls 1 ([b0, b1, b2, b3, b4, b5, b6].take 0)) (.slice none 0 0) W2 := ⟨World.ownsRow_nil _ _ _ _, x2.heap h0, h1, x1.trans x2, by omega⟩
  have HI := Lib.hid hI; have HS1 := Lib.hid z1
  clear hI h0 h1 x1 x2 z1 z2
  obtain ⟨k0, k1, k2, k3, k4, k5, k6, k7, k8, k9⟩ := HI.out.pl.cells
  have hb0 := HB0.out
  go_enter Tryz.func17, Tryz.ntmps17
  unfold Pol.v
  unfold Pol.cs at e1
  go_upto_if 18 with fail
  rw [HS1.out]
  go_cut [7] (fun v wc => RBI w p A1 ps.length c1 r (rls 1 ([b0, b1, b2, b3, b4, b5, b6].take 1)) v wc)
  case first =>
    cases b0 with
    | false =>
      have HT := Lib.hid (show rls 1 ([false, b1, b2, b3, b4, b5, b6].take (0 + 1)) = rls 1 ([false, b1, b2, b3, b4, b5, b6].take 0) from rls_not rfl)
      go_wp2_with fail
      go_meet
      case rel => rw [show (1 : Nat) = 0 + 1 from rfl, HT.out]; exact HI.out
    | true =>
      have HT := Lib.hid (show rls 1 ([true, b1, b2, b3, b4, b5, b6].take (0 + 1)) = rls 1 ([true, b1, b2, b3, b4, b5, b6].take 0) ++ [0 + 1] from rls_yes rfl)
      have HLN := Lib.hid (show (rv (rls 1 ([true, b1, b2, b3, b4, b5, b6].take 0))).length ≤ 0 from Nat.le_trans (by rw [rv_length]; exact rls_len _ _) (by simp))
      go_wp2_with (at_builtin; refine wpList_append_rs _ rfl (.tmp 19) (.tmp 20) 38 rfl (w.heap.size + 1 + 1) 33 i0 (.int .i64 0) 8 Tryz.underlying38 hi hz0 hz1 hz2 rfl _ (rv (rls 1 ([true, b1, b2, b3, b4, b5, b6].take 0))) rfl (ownsRow_ext1 HI.out.own ((Ext.refl _).alloc _)) _ [.int .i64 1] rfl (RS.one _ _ _) (by simp [Value.oneCell']) (by have := HLN.out; rw [List.length_singleton]; omega) (by omega) ?hm ?_; rotate_right; intro v4 w4 hown4 hg4 _; have HO4 := Lib.hid hown4; have HG4 := Lib.hid hg4; clear hown4 hg4)
      case hm => have h1 := HI.out.sz; simp; omega
      go_meet
      case rel => rw [show (1 : Nat) = 0 + 1 from rfl, HT.out]; exact (HI.out.ext' ((Ext.refl _).alloc _)).more HO4.out HG4.out
  case rest =>
    clear HI
    have hcut := hcut
    have HI := Lib.hid hcut
    clear hcut
    clear hb0 k0 k1 k2 k3 k4 k5 k6 k7 k8 k9
    have hb1 := HB1.out
    go_upto_if 24 with fail
    go_cut [7] (fun v wc => RBI w p A1 ps.length c1 r (rls 1 ([b0, b1, b2, b3, b4, b5, b6].take 2)) v wc)
    case first =>
      cases b1 with
      | false =>
        have HT := Lib.hid (show rls 1 ([b0, false, b2, b3, b4, b5, b6].take (1 + 1)) = rls 1 ([b0, false, b2, b3, b4, b5, b6].take 1) from rls_not rfl)
        go_wp2_with fail
        go_meet
        case rel => rw [show (2 : Nat) = 1 + 1 from rfl, HT.out]; exact HI.out
      | true =>
        have HT := Lib.hid (show rls 1 ([b0, true, b2, b3, b4, b5, b6].take (1 + 1)) = rls 1 ([b0, true, b2, b3, b4, b5, b6].take 1) ++ [1 + 1] from rls_yes rfl)
        have HLN := Lib.hid (show (rv (rls 1 ([b0, true, b2, b3, b4, b5, b6].take 1))).length ≤ 1 from Nat.le_trans (by rw [rv_length]; exact rls_len _ _) (by simp))
        go_wp2_with (at_builtin; refine wpList_append_rs _ rfl (.tmp 25) (.tmp 26) 38 rfl (w.heap.size + 1 + 1) 33 i0 (.int .i64 0) 8 Tryz.underlying38 hi hz0 hz1 hz2 rfl _ (rv (rls 1 ([b0, true, b2, b3, b4, b5, b6].take 1))) rfl (ownsRow_ext1 HI.out.own ((Ext.refl _).alloc _)) _ [.int .i64 2] rfl (RS.one _ _ _) (by simp [Value.oneCell']) (by have := HLN.out; rw [List.length_singleton]; omega) (by omega) ?hm ?_; rotate_right; intro v4 w4 hown4 hg4 _; have HO4 := Lib.hid hown4; have HG4 := Lib.hid hg4; clear hown4 hg4)
        case hm => have h1 := HI.out.sz; simp; omega
        go_meet
        case rel => rw [show (2 : Nat) = 1 + 1 from rfl, HT.out]; exact (HI.out.ext' ((Ext.refl _).alloc _)).more HO4.out HG4.out
    case rest =>
      clear HI
      have hcut := hcut
      have HI := Lib.hid hcut
      clear hcut
      clear hb1
      obtain ⟨wo, rfl⟩ : ∃ wo, wo = wc := ⟨_, rfl⟩
      go_wp2_with fail
      go_loop [8, 9] (fun q i => ∃ k : Nat, k ≤ b.length ∧ i = .int .i64 k ∧ q = .bool ((b.take k).any ctl)) (fun _ i => b.length - (intOf i).toNat)
      case atStart => exact ⟨0, Nat.zero_le _, rfl, rfl⟩
      case round =>
        obtain ⟨k, hk, rfl, rfl⟩ := hrel
        by_cases hlt : k < b.length
        · have hcc := HI.out.ext.cell (HC.out k hlt).2
          have hA := (HC.out k hlt).1
          obtain ⟨x, hx⟩ : ∃ x, b[k] = x := ⟨_, rfl⟩
          rw [hx] at hcc
          have hst : (b.take (k + 1)).any ctl = ((b.take k).any ctl || ctl x) := by rw [List.take_succ_eq_append_getElem hlt, hx, List.any_append]; simp
          have hxl := x.toNat_lt
          generalize (b.take k).any ctl = q at *
          cases q with
          | true =>
            rw [Bool.true_or] at hst
            have HST := Lib.hid hst
            clear hst hx
            subst hA
            go_wp2_with fail
            go_round
            case rel => exact ⟨k + 1, by omega, by go_num, by rw [HST.out]⟩
            case measure => simp [intOf]; omega
          | false =>
            rw [Bool.false_or] at hst
            rw [show ctl x = (decide (x.toNat < 32) || decide (x.toNat = 127)) from rfl] at hst
            subst hA
            rcases (show x.toNat < 32 ∨ (¬ x.toNat < 32 ∧ x.toNat = 127) ∨ (¬ x.toNat < 32 ∧ ¬ x.toNat = 127) by omega) with h | ⟨h, h'⟩ | ⟨h, h'⟩
            · rw [decide_eq_true h, Bool.true_or] at hst
              have HST := Lib.hid hst
              have q1 : decide ((x.toNat : Int) < 32) = true := decide_eq_true (by omega)
              clear hst hx h
              go_wp2_with fail
              go_round
              case rel => exact ⟨k + 1, by omega, by go_num, by rw [HST.out]⟩
              case measure => simp [intOf]; omega
            · rw [decide_eq_false h, Bool.false_or, decide_eq_true h'] at hst
              have HST := Lib.hid hst
              have q1 : decide ((x.toNat : Int) < 32) = false := decide_eq_false (by omega)
              have q2 : ((x.toNat : Int) == 127) = true := by rw [beq_iff_eq]; omega
              clear hst hx h h'
              go_wp2_with fail
              go_round
              case rel => exact ⟨k + 1, by omega, by go_num, by rw [HST.out]⟩
              case measure => simp [intOf]; omega
            · rw [decide_eq_false h, Bool.false_or, decide_eq_false h'] at hst
              have HST := Lib.hid hst
              have q1 : decide ((x.toNat : Int) < 32) = false := decide_eq_false (by omega)
              have q2 : ((x.toNat : Int) == 127) = false := by rw [beq_eq_false_iff_ne]; omega
              clear hst hx h h'
              go_wp2_with fail
              go_round
              case rel => exact ⟨k + 1, by omega, by go_num, by rw [HST.out]⟩
              case measure => simp [intOf]; omega
        · obtain rfl : k = b.length := by omega
          rw [List.take_length, HB2.out]
          have hnx : ¬ (b.length : Int) < (b.length : Int) := by omega
          clear hlt
          go_upto_if 49 with fail
          go_cut [7] (fun v wc => RBI w p A1 ps.length c1 r (rls 1 ([b0, b1, b2, b3, b4, b5, b6].take 3)) v wc)
          case first =>
            cases b2 with
            | false =>
              have HT := Lib.hid (show rls 1 ([b0, b1, false, b3, b4, b5, b6].take (2 + 1)) = rls 1 ([b0, b1, false, b3, b4, b5, b6].take 2) from rls_not rfl)
              go_wp2_with fail
              go_meet
              case rel => rw [show (3 : Nat) = 2 + 1 from rfl, HT.out]; exact HI.out
            | true =>
              have HT := Lib.hid (show rls 1 ([b0, b1, true, b3, b4, b5, b6].take (2 + 1)) = rls 1 ([b0, b1, true, b3, b4, b5, b6].take 2) ++ [2 + 1] from rls_yes rfl)
              have HLN := Lib.hid (show (rv (rls 1 ([b0, b1, true, b3, b4, b5, b6].take 2))).length ≤ 2 from Nat.le_trans (by rw [rv_length]; exact rls_len _ _) (by simp))
              go_wp2_with (at_builtin; refine wpList_append_rs _ rfl (.tmp 50) (.tmp 51) 38 rfl (w.heap.size + 1 + 1) 33 i0 (.int .i64 0) 8 Tryz.underlying38 hi hz0 hz1 hz2 rfl _ (rv (rls 1 ([b0, b1, true, b3, b4, b5, b6].take 2))) rfl (ownsRow_ext1 HI.out.own ((Ext.refl _).alloc _)) _ [.int .i64 3] rfl (RS.one _ _ _) (by simp [Value.oneCell']) (by have := HLN.out; rw [List.length_singleton]; omega) (by omega) ?hm ?_; rotate_right; intro v4 w4 hown4 hg4 _; have HO4 := Lib.hid hown4; have HG4 := Lib.hid hg4; clear hown4 hg4)
              case hm => have h1 := HI.out.sz; simp; omega
              go_meet
              case rel => rw [show (3 : Nat) = 2 + 1 from rfl, HT.out]; exact (HI.out.ext' ((Ext.refl _).alloc _)).more HO4.out HG4.out
          case rest =>
            clear HI
            have hcut := hcut
            have HI := Lib.hid hcut
            clear hcut
            obtain ⟨wo2, rfl⟩ : ∃ wo2, wo2 = wc := ⟨_, rfl⟩
            go_wp2_with fail
            refine (kinds_at A c b hb wo2 (HB.out.ext HI.out.ext)).mono ?_
            rintro _ w5 ⟨rfl, hx5⟩
            have HI5 := Lib.hid (HI.out.ext' hx5)
            clear HI hx5
            have HI := HI5
            clear HI5
            obtain ⟨k0, k1, k2, k3, k4, k5, k6, k7, k8, k9⟩ := HI.out.pl.cells
            have hb3 := HB3.out
            go_upto_if 61 with fail
            go_cut [7] (fun v wc => RBI w p A1 ps.length c1 r (rls 1 ([b0, b1, b2, b3, b4, b5, b6].take 4)) v wc)
            case first =>
              cases b3 with
              | false =>
                have HT := Lib.hid (show rls 1 ([b0, b1, b2, false, b4, b5, b6].take (3 + 1)) = rls 1 ([b0, b1, b2, false, b4, b5, b6].take 3) from rls_not rfl)
                go_wp2_with fail
                go_meet
                case rel => rw [show (4 : Nat) = 3 + 1 from rfl, HT.out]; exact HI.out
              | true =>
                have HT := Lib.hid (show rls 1 ([b0, b1, b2, true, b4, b5, b6].take (3 + 1)) = rls 1 ([b0, b1, b2, true, b4, b5, b6].take 3) ++ [3 + 1] from rls_yes rfl)
                have HLN := Lib.hid (show (rv (rls 1 ([b0, b1, b2, true, b4, b5, b6].take 3))).length ≤ 3 from Nat.le_trans (by rw [rv_length]; exact rls_len _ _) (by simp))
                go_wp2_with (at_builtin; refine wpList_append_rs _ rfl (.tmp 62) (.tmp 63) 38 rfl (w.heap.size + 1 + 1) 33 i0 (.int .i64 0) 8 Tryz.underlying38 hi hz0 hz1 hz2 rfl _ (rv (rls 1 ([b0, b1, b2, true, b4, b5, b6].take 3))) rfl (ownsRow_ext1 HI.out.own ((Ext.refl _).alloc _)) _ [.int .i64 4] rfl (RS.one _ _ _) (by simp [Value.oneCell']) (by have := HLN.out; rw [List.length_singleton]; omega) (by omega) ?hm ?_; rotate_right; intro v4 w4 hown4 hg4 _; have HO4 := Lib.hid hown4; have HG4 := Lib.hid hg4; clear hown4 hg4)
                case hm => have h1 := HI.out.sz; simp; omega
                go_meet
                case rel => rw [show (4 : Nat) = 3 + 1 from rfl, HT.out]; exact (HI.out.ext' ((Ext.refl _).alloc _)).more HO4.out HG4.out
            case rest =>
              clear HI
              have hcut := hcut
              have HI := Lib.hid hcut
              clear hcut
              clear k0 k1 k2 k3 k4 k5 k6 k7 k8 k9 hb3
              obtain ⟨k0, k1, k2, k3, k4, k5, k6, k7, k8, k9⟩ := HI.out.pl.cells
              have hb4 := HB4.out
              go_upto_if 68 with fail
              go_cut [7] (fun v wc => RBI w p A1 ps.length c1 r (rls 1 ([b0, b1, b2, b3, b4, b5, b6].take 5)) v wc)
              case first =>
                cases b4 with
                | false =>
                  have HT := Lib.hid (show rls 1 ([b0, b1, b2, b3, false, b5, b6].take (4 + 1)) = rls 1 ([b0, b1, b2, b3, false, b5, b6].take 4) from rls_not rfl)
                  go_wp2_with fail
                  go_meet
                  case rel => rw [show (5 : Nat) = 4 + 1 from rfl, HT.out]; exact HI.out
                | true =>
                  have HT := Lib.hid (show rls 1 ([b0, b1, b2, b3, true, b5, b6].take (4 + 1)) = rls 1 ([b0, b1, b2, b3, true, b5, b6].take 4) ++ [4 + 1] from rls_yes rfl)
                  have HLN := Lib.hid (show (rv (rls 1 ([b0, b1, b2, b3, true, b5, b6].take 4))).length ≤ 4 from Nat.le_trans (by rw [rv_length]; exact rls_len _ _) (by simp))
                  go_wp2_with (at_builtin; refine wpList_append_rs _ rfl (.tmp 69) (.tmp 70) 38 rfl (w.heap.size + 1 + 1) 33 i0 (.int .i64 0) 8 Tryz.underlying38 hi hz0 hz1 hz2 rfl _ (rv (rls 1 ([b0, b1, b2, b3, true, b5, b6].take 4))) rfl (ownsRow_ext1 HI.out.own ((Ext.refl _).alloc _)) _ [.int .i64 5] rfl (RS.one _ _ _) (by simp [Value.oneCell']) (by have := HLN.out; rw [List.length_singleton]; omega) (by omega) ?hm ?_; rotate_right; intro v4 w4 hown4 hg4 _; have HO4 := Lib.hid hown4; have HG4 := Lib.hid hg4; clear hown4 hg4)
                  case hm => have h1 := HI.out.sz; simp; omega
                  go_meet
                  case rel => rw [show (5 : Nat) = 4 + 1 from rfl, HT.out]; exact (HI.out.ext' ((Ext.refl _).alloc _)).more HO4.out HG4.out
              case rest =>
                clear HI
                have hcut := hcut
                have HI := Lib.hid hcut
                clear hcut
                clear k0 k1 k2 k3 k4 k5 k6 k7 k8 k9 hb4
                obtain ⟨wo3, rfl⟩ : ∃ wo3, wo3 = wc := ⟨_, rfl⟩
                have hnc := HI.out.nb.cell0
                go_wp2_with fail
                go_loopw [12, 13] (fun q i wr => ∃ k : Nat, k ≤ ps.length ∧ i = .int .i64 k ∧ q = .bool (((datP ps).take k).any (partIn b)) ∧ Hid (Ext wo3 wr)) (fun _ i _ => ps.length - (intOf i).toNat)
                case atStart => exact ⟨0, Nat.zero_le _, rfl, rfl, Lib.hid (Ext.refl _)⟩
                case round =>
                  obtain ⟨k, hk, rfl, rfl, HX⟩ := hrel
                  clear hnc
                  have hnc := (HI.out.nb.ext HX.out).cell0
                  by_cases hlt : k < ps.length
                  · have hcc := (HI.out.ext.trans HX.out).cell (HC2.out k hlt).2
                    have hA := (HC2.out k hlt).1
                    have hmem : ps[k] ∈ ps := List.getElem_mem hlt
                    obtain ⟨s, hs⟩ : ∃ s, ps[k] = s := ⟨_, rfl⟩
                    rw [hs] at hcc hmem
                    have hss := HPS.out s hmem
                    have hst : ((datP ps).take (k + 1)).any (partIn b) = (((datP ps).take k).any (partIn b) || partIn b s.data.toList) := by
                      have hl : k < (datP ps).length := by simp [datP]; exact hlt
                      rw [List.take_succ_eq_append_getElem hl, List.any_append]
                      simp [datP, hs]
                    have hsz := size_list s
                    generalize ((datP ps).take k).any (partIn b) = q at *
                    cases q with
                    | true =>
                      rw [Bool.true_or] at hst
                      have HST := Lib.hid hst
                      clear hst hs hmem hsz
                      subst hA
                      go_wp2_with fail
                      go_roundw
                      case rel => exact ⟨k + 1, by omega, by go_num, by rw [HST.out], HX⟩
                      case measure => simp [intOf]; omega
                    | false =>
                      rw [Bool.false_or] at hst
                      rw [show partIn b s.data.toList = (decide (3 ≤ s.data.toList.length) && hasL b s.data.toList) from rfl, hsz] at hst
                      subst hA
                      by_cases h3 : 3 ≤ s.size
                      · rw [decide_eq_true h3, Bool.true_and] at hst
                        have HST := Lib.hid hst
                        have q1 : (3 : Int) ≤ (s.size : Int) := by omega
                        have HCN := Lib.hid (Rcontains_at A c b s hb hss wr (HB.out.ext (HI.out.ext.trans HX.out)))
                        clear hst hs hmem hsz h3
                        go_wp2_with fail
                        refine HCN.out.mono ?_
                        rintro _ w6 ⟨rfl, hx6⟩
                        have HX6 := Lib.hid (HX.out.trans hx6)
                        clear hx6
                        go_wp2_with fail
                        go_roundw
                        case rel => exact ⟨k + 1, by omega, by go_num, by rw [HST.out], HX6⟩
                        case measure => simp [intOf]; omega
                      · rw [decide_eq_false h3, Bool.false_and] at hst
                        have HST := Lib.hid hst
                        have q1 : ¬ (3 : Int) ≤ (s.size : Int) := by omega
                        clear hst hs hmem hsz h3
                        go_wp2_with fail
                        go_roundw
                        case rel => exact ⟨k + 1, by omega, by go_num, by rw [HST.out], HX⟩
                        case measure => simp [intOf]; omega
                  · obtain rfl : k = ps.length := by omega
                    rw [show (datP ps).take ps.length = datP ps from List.take_of_length_le (by simp [datP]), HB5.out]
                    have hnx : ¬ (ps.length : Int) < (ps.length : Int) := by omega
                    have HI7 := Lib.hid (HI.out.ext' HX.out)
                    clear HI hlt HX
                    have HI := HI7
                    clear HI7
                    go_upto_if 98 with fail
                    go_cut [7] (fun v wc => RBI w p A1 ps.length c1 r (rls 1 ([b0, b1, b2, b3, b4, b5, b6].take 6)) v wc)
                    case first =>
                      cases b5 with
                      | false =>
                        have HT := Lib.hid (show rls 1 ([b0, b1, b2, b3, b4, false, b6].take (5 + 1)) = rls 1 ([b0, b1, b2, b3, b4, false, b6].take 5) from rls_not rfl)
                        go_wp2_with fail
                        go_meet
                        case rel => rw [show (6 : Nat) = 5 + 1 from rfl, HT.out]; exact HI.out
                      | true =>
                        have HT := Lib.hid (show rls 1 ([b0, b1, b2, b3, b4, true, b6].take (5 + 1)) = rls 1 ([b0, b1, b2, b3, b4, true, b6].take 5) ++ [5 + 1] from rls_yes rfl)
                        have HLN := Lib.hid (show (rv (rls 1 ([b0, b1, b2, b3, b4, true, b6].take 5))).length ≤ 5 from Nat.le_trans (by rw [rv_length]; exact rls_len _ _) (by simp))
                        go_wp2_with (at_builtin; refine wpList_append_rs _ rfl (.tmp 99) (.tmp 100) 38 rfl (w.heap.size + 1 + 1) 33 i0 (.int .i64 0) 8 Tryz.underlying38 hi hz0 hz1 hz2 rfl _ (rv (rls 1 ([b0, b1, b2, b3, b4, true, b6].take 5))) rfl (ownsRow_ext1 HI.out.own ((Ext.refl _).alloc _)) _ [.int .i64 6] rfl (RS.one _ _ _) (by simp [Value.oneCell']) (by have := HLN.out; rw [List.length_singleton]; omega) (by omega) ?hm ?_; rotate_right; intro v4 w4 hown4 hg4 _; have HO4 := Lib.hid hown4; have HG4 := Lib.hid hg4; clear hown4 hg4)
                        case hm => have h1 := HI.out.sz; simp; omega
                        go_meet
                        case rel => rw [show (6 : Nat) = 5 + 1 from rfl, HT.out]; exact (HI.out.ext' ((Ext.refl _).alloc _)).more HO4.out HG4.out
                    case rest =>
                      clear HI
                      have hcut := hcut
                      have HI := Lib.hid hcut
                      clear hcut
                      obtain ⟨wo4, rfl⟩ : ∃ wo4, wo4 = wc := ⟨_, rfl⟩
                      have HR := Lib.hid (fun (d : Int) (h1 : -1 ≤ d) (h2 : d ≤ 1) (w' : World) (hx : Ext wo4 w') => Rruns_at A c b d h1 h2 hb w' (HB.out.ext (HI.out.ext.trans hx)))
                      have H0 := Lib.hid (HR.out 0 (by omega) (by omega))
                      have H1 := Lib.hid (HR.out 1 (by omega) (by omega))
                      have H2 := Lib.hid (HR.out (-1) (by omega) (by omega))
                      have HB6' := HB6
                      clear HR HB6
                      obtain ⟨x0, hx0⟩ : ∃ x, runB b 0 = x := ⟨_, rfl⟩
                      obtain ⟨x1, hx1⟩ : ∃ x, runB b 1 = x := ⟨_, rfl⟩
                      obtain ⟨x2, hx2⟩ : ∃ x, runB b (-1) = x := ⟨_, rfl⟩
                      rw [hx0] at H0 HB6'
                      rw [hx1] at H1 HB6'
                      rw [hx2] at H2 HB6'
                      clear hx0 hx1 hx2
                      have hfin : ∀ (v : Value) (W : World), RBI w p A1 ps.length c1 r (rls 1 ([b0, b1, b2, b3, b4, b5, b6].take 7)) v W → (∃ A c, Ending.returned v = .returned (.slice A (brk p.len p.cla p.dis (datP ps) b).length c) ∧ RS W (.slice A (brk p.len p.cla p.dis (datP ps) b).length c) (rv (brk p.len p.cla p.dis (datP ps) b))) ∧ Ext w W := fun v W h => by
                        rw [HBRK.out]
                        have hO : W.ownsRow (w.heap.size + 1 + 1) 33 1 v (rv (rls 1 [b0, b1, b2, b3, b4, b5, b6])).length (rv (rls 1 [b0, b1, b2, b3, b4, b5, b6])) := h.own
                        refine ⟨?_, h.ext⟩
                        have hs := RS.of_own hO
                        obtain ⟨A', c', he, _⟩ := hs.open_
                        rw [rv_length] at he
                        exact ⟨A', c', by rw [he], by rw [← he]; exact hs⟩
                      have HFIN := Lib.hid hfin
                      clear hfin
                      cases x0 with
                      | true =>
                        obtain rfl : b6 = true := HB6'.out.symm
                        go_wp2_with fail
                        refine (H0.out _ (Ext.refl _)).mono ?_
                        rintro _ w6 ⟨rfl, hx6⟩
                        have HI6 := Lib.hid (HI.out.ext' hx6)
                        clear hx6
                        have HT := Lib.hid (show rls 1 ([b0, b1, b2, b3, b4, b5, true].take (6 + 1)) = rls 1 ([b0, b1, b2, b3, b4, b5, true].take 6) ++ [6 + 1] from rls_yes rfl)
                        have HLN := Lib.hid (show (rv (rls 1 ([b0, b1, b2, b3, b4, b5, true].take 6))).length ≤ 6 from Nat.le_trans (by rw [rv_length]; exact rls_len _ _) (by simp))
                        go_wp2_with (at_builtin; refine wpList_append_rs _ rfl (.tmp 112) (.tmp 113) 38 rfl (w.heap.size + 1 + 1) 33 i0 (.int .i64 0) 8 Tryz.underlying38 hi hz0 hz1 hz2 rfl _ (rv (rls 1 ([b0, b1, b2, b3, b4, b5, true].take 6))) rfl (ownsRow_ext1 HI6.out.own ((Ext.refl _).alloc _)) _ [.int .i64 7] rfl (RS.one _ _ _) (by simp [Value.oneCell']) (by have := HLN.out; rw [List.length_singleton]; omega) (by omega) ?hm ?_; rotate_right; intro v4 w4 hown4 hg4 _; have HO4 := Lib.hid hown4; have HG4 := Lib.hid hg4; clear hown4 hg4)
                        case hm => have h1 := HI6.out.sz; simp; omega
                        go_ret
                        exact HFIN.out _ _ (by rw [show (7 : Nat) = 6 + 1 from rfl, HT.out]; exact (HI6.out.ext' ((Ext.refl _).alloc _)).more HO4.out HG4.out)
                      | false =>
                        cases x1 with
                        | true =>
                          obtain rfl : b6 = true := HB6'.out.symm
                          go_wp2_with fail
                          refine (H0.out _ (Ext.refl _)).mono ?_
                          rintro _ w6 ⟨rfl, hx6⟩
                          have HX6 := Lib.hid hx6
                          clear hx6
                          go_wp2_with fail
                          refine (H1.out _ HX6.out).mono ?_
                          rintro _ w7 ⟨rfl, hx7⟩
                          have HI6 := Lib.hid (HI.out.ext' (HX6.out.trans hx7))
                          clear hx7
                          have HT := Lib.hid (show rls 1 ([b0, b1, b2, b3, b4, b5, true].take (6 + 1)) = rls 1 ([b0, b1, b2, b3, b4, b5, true].take 6) ++ [6 + 1] from rls_yes rfl)
                          have HLN := Lib.hid (show (rv (rls 1 ([b0, b1, b2, b3, b4, b5, true].take 6))).length ≤ 6 from Nat.le_trans (by rw [rv_length]; exact rls_len _ _) (by simp))
                          go_wp2_with (at_builtin; refine wpList_append_rs _ rfl (.tmp 112) (.tmp 113) 38 rfl (w.heap.size + 1 + 1) 33 i0 (.int .i64 0) 8 Tryz.underlying38 hi hz0 hz1 hz2 rfl _ (rv (rls 1 ([b0, b1, b2, b3, b4, b5, true].take 6))) rfl (ownsRow_ext1 HI6.out.own ((Ext.refl _).alloc _)) _ [.int .i64 7] rfl (RS.one _ _ _) (by simp [Value.oneCell']) (by have := HLN.out; rw [List.length_singleton]; omega) (by omega) ?hm ?_; rotate_right; intro v4 w4 hown4 hg4 _; have HO4 := Lib.hid hown4; have HG4 := Lib.hid hg4; clear hown4 hg4)
                          case hm => have h1 := HI6.out.sz; simp; omega
                          go_ret
                          exact HFIN.out _ _ (by rw [show (7 : Nat) = 6 + 1 from rfl, HT.out]; exact (HI6.out.ext' ((Ext.refl _).alloc _)).more HO4.out HG4.out)
                        | false =>
                          cases x2 with
                          | true =>
                            obtain rfl : b6 = true := HB6'.out.symm
                            go_wp2_with fail
                            refine (H0.out _ (Ext.refl _)).mono ?_
                            rintro _ w6 ⟨rfl, hx6⟩
                            have HX6 := Lib.hid hx6
                            clear hx6
                            go_wp2_with fail
                            refine (H1.out _ HX6.out).mono ?_
                            rintro _ w7 ⟨rfl, hx7⟩
                            have HX7 := Lib.hid (HX6.out.trans hx7)
                            clear hx7
                            go_wp2_with fail
                            refine (H2.out _ HX7.out).mono ?_
                            rintro _ w8 ⟨rfl, hx8⟩
                            have HI6 := Lib.hid (HI.out.ext' (HX7.out.trans hx8))
                            clear hx8
                            have HT := Lib.hid (show rls 1 ([b0, b1, b2, b3, b4, b5, true].take (6 + 1)) = rls 1 ([b0, b1, b2, b3, b4, b5, true].take 6) ++ [6 + 1] from rls_yes rfl)
                            have HLN := Lib.hid (show (rv (rls 1 ([b0, b1, b2, b3, b4, b5, true].take 6))).length ≤ 6 from Nat.le_trans (by rw [rv_length]; exact rls_len _ _) (by simp))
                            go_wp2_with (at_builtin; refine wpList_append_rs _ rfl (.tmp 112) (.tmp 113) 38 rfl (w.heap.size + 1 + 1) 33 i0 (.int .i64 0) 8 Tryz.underlying38 hi hz0 hz1 hz2 rfl _ (rv (rls 1 ([b0, b1, b2, b3, b4, b5, true].take 6))) rfl (ownsRow_ext1 HI6.out.own ((Ext.refl _).alloc _)) _ [.int .i64 7] rfl (RS.one _ _ _) (by simp [Value.oneCell']) (by have := HLN.out; rw [List.length_singleton]; omega) (by omega) ?hm ?_; rotate_right; intro v4 w4 hown4 hg4 _; have HO4 := Lib.hid hown4; have HG4 := Lib.hid hg4; clear hown4 hg4)
                            case hm => have h1 := HI6.out.sz; simp; omega
                            go_ret
                            exact HFIN.out _ _ (by rw [show (7 : Nat) = 6 + 1 from rfl, HT.out]; exact (HI6.out.ext' ((Ext.refl _).alloc _)).more HO4.out HG4.out)
                          | false =>
                            obtain rfl : b6 = false := HB6'.out.symm
                            go_wp2_with fail
                            refine (H0.out _ (Ext.refl _)).mono ?_
                            rintro _ w6 ⟨rfl, hx6⟩
                            have HX6 := Lib.hid hx6
                            clear hx6
                            go_wp2_with fail
                            refine (H1.out _ HX6.out).mono ?_
                            rintro _ w7 ⟨rfl, hx7⟩
                            have HX7 := Lib.hid (HX6.out.trans hx7)
                            clear hx7
                            go_wp2_with fail
                            refine (H2.out _ HX7.out).mono ?_
                            rintro _ w8 ⟨rfl, hx8⟩
                            have HI6 := Lib.hid (HI.out.ext' (HX7.out.trans hx8))
                            clear hx8
                            have HT := Lib.hid (show rls 1 ([b0, b1, b2, b3, b4, b5, false].take (6 + 1)) = rls 1 ([b0, b1, b2, b3, b4, b5, false].take 6) from rls_not rfl)
                            go_wp2_with fail
                            go_ret
                            exact HFIN.out _ _ (by rw [show (7 : Nat) = 6 + 1 from rfl, HT.out]; exact HI6.out)
end Go.Proofs.YtgfjmmdkdhodiaaGreatDoor
