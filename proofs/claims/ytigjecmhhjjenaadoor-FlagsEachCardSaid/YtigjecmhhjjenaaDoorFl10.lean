/- Flags: Grant. (wip/tools/genfl10.py printed this.) -/
import Derived.Test.YtigjecmhhjjenaaDoorFl9
import Derived.Deep.DeepCutAuto
import Derived.Deep.RegionHeld3
namespace Go.Proofs.YtigjecmhhjjenaaDoor
open Go Go.RowKit
set_option linter.unusedVariables false

def vB (o : W32) : Bool := hasB o 131072#32
def rB (o : W32) : Bool := hasB o 65536#32
def plB (o : W32) : Bool := !vB o && !rB o
def denB (o t a q n : W32) : Bool := plB o && hasB o q && !hasB (andW t a) n
def grantE (o t a : W32) : Int :=
  if (!optB o || !tkB t || !tkB a) = true then 2
  else if (vB o && neW (andNotW o 262144#32) 131072#32 || rB o && neW (andNotW o 262144#32) 65536#32) = true then 150
  else if (vB o != hasB t 64#32) = true then 152
  else if (rB o && !hasB t 128#32) = true then 151
  else if (plB o && !hasB t (andW o 149#32)) = true then 151
  else if denB o t a 2#32 1#32 = true then 151
  else if denB o t a 8#32 4#32 = true then 151
  else if denB o t a 32#32 16#32 = true then 151 else 0
def plainW (o t a : W32) : W32 := unionF [andW t 514#32, andW (andW o a) 149#32, andW a 2048#32, andW o 10#32, pstW o]
def grantW (o t a : W32) : W32 := if vB o = true then andNotW t 64#32 else if rB o = true then t else plainW o t a
theorem grantE_first (o t a : W32) (f1 f2 f3 f4 f5 f6 f7 f8 : Nat) (x1 x2 x3 x4 x5 x6 x7 x8 : Array Value) :
    firstF [⟨2, f1, x1, !optB o || !tkB t || !tkB a⟩, ⟨150, f2, x2, vB o && neW (andNotW o 262144#32) 131072#32 || rB o && neW (andNotW o 262144#32) 65536#32⟩, ⟨152, f3, x3, vB o != hasB t 64#32⟩, ⟨151, f4, x4, rB o && !hasB t 128#32⟩, ⟨151, f5, x5, plB o && !hasB t (andW o 149#32)⟩, ⟨151, f6, x6, denB o t a 2#32 1#32⟩, ⟨151, f7, x7, denB o t a 8#32 4#32⟩, ⟨151, f8, x8, denB o t a 32#32 16#32⟩] = grantE o t a := rfl
def TwoB (w : World) (v r : Bool) (x y : Value) (W : World) : Prop := ∃ b c, x = .pointer (some ⟨b, 0, none⟩) ∧ y = .pointer (some ⟨c, 0, none⟩) ∧ BBx W b v ∧ BBx W c r ∧ Ext w W
theorem G1_lit (c d : Int) (pl pt po pa : Nat) (q n : W32) (hc : c = (q.toNat : Int)) (hd : d = (n.toNat : Int)) (W : World) :
    Calls Tryd.prog 50 #[.int .u32 c, .int .u32 d, .pointer (some ⟨pl, 0, none⟩), .pointer (some ⟨po, 0, none⟩), .pointer (some ⟨pt, 0, none⟩), .pointer (some ⟨pa, 0, none⟩)] W fun e w' =>
      ∃ b1 b2, e = .returned (.agg #[.int .i64 151, .func (.func 51) #[] #[.pointer (some ⟨pl, 0, none⟩), .pointer (some ⟨po, 0, none⟩), .pointer (some ⟨b1, 0, none⟩), .pointer (some ⟨pt, 0, none⟩), .pointer (some ⟨pa, 0, none⟩), .pointer (some ⟨b2, 0, none⟩)]]) ∧ FB w' b1 q ∧ FB w' b2 n ∧ Ext W w' := by
  subst hc; subst hd
  exact G1_at pl pt po pa q n W
def hasI (o : W32) (c : Int) : Bool := hasB o (BitVec.ofInt 32 c)
theorem TwoB.mk1 (w : World) (x y : Bool) {v r : Bool} (hv : x = v) (hr : y = r) : TwoB w v r (.pointer (some ⟨w.heap.size, 0, none⟩)) (.pointer (some ⟨w.heap.size + 1, 0, none⟩)) ((w.alloc (.cells #[.bool x] 4)).alloc (.cells #[.bool y] 4)).drew := by
  subst hv; subst hr
  have h1 := heap_alloc_new w (.cells #[.bool x] 4)
  have h2 := heap_alloc_new (w.alloc (.cells #[.bool x] 4)) (.cells #[.bool y] 4)
  rw [World.size_alloc] at h2
  exact ⟨_, _, rfl, rfl, (((Ext.refl _).alloc _).drew').heap h1, ((Ext.refl _).drew').heap h2, (((Ext.refl w).alloc _).alloc _).drew'⟩
theorem TwoB.mk2 (w : World) (x y : Bool) {v r : Bool} (hv : x = v) (hr : y = r) : TwoB w v r (.pointer (some ⟨w.heap.size + 1, 0, none⟩)) (.pointer (some ⟨w.heap.size, 0, none⟩)) ((w.alloc (.cells #[.bool y] 4)).alloc (.cells #[.bool x] 4)).drew := by
  subst hv; subst hr
  have h1 := heap_alloc_new w (.cells #[.bool y] 4)
  have h2 := heap_alloc_new (w.alloc (.cells #[.bool y] 4)) (.cells #[.bool x] 4)
  rw [World.size_alloc] at h2
  exact ⟨_, _, rfl, rfl, ((Ext.refl _).drew').heap h2, (((Ext.refl _).alloc _).drew').heap h1, (((Ext.refl w).alloc _).alloc _).drew'⟩
theorem Has_any (o : W32) (c : Int) (h0 : 0 ≤ c) (h1 : c ≤ 4294967295) (W : World) : Calls Tryd.prog 15 #[.int .u32 (o.toNat : Int), .int .u32 c] W fun e w' => e = .returned (.bool (hasI o c)) ∧ W = w' := by
  refine Has_lit2 c o (BitVec.ofInt 32 c) ?_ W
  rw [BitVec.toNat_ofInt]
  omega
/-- A store into a box of its own, above w. -/
theorem put1 {w W : World} {b : Nat} {v : Value} {t : TypeId} (hx : Ext w W) (hb : w.heap.size ≤ b) (h : W.heap[b]? = some (.cells #[v] t (0, 0))) (u : Value) :
    Ext w (W.setCell ⟨b, 0, none⟩ u) ∧ (W.setCell ⟨b, 0, none⟩ u).heap[b]? = some (.cells #[u] t (0, 0)) ∧ W.frozen? ⟨b, 0, none⟩ = false ∧ W.cell? ⟨b, 0, none⟩ = some v :=
  ⟨hx.setCell (p := ⟨b, 0, none⟩) hb _, row1_set _ h, (row1 h).2, (row1 h).1⟩

set_option maxRecDepth 100000 in
set_option maxHeartbeats 2000000 in
theorem Grant_at (o t a : W32) (w : World) :
    Calls Tryd.prog 27 #[.int .u32 (o.toNat : Int), .int .u32 (t.toNat : Int), .int .u32 (a.toNat : Int)] w fun e w' => e = .returned (.tuple #[.int .u32 ((if grantE o t a = 0 then grantW o t a else 0#32 : W32).toNat : Int), .int .i64 (grantE o t a)]) ∧ Ext w w' := by
  have hmf : ∀ (fn : Fn) (first cap : Array Value) (w : World), (Instr.makeFunc fn first cap).run Tryd.prog w = .ok (.func fn first cap) w := fun _ _ _ _ => rfl
  obtain ⟨R, hR⟩ : ∃ R : W32, (if grantE o t a = 0 then grantW o t a else 0#32) = R := ⟨_, rfl⟩
  rw [hR]
  obtain ⟨E, hE⟩ : ∃ E, grantE o t a = E := ⟨_, rfl⟩
  rw [hE] at hR ⊢
  have HRR := Lib.hid hR; have HEE := Lib.hid hE
  clear hR hE
  have a1 := heap_alloc_new w (.cells #[.int .u32 (o.toNat : Int)] 24)
  have a2 := heap_alloc_new (w.alloc (.cells #[.int .u32 (o.toNat : Int)] 24)) (.cells #[.int .u32 (t.toNat : Int)] 24)
  have a3 := heap_alloc_new ((w.alloc (.cells #[.int .u32 (o.toNat : Int)] 24)).alloc (.cells #[.int .u32 (t.toNat : Int)] 24)) (.cells #[.int .u32 (a.toNat : Int)] 24)
  rw [World.size_alloc] at a2
  rw [World.size_alloc, World.size_alloc] at a3
  have x1 := (Ext.refl w).alloc (.cells #[.int .u32 (o.toNat : Int)] 24)
  have x2 := (Ext.refl (w.alloc (.cells #[.int .u32 (o.toNat : Int)] 24))).alloc (.cells #[.int .u32 (t.toNat : Int)] 24)
  have x3 := (Ext.refl ((w.alloc (.cells #[.int .u32 (o.toNat : Int)] 24)).alloc (.cells #[.int .u32 (t.toNat : Int)] 24))).alloc (.cells #[.int .u32 (a.toNat : Int)] 24)
  obtain ⟨wb, hwb⟩ : ∃ wb, ((w.alloc (.cells #[.int .u32 (o.toNat : Int)] 24)).alloc (.cells #[.int .u32 (t.toNat : Int)] 24)).alloc (.cells #[.int .u32 (a.toNat : Int)] 24) = wb := ⟨_, rfl⟩
  have b1 := x3.heap (x2.heap a1); have b2 := x3.heap a2; have x4 := (x1.trans x2).trans x3
  rw [hwb] at b1 b2 a3 x4
  have HB0 := Lib.hid (show FB wb w.heap.size o from b1); have HB1 := Lib.hid (show FB wb (w.heap.size + 1) t from b2); have HB2 := Lib.hid (show FB wb (w.heap.size + 1 + 1) a from a3); have HX := Lib.hid x4
  clear a1 a2 x1 x2 x3 b1 b2 a3 x4
  obtain ⟨vb, hvb⟩ : ∃ b, vB o = b := ⟨_, rfl⟩
  obtain ⟨rb, hrb⟩ : ∃ b, rB o = b := ⟨_, rfl⟩
  have HVB := Lib.hid hvb; have HRB := Lib.hid hrb
  have HI1 := Lib.hid (show hasI o 131072 = vb from hvb); have HI2 := Lib.hid (show hasI o 65536 = rb from hrb)
  clear hvb hrb
  go_enter Tryd.func27, Tryd.ntmps27
  go_upto_region 1 with fail
  clear hwb
  have k0 := (row1 HB0.out).1
  have hlt : w.heap.size < wb.heap.size := (Array.getElem?_eq_some_iff.1 HB0.out).1
  go_cut [8, 9] (fun v8 v9 wx => TwoB wb vb rb v8 v9 wx)
  case first =>
    go_region_held3 (fun w' => w'.cell? ⟨w.heap.size, 0, none⟩ = some (.int .u32 (o.toNat : Int))) (go_keep) ((go_at_call 15; refine (Has_any o _ (by omega) (by omega) _).mono ?_; rintro _ w1 ⟨rfl, rfl⟩))
    all_goals
      go_wp2_with fail
      go_meet
      case rel => first | exact TwoB.mk1 _ _ _ HI1.out HI2.out | exact TwoB.mk2 _ _ _ HI1.out HI2.out
  case rest =>
    obtain ⟨pv, pr, rfl, rfl, hbv, hbr, hxc⟩ := hcut
    obtain ⟨wm, rfl⟩ : ∃ wm : World, wm = wc := ⟨_, rfl⟩
    have HBV := Lib.hid hbv; have HBR := Lib.hid hbr; have HXC := Lib.hid hxc
    clear k0 hlt HI1 HI2 hbv hbr hxc
    have k1 := (row1 HBV.out).1; have k2 := (row1 HBR.out).1
    go_upto_region 2 with fail
    go_cut [10] (fun v10 wx => v10 = .pointer (some ⟨wm.heap.size, 0, none⟩) ∧ wx = wm.alloc (.cells #[.bool (!vb && !rb)] 4))
    case first =>
      cases vb with
      | true =>
        go_wp2_with fail
        go_meet
        case rel => exact ⟨rfl, rfl⟩
      | false =>
        cases rb with
        | true =>
          go_wp2_with fail
          go_meet
          case rel => exact ⟨rfl, rfl⟩
        | false =>
          go_wp2_with fail
          go_meet
          case rel => exact ⟨rfl, rfl⟩
    case rest =>
      obtain ⟨rfl, hw0⟩ := hcut
      have HBP := Lib.hid (show BBx wc wm.heap.size (plB o) by
        rw [hw0, show plB o = (!vb && !rb) by unfold plB; rw [HVB.out, HRB.out]]
        exact heap_alloc_new wm (.cells #[.bool (!vb && !rb)] 4))
      have HX0 := Lib.hid (show Ext wm wc by rw [hw0]; exact (Ext.refl wm).alloc _)
      clear hw0 k1 k2
      have HB0c := Lib.hid ((HB0.out.ext HXC.out).ext HX0.out); have HB1c := Lib.hid ((HB1.out.ext HXC.out).ext HX0.out); have HB2c := Lib.hid ((HB2.out.ext HXC.out).ext HX0.out)
      have HBVc := Lib.hid (HBV.out.ext HX0.out); have HBRc := Lib.hid (HBR.out.ext HX0.out); have HXc := Lib.hid ((HX.out.trans HXC.out).trans HX0.out)
      clear HB0 HB1 HB2 HBV HBR HX HXC HX0
      go_wp2_with fail
      refine (G1_lit 2 1 wm.heap.size (w.heap.size + 1) w.heap.size (w.heap.size + 1 + 1) 2#32 1#32 (by decide) (by decide) _).mono ?_
      rintro _ w1 ⟨q1, n1, rfl, hq1, hn1, hx1⟩
      have HQ1 := Lib.hid hq1; have HN1 := Lib.hid hn1; have HX1 := Lib.hid hx1
      clear hq1 hn1 hx1
      go_wp2_with fail
      refine (G1_lit 8 4 wm.heap.size (w.heap.size + 1) w.heap.size (w.heap.size + 1 + 1) 8#32 4#32 (by decide) (by decide) _).mono ?_
      rintro _ w2 ⟨q2, n2, rfl, hq2, hn2, hx2⟩
      have HQ2 := Lib.hid hq2; have HN2 := Lib.hid hn2; have HX2 := Lib.hid hx2
      clear hq2 hn2 hx2
      go_wp2_with fail
      refine (G1_lit 32 16 wm.heap.size (w.heap.size + 1) w.heap.size (w.heap.size + 1 + 1) 32#32 16#32 (by decide) (by decide) _).mono ?_
      rintro _ w3 ⟨q3, n3, rfl, hq3, hn3, hx3⟩
      have HQ3 := Lib.hid hq3; have HN3 := Lib.hid hn3; have HX3 := Lib.hid hx3
      clear hq3 hn3 hx3
      have HC3 := Lib.hid ((HX1.out.trans HX2.out).trans HX3.out)
      have HFR := Lib.hid (first_row [⟨2, 52, #[.pointer (some ⟨w.heap.size, 0, none⟩), .pointer (some ⟨w.heap.size + 1, 0, none⟩), .pointer (some ⟨w.heap.size + 1 + 1, 0, none⟩)], !optB o || !tkB t || !tkB a⟩, ⟨150, 53, #[.pointer (some ⟨w.heap.size, 0, none⟩), .pointer (some ⟨pv, 0, none⟩), .pointer (some ⟨pr, 0, none⟩)], vB o && neW (andNotW o 262144#32) 131072#32 || rB o && neW (andNotW o 262144#32) 65536#32⟩, ⟨152, 54, #[.pointer (some ⟨pv, 0, none⟩), .pointer (some ⟨w.heap.size + 1, 0, none⟩)], vB o != hasB t 64#32⟩, ⟨151, 55, #[.pointer (some ⟨pr, 0, none⟩), .pointer (some ⟨w.heap.size + 1, 0, none⟩)], rB o && !hasB t 128#32⟩, ⟨151, 56, #[.pointer (some ⟨wm.heap.size, 0, none⟩), .pointer (some ⟨w.heap.size + 1, 0, none⟩), .pointer (some ⟨w.heap.size, 0, none⟩)], plB o && !hasB t (andW o 149#32)⟩, ⟨151, 51, #[.pointer (some ⟨wm.heap.size, 0, none⟩), .pointer (some ⟨w.heap.size, 0, none⟩), .pointer (some ⟨q1, 0, none⟩), .pointer (some ⟨w.heap.size + 1, 0, none⟩), .pointer (some ⟨w.heap.size + 1 + 1, 0, none⟩), .pointer (some ⟨n1, 0, none⟩)], denB o t a 2#32 1#32⟩, ⟨151, 51, #[.pointer (some ⟨wm.heap.size, 0, none⟩), .pointer (some ⟨w.heap.size, 0, none⟩), .pointer (some ⟨q2, 0, none⟩), .pointer (some ⟨w.heap.size + 1, 0, none⟩), .pointer (some ⟨w.heap.size + 1 + 1, 0, none⟩), .pointer (some ⟨n2, 0, none⟩)], denB o t a 8#32 4#32⟩, ⟨151, 51, #[.pointer (some ⟨wm.heap.size, 0, none⟩), .pointer (some ⟨w.heap.size, 0, none⟩), .pointer (some ⟨q3, 0, none⟩), .pointer (some ⟨w.heap.size + 1, 0, none⟩), .pointer (some ⟨w.heap.size + 1 + 1, 0, none⟩), .pointer (some ⟨n3, 0, none⟩)], denB o t a 32#32 16#32⟩] (by simp) w3
        (by
          refine List.forall_mem_cons.2 ⟨?_, List.forall_mem_cons.2 ⟨?_, List.forall_mem_cons.2 ⟨?_, List.forall_mem_cons.2 ⟨?_, List.forall_mem_cons.2 ⟨?_, List.forall_mem_cons.2 ⟨?_, List.forall_mem_cons.2 ⟨?_, List.forall_mem_cons.2 ⟨?_, fun r hr => by cases hr⟩⟩⟩⟩⟩⟩⟩⟩
          · exact Go.Proofs.enters_of Tryd.func52 (by kernel_rfl) rfl
          · exact Go.Proofs.enters_of Tryd.func53 (by kernel_rfl) rfl
          · exact Go.Proofs.enters_of Tryd.func54 (by kernel_rfl) rfl
          · exact Go.Proofs.enters_of Tryd.func55 (by kernel_rfl) rfl
          · exact Go.Proofs.enters_of Tryd.func56 (by kernel_rfl) rfl
          · exact Go.Proofs.enters_of Tryd.func51 (by kernel_rfl) rfl
          · exact Go.Proofs.enters_of Tryd.func51 (by kernel_rfl) rfl
          · exact Go.Proofs.enters_of Tryd.func51 (by kernel_rfl) rfl)
        (by
          refine List.forall_mem_cons.2 ⟨fun W hW => ?_, List.forall_mem_cons.2 ⟨fun W hW => ?_, List.forall_mem_cons.2 ⟨fun W hW => ?_, List.forall_mem_cons.2 ⟨fun W hW => ?_, List.forall_mem_cons.2 ⟨fun W hW => ?_, List.forall_mem_cons.2 ⟨fun W hW => ?_, List.forall_mem_cons.2 ⟨fun W hW => ?_, List.forall_mem_cons.2 ⟨fun W hW => ?_, fun r hr => by cases hr⟩⟩⟩⟩⟩⟩⟩⟩
          · exact G2_at _ _ _ o t a W (HB0c.out.ext (HC3.out.trans hW)) (HB1c.out.ext (HC3.out.trans hW)) (HB2c.out.ext (HC3.out.trans hW))
          · exact HVB.out.symm ▸ HRB.out.symm ▸ G3_at _ _ _ o vb rb W (HB0c.out.ext (HC3.out.trans hW)) (HBVc.out.ext (HC3.out.trans hW)) (HBRc.out.ext (HC3.out.trans hW))
          · exact HVB.out.symm ▸ G4_at _ _ vb t W (HBVc.out.ext (HC3.out.trans hW)) (HB1c.out.ext (HC3.out.trans hW))
          · exact HRB.out.symm ▸ G5_at _ _ rb t W (HBRc.out.ext (HC3.out.trans hW)) (HB1c.out.ext (HC3.out.trans hW))
          · exact G6_at _ _ _ (plB o) t o W (HBP.out.ext (HC3.out.trans hW)) (HB1c.out.ext (HC3.out.trans hW)) (HB0c.out.ext (HC3.out.trans hW))
          · exact GD_at _ _ _ _ _ _ (plB o) o 2#32 t a 1#32 W (HBP.out.ext (HC3.out.trans hW)) (HB0c.out.ext (HC3.out.trans hW)) ((HQ1.out.ext (HX2.out.trans HX3.out)).ext hW) (HB1c.out.ext (HC3.out.trans hW)) (HB2c.out.ext (HC3.out.trans hW)) ((HN1.out.ext (HX2.out.trans HX3.out)).ext hW)
          · exact GD_at _ _ _ _ _ _ (plB o) o 8#32 t a 4#32 W (HBP.out.ext (HC3.out.trans hW)) (HB0c.out.ext (HC3.out.trans hW)) ((HQ2.out.ext HX3.out).ext hW) (HB1c.out.ext (HC3.out.trans hW)) (HB2c.out.ext (HC3.out.trans hW)) ((HN2.out.ext HX3.out).ext hW)
          · exact GD_at _ _ _ _ _ _ (plB o) o 32#32 t a 16#32 W (HBP.out.ext (HC3.out.trans hW)) (HB0c.out.ext (HC3.out.trans hW)) (HQ3.out.ext hW) (HB1c.out.ext (HC3.out.trans hW)) (HB2c.out.ext (HC3.out.trans hW)) (HN3.out.ext hW)))
      rw [grantE_first, HEE.out] at HFR
      simp only [rowR, List.length_cons, List.length_nil] at HFR
      have HXR := Lib.hid (fun W (h : Ext (w3.alloc (.cells #[.int .i64 2, .func (.func 52) #[] #[.pointer (some ⟨w.heap.size, 0, none⟩), .pointer (some ⟨w.heap.size + 1, 0, none⟩), .pointer (some ⟨w.heap.size + 1 + 1, 0, none⟩)], .int .i64 150, .func (.func 53) #[] #[.pointer (some ⟨w.heap.size, 0, none⟩), .pointer (some ⟨pv, 0, none⟩), .pointer (some ⟨pr, 0, none⟩)], .int .i64 152, .func (.func 54) #[] #[.pointer (some ⟨pv, 0, none⟩), .pointer (some ⟨w.heap.size + 1, 0, none⟩)], .int .i64 151, .func (.func 55) #[] #[.pointer (some ⟨pr, 0, none⟩), .pointer (some ⟨w.heap.size + 1, 0, none⟩)], .int .i64 151, .func (.func 56) #[] #[.pointer (some ⟨wm.heap.size, 0, none⟩), .pointer (some ⟨w.heap.size + 1, 0, none⟩), .pointer (some ⟨w.heap.size, 0, none⟩)], .int .i64 151, .func (.func 51) #[] #[.pointer (some ⟨wm.heap.size, 0, none⟩), .pointer (some ⟨w.heap.size, 0, none⟩), .pointer (some ⟨q1, 0, none⟩), .pointer (some ⟨w.heap.size + 1, 0, none⟩), .pointer (some ⟨w.heap.size + 1 + 1, 0, none⟩), .pointer (some ⟨n1, 0, none⟩)], .int .i64 151, .func (.func 51) #[] #[.pointer (some ⟨wm.heap.size, 0, none⟩), .pointer (some ⟨w.heap.size, 0, none⟩), .pointer (some ⟨q2, 0, none⟩), .pointer (some ⟨w.heap.size + 1, 0, none⟩), .pointer (some ⟨w.heap.size + 1 + 1, 0, none⟩), .pointer (some ⟨n2, 0, none⟩)], .int .i64 151, .func (.func 51) #[] #[.pointer (some ⟨wm.heap.size, 0, none⟩), .pointer (some ⟨w.heap.size, 0, none⟩), .pointer (some ⟨q3, 0, none⟩), .pointer (some ⟨w.heap.size + 1, 0, none⟩), .pointer (some ⟨w.heap.size + 1 + 1, 0, none⟩), .pointer (some ⟨n3, 0, none⟩)]] 81)) W) => (((Ext.refl w3).alloc (.cells #[.int .i64 2, .func (.func 52) #[] #[.pointer (some ⟨w.heap.size, 0, none⟩), .pointer (some ⟨w.heap.size + 1, 0, none⟩), .pointer (some ⟨w.heap.size + 1 + 1, 0, none⟩)], .int .i64 150, .func (.func 53) #[] #[.pointer (some ⟨w.heap.size, 0, none⟩), .pointer (some ⟨pv, 0, none⟩), .pointer (some ⟨pr, 0, none⟩)], .int .i64 152, .func (.func 54) #[] #[.pointer (some ⟨pv, 0, none⟩), .pointer (some ⟨w.heap.size + 1, 0, none⟩)], .int .i64 151, .func (.func 55) #[] #[.pointer (some ⟨pr, 0, none⟩), .pointer (some ⟨w.heap.size + 1, 0, none⟩)], .int .i64 151, .func (.func 56) #[] #[.pointer (some ⟨wm.heap.size, 0, none⟩), .pointer (some ⟨w.heap.size + 1, 0, none⟩), .pointer (some ⟨w.heap.size, 0, none⟩)], .int .i64 151, .func (.func 51) #[] #[.pointer (some ⟨wm.heap.size, 0, none⟩), .pointer (some ⟨w.heap.size, 0, none⟩), .pointer (some ⟨q1, 0, none⟩), .pointer (some ⟨w.heap.size + 1, 0, none⟩), .pointer (some ⟨w.heap.size + 1 + 1, 0, none⟩), .pointer (some ⟨n1, 0, none⟩)], .int .i64 151, .func (.func 51) #[] #[.pointer (some ⟨wm.heap.size, 0, none⟩), .pointer (some ⟨w.heap.size, 0, none⟩), .pointer (some ⟨q2, 0, none⟩), .pointer (some ⟨w.heap.size + 1, 0, none⟩), .pointer (some ⟨w.heap.size + 1 + 1, 0, none⟩), .pointer (some ⟨n2, 0, none⟩)], .int .i64 151, .func (.func 51) #[] #[.pointer (some ⟨wm.heap.size, 0, none⟩), .pointer (some ⟨w.heap.size, 0, none⟩), .pointer (some ⟨q3, 0, none⟩), .pointer (some ⟨w.heap.size + 1, 0, none⟩), .pointer (some ⟨w.heap.size + 1 + 1, 0, none⟩), .pointer (some ⟨n3, 0, none⟩)]] 81)).trans h))
      go_wp2_with fail
      refine HFR.out.mono ?_
      rintro _ wd ⟨rfl, hxd⟩
      have HXD := Lib.hid (HC3.out.trans (HXR.out _ hxd))
      have HXF := Lib.hid (HXc.out.trans HXD.out)
      have HB0d := Lib.hid (HB0c.out.ext HXD.out); have HB1d := Lib.hid (HB1c.out.ext HXD.out); have HB2d := Lib.hid (HB2c.out.ext HXD.out); have HBVd := Lib.hid (HBVc.out.ext HXD.out); have HBRd := Lib.hid (HBRc.out.ext HXD.out)
      clear hxd HFR HXR HXD HC3 HX1 HX2 HX3 HQ1 HQ2 HQ3 HN1 HN2 HN3 HB0c HB1c HB2c HBVc HBRc HXc HBP
      by_cases hz : E = 0
      · subst hz
        obtain rfl : grantW o t a = R := by have := HRR.out; rwa [if_pos rfl] at this
        clear HRR HEE
        have c1 := (row1 HBVd.out).1; have c2 := (row1 HBRd.out).1; have c3 := (row1 HB1d.out).1
        cases vb with
        | true =>
          have hu := u32_andNot t 64#32
          have e64 : ((64#32 : W32).toNat : Int) = 64 := rfl
          rw [e64] at hu
          have HU := Lib.hid (show grantW o t a = andNotW t 64#32 by unfold grantW; rw [if_pos HVB.out])
          clear e64
          go_wp2_with fail
          go_ret2
          exact ⟨by rw [HU.out]; rfl, HXF.out⟩
        | false =>
          cases rb with
          | true =>
            have HU := Lib.hid (show grantW o t a = t by unfold grantW; rw [if_neg (by rw [HVB.out]; simp), if_pos HRB.out])
            go_wp2_with fail
            go_ret2
            exact ⟨by rw [HU.out]; rfl, HXF.out⟩
          | false =>
            have HU := Lib.hid (show grantW o t a = plainW o t a by unfold grantW; rw [if_neg (by rw [HVB.out]; simp), if_neg (by rw [HRB.out]; simp)])
            have hu1 := u32_and t 514#32; have hu2 := u32_and o a; have hu3 := u32_and (andW o a) 149#32; have hu4 := u32_and a 2048#32; have hu5 := u32_and o 10#32
            have e1 : ((514#32 : W32).toNat : Int) = 514 := rfl; have e2 : ((149#32 : W32).toNat : Int) = 149 := rfl; have e3 : ((2048#32 : W32).toNat : Int) = 2048 := rfl; have e4 : ((10#32 : W32).toNat : Int) = 10 := rfl
            rw [e1] at hu1
            rw [e2] at hu3
            rw [e3] at hu4
            rw [e4] at hu5
            clear e1 e2 e3 e4
            go_wp2_with fail
            clear c1 c2 c3
            refine wp_region_ext_tail 12 (fun i v' w' => match i with | 11 => v' = .int .u32 ((pstW o).toNat : Int) | _ => False) (by kernel_rfl) (by kernel_rfl) ?_
            refine wpE_op rfl rfl (fun w' hw' K' hK' => ?_)
            have hE := hw'.1
            have u0 := (row1 (HB1d.out.ext ((Ext.drew wd).trans hE))).1
            go_step
            refine hK' _ ⟨_, rfl⟩ ?_
            clear hK' K' u0 hE hw' w'
            refine wpE_op rfl rfl (fun w' hw' K' hK' => ?_)
            have hE := hw'.1
            go_step
            refine hK' _ ⟨_, rfl⟩ ?_
            clear hK' K' hE hw' w'
            refine wpE_op rfl rfl (fun w' hw' K' hK' => ?_)
            have hE := hw'.1
            have u0 := (row1 (HB0d.out.ext ((Ext.drew wd).trans hE))).1
            go_step
            refine hK' _ ⟨_, rfl⟩ ?_
            clear hK' K' u0 hE hw' w'
            refine wpE_op rfl rfl (fun w' hw' K' hK' => ?_)
            have hE := hw'.1
            have u0 := (row1 (HB2d.out.ext ((Ext.drew wd).trans hE))).1
            go_step
            refine hK' _ ⟨_, rfl⟩ ?_
            clear hK' K' u0 hE hw' w'
            refine wpE_op rfl rfl (fun w' hw' K' hK' => ?_)
            have hE := hw'.1
            go_step
            refine hK' _ ⟨_, rfl⟩ ?_
            clear hK' K' hE hw' w'
            refine wpE_op rfl rfl (fun w' hw' K' hK' => ?_)
            have hE := hw'.1
            go_step
            refine hK' _ ⟨_, rfl⟩ ?_
            clear hK' K' hE hw' w'
            refine wpE_op rfl rfl (fun w' hw' K' hK' => ?_)
            have hE := hw'.1
            have u0 := (row1 (HB2d.out.ext ((Ext.drew wd).trans hE))).1
            go_step
            refine hK' _ ⟨_, rfl⟩ ?_
            clear hK' K' u0 hE hw' w'
            refine wpE_op rfl rfl (fun w' hw' K' hK' => ?_)
            have hE := hw'.1
            go_step
            refine hK' _ ⟨_, rfl⟩ ?_
            clear hK' K' hE hw' w'
            refine wpE_op rfl rfl (fun w' hw' K' hK' => ?_)
            have hE := hw'.1
            have u0 := (row1 (HB0d.out.ext ((Ext.drew wd).trans hE))).1
            go_step
            refine hK' _ ⟨_, rfl⟩ ?_
            clear hK' K' u0 hE hw' w'
            refine wpE_op rfl rfl (fun w' hw' K' hK' => ?_)
            have hE := hw'.1
            go_step
            refine hK' _ ⟨_, rfl⟩ ?_
            clear hK' K' hE hw' w'
            refine wpE_op rfl rfl (fun w' hw' K' hK' => ?_)
            have hE := hw'.1
            have u0 := (row1 (HB0d.out.ext ((Ext.drew wd).trans hE))).1
            go_step
            refine hK' _ ⟨_, rfl⟩ ?_
            clear hK' K' u0 hE hw' w'
            refine wpE_call 64 rfl (by simp) rfl (fun w' hw' K' hK' => ?_) ?_
            · have hE := hw'.1
              go_step
              refine (postdated_at o w').mono ?_
              rintro _ w2 ⟨rfl, hx⟩
              exact hK' _ _ ⟨_, rfl, rfl⟩ hx
            rintro _ w6 _ rfl
            simp only [Act.put, List.setIfInBounds_toArray, List.set_cons_succ, List.set_cons_zero]
            refine wpE_nil (fun w7 hw7 => ?_)
            have HX7 := Lib.hid (HXF.out.trans ((Ext.drew wd).trans hw7.1))
            have HR7 := Lib.hid (show RS (w7.alloc (.cells #[.int .u32 ((andW t 514#32).toNat : Int), .int .u32 ((andW (andW o a) 149#32).toNat : Int), .int .u32 ((andW a 2048#32).toNat : Int), .int .u32 ((andW o 10#32).toNat : Int), .int .u32 ((pstW o).toNat : Int)] 24)) (.slice (some ⟨w7.heap.size, 0, none⟩) 5 5) (fvs [andW t 514#32, andW (andW o a) 149#32, andW a 2048#32, andW o 10#32, pstW o]) from RS.new w7 _ (fvs [andW t 514#32, andW (andW o a) 149#32, andW a 2048#32, andW o 10#32, pstW o]) (by simp [fvs, maxLen]))
            clear hw7 hu1 hu2 hu3 hu4 hu5
            simp only [List.drop_succ_cons, List.drop_zero]
            go_wp2_with fail
            refine (union_at _ _ [andW t 514#32, andW (andW o a) 149#32, andW a 2048#32, andW o 10#32, pstW o] (by simp) _ HR7.out).mono ?_
            rintro _ w8 ⟨rfl, rfl⟩
            go_wp2_with fail
            go_ret2
            exact ⟨by rw [HU.out]; rfl, HX7.out.alloc _⟩
      · have hz1 : (E == 0) = false := by rw [beq_eq_false_iff_ne]; exact hz
        have hz2 : (E != 0) = true := by rw [bne, hz1]; rfl
        obtain rfl : 0#32 = R := by have := HRR.out; rwa [if_neg hz] at this
        clear hz HRR
        go_wp2_with fail
        go_ret2
        exact ⟨rfl, HXF.out⟩
end Go.Proofs.YtigjecmhhjjenaaDoor
