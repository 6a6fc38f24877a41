/- Flags: Initial. (wip/tools/genfl9.py printed this.) -/
import Derived.Test.YtigjecmhhjjenaaDoorFl8
namespace Go.Proofs.YtigjecmhhjjenaaDoor
open Go Go.RowKit
set_option linter.unusedVariables false

def fgnW : W32 := unionF [2#32, 8#32, 65536#32, 131072#32, 524288#32]
def pstW (o : W32) : W32 := bif hasB o 32#32 then 96#32 else 0#32
def initE (o a : W32) : Int := if (!optB o || !tkB a) = true then 2 else if neW (andW o fgnW) 0#32 = true then 150 else if (hasB o 32#32 && !hasB a 16#32) = true then 151 else 0
def initW (o a : W32) (p : Bool) : W32 := bif p then unionF [unionF [256#32, andW (andW o a) 149#32, pstW o], 512#32] else unionF [256#32, andW (andW o a) 149#32, pstW o]
theorem initE_first (o a : W32) (f g h : Nat) (x y z : Array Value) : firstF [⟨2, f, x, !optB o || !tkB a⟩, ⟨150, g, y, neW (andW o fgnW) 0#32⟩, ⟨151, h, z, hasB o 32#32 && !hasB a 16#32⟩] = initE o a := rfl

set_option maxRecDepth 100000 in
set_option maxHeartbeats 2000000 in
theorem Initial_at (o a : W32) (p : Bool) (w : World) :
    Calls Tryd.prog 25 #[.int .u32 (o.toNat : Int), .int .u32 (a.toNat : Int), .bool p] w fun e w' => e = .returned (.tuple #[.int .u32 ((if initE o a = 0 then initW o a p else 0#32 : W32).toNat : Int), .int .i64 (initE o a)]) ∧ Ext w w' := by
  have hmf : ∀ (fn : Fn) (first cap : Array Value) (w : World), (Instr.makeFunc fn first cap).run Tryd.prog w = .ok (.func fn first cap) w := fun _ _ _ _ => rfl
  obtain ⟨R, hR⟩ : ∃ R : W32, (if initE o a = 0 then initW o a p else 0#32) = R := ⟨_, rfl⟩
  rw [hR]
  obtain ⟨E, hE⟩ : ∃ E, initE o a = E := ⟨_, rfl⟩
  rw [hE] at hR ⊢
  have HRR := Lib.hid hR; have HEE := Lib.hid hE
  clear hR hE
  have a1 := heap_alloc_new w (.cells #[.int .u32 (o.toNat : Int)] 24)
  have a2 := heap_alloc_new (w.alloc (.cells #[.int .u32 (o.toNat : Int)] 24)) (.cells #[.int .u32 (a.toNat : Int)] 24)
  rw [World.size_alloc] at a2
  have x1 := (Ext.refl w).alloc (.cells #[.int .u32 (o.toNat : Int)] 24)
  have x2 := (Ext.refl (w.alloc (.cells #[.int .u32 (o.toNat : Int)] 24))).alloc (.cells #[.int .u32 (a.toNat : Int)] 24)
  obtain ⟨wb, hwb⟩ : ∃ wb, (w.alloc (.cells #[.int .u32 (o.toNat : Int)] 24)).alloc (.cells #[.int .u32 (a.toNat : Int)] 24) = wb := ⟨_, rfl⟩
  have hzb : wb.heap.size = w.heap.size + 1 + 1 := by rw [← hwb]; simp
  have b1 := x2.heap a1; have x3 := x1.trans x2
  rw [hwb] at b1 a2 x3
  have HB0 := Lib.hid (show FB wb w.heap.size o from b1); have HB1 := Lib.hid (show FB wb (w.heap.size + 1) a from a2); have HX := Lib.hid x3; have HZ := Lib.hid hzb
  clear a1 x1 x2 b1 a2 x3 hzb
  have HR := Lib.hid (show RS (wb.alloc (.cells #[.int .u32 2, .int .u32 8, .int .u32 65536, .int .u32 131072, .int .u32 524288] 24)) (.slice (some ⟨wb.heap.size, 0, none⟩) 5 5) (fvs [2#32, 8#32, 65536#32, 131072#32, 524288#32]) from RS.new wb _ (fvs [2#32, 8#32, 65536#32, 131072#32, 524288#32]) (by decide))
  go_enter Tryd.func25, Tryd.ntmps25
  go_wp2_with fail
  clear hwb
  refine (union_at _ _ [2#32, 8#32, 65536#32, 131072#32, 524288#32] (by decide) _ HR.out).mono ?_
  rintro _ w1 ⟨rfl, rfl⟩
  have y1 := (Ext.refl wb).alloc (.cells #[.int .u32 2, .int .u32 8, .int .u32 65536, .int .u32 131072, .int .u32 524288] 24)
  have g1 := heap_alloc_new (wb.alloc (.cells #[.int .u32 2, .int .u32 8, .int .u32 65536, .int .u32 131072, .int .u32 524288] 24)) (.cells #[.int .u32 ((unionF [2#32, 8#32, 65536#32, 131072#32, 524288#32]).toNat : Int)] 24)
  rw [World.size_alloc] at g1
  have y2 := (Ext.refl (wb.alloc (.cells #[.int .u32 2, .int .u32 8, .int .u32 65536, .int .u32 131072, .int .u32 524288] 24))).alloc (.cells #[.int .u32 ((unionF [2#32, 8#32, 65536#32, 131072#32, 524288#32]).toNat : Int)] 24)
  obtain ⟨wc, hwc⟩ : ∃ wc, (wb.alloc (.cells #[.int .u32 2, .int .u32 8, .int .u32 65536, .int .u32 131072, .int .u32 524288] 24)).alloc (.cells #[.int .u32 ((unionF [2#32, 8#32, 65536#32, 131072#32, 524288#32]).toNat : Int)] 24) = wc := ⟨_, rfl⟩
  rw [hwc] at g1
  have HXC := Lib.hid (show Ext wb wc by rw [← hwc]; exact y1.trans y2)
  have HG := Lib.hid (show FB wc (wb.heap.size + 1) fgnW from g1)
  have HZC := Lib.hid (show wb.heap.size + 1 < wc.heap.size by rw [← hwc]; simp)
  clear y1 y2 g1 HR
  have HFR := Lib.hid (first_row [⟨2, 44, #[.pointer (some ⟨w.heap.size, 0, none⟩), .pointer (some ⟨w.heap.size + 1, 0, none⟩)], !optB o || !tkB a⟩, ⟨150, 45, #[.pointer (some ⟨w.heap.size, 0, none⟩), .pointer (some ⟨wb.heap.size + 1, 0, none⟩)], neW (andW o fgnW) 0#32⟩, ⟨151, 46, #[.pointer (some ⟨w.heap.size, 0, none⟩), .pointer (some ⟨w.heap.size + 1, 0, none⟩)], hasB o 32#32 && !hasB a 16#32⟩] (by simp) wc
    (by
      refine List.forall_mem_cons.2 ⟨?_, List.forall_mem_cons.2 ⟨?_, List.forall_mem_cons.2 ⟨?_, fun r hr => by cases hr⟩⟩⟩
      · exact Go.Proofs.enters_of Tryd.func44 (by kernel_rfl) rfl
      · exact Go.Proofs.enters_of Tryd.func45 (by kernel_rfl) rfl
      · exact Go.Proofs.enters_of Tryd.func46 (by kernel_rfl) rfl)
    (by
      refine List.forall_mem_cons.2 ⟨fun W hW => ?_, List.forall_mem_cons.2 ⟨fun W hW => ?_, List.forall_mem_cons.2 ⟨fun W hW => ?_, fun r hr => by cases hr⟩⟩⟩
      · exact I1_at _ _ o a W (HB0.out.ext (HXC.out.trans hW)) (HB1.out.ext (HXC.out.trans hW))
      · exact I2_at _ _ o fgnW W (HB0.out.ext (HXC.out.trans hW)) (HG.out.ext hW)
      · exact I3_at _ _ o a W (HB0.out.ext (HXC.out.trans hW)) (HB1.out.ext (HXC.out.trans hW))))
  rw [initE_first, HEE.out] at HFR
  simp only [rowR, List.length_cons, List.length_nil] at HFR
  have HXW := Lib.hid (HX.out.trans HXC.out)
  go_wp2_with fail
  refine HFR.out.mono ?_
  rintro _ wd ⟨rfl, hxd⟩
  have HXD := Lib.hid (((HX.out.trans HXC.out).alloc (.cells #[.int .i64 2, .func (.func 44) #[] #[.pointer (some ⟨w.heap.size, 0, none⟩), .pointer (some ⟨w.heap.size + 1, 0, none⟩)], .int .i64 150, .func (.func 45) #[] #[.pointer (some ⟨w.heap.size, 0, none⟩), .pointer (some ⟨wb.heap.size + 1, 0, none⟩)], .int .i64 151, .func (.func 46) #[] #[.pointer (some ⟨w.heap.size, 0, none⟩), .pointer (some ⟨w.heap.size + 1, 0, none⟩)]] 81)).trans hxd)
  have HB0D := Lib.hid (((HB0.out.ext HXC.out).ext ((Ext.refl wc).alloc _)).ext hxd); have HB1D := Lib.hid (((HB1.out.ext HXC.out).ext ((Ext.refl wc).alloc _)).ext hxd)
  clear hxd HFR HXW hwc
  by_cases hz : E = 0
  · subst hz
    obtain rfl : initW o a p = R := by have := HRR.out; rwa [if_pos rfl] at this
    clear HRR
    have hu := u32_and o a
    have hu2 := u32_and (andW o a) 149#32
    have e149 : ((149#32 : W32).toNat : Int) = 149 := rfl
    rw [e149] at hu2
    clear e149
    go_wp2_with fail
    refine wp_region_ext_tail 6 (fun i v' w' => match i with | 5 => v' = .int .u32 ((pstW o).toNat : Int) | _ => False) (by kernel_rfl) (by kernel_rfl) ?_
    refine wpE_op rfl rfl (fun w' hw' K' hK' => ?_)
    have hE := hw'.1
    have u0 := (row1 (HB0D.out.ext ((Ext.drew wd).trans hE))).1
    go_step
    refine hK' _ ⟨_, rfl⟩ ?_
    clear hK' K' u0 hE hw' w'
    refine wpE_op rfl rfl (fun w' hw' K' hK' => ?_)
    have hE := hw'.1
    have u0 := (row1 (HB1D.out.ext ((Ext.drew wd).trans hE))).1
    go_step
    refine hK' _ ⟨_, rfl⟩ ?_
    clear hK' K' u0 hE hw' w'
    refine wpE_op rfl rfl (fun w' hw' K' hK' => ?_)
    have hE := hw'.1
    go_step
    refine hK' _ ⟨_, rfl⟩ ?_
    clear hK' K' hE hw' w'
    refine wpE_op rfl rfl (fun w' hw' K' hK' => ?_)
    have hE := hw'.1
    go_step
    refine hK' _ ⟨_, rfl⟩ ?_
    clear hK' K' hE hw' w'
    refine wpE_op rfl rfl (fun w' hw' K' hK' => ?_)
    have hE := hw'.1
    have u0 := (row1 (HB0D.out.ext ((Ext.drew wd).trans hE))).1
    go_step
    refine hK' _ ⟨_, rfl⟩ ?_
    clear hK' K' u0 hE hw' w'
    refine wpE_call 29 rfl (by simp) rfl (fun w' hw' K' hK' => ?_) ?_
    · have hE := hw'.1
      go_step
      refine (postdated_at o w').mono ?_
      rintro _ w2 ⟨rfl, hx⟩
      exact hK' _ _ ⟨_, rfl, rfl⟩ hx
    rintro _ w6 _ rfl
    simp only [Act.put, List.setIfInBounds_toArray, List.set_cons_succ, List.set_cons_zero]
    refine wpE_nil (fun w7 hw7 => ?_)
    have HX7 := Lib.hid (HXD.out.trans ((Ext.drew wd).trans hw7.1))
    have HR7 := Lib.hid (show RS (w7.alloc (.cells #[.int .u32 256, .int .u32 ((andW (andW o a) 149#32).toNat : Int), .int .u32 ((pstW o).toNat : Int)] 24)) (.slice (some ⟨w7.heap.size, 0, none⟩) 3 3) (fvs [256#32, andW (andW o a) 149#32, pstW o]) from RS.new w7 _ (fvs [256#32, andW (andW o a) 149#32, pstW o]) (by simp [fvs, maxLen]))
    clear hw7 hu hu2
    simp only [List.drop_succ_cons, List.drop_zero]
    go_wp2_with fail
    refine (union_at _ _ [256#32, andW (andW o a) 149#32, pstW o] (by simp) _ HR7.out).mono ?_
    rintro _ w8 ⟨rfl, rfl⟩
    have HX8 := Lib.hid (HX7.out.alloc (.cells #[.int .u32 256, .int .u32 ((andW (andW o a) 149#32).toNat : Int), .int .u32 ((pstW o).toNat : Int)] 24))
    obtain ⟨U, hU⟩ : ∃ U, unionF [256#32, andW (andW o a) 149#32, pstW o] = U := ⟨_, rfl⟩
    obtain ⟨w8, hw8⟩ : ∃ w8, w7.alloc (.cells #[.int .u32 256, .int .u32 ((andW (andW o a) 149#32).toNat : Int), .int .u32 ((pstW o).toNat : Int)] 24) = w8 := ⟨_, rfl⟩
    rw [hw8] at HX8 ⊢
    rw [hU]
    have HU := Lib.hid (show initW o a p = bif p then unionF [U, 512#32] else U by rw [← hU]; rfl)
    clear hU hw8 HR7
    cases p with
    | false =>
      go_wp2_with fail
      go_ret2
      exact ⟨by rw [HU.out]; rfl, HX8.out⟩
    | true =>
      have HR9 := Lib.hid (show RS (w8.alloc (.cells #[.int .u32 (U.toNat : Int), .int .u32 512] 24)) (.slice (some ⟨w8.heap.size, 0, none⟩) 2 2) (fvs [U, 512#32]) from RS.new w8 _ (fvs [U, 512#32]) (by simp [fvs, maxLen]))
      go_wp2_with fail
      refine (union_at _ _ [U, 512#32] (by simp) _ HR9.out).mono ?_
      rintro _ w9 ⟨rfl, rfl⟩
      go_wp2_with fail
      go_ret2
      exact ⟨by rw [HU.out]; rfl, HX8.out.alloc _⟩
  · have hz1 : (E == 0) = false := by rw [beq_eq_false_iff_ne]; exact hz
    have hz2 : (E != 0) = true := by rw [bne, hz1]; rfl
    obtain rfl : 0#32 = R := by have := HRR.out; rwa [if_neg hz] at this
    clear hz HRR
    go_wp2_with fail
    go_ret2
    exact ⟨rfl, HXD.out⟩
end Go.Proofs.YtigjecmhhjjenaaDoor
