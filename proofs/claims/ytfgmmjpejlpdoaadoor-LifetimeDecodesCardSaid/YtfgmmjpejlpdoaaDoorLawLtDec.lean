/- LifetimeDecodes: the law. -/
import Derived.Test.YtfgmmjpejlpdoaaDoorLtK2
import Derived.Test.YtfgmmjpejlpdoaaDoorLtD6
import Derived.Test.YtfgmmjpejlpdoaaDoorLtD7
import Derived.Test.YtfgmmjpejlpdoaaDoorDer12
namespace Go.Proofs.YtfgmmjpejlpdoaaDoor.lifetimeDecodes
open Go Go.RowKit

set_option maxRecDepth 100000 in
set_option maxHeartbeats 4000000 in
theorem law_walk (A0 : Option Addr) (c0 : Nat) (b : List UInt8) (w : World) (hB : BS w (.slice A0 b.length c0) b) (hp : Pow w) :
    Calls Tryd.prog 9 #[.slice A0 b.length c0] w fun en w' => en = .returned (.bool true) ∧ Ext w w' := by
  have HP := Lib.hid hp; clear hp
  by_cases hl : b.length ≤ 100
  · have hgt : ¬ ((100 : Int) < (b.length : Int)) := by omega
    have hgt8 : decide (100 < b.length) = false := decide_eq_false (by omega)
    obtain ⟨⟨a1, s1, e1, r1⟩, er1, u1, hR⟩ : ∃ T er u, timesRd b = (T, er, u) := ⟨_, _, _, rfl⟩
    obtain ⟨⟨a, s, e, r⟩, er, hD⟩ : ∃ T er, timesDec b = (T, er) := ⟨_, _, rfl⟩
    have H1 := Lib.hid (fun (W : World) (hb : BS W (.slice A0 b.length c0) b) => Decode_at A0 c0 b (by omega) a s e r er hD W hb)
    have H2 := Lib.hid (fun (W : World) (hb : BS W (.slice A0 b.length c0) b) => LDec_at A0 c0 b (by omega) a s e r er hD W hb)
    have H3 := Lib.hid (fun (W : World) (hb : BS W (.slice A0 b.length c0) b) => New_at A0 c0 b W hb (by omega))
    have H4 := Lib.hid (fun (W : World) (g : Nat) (h : RD 59 W g b 0) => Read_at g b 0 b rfl W h)
    rw [hR] at H4
    have H5 := Lib.hid (fun (W : World) (hb : BS W (.slice A0 b.length c0) b) => show Calls Tryd.prog 32 #[.slice A0 b.length c0, .int .i64 0] W (fun en w' => en = .returned (.tuple #[.agg #[.int .i64 a1, .int .i64 s1, .int .i64 e1, .int .i64 r1], .int .i64 ((u1 : Nat) : Int), .int .i64 (er1 : Int)]) ∧ Ext W w') from
      (LRead_at A0 c0 b 0 (by omega) (by omega) a1 s1 e1 r1 er1 u1 (by rw [List.drop_zero]; exact hR) W hb).mono (fun en w' h => by rw [Nat.zero_add] at h; exact h))
    have H6 := Lib.hid (fun (W : World) (g : Nat) (h : RD 59 W g b u1) => (Left_at g b u1 W h).mono (R' := fun e w' => e = .returned (.int .i64 ((b.length : Int) - (u1 : Int))) ∧ Ext W w') (fun en w' h9 => by
      have := h.le
      rw [show ((b.length - u1 : Nat) : Int) = (b.length : Int) - (u1 : Int) by omega] at h9
      exact h9))
    have HB := Lib.hid hB; clear hB hR hD
    go_enter Tryd.func9, Tryd.ntmps9
    go_wp2_with fail
    refine (H1.out _ HB.out).mono ?_
    rintro _ w1 ⟨rfl, hx1⟩
    have HX1 := Lib.hid hx1; clear hx1
    go_wp2_with fail
    refine (H2.out _ (HB.out.ext (HX1.out.alloc _))).mono ?_
    rintro _ w2 ⟨rfl, hx2⟩
    have hT1 : TB (w1.alloc (.cells #[.int .i64 a, .int .i64 s, .int .i64 e, .int .i64 r] 27)) w1.heap.size a s e r := heap_alloc_new w1 _
    obtain ⟨k0, k1, k2, k3⟩ := (hT1.ext (hx2.alloc (.cells #[.int .i64 a, .int .i64 s, .int .i64 e, .int .i64 r] 27))).cells
    have HX2 := Lib.hid ((HX1.out.alloc _).trans hx2)
    clear hx2 hT1
    go_wp2_with fail
    clear k0 k1 k2 k3
    refine (H3.out _ (HB.out.ext (HX2.out.alloc _))).mono ?_
    rintro _ w3 ⟨g, rfl, hg, hr3, hx3⟩
    have hgw : w.heap.size ≤ g := Nat.le_trans (HX2.out.alloc (.cells #[.int .i64 a, .int .i64 s, .int .i64 e, .int .i64 r] 27)).size hg
    have HX3 := Lib.hid ((HX2.out.alloc (.cells #[.int .i64 a, .int .i64 s, .int .i64 e, .int .i64 r] 27)).trans hx3)
    have HR3 := Lib.hid hr3; have HGW := Lib.hid hgw
    clear hg hr3 hx3 hgw
    go_wp2_with fail
    refine (H4.out _ g HR3.out).mono ?_
    rintro _ w4 ⟨hg4, hr4, rfl⟩
    dsimp only at hr4
    rw [Nat.zero_add] at hr4
    have hul := hr4.le
    have HX4 := Lib.hid (Ext.of_grown HX3.out hg4 HGW.out)
    have HR4 := Lib.hid hr4
    clear hg4 hr4
    dsimp only
    go_wp2_with fail
    refine (H5.out _ (HB.out.ext (HX4.out.alloc _))).mono ?_
    rintro _ w5 ⟨rfl, hx5⟩
    have hT3 : TB (w4.alloc (.cells #[.int .i64 a1, .int .i64 s1, .int .i64 e1, .int .i64 r1] 27)) w4.heap.size a1 s1 e1 r1 := heap_alloc_new w4 _
    obtain ⟨k0, k1, k2, k3⟩ := (hT3.ext (hx5.alloc (.cells #[.int .i64 a1, .int .i64 s1, .int .i64 e1, .int .i64 r1] 27))).cells
    have HR5 := Lib.hid (HR4.out.ext (((Ext.refl w4).alloc (.cells #[.int .i64 a1, .int .i64 s1, .int .i64 e1, .int .i64 r1] 27)).trans (hx5.alloc (.cells #[.int .i64 a1, .int .i64 s1, .int .i64 e1, .int .i64 r1] 27))))
    have HX5 := Lib.hid (((HX4.out.alloc _).trans hx5).alloc (.cells #[.int .i64 a1, .int .i64 s1, .int .i64 e1, .int .i64 r1] 27))
    clear hx5 hT3
    go_wp2_with fail
    clear k0 k1 k2 k3
    refine (H6.out _ g HR5.out).mono ?_
    rintro _ w6 ⟨rfl, hx6⟩
    have HX6 := Lib.hid (HX5.out.trans hx6); clear hx6
    go_wp2_with fail
    refine (ReadNone_at none _ (fun W _ => CopyNil_at W)).mono ?_
    rintro _ w7 ⟨rfl, hx7⟩
    have HX7 := Lib.hid (HX6.out.trans hx7); clear hx7
    go_wp2_with fail
    have hz : B3 59 ((w7.alloc (.cells #[.int .i64 0, .int .i64 0, .int .i64 0, .int .i64 0] 27)).alloc (.cells #[.slice none 0 0, .int .i64 0, .bool false] 59)) (w7.heap.size + 1) (.slice none 0 0) (.int .i64 0) (.bool false) := by
      have := B3.new 59 (w7.alloc (.cells #[.int .i64 0, .int .i64 0, .int .i64 0, .int .i64 0] 27)) (.slice none 0 0) (.int .i64 0) (.bool false)
      simpa using this
    refine (ReadNone_at (some ⟨w7.heap.size + 1, 0, none⟩) _ (fun W hW => CopyZero_at _ _ _ W (hz.ext hW))).mono ?_
    rintro _ w8 ⟨rfl, hx8⟩
    have HX8 := Lib.hid (((HX7.out.alloc _).alloc _).trans hx8); clear hx8 hz
    go_wp2_with fail
    refine (known_at _ (HP.out.ext (HX8.out.alloc _))).mono ?_
    rintro _ w9 ⟨rfl, hx9⟩
    have HX9 := Lib.hid ((HX8.out.alloc (.cells #[.int .i64 0, .int .i64 0, .int .i64 0, .int .i64 0] 27)).trans hx9); clear hx9
    go_wp2
    go_ret
    exact ⟨rfl, HX9.out⟩
  · have hgt : ((100 : Int) < (b.length : Int)) := by omega
    have hgt8 : decide (100 < b.length) = true := decide_eq_true (by omega)
    go_enter Tryd.func9, Tryd.ntmps9
    go_wp2_with fail
    refine (known_at _ HP.out).mono ?_
    rintro _ w1 ⟨rfl, hx1⟩
    have HX1 := Lib.hid hx1; clear hx1
    go_wp2
    go_ret
    exact ⟨rfl, HX1.out⟩
end Go.Proofs.YtfgmmjpejlpdoaaDoor.lifetimeDecodes
