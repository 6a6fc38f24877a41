/- again: what is read from the beginning of bytes, written again, gives their beginning. (wip/tools/genagain.py printed this.) -/
import Derived.Test.YtmbmhepmeajnoaaDer24
import Derived.Test.YtmbmhepmeajnoaaDer15
import Derived.Test.YtmbmhepmeajnoaaPure12
import Derived.Deep.DeepCutAuto
import Derived.Deep.CutRange
namespace Go.Proofs.Ytmbmhepmeajnoaa
open Go Go.RowKit

/-- What the list holds: at most n beginnings of the bytes. -/
def AgRel (e : TypeId) (n : Nat) (b : List UInt8) (w : World) (v : Value) (wr : World) : Prop := ∃ ls : List (List UInt8), ls.length ≤ n ∧ (∀ x ∈ ls, Good b x) ∧ OV e wr w.heap.size v ls ∧ Ext w wr
theorem AgRel.same {e : TypeId} {n : Nat} {b : List UInt8} {w W wr : World} {v : Value} {ls : List (List UInt8)} (hn : ls.length ≤ n) (hg : ∀ x ∈ ls, Good b x) (hov : OV e W w.heap.size v ls) (hx : Ext w W) (hxr : Ext W wr) : AgRel e (n + 1) b w v wr :=
  ⟨ls, by omega, hg, hov.ext hxr, hx.trans hxr⟩
theorem AgRel.more {e : TypeId} {n : Nat} {b L : List UInt8} {w W w3 w4 : World} {v v4 : Value} {ls : List (List UInt8)} (hn : ls.length ≤ n) (hg : ∀ x ∈ ls, Good b x) (hov : OV e W w.heap.size v ls) (hx : Ext w W) (hx3 : Ext W w3) (hL : Good b L) (hov4 : OV e w4 w.heap.size v4 (ls ++ [L])) (hg4 : w3.grownBy w4 v.ownBlock) : AgRel e (n + 1) b w v4 w4 := by
  refine ⟨ls ++ [L], by simp; omega, fun x hxm => ?_, hov4, (hx.trans hx3).grown hg4 (fun j hj => (hov.lt j hj).1)⟩
  rw [List.mem_append, List.mem_singleton] at hxm
  rcases hxm with h | rfl
  · exact hg x h
  · exact hL
/-- Data, in one form. -/
theorem RdData_one (g : Nat) (l : List UInt8) (hl0 : l.length ≤ 900) (w : World) (h : RD 62 w g l 0) :
    Calls Try.prog 49 #[.pointer (some ⟨g, 0, none⟩)] w fun e w' => ∃ (A : Option Addr) (n c er : Nat), e = .returned (.tuple #[.slice A n c, .int .i64 (er : Int)]) ∧ w.grownBy w' (some g) ∧
      (er = 0 → ∃ L : List (Int × List UInt8), n = L.length ∧ DOV 53 w' w.heap.size (.slice A L.length c) L ∧ Good l (dataF L)) := by
  refine (RdData_at g l 0 l rfl hl0 w h).mono ?_
  rintro e w' ⟨hg, ⟨L, used, A, c, rfl, h1, h2, h3, h4, h5⟩ | ⟨er, her, rfl, h5⟩⟩
  · exact ⟨A, L.length, c, 0, rfl, hg, fun _ => ⟨L, rfl, h4, good_of _ _ used h1 h2 h3⟩⟩
  · exact ⟨none, 0, 0, er, rfl, hg, fun he => absurd he her⟩

set_option maxRecDepth 100000 in
set_option maxHeartbeats 8000000 in
theorem again_at (A0 : Option Addr) (c0 : Nat) (b : List UInt8) (hl : b.length ≤ 200) (w : World) (hb : BS w (.slice A0 b.length c0) b) :
    Calls Try.prog 52 #[.slice A0 b.length c0] w fun e w' => e = .returned (.bool true) ∧ Ext w w' := by
  obtain ⟨i0, hi, hz0, hz1, hz2⟩ := info_parts bsinfo
  obtain ⟨v1, er1, u1, h1⟩ : ∃ v e u, readIntF b = (v, e, u) := ⟨_, _, _, rfl⟩
  obtain ⟨v2, er2, u2, h2⟩ : ∃ v e u, readTimeF b = (v, e, u) := ⟨_, _, _, rfl⟩
  obtain ⟨v3, er3, u3, h3⟩ : ∃ v e u, readBitsF b = (v, e, u) := ⟨_, _, _, rfl⟩
  obtain ⟨v4, er4, u4, h4⟩ : ∃ v e u, readOctetsF b = (v, e, u) := ⟨_, _, _, rfl⟩
  obtain ⟨⟨p5, v5, b5⟩, er5, u5, h5⟩ : ∃ R e u, tripleRd b = (R, e, u) := ⟨_, _, _, rfl⟩
  have HI := Lib.hid (fun (W : World) (g : Nat) => RdInteger_at g b 0 b rfl _ _ _ h1 W)
  have HT := Lib.hid (fun (W : World) (g : Nat) => RdTime_at g b 0 b rfl _ _ _ h2 W)
  have HB := Lib.hid (fun (W : World) (g : Nat) => RdBits_at g b 0 b rfl _ _ _ h3 W)
  have HO := Lib.hid (fun (W : World) (g : Nat) => RdOctets_at g b 0 b rfl _ _ _ h4 (by omega) W)
  have HS := Lib.hid (fun (W : World) (g : Nat) => RdSealed_at g b 0 b rfl (by omega) _ _ _ _ _ h5 W)
  have HD := Lib.hid (fun (W : World) (g : Nat) => RdData_one g b (by omega) W)
  have H1 := Lib.hid (fun h : er1 = 0 => int_good b v1 u1 (by rw [h1, h]))
  have H2 := Lib.hid (fun h : er2 = 0 => time_good b v2 u2 (by rw [h2, h]))
  have H3 := Lib.hid (fun h : er3 = 0 => bits_good b v3 u3 (by rw [h3, h]))
  have H4 := Lib.hid (fun h : er4 = 0 => octets_good b v4 u4 (by rw [h4, h]))
  have H5 := Lib.hid (fun h : er5 = 0 => triple_good b p5 v5 b5 u5 (by omega) (by rw [h5, h]))
  clear h1 h2 h3 h4 h5
  obtain ⟨ls, hls⟩ : ∃ ls : List (List UInt8), ls = [] := ⟨_, rfl⟩
  have HX := Lib.hid (Ext.refl w)
  have HOV := Lib.hid (show OV 24 w w.heap.size (.slice none 0 0) ls from hls ▸ OV.nil _ _ _)
  have HG := Lib.hid (show ∀ x ∈ ls, Good b x by rw [hls]; simp)
  have HN := Lib.hid (show ls.length ≤ 0 by rw [hls]; simp)
  clear hls
  go_enter Try.func52, Try.ntmps52
  go_wp2_with fail
  refine (New_at A0 c0 b _ (hb.ext HX.out) (by omega)).mono ?_
  rintro e wn ⟨g, rfl, hBg, hrn, hxn⟩
  go_wp2_with fail
  refine (HI.out wn g hrn).mono ?_
  rintro e wr ⟨rfl, hrr, hgr⟩
  have HXR := Lib.hid (Ext.of_grown hxn hgr hBg)
  have hsz : wn.heap.size ≤ wr.heap.size := hgr.size
  have hsn := hxn.size
  clear hgr hxn hrn hrr
  go_upto_if 24 with fail
  go_cut [3] (fun v wc => AgRel 24 1 b w v wc)
  case first =>
    by_cases her : er1 = 0
    · have hd : ((er1 : Int) == 0) = true := by rw [beq_iff_eq]; omega
      have HGD := Lib.hid (H1.out her)
      have HER := Lib.hid her; clear her
      go_wp2_with fail
      refine (Integer_at v1 _).mono ?_
      rintro e w3 ⟨A3, c3, rfl, hb3, hx3⟩
      have hap : encInt v1 ≠ [] → ∀ b', (Value.slice A3 (encInt v1).length c3).ownBlock = some b' → (.slice none 0 0 : Value).ownBlock ≠ some b' := by
        intro _ b' hb' e2
        have q1 := hb3.lt b' hb'
        have q2 := (HOV.out.lt b' e2).2
        omega
      have hbb : (ls.length + 1) * 24 ≤ 140737488355328 := by have := HN.out; omega
      have hbz : w.heap.size ≤ (w3.alloc (.cells #[.slice A3 (encInt v1).length c3] 24)).heap.size := by have := hx3.size; have := HX.out.size; simp; omega
      have HAP := Lib.hid hap; have HBB := Lib.hid hbb; have HBZ := Lib.hid hbz; have HB3 := Lib.hid hb3; have HX3 := Lib.hid hx3; clear hap hbb hbz hb3 hx3
      have HX4 := Lib.hid ((HXR.out.trans HX3.out).alloc (.cells #[.slice A3 (encInt v1).length c3] 24))
      go_wp2_with (at_builtin; refine wpList_append_ov _ rfl (.tmp 25) (.tmp 28) 22 rfl w.heap.size 24 i0 (.slice none 0 0) 24 Try.underlying22 hi hz0 hz1 hz2 rfl _ ls rfl (HOV.out.ext HX4.out) _ (.slice A3 (encInt v1).length c3) (encInt v1) rfl (RS.one w3 _ _) (HB3.out.bs.ext ((Ext.refl w3).alloc _)) HAP.out HBB.out (by decide) HBZ.out ?_; intro v4 w4 hov4 hg4)
      go_meet
      case rel => exact AgRel.more HN.out HG.out HOV.out HX.out HX4.out HGD.out hov4 hg4
    · have hd : ((er1 : Int) == 0) = false := by rw [beq_eq_false_iff_ne]; omega
      have HER := Lib.hid her; clear her
      go_wp2_with fail
      go_meet
      case rel => exact AgRel.same HN.out HG.out HOV.out HX.out HXR.out
  case rest =>
    clear HX HOV HG HN HXR hsz hsn
    have hcut := hcut
    obtain ⟨ls, hn, hg, hov, hx⟩ := hcut
    have HX := Lib.hid hx; have HOV := Lib.hid hov; have HG := Lib.hid hg; have HN := Lib.hid hn; clear hx hov hg hn
    go_wp2_with fail
    refine (New_at A0 c0 b _ (hb.ext HX.out) (by omega)).mono ?_
    rintro e wn ⟨g, rfl, hBg, hrn, hxn⟩
    go_wp2_with fail
    refine (HT.out wn g hrn).mono ?_
    rintro e wr ⟨rfl, hrr, hgr⟩
    have HXR := Lib.hid (Ext.of_grown hxn hgr hBg)
    have hsz : wn.heap.size ≤ wr.heap.size := hgr.size
    have hsn := hxn.size
    clear hgr hxn hrn hrr
    go_upto_if 37 with fail
    go_cut [3] (fun v wc => AgRel 24 2 b w v wc)
    case first =>
      by_cases her : er2 = 0
      · have hd : ((er2 : Int) == 0) = true := by rw [beq_iff_eq]; omega
        have HGD := Lib.hid (H2.out her)
        have HER := Lib.hid her; clear her
        go_wp2_with fail
        refine (Time_at v2 _).mono ?_
        rintro e w3 ⟨A3, c3, rfl, hb3, hx3⟩
        have hap : encTime v2 ≠ [] → ∀ b', (Value.slice A3 (encTime v2).length c3).ownBlock = some b' → (u3 : Value).ownBlock ≠ some b' := by
          intro _ b' hb' e2
          have q1 := hb3.lt b' hb'
          have q2 := (HOV.out.lt b' e2).2
          omega
        have hbb : (ls.length + 1) * 24 ≤ 140737488355328 := by have := HN.out; omega
        have hbz : w.heap.size ≤ (w3.alloc (.cells #[.slice A3 (encTime v2).length c3] 24)).heap.size := by have := hx3.size; have := HX.out.size; simp; omega
        have HAP := Lib.hid hap; have HBB := Lib.hid hbb; have HBZ := Lib.hid hbz; have HB3 := Lib.hid hb3; have HX3 := Lib.hid hx3; clear hap hbb hbz hb3 hx3
        have HX4 := Lib.hid ((HXR.out.trans HX3.out).alloc (.cells #[.slice A3 (encTime v2).length c3] 24))
        go_wp2_with (at_builtin; refine wpList_append_ov _ rfl (.tmp 38) (.tmp 41) 22 rfl w.heap.size 24 i0 (.slice none 0 0) 24 Try.underlying22 hi hz0 hz1 hz2 rfl _ ls rfl (HOV.out.ext HX4.out) _ (.slice A3 (encTime v2).length c3) (encTime v2) rfl (RS.one w3 _ _) (HB3.out.bs.ext ((Ext.refl w3).alloc _)) HAP.out HBB.out (by decide) HBZ.out ?_; intro v4 w4 hov4 hg4)
        go_meet
        case rel => exact AgRel.more HN.out HG.out HOV.out HX.out HX4.out HGD.out hov4 hg4
      · have hd : ((er2 : Int) == 0) = false := by rw [beq_eq_false_iff_ne]; omega
        have HER := Lib.hid her; clear her
        go_wp2_with fail
        go_meet
        case rel => exact AgRel.same HN.out HG.out HOV.out HX.out HXR.out
    case rest =>
      clear HX HOV HG HN HXR hsz hsn
      have hcut := hcut
      obtain ⟨ls, hn, hg, hov, hx⟩ := hcut
      have HX := Lib.hid hx; have HOV := Lib.hid hov; have HG := Lib.hid hg; have HN := Lib.hid hn; clear hx hov hg hn
      go_wp2_with fail
      refine (New_at A0 c0 b _ (hb.ext HX.out) (by omega)).mono ?_
      rintro e wn ⟨g, rfl, hBg, hrn, hxn⟩
      go_wp2_with fail
      refine (HB.out wn g hrn).mono ?_
      rintro e wr ⟨rfl, hrr, hgr⟩
      have HXR := Lib.hid (Ext.of_grown hxn hgr hBg)
      have hsz : wn.heap.size ≤ wr.heap.size := hgr.size
      have hsn := hxn.size
      clear hgr hxn hrn hrr
      go_upto_if 50 with fail
      go_cut [3] (fun v wc => AgRel 24 3 b w v wc)
      case first =>
        by_cases her : er3 = 0
        · have hd : ((er3 : Int) == 0) = true := by rw [beq_iff_eq]; omega
          obtain ⟨hgd, hb30, hb31⟩ := H3.out her
          have HGD := Lib.hid hgd; clear hgd
          have HER := Lib.hid her; clear her
          go_wp2_with fail
          refine (Bits_at v3 hb30 hb31 _).mono ?_
          rintro e w3 ⟨A3, c3, rfl, hb3, hx3⟩
          have hap : encBits v3 ≠ [] → ∀ b', (Value.slice A3 (encBits v3).length c3).ownBlock = some b' → (u3 : Value).ownBlock ≠ some b' := by
            intro _ b' hb' e2
            have q1 := hb3.lt b' hb'
            have q2 := (HOV.out.lt b' e2).2
            omega
          have hbb : (ls.length + 1) * 24 ≤ 140737488355328 := by have := HN.out; omega
          have hbz : w.heap.size ≤ (w3.alloc (.cells #[.slice A3 (encBits v3).length c3] 24)).heap.size := by have := hx3.size; have := HX.out.size; simp; omega
          have HAP := Lib.hid hap; have HBB := Lib.hid hbb; have HBZ := Lib.hid hbz; have HB3 := Lib.hid hb3; have HX3 := Lib.hid hx3; clear hap hbb hbz hb3 hx3
          have HX4 := Lib.hid ((HXR.out.trans HX3.out).alloc (.cells #[.slice A3 (encBits v3).length c3] 24))
          go_wp2_with (at_builtin; refine wpList_append_ov _ rfl (.tmp 51) (.tmp 54) 22 rfl w.heap.size 24 i0 (.slice none 0 0) 24 Try.underlying22 hi hz0 hz1 hz2 rfl _ ls rfl (HOV.out.ext HX4.out) _ (.slice A3 (encBits v3).length c3) (encBits v3) rfl (RS.one w3 _ _) (HB3.out.bs.ext ((Ext.refl w3).alloc _)) HAP.out HBB.out (by decide) HBZ.out ?_; intro v4 w4 hov4 hg4)
          go_meet
          case rel => exact AgRel.more HN.out HG.out HOV.out HX.out HX4.out HGD.out hov4 hg4
        · have hd : ((er3 : Int) == 0) = false := by rw [beq_eq_false_iff_ne]; omega
          have HER := Lib.hid her; clear her
          go_wp2_with fail
          go_meet
          case rel => exact AgRel.same HN.out HG.out HOV.out HX.out HXR.out
      case rest =>
        clear HX HOV HG HN HXR hsz hsn
        have hcut := hcut
        obtain ⟨ls, hn, hg, hov, hx⟩ := hcut
        have HX := Lib.hid hx; have HOV := Lib.hid hov; have HG := Lib.hid hg; have HN := Lib.hid hn; clear hx hov hg hn
        go_wp2_with fail
        refine (New_at A0 c0 b _ (hb.ext HX.out) (by omega)).mono ?_
        rintro e wn ⟨g, rfl, hBg, hrn, hxn⟩
        go_wp2_with fail
        refine (HO.out wn g hrn).mono ?_
        rintro e wr ⟨A4, c4, rfl, hob, hrr, hgr⟩
        have HXR := Lib.hid (Ext.of_grown hxn hgr hBg)
        have hsz : wn.heap.size ≤ wr.heap.size := hgr.size
        have hsn := hxn.size
        have HOB := Lib.hid hob; clear hob
        clear hgr hxn hrn hrr
        go_upto_if 63 with fail
        go_cut [3] (fun v wc => AgRel 24 4 b w v wc)
        case first =>
          by_cases her : er4 = 0
          · have hd : ((er4 : Int) == 0) = true := by rw [beq_iff_eq]; omega
            have HGD := Lib.hid (H4.out her)
            have HOBX := HOB
            have HER := Lib.hid her; clear her
            go_wp2_with fail
            refine (Octets_at A4 c4 v4 _ (HOBX.out.bs)).mono ?_
            rintro e w3 ⟨A3, c3, rfl, hb3, hx3⟩
            have hap : encOctets v4 ≠ [] → ∀ b', (Value.slice A3 (encOctets v4).length c3).ownBlock = some b' → (u3 : Value).ownBlock ≠ some b' := by
              intro _ b' hb' e2
              have q1 := hb3.lt b' hb'
              have q2 := (HOV.out.lt b' e2).2
              omega
            have hbb : (ls.length + 1) * 24 ≤ 140737488355328 := by have := HN.out; omega
            have hbz : w.heap.size ≤ (w3.alloc (.cells #[.slice A3 (encOctets v4).length c3] 24)).heap.size := by have := hx3.size; have := HX.out.size; simp; omega
            have HAP := Lib.hid hap; have HBB := Lib.hid hbb; have HBZ := Lib.hid hbz; have HB3 := Lib.hid hb3; have HX3 := Lib.hid hx3; clear hap hbb hbz hb3 hx3
            have HX4 := Lib.hid ((HXR.out.trans HX3.out).alloc (.cells #[.slice A3 (encOctets v4).length c3] 24))
            go_wp2_with (at_builtin; refine wpList_append_ov _ rfl (.tmp 64) (.tmp 67) 22 rfl w.heap.size 24 i0 (.slice none 0 0) 24 Try.underlying22 hi hz0 hz1 hz2 rfl _ ls rfl (HOV.out.ext HX4.out) _ (.slice A3 (encOctets v4).length c3) (encOctets v4) rfl (RS.one w3 _ _) (HB3.out.bs.ext ((Ext.refl w3).alloc _)) HAP.out HBB.out (by decide) HBZ.out ?_; intro v4 w4 hov4 hg4)
            go_meet
            case rel => exact AgRel.more HN.out HG.out HOV.out HX.out HX4.out HGD.out hov4 hg4
          · have hd : ((er4 : Int) == 0) = false := by rw [beq_eq_false_iff_ne]; omega
            have HER := Lib.hid her; clear her
            go_wp2_with fail
            go_meet
            case rel => exact AgRel.same HN.out HG.out HOV.out HX.out HXR.out
        case rest =>
          clear HX HOV HG HN HXR hsz hsn HOB
          have hcut := hcut
          obtain ⟨ls, hn, hg, hov, hx⟩ := hcut
          have HX := Lib.hid hx; have HOV := Lib.hid hov; have HG := Lib.hid hg; have HN := Lib.hid hn; clear hx hov hg hn
          go_wp2_with fail
          refine (New_at A0 c0 b _ (hb.ext HX.out) (by omega)).mono ?_
          rintro e wn ⟨g, rfl, hBg, hrn, hxn⟩
          go_wp2_with fail
          refine (HS.out wn g hrn).mono ?_
          rintro e wr ⟨hgr, hrr, A4, c4, rfl, hob⟩
          have HXR := Lib.hid (Ext.of_grown hxn hgr hBg)
          have hsz : wn.heap.size ≤ wr.heap.size := hgr.size
          have hsn := hxn.size
          have HOB := Lib.hid hob; clear hob
          clear hgr hxn hrn hrr
          obtain ⟨wq, hwq⟩ : ∃ wq, wr.alloc (.cells #[.int .i64 p5, .int .i64 v5, .slice A4 b5.length c4] 50) = wq := ⟨_, rfl⟩
          have hxq : Ext wr wq := by rw [← hwq]; exact (Ext.refl _).alloc _
          obtain ⟨k0, k1, k2⟩ : wq.cell? ⟨wr.heap.size, 0, none⟩ = some (.int .i64 p5) ∧ wq.cell? ⟨wr.heap.size, 1, none⟩ = some (.int .i64 v5) ∧ wq.cell? ⟨wr.heap.size, 2, none⟩ = some (.slice A4 b5.length c4) := by rw [← hwq]; exact (B3.new _ wr _ _ _).cells
          have HXQ := Lib.hid hxq; have HXR := Lib.hid (HXR.out.trans hxq); have HOB := Lib.hid (HOB.out.ext hxq); have hsz := Nat.le_trans hsz hxq.size; clear hxq
          go_upto_if 76 with fail
          go_cut [3] (fun v wc => AgRel 24 5 b w v wc)
          case first =>
            by_cases her : er5 = 0
            · have hd : ((er5 : Int) == 0) = true := by rw [beq_iff_eq]; omega
              have HGD := Lib.hid (H5.out her)
              have HOBX := HOB
              have HER := Lib.hid her; clear her
              go_wp2_with fail
              refine (Sealed_at p5 v5 A4 c4 b5 _ (HOBX.out.bs)).mono ?_
              rintro e w3 ⟨A3, c3, rfl, hb3, hx3⟩
              have hap : tripleF p5 v5 b5 ≠ [] → ∀ b', (Value.slice A3 (tripleF p5 v5 b5).length c3).ownBlock = some b' → (u3 : Value).ownBlock ≠ some b' := by
                intro _ b' hb' e2
                have q1 := hb3.lt b' hb'
                have q2 := (HOV.out.lt b' e2).2
                omega
              have hbb : (ls.length + 1) * 24 ≤ 140737488355328 := by have := HN.out; omega
              have hbz : w.heap.size ≤ (w3.alloc (.cells #[.slice A3 (tripleF p5 v5 b5).length c3] 24)).heap.size := by have := hx3.size; have := HX.out.size; simp; omega
              have HAP := Lib.hid hap; have HBB := Lib.hid hbb; have HBZ := Lib.hid hbz; have HB3 := Lib.hid hb3; have HX3 := Lib.hid hx3; clear hap hbb hbz hb3 hx3
              have HX4 := Lib.hid ((HXR.out.trans HX3.out).alloc (.cells #[.slice A3 (tripleF p5 v5 b5).length c3] 24))
              go_wp2_with (at_builtin; refine wpList_append_ov _ rfl (.tmp 77) (.tmp 80) 22 rfl w.heap.size 24 i0 (.slice none 0 0) 24 Try.underlying22 hi hz0 hz1 hz2 rfl _ ls rfl (HOV.out.ext HX4.out) _ (.slice A3 (tripleF p5 v5 b5).length c3) (tripleF p5 v5 b5) rfl (RS.one w3 _ _) (HB3.out.bs.ext ((Ext.refl w3).alloc _)) HAP.out HBB.out (by decide) HBZ.out ?_; intro v4 w4 hov4 hg4)
              go_meet
              case rel => exact AgRel.more HN.out HG.out HOV.out HX.out HX4.out HGD.out hov4 hg4
            · have hd : ((er5 : Int) == 0) = false := by rw [beq_eq_false_iff_ne]; omega
              have HER := Lib.hid her; clear her
              go_wp2_with fail
              go_meet
              case rel => exact AgRel.same HN.out HG.out HOV.out HX.out HXR.out
          case rest =>
            clear HX HOV HG HN HXR hsz hsn HOB HXQ k0 k1 k2 hwq
            have hcut := hcut
            obtain ⟨ls, hn, hg, hov, hx⟩ := hcut
            have HX := Lib.hid hx; have HOV := Lib.hid hov; have HG := Lib.hid hg; have HN := Lib.hid hn; clear hx hov hg hn
            go_wp2_with fail
            refine (New_at A0 c0 b _ (hb.ext HX.out) (by omega)).mono ?_
            rintro e wn ⟨g, rfl, hBg, hrn, hxn⟩
            go_wp2_with fail
            refine (HD.out wn g hrn).mono ?_
            rintro e wr ⟨A4, n6, c4, er6, rfl, hgr, hdat⟩
            have HXR := Lib.hid (Ext.of_grown hxn hgr hBg)
            have hsz : wn.heap.size ≤ wr.heap.size := hgr.size
            have hsn := hxn.size
            have HDT := Lib.hid hdat; clear hdat
            clear hgr hxn hrn
            go_upto_if 89 with fail
            go_cut [3] (fun v wc => AgRel 24 6 b w v wc)
            case first =>
              by_cases her : er6 = 0
              · have hd : ((er6 : Int) == 0) = true := by rw [beq_iff_eq]; omega
                obtain ⟨L, rfl, hdv, hgd⟩ := HDT.out her
                have HDX := Lib.hid hdv; have HGD := Lib.hid hgd; clear hdv hgd
                have HER := Lib.hid her; clear her
                go_wp2_with fail
                refine (Data_at (.slice A4 L.length c4) L _ (HDX.out.ds)).mono ?_
                rintro e w3 ⟨A3, c3, rfl, hb3, hx3⟩
                have hap : dataF L ≠ [] → ∀ b', (Value.slice A3 (dataF L).length c3).ownBlock = some b' → (u3 : Value).ownBlock ≠ some b' := by
                  intro _ b' hb' e2
                  have q1 := hb3.lt b' hb'
                  have q2 := (HOV.out.lt b' e2).2
                  omega
                have hbb : (ls.length + 1) * 24 ≤ 140737488355328 := by have := HN.out; omega
                have hbz : w.heap.size ≤ (w3.alloc (.cells #[.slice A3 (dataF L).length c3] 24)).heap.size := by have := hx3.size; have := HX.out.size; simp; omega
                have HAP := Lib.hid hap; have HBB := Lib.hid hbb; have HBZ := Lib.hid hbz; have HB3 := Lib.hid hb3; have HX3 := Lib.hid hx3; clear hap hbb hbz hb3 hx3
                have HX4 := Lib.hid ((HXR.out.trans HX3.out).alloc (.cells #[.slice A3 (dataF L).length c3] 24))
                go_wp2_with (at_builtin; refine wpList_append_ov _ rfl (.tmp 90) (.tmp 93) 22 rfl w.heap.size 24 i0 (.slice none 0 0) 24 Try.underlying22 hi hz0 hz1 hz2 rfl _ ls rfl (HOV.out.ext HX4.out) _ (.slice A3 (dataF L).length c3) (dataF L) rfl (RS.one w3 _ _) (HB3.out.bs.ext ((Ext.refl w3).alloc _)) HAP.out HBB.out (by decide) HBZ.out ?_; intro v4 w4 hov4 hg4)
                go_meet
                case rel => exact AgRel.more HN.out HG.out HOV.out HX.out HX4.out HGD.out hov4 hg4
              · have hd : ((er6 : Int) == 0) = false := by rw [beq_eq_false_iff_ne]; omega
                have HER := Lib.hid her; clear her
                go_wp2_with fail
                go_meet
                case rel => exact AgRel.same HN.out HG.out HOV.out HX.out HXR.out
            case rest =>
              clear HX HOV HG HN HXR hsz hsn HDT
              have hcut := hcut
              obtain ⟨ls, hn, hg, hov, hx⟩ := hcut
              have HX := Lib.hid hx; have HOV := Lib.hid hov; have HG := Lib.hid hg; have HN := Lib.hid hn; clear hx hov hg hn
              go_wp2_with fail
              obtain ⟨A, c, rfl⟩ := HOV.out.shape
              obtain ⟨_, _, he, hc1, hc2, _, hcell⟩ := HOV.out.bss.open_
              injection he with e1 _ e3
              subst e1; subst e3
              unfold maxLen at hc2
              have hnn := HN.out
              go_loopw [16] (fun i wr => ∃ k : Nat, k ≤ ls.length ∧ i = .int .i64 k ∧ Ext wc wr) (fun i _ => ls.length - (intOf i).toNat)
              case atStart => exact ⟨0, Nat.zero_le _, rfl, Ext.refl _⟩
              case round =>
                obtain ⟨k, hk, rfl, hxr⟩ := hrel
                by_cases hlt : k < ls.length
                · obtain ⟨ad, B, d, rfl, hck, hbk⟩ := hcell k hlt
                  obtain ⟨g1, g2, g3⟩ := HG.out _ (List.getElem_mem hlt)
                  obtain ⟨x, hx⟩ : ∃ x, x = ls[k] := ⟨_, rfl⟩
                  rw [← hx] at hck hbk g1 g2 g3
                  have hck2 := hxr.cell hck
                  have hbk2 := hbk.ext hxr
                  obtain ⟨A7, c7, hb7, hs7⟩ := run_slice2 (P := Try.prog) wr 24 A0 c0 b x.length x g3 g2 Try.underlying24 (info_parts u8info |>.elim fun i hi => ⟨i, hi.1, hi.2.2.1⟩) (hb.ext (HX.out.trans hxr))
                  have hcv1 : ∀ q : Nat, (convert 24 9 (.slice B x.length d)).run Try.prog (wr.drewN q) = .ok (.string ⟨x.toArray⟩) (wr.drewN q) := fun q => run_str _ _ _ 5 _ _ Try.underlying24 Try.underlying5 Try.underlying9 (hbk2.ext ((Ext.refl _).drewN q))
                  have hcv2 : ∀ q : Nat, (convert 24 9 (.slice A7 x.length c7)).run Try.prog (wr.drewN q) = .ok (.string ⟨x.toArray⟩) (wr.drewN q) := fun q => run_str _ _ _ 5 _ _ Try.underlying24 Try.underlying5 Try.underlying9 (hb7.ext ((Ext.refl _).drewN q))
                  have hl0 : ((x.length : Int) == 0) = false := by
                    rw [beq_eq_false_iff_ne]
                    have := List.length_pos_iff.2 g1
                    omega
                  have hd4 : decide (b.length < x.length) = false := by simp; omega
                  have hlk : (k : Int) < (ls.length : Int) := by omega
                  have HXR2 := Lib.hid hxr
                  clear hcell hck hbk g1 g3 hx hbk2 hb7 hxr
                  go_wp2_with fail
                  go_quiet (fail)
                  go_wp2_with fail
                  go_roundw
                  case rel => exact ⟨k + 1, by omega, by go_num, HXR2.out.drewN _⟩
                  case measure => simp [intOf] <;> omega
                · obtain rfl : k = ls.length := by omega
                  clear hcell
                  go_wp2_with fail
                  go_ret
                  exact ⟨rfl, HX.out.trans hxr⟩
end Go.Proofs.Ytmbmhepmeajnoaa
