/- FlagsHolds: the law. (wip/tools/genlawflho.py printed this.) -/
import Derived.Test.YtigjecmhhjjenaaDoorFlK
import Derived.Test.YtigjecmhhjjenaaDoorFlH
import Derived.Test.YtigjecmhhjjenaaDoorRowF
import Derived.Deep.DeepCutAuto
namespace Go.Proofs.YtigjecmhhjjenaaDoor.flagsHolds
open Go Go.RowKit
set_option linter.unusedVariables false

set_option maxRecDepth 100000 in
set_option maxHeartbeats 2000000 in
theorem law_walk (io it ia ifw : Int) (p : Bool) (w : World) (o0 : 0 ≤ io) (o1 : io ≤ 4294967295) (t0 : 0 ≤ it) (t1 : it ≤ 4294967295) (a0 : 0 ≤ ia) (a1 : ia ≤ 4294967295) (f0 : 0 ≤ ifw) (f1 : ifw ≤ 4294967295) (hp : NoEnv w) :
    Calls Tryd.prog 8 #[.int .u32 io, .int .u32 it, .int .u32 ia, .int .u32 ifw, .bool p] w fun e w' => e = .returned (.bool true) ∧ Ext w w' := by
  obtain ⟨o, rfl⟩ := u32_of io o0 o1
  obtain ⟨t, rfl⟩ := u32_of it t0 t1
  obtain ⟨a, rfl⟩ := u32_of ia a0 a1
  obtain ⟨f, rfl⟩ := u32_of ifw f0 f1
  clear o0 o1 t0 t1 a0 a1 f0 f1 hp
  have hI := fun W => Initial_at o a p W
  have hG := fun W => Grant_at o t a W
  have hI2 := fun W => Initial_at o (andW a f) p W
  have hG2 := fun W => Grant_at o t (andW a f) W
  obtain ⟨E, hE⟩ : ∃ E, initE o a = E := ⟨_, rfl⟩
  obtain ⟨F, hF⟩ : ∃ E, grantE o t a = E := ⟨_, rfl⟩
  obtain ⟨E2, hE2⟩ : ∃ E, initE o (andW a f) = E := ⟨_, rfl⟩
  obtain ⟨F2, hF2⟩ : ∃ E, grantE o t (andW a f) = E := ⟨_, rfl⟩
  obtain ⟨ta, hta⟩ : ∃ b, tkB a = b := ⟨_, rfl⟩
  simp only [hE] at hI
  simp only [hF] at hG
  simp only [hE2] at hI2
  simp only [hF2] at hG2
  obtain ⟨X, hX⟩ : ∃ V : W32, (if E = 0 then initW o a p else 0#32) = V := ⟨_, rfl⟩
  obtain ⟨Y, hY⟩ : ∃ V : W32, (if F = 0 then grantW o t a else 0#32) = V := ⟨_, rfl⟩
  obtain ⟨U, hU⟩ : ∃ V : W32, (if E2 = 0 then initW o (andW a f) p else 0#32) = V := ⟨_, rfl⟩
  obtain ⟨V, hV⟩ : ∃ V : W32, (if F2 = 0 then grantW o t (andW a f) else 0#32) = V := ⟨_, rfl⟩
  simp only [hX] at hI
  simp only [hY] at hG
  simp only [hU] at hI2
  simp only [hV] at hG2
  have HI := Lib.hid hI; have HG := Lib.hid hG; have HI2 := Lib.hid hI2; have HG2 := Lib.hid hG2
  have HA1 := Lib.hid (show E = 0 → tkB X = true ∧ hasB X 256#32 = true ∧ hasB X 512#32 = p ∧ neW (andNotW (andW X 149#32) a) 0#32 = false from fun h => by
    rw [← hX, if_pos h]
    exact ⟨init_tk o a p, init_256 o a p, init_512 o a p, init_pass o a p⟩)
  have HA2 := Lib.hid (show F = 0 → tkB Y = true ∧ neW (andNotW (andW Y 149#32) t) 0#32 = false from fun h => by
    rw [← hY, if_pos h]
    rw [h] at hF
    exact ⟨grant_tk hF, grant_pass hF⟩)
  have HA3 := Lib.hid (show F = 0 → hasB Y 256#32 = true → hasB t 256#32 = true ∧ ((andW o 196608#32) == 0#32) = false from fun h => by
    rw [← hY, if_pos h]
    rw [h] at hF
    exact fun hi => grant_init hF hi)
  have HA4 := Lib.hid (show ta = true → E2 = 0 → E = 0 ∧ hasB X U = true from fun ht h => by
    rw [h] at hE2
    have := init_mono (p := p) (hta.trans ht) hE2
    rw [hE] at this
    rw [← hX, ← hU, if_pos h, if_pos this.1]
    exact this)
  have HA5 := Lib.hid (show ta = true → F2 = 0 → F = 0 ∧ hasB Y V = true from fun ht h => by
    rw [h] at hF2
    have := grant_mono (hta.trans ht) hF2
    rw [hF] at this
    rw [← hY, ← hV, if_pos h, if_pos this.1]
    exact this)
  have HTA := Lib.hid (fun W => hta ▸ Ticket_at a W)
  clear hI hG hI2 hG2 hE hF hE2 hF2 hta hX hY hU hV
  go_enter Tryd.func8, Tryd.ntmps8
  go_wp2_with fail
  refine (HI.out _).mono ?_
  rintro _ w1 ⟨rfl, hx1⟩
  have HX1 := Lib.hid hx1
  clear hx1
  go_upto_region 4 with fail
  go_cut [58] (fun v wx => v = .bool false ∧ Ext w wx)
  case first =>
    by_cases hz : E = 0
    · have hz1 : (E == 0) = true := by rw [hz]; rfl
      obtain ⟨r1, r2, r3, r4⟩ := HA1.out hz
      have HT := Lib.hid (fun W => r1 ▸ Ticket_at X W)
      have H6 := Lib.hid (fun W => r2 ▸ Has_lit2 256 X 256#32 (by decide) W)
      have H5 := Lib.hid (fun W => r3 ▸ Has_lit2 512 X 512#32 (by decide) W)
      have hu1 := u32_and X 149#32
      have hu2 := u32_andNot (andW X 149#32) a
      have hb := u32_bne (andNotW (andW X 149#32) a) 0#32
      have e1 : ((149#32 : W32).toNat : Int) = 149 := rfl
      have e0 : ((0#32 : W32).toNat : Int) = 0 := rfl
      rw [e1] at hu1
      rw [e0, r4] at hb
      have qp : (p != p) = false := by cases p <;> rfl
      clear r1 r2 r3 r4 e1 e0 hz
      go_wp2_with fail
      refine (HT.out _).mono ?_
      rintro _ wz ⟨rfl, rfl⟩
      go_wp2_with fail
      refine (H6.out _).mono ?_
      rintro _ wz ⟨rfl, rfl⟩
      go_wp2_with fail
      refine (H5.out _).mono ?_
      rintro _ wz ⟨rfl, rfl⟩
      go_wp2_with fail
      go_meet
      case rel => exact ⟨rfl, HX1.out⟩
    · have hz1 : (E == 0) = false := by rw [beq_eq_false_iff_ne]; exact hz
      clear hz
      go_wp2_with fail
      go_meet
      case rel => exact ⟨rfl, HX1.out⟩
  case rest =>
    obtain ⟨rfl, hxc⟩ := hcut
    have HXC := Lib.hid hxc
    clear hxc
    obtain ⟨wa, rfl⟩ : ∃ wa : World, wa = wc := ⟨_, rfl⟩
    go_wp2_with fail
    refine (HG.out _).mono ?_
    rintro _ w2 ⟨rfl, hx2⟩
    have HX2 := Lib.hid (HXC.out.trans hx2)
    clear hx2 HXC HX1
    go_upto_region 7 with fail
    go_cut [80] (fun v wx => v = .bool false ∧ Ext w wx)
    case first =>
      by_cases hz : F = 0
      · have hz1 : (F == 0) = true := by rw [hz]; rfl
        obtain ⟨r1, r4⟩ := HA2.out hz
        have HT := Lib.hid (fun W => r1 ▸ Ticket_at Y W)
        have hu1 := u32_and Y 149#32
        have hu2 := u32_andNot (andW Y 149#32) t
        have hb := u32_bne (andNotW (andW Y 149#32) t) 0#32
        have e1 : ((149#32 : W32).toNat : Int) = 149 := rfl
        have e0 : ((0#32 : W32).toNat : Int) = 0 := rfl
        rw [e1] at hu1
        rw [e0, r4] at hb
        clear r1 r4 e1 e0 hz
        go_wp2_with fail
        refine (HT.out _).mono ?_
        rintro _ wz ⟨rfl, rfl⟩
        go_wp2_with fail
        go_meet
        case rel => exact ⟨rfl, HX2.out⟩
      · have hz1 : (F == 0) = false := by rw [beq_eq_false_iff_ne]; exact hz
        clear hz
        go_wp2_with fail
        go_meet
        case rel => exact ⟨rfl, HX2.out⟩
    case rest =>
      obtain ⟨rfl, hxc⟩ := hcut
      have HXC := Lib.hid hxc
      clear hxc
      obtain ⟨wb, rfl⟩ : ∃ wb : World, wb = wc := ⟨_, rfl⟩
      go_upto_region 9 with fail
      go_cut [96] (fun v wx => v = .bool false ∧ Ext w wx)
      case first =>
        by_cases hz : F = 0
        · have hz1 : (F == 0) = true := by rw [hz]; rfl
          cases hy : hasB Y 256#32 with
          | false =>
            have HY := Lib.hid (fun W => hy ▸ Has_lit2 256 Y 256#32 (by decide) W)
            clear hy hz
            go_wp2_with fail
            refine (HY.out _).mono ?_
            rintro _ wz ⟨rfl, rfl⟩
            go_wp2_with fail
            go_meet
            case rel => exact ⟨rfl, HXC.out⟩
          | true =>
            obtain ⟨r1, r2⟩ := HA3.out hz hy
            have HY := Lib.hid (fun W => hy ▸ Has_lit2 256 Y 256#32 (by decide) W)
            have HT := Lib.hid (fun W => r1 ▸ Has_lit2 256 t 256#32 (by decide) W)
            have hu1 := u32_and o 196608#32
            have hb := u32_beq (andW o 196608#32) 0#32
            have e1 : ((196608#32 : W32).toNat : Int) = 196608 := rfl
            have e0 : ((0#32 : W32).toNat : Int) = 0 := rfl
            rw [e1] at hu1
            rw [e0, r2] at hb
            clear hy hz r1 r2 e1 e0
            go_wp2_with fail
            refine (HY.out _).mono ?_
            rintro _ wz ⟨rfl, rfl⟩
            go_wp2_with fail
            refine (HT.out _).mono ?_
            rintro _ wz ⟨rfl, rfl⟩
            go_wp2_with fail
            go_meet
            case rel => exact ⟨rfl, HXC.out⟩
        · have hz1 : (F == 0) = false := by rw [beq_eq_false_iff_ne]; exact hz
          clear hz
          go_wp2_with fail
          go_meet
          case rel => exact ⟨rfl, HXC.out⟩
      case rest =>
        obtain ⟨rfl, hxc⟩ := hcut
        have HXC := Lib.hid hxc
        clear hxc
        obtain ⟨wd, rfl⟩ : ∃ wd : World, wd = wc := ⟨_, rfl⟩
        have hua := u32_and a f
        go_wp2_with fail
        refine (HI2.out _).mono ?_
        rintro _ w3 ⟨rfl, hx3⟩
        have HX3 := Lib.hid (HXC.out.trans hx3)
        clear hx3
        go_wp2_with fail
        refine (HG2.out _).mono ?_
        rintro _ w4 ⟨rfl, hx4⟩
        have HX4 := Lib.hid (HX3.out.trans hx4)
        clear hx4 hua HXC
        go_upto_region 13 with fail
        go_cut [144] (fun v wx => v = .bool false ∧ Ext w wx)
        case first =>
          cases ta with
          | false =>
            go_wp2_with fail
            refine (HTA.out _).mono ?_
            rintro _ wz ⟨rfl, rfl⟩
            go_wp2_with fail
            go_meet
            case rel => exact ⟨rfl, HX4.out⟩
          | true =>
            by_cases hz : E2 = 0
            · have hz1 : (E2 == 0) = true := by rw [hz]; rfl
              obtain ⟨r1, r2⟩ := HA4.out (by trivial) hz
              have hz2' : (E != 0) = false := by rw [r1]; rfl
              have HU := Lib.hid (fun W => r2 ▸ Has_at X U W)
              clear r1 r2 hz
              go_wp2_with fail
              refine (HTA.out _).mono ?_
              rintro _ wz ⟨rfl, rfl⟩
              go_wp2_with fail
              refine (HU.out _).mono ?_
              rintro _ wz ⟨rfl, rfl⟩
              by_cases hz2 : F2 = 0
              · have hy1 : (F2 == 0) = true := by rw [hz2]; rfl
                obtain ⟨r3, r4⟩ := HA5.out (by trivial) hz2
                have hy2 : (F != 0) = false := by rw [r3]; rfl
                have HV := Lib.hid (fun W => r4 ▸ Has_at Y V W)
                clear r3 r4 hz2
                go_wp2_with fail
                refine (HV.out _).mono ?_
                rintro _ wz ⟨rfl, rfl⟩
                go_wp2_with fail
                go_meet
                case rel => exact ⟨rfl, HX4.out⟩
              · have hy1 : (F2 == 0) = false := by rw [beq_eq_false_iff_ne]; exact hz2
                clear hz2
                go_wp2_with fail
                go_meet
                case rel => exact ⟨rfl, HX4.out⟩
            · have hz1 : (E2 == 0) = false := by rw [beq_eq_false_iff_ne]; exact hz
              clear hz
              go_wp2_with fail
              refine (HTA.out _).mono ?_
              rintro _ wz ⟨rfl, rfl⟩
              by_cases hz2 : F2 = 0
              · have hy1 : (F2 == 0) = true := by rw [hz2]; rfl
                obtain ⟨r3, r4⟩ := HA5.out (by trivial) hz2
                have hy2 : (F != 0) = false := by rw [r3]; rfl
                have HV := Lib.hid (fun W => r4 ▸ Has_at Y V W)
                clear r3 r4 hz2
                go_wp2_with fail
                refine (HV.out _).mono ?_
                rintro _ wz ⟨rfl, rfl⟩
                go_wp2_with fail
                go_meet
                case rel => exact ⟨rfl, HX4.out⟩
              · have hy1 : (F2 == 0) = false := by rw [beq_eq_false_iff_ne]; exact hz2
                clear hz2
                go_wp2_with fail
                go_meet
                case rel => exact ⟨rfl, HX4.out⟩
        case rest =>
          obtain ⟨rfl, hxc⟩ := hcut
          have HXC := Lib.hid hxc
          clear hxc
          go_wp2_with fail
          refine (FKnown_at _).mono ?_
          rintro _ wk ⟨rfl, hxk⟩
          have HXk := Lib.hid (HXC.out.trans hxk)
          clear hxk
          go_wp2_with fail
          go_ret
          exact ⟨rfl, HXk.out⟩
end Go.Proofs.YtigjecmhhjjenaaDoor.flagsHolds
