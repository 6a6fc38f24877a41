/- Flags: the reference's ReadBits. -/
import Derived.Test.YtigjecmhhjjenaaDoorRefRd
import Derived.Test.YtigjecmhhjjenaaDoorFlPure
import Derived.Deep.QuietTactic
import Derived.BigQuiet
namespace Go.Proofs.YtigjecmhhjjenaaDoor
open Go Go.RowKit
set_option linter.unusedVariables false

theorem Ext.drewN' {w w' : World} (h : Ext w w') (n : Nat) : Ext w (w'.drewN n) := by
  refine ⟨h.os, h.tape, h.output, h.size, h.block⟩
theorem or4 (a b c d : UInt8) : bits .or .u32 (bits .or .u32 (bits .or .u32 ((a.toNat : Int) % 4294967296 * 16777216 % 4294967296) ((b.toNat : Int) % 4294967296 * 65536 % 4294967296)) ((c.toNat : Int) % 4294967296 * 256 % 4294967296)) ((d.toNat : Int) % 4294967296) = (beNat [a, b, c, d] : Int) := by
  have ha := a.toNat_lt; have hb := b.toNat_lt; have hc := c.toNat_lt; have hd := d.toNat_lt
  have n1 : (BitVec.ofNat 32 (a.toNat <<< 24)).toNat = a.toNat <<< 24 := by rw [BitVec.toNat_ofNat, Nat.shiftLeft_eq]; omega
  have n2 : (BitVec.ofNat 32 (b.toNat <<< 16)).toNat = b.toNat <<< 16 := by rw [BitVec.toNat_ofNat, Nat.shiftLeft_eq]; omega
  have n3 : (BitVec.ofNat 32 (c.toNat <<< 8)).toNat = c.toNat <<< 8 := by rw [BitVec.toNat_ofNat, Nat.shiftLeft_eq]; omega
  have n4 : (BitVec.ofNat 32 d.toNat).toNat = d.toNat := by rw [BitVec.toNat_ofNat]; omega
  have e1 : (a.toNat : Int) % (4294967296 : Int) * (16777216 : Int) % (4294967296 : Int) = ((BitVec.ofNat 32 (a.toNat <<< 24)).toNat : Int) := by rw [n1, Nat.shiftLeft_eq]; omega
  have e2 : (b.toNat : Int) % (4294967296 : Int) * (65536 : Int) % (4294967296 : Int) = ((BitVec.ofNat 32 (b.toNat <<< 16)).toNat : Int) := by rw [n2, Nat.shiftLeft_eq]; omega
  have e3 : (c.toNat : Int) % (4294967296 : Int) * (256 : Int) % (4294967296 : Int) = ((BitVec.ofNat 32 (c.toNat <<< 8)).toNat : Int) := by rw [n3, Nat.shiftLeft_eq]; omega
  have e4 : (d.toNat : Int) % (4294967296 : Int) = ((BitVec.ofNat 32 d.toNat).toNat : Int) := by rw [n4]; omega
  rw [e1, e2, e3, e4, u32_or, u32_or, u32_or]
  unfold orW
  rw [BitVec.toNat_or, BitVec.toNat_or, BitVec.toNat_or, n1, n2, n3, n4]
  have f1 : a.toNat <<< 24 ||| b.toNat <<< 16 = (a.toNat * 256 + b.toNat) <<< 16 := by
    rw [← Nat.shiftLeft_add_eq_or_of_lt (by rw [Nat.shiftLeft_eq]; omega)]
    simp only [Nat.shiftLeft_eq]; omega
  have f2 : (a.toNat * 256 + b.toNat) <<< 16 ||| c.toNat <<< 8 = ((a.toNat * 256 + b.toNat) * 256 + c.toNat) <<< 8 := by
    rw [← Nat.shiftLeft_add_eq_or_of_lt (by rw [Nat.shiftLeft_eq]; omega)]
    simp only [Nat.shiftLeft_eq]; omega
  have f3 : ((a.toNat * 256 + b.toNat) * 256 + c.toNat) <<< 8 ||| d.toNat = ((a.toNat * 256 + b.toNat) * 256 + c.toNat) * 256 + d.toNat := by
    rw [← Nat.shiftLeft_add_eq_or_of_lt (by omega)]
    simp only [Nat.shiftLeft_eq]
  rw [f1, f2, f3]
  simp [beNat]
  try omega
set_option maxRecDepth 100000 in
set_option maxHeartbeats 1000000 in
theorem DBits_at (A : Option Addr) (c : Nat) (l : List UInt8) (p : Nat) (hp : p ≤ 900000000000) (v : Int) (er used : Nat) (hr : readBitsF (l.drop p) = (v, er, used)) (w : World) (hb : BS w (.slice A l.length c) l) :
    Calls Tryd.prog 64 #[.slice A l.length c, .int .i64 (p : Int)] w fun e w' => e = .returned (.tuple #[.int .u32 v, .int .i64 ((p + used : Nat) : Int), .int .i64 (er : Int)]) ∧ Ext w w' := by
  unfold readBitsF readF at hr
  obtain ⟨cont, e0, u0, ht⟩ : ∃ cont e u, takeF 3 (l.drop p) = (cont, e, u) := ⟨_, _, _, rfl⟩
  rw [ht] at hr
  have H := Lib.hid (DRead_at A c l p hp 3 3 rfl cont e0 u0 ht w hb)
  have HP := Lib.hid hp
  clear ht
  by_cases h0 : e0 = 0
  · subst h0
    rw [if_neg (by simp)] at hr
    by_cases h5 : cont.length = 5
    · obtain ⟨x0, x1, x2, x3, x4, rfl⟩ : ∃ a b c d e, cont = [a, b, c, d, e] := by
        rcases cont with _ | ⟨a, _ | ⟨b, _ | ⟨c, _ | ⟨d, _ | ⟨e, _ | ⟨f, r⟩⟩⟩⟩⟩⟩ <;> simp at h5
        exact ⟨a, b, c, d, e, rfl⟩
      by_cases hx : x0 = 0
      · rw [if_pos (by simp [bitsOk, hx])] at hr
        simp only [Prod.mk.injEq] at hr
        obtain ⟨rfl, rfl, rfl⟩ := hr
        have hxi : ((x0.toNat : Int) != 0) = false := by rw [hx]; rfl
        clear hx h5
        go_enter Tryd.func64, Tryd.ntmps64
        go_wp2_with fail
        refine H.out.mono ?_
        rintro en w' ⟨A', c', rfl, hb', rfl⟩
        obtain ⟨A'', c'', he, k1, k2, k3⟩ := hb'.open_
        injection he with e1 _ e3
        subst e1; subst e3
        obtain ⟨ad, rfl, _, hc⟩ := k3 (by simp)
        have c0 := hc 0 (by simp); have c1 := hc 1 (by simp); have c2 := hc 2 (by simp); have c3 := hc 3 (by simp); have c4 := hc 4 (by simp)
        rw [show ad.add 0 = ad by unfold Addr.add; simp] at c0
        have d1 := c1; have d2 := c2; have d3 := c3; have d4 := c4
        rw [show ad.add 1 = ⟨ad.block, ad.off + 1, none⟩ by unfold Addr.add; simp] at d1
        rw [show ad.add 2 = ⟨ad.block, ad.off + 2, none⟩ by unfold Addr.add; simp] at d2
        rw [show ad.add 3 = ⟨ad.block, ad.off + 3, none⟩ by unfold Addr.add; simp] at d3
        rw [show ad.add 4 = ⟨ad.block, ad.off + 4, none⟩ by unfold Addr.add; simp] at d4
        clear k3 hb' hc k2
        have HO := Lib.hid (or4 x1 x2 x3 x4)
        go_wp2_with fail
        go_quiet (fail)
        go_wp2_with fail
        rw [HO.out]
        go_ret3
        exact ⟨by simp [bitsVal], (Ext.refl w).drewN' _⟩
      · rw [if_neg (by simp [bitsOk, hx])] at hr
        simp only [Prod.mk.injEq] at hr
        obtain ⟨rfl, rfl, rfl⟩ := hr
        have hxi : ((x0.toNat : Int) != 0) = true := by
          rw [bne_iff_ne]
          intro h
          exact hx (UInt8.toNat.inj (by have h2 : (0 : UInt8).toNat = 0 := rfl; rw [h2]; omega))
        clear hx h5
        go_enter Tryd.func64, Tryd.ntmps64
        go_wp2_with fail
        refine H.out.mono ?_
        rintro en w' ⟨A', c', rfl, hb', rfl⟩
        obtain ⟨A'', c'', he, k1, k2, k3⟩ := hb'.open_
        injection he with e1 _ e3
        subst e1; subst e3
        obtain ⟨ad, rfl, _, hc⟩ := k3 (by simp)
        have c0 := hc 0 (by simp)
        rw [show ad.add 0 = ad by unfold Addr.add; simp] at c0
        clear k3 hb' hc k2
        go_wp2_with fail
        go_ret3
        exact ⟨by simp, Ext.refl _⟩
    · rw [if_neg (by simp [bitsOk, h5])] at hr
      simp only [Prod.mk.injEq] at hr
      obtain ⟨rfl, rfl, rfl⟩ := hr
      have hne : ((cont.length : Int) != 5) = true := by rw [bne_iff_ne]; omega
      clear h5
      go_enter Tryd.func64, Tryd.ntmps64
      go_wp2_with fail
      refine H.out.mono ?_
      rintro en w' ⟨A', c', rfl, hb', rfl⟩
      clear hb'
      go_wp2_with fail
      go_ret3
      exact ⟨by simp, Ext.refl _⟩
  · rw [if_pos (by simpa using h0)] at hr
    simp only [Prod.mk.injEq] at hr
    obtain ⟨rfl, rfl, rfl⟩ := hr
    have hen : ((e0 : Int) != 0) = true := by rw [bne_iff_ne]; omega
    have hen2 : ((e0 : Int) == 0) = false := by rw [beq_eq_false_iff_ne]; omega
    clear h0
    go_enter Tryd.func64, Tryd.ntmps64
    go_wp2_with fail
    refine H.out.mono ?_
    rintro en w' ⟨A', c', rfl, hb', rfl⟩
    clear hb'
    go_wp2_with fail
    go_ret3
    exact ⟨by simp, Ext.refl _⟩
end Go.Proofs.YtigjecmhhjjenaaDoor
