/- The reference's Read, ReadTagged, ReadTime, Whole. -/
import Derived.Test.YtigjecmhhjjenaaDoorRefLen
import Derived.Test.YtigjecmhhjjenaaDoorMg14
namespace Go.Proofs.YtigjecmhhjjenaaDoor
open Go Go.RowKit
set_option linter.unusedVariables false

set_option maxRecDepth 100000 in
set_option maxHeartbeats 1000000 in
theorem DRead_at (A : Option Addr) (c : Nat) (l : List UInt8) (p : Nat) (hp : p ≤ 900000000000) (tag : UInt8) (ti : Int) (hti : ti = (tag.toNat : Int)) (cont : List UInt8) (er used : Nat) (hr : takeF tag (l.drop p) = (cont, er, used)) (w : World) (hb : BS w (.slice A l.length c) l) :
    Calls Tryd.prog 75 #[.slice A l.length c, .int .i64 (p : Int), .int .i64 ti] w fun e w' => ∃ A' c', e = .returned (.tuple #[.slice A' cont.length c', .int .i64 ((p + used : Nat) : Int), .int .i64 (er : Int)]) ∧ BS w (.slice A' cont.length c') cont ∧ w = w' := by
  have hb0 := hb
  obtain ⟨A', c', he, k1, k2, k3⟩ := hb.open_
  injection he with e1 _ e3
  subst e1; subst e3
  unfold maxLen at k2
  unfold takeF at hr
  have HB := Lib.hid hb0; clear hb0 hb
  by_cases h0 : l.length ≤ p
  · have hd : l.drop p = [] := List.drop_eq_nil_of_le h0
    rw [if_pos hd] at hr
    simp only [Prod.mk.injEq] at hr
    obtain ⟨rfl, rfl, rfl⟩ := hr
    clear k3 hd
    go_enter Tryd.func75, Tryd.ntmps75
    go_wp2
    go_ret3
    exact ⟨none, 0, rfl, (OB.nil 5 _ 0).bs, rfl⟩
  have hne : l.drop p ≠ [] := by
    intro h
    have := List.drop_eq_nil_iff.1 h
    omega
  rw [if_neg hne] at hr
  obtain ⟨ad, rfl, _, hc⟩ := k3 (by omega)
  have hc1 := hc p (by omega)
  have hget : (l.drop p)[0]?.getD 0 = l[p]'(by omega) := by
    rw [List.getElem?_drop, Nat.add_zero, List.getElem?_eq_getElem (by omega)]; rfl
  rw [hget] at hr
  obtain ⟨x, hx⟩ : ∃ x : Int, x = (l[p].toNat : Int) := ⟨_, rfl⟩
  have hx0 : 0 ≤ x := by omega
  have hx255 : x ≤ 255 := by have := l[p].toNat_lt; omega
  rw [← hx] at hc1
  by_cases h1 : l[p] ≠ tag
  · rw [if_pos h1] at hr
    simp only [Prod.mk.injEq] at hr
    obtain ⟨rfl, rfl, rfl⟩ := hr
    have hxn : (x != ti) = true := by
      rw [bne_iff_ne, hx, hti]
      intro e
      apply h1
      apply UInt8.toNat_inj.1
      omega
    clear hc k3 hget hne h1 hti hx
    go_enter Tryd.func75, Tryd.ntmps75
    go_wp2
    go_ret3
    exact ⟨none, 0, rfl, (OB.nil 5 _ 0).bs, rfl⟩
  rw [if_neg h1] at hr
  have hxn : (x != ti) = false := by
    rw [bne_eq_false_iff_eq, hx, hti]
    have : l[p] = tag := Classical.byContradiction h1
    rw [this]
  simp only at hr
  by_cases h2 : (measureF (l.drop p)).2.2 ≠ 0
  · rw [if_pos h2] at hr
    simp only [Prod.mk.injEq] at hr
    obtain ⟨rfl, rfl, rfl⟩ := hr
    obtain ⟨n, f, e, hL⟩ : ∃ n f e, lenF l (p + 1) = (n, f, e) := ⟨_, _, _, rfl⟩
    have hcase := measure_len_err l p _ (by omega) rfl h2
    rw [hL] at hcase
    obtain ⟨er, her⟩ : ∃ er, (measureF (l.drop p)).2.2 = er := ⟨_, rfl⟩
    rw [her] at h2 hcase ⊢
    have HL := Lib.hid (Length_at (some ad) c l (p + 1) (by omega) w HB.out _ hL)
    have hpc : ((p + 1 : Nat) : Int) = (p : Int) + 1 := by omega
    rw [hpc] at HL
    dsimp only at hcase
    rcases hcase with rfl | ⟨rfl, hlt, rfl⟩
    · have hen : ((e : Int) != 0) = true := by rw [bne_iff_ne]; omega
      clear hc k3 hget hne h1 hti hx hL her h2
      go_enter Tryd.func75, Tryd.ntmps75
      go_wp2_with fail
      refine HL.out.mono ?_
      rintro en w1 ⟨rfl, rfl⟩
      go_wp2_with fail
      go_ret3
      exact ⟨none, 0, rfl, (OB.nil 5 _ 0).bs, rfl⟩
    · obtain ⟨hn1, hn2⟩ := lenF_bd l (p + 1) n f hL
      clear hc k3 hget hne h1 hti hx hL her h2
      go_enter Tryd.func75, Tryd.ntmps75
      go_wp2_with fail
      refine HL.out.mono ?_
      rintro en w1 ⟨rfl, rfl⟩
      go_wp2_with fail
      go_ret3
      exact ⟨none, 0, rfl, (OB.nil 5 _ 0).bs, rfl⟩
  · rw [if_neg h2] at hr
    simp only [Prod.mk.injEq] at hr
    obtain ⟨hcont, rfl, rfl⟩ := hr
    have hmm : measureF (l.drop p) = ((measureF (l.drop p)).1, (measureF (l.drop p)).2.1, 0) := by
      have h0 : (measureF (l.drop p)).2.2 = 0 := by simpa using h2
      rw [← h0]
    obtain ⟨hL, q1, q2, q3⟩ := measure_len_ok l p _ _ (by omega) hmm
    generalize (measureF (l.drop p)).1 = b0 at *
    generalize (measureF (l.drop p)).2.1 = e0 at *
    rw [drop_take_swap] at hcont
    obtain ⟨hn1, hn2⟩ := lenF_bd l (p + 1) _ _ hL
    have HL := Lib.hid (Length_at (some ad) c l (p + 1) (by omega) w HB.out _ hL)
    have hpc : ((p + 1 : Nat) : Int) = (p : Int) + 1 := by omega
    rw [hpc] at HL
    obtain ⟨A7, c7, hb7, hs7⟩ := run_slice12 (P := Tryd.prog) w 50 (some ad) c l (p + b0) (p + e0) cont hcont (by omega) q3 Tryd.underlying50 (info_parts u8info |>.elim fun i hi => ⟨i, hi.1, hi.2.2.1⟩) HB.out
    obtain ⟨n, hn⟩ : ∃ n, n = e0 - b0 := ⟨_, rfl⟩
    obtain ⟨f, hf⟩ : ∃ f, f = p + b0 := ⟨_, rfl⟩
    rw [← hn, ← hf] at HL
    have hfe : p + e0 = f + n := by omega
    rw [hfe] at hs7 ⊢
    rw [← hf, Int.natCast_add] at hs7
    have hbd : (f : Int) + (n : Int) ≤ (l.length : Int) := by omega
    have hbd2 : f ≤ 1000000000000 := by omega
    have hbd3 : n ≤ 1000000000000 := by omega
    have hcl : (cont.length : Nat) = n := by rw [← hcont, List.length_drop, List.length_take]; omega
    have HCL := Lib.hid hcl; have HFE := Lib.hid hfe; have HB7 := Lib.hid hb7
    clear hc k3 hget hne h1 hti hx hL h2 hmm hcont q1 q2 q3 hcl hfe hb7 hn hf hn1 hn2
    go_enter Tryd.func75, Tryd.ntmps75
    go_wp2_with fail
    refine HL.out.mono ?_
    rintro en w1 ⟨rfl, rfl⟩
    go_wp2_with fail
    go_ret3
    exact ⟨A7, c7, by simp, HB7.out, rfl⟩

theorem beNat_small (l : List UInt8) (k : Nat) (h : k ≤ l.length) (h6 : k ≤ 6) : (beNat (l.take k) : Int) < 281474976710656 := by
  have hbd := beNat_take_lt l k h
  have : k = 0 ∨ k = 1 ∨ k = 2 ∨ k = 3 ∨ k = 4 ∨ k = 5 ∨ k = 6 := by omega
  rcases this with rfl | rfl | rfl | rfl | rfl | rfl | rfl <;> simp at hbd ⊢ <;> omega
end Go.Proofs.YtigjecmhhjjenaaDoor
