/- Address: Equal, Network. -/
import Derived.Test.YthpfomjibfbiiaaGreatDoorAd4
import Derived.Test.YthpfomjibfbiiaaGreatDoorMg1
import Derived.Deep.QuietTactic
import Derived.BigQuiet
namespace Go.Proofs.YthpfomjibfbiiaaGreatDoor
open Go Go.RowKit
set_option linter.unusedVariables false

theorem BEqual_at (A B : Option Addr) (c d : Nat) (l m : List UInt8) (w : World) (h : BS w (.slice A l.length c) l) (k : BS w (.slice B m.length d) m) :
    Calls Tryz.prog 51 #[.slice A l.length c, .slice B m.length d] w fun e w' => e = .returned (.bool (l == m)) ∧ w' = w := by
  have h1 := run_str (P := Tryz.prog) w 23 9 5 _ l Tryz.underlying23 Tryz.underlying5 Tryz.underlying9 h
  have h2 := run_str (P := Tryz.prog) w 23 9 5 _ m Tryz.underlying23 Tryz.underlying5 Tryz.underlying9 k
  go_enter Tryz.func51, Tryz.ntmps51
  go_wp2
  go_ret
  refine ⟨?_, rfl⟩
  simp
theorem AEqual_at (k k' : Int) (a b : List UInt8) (A B : Option Addr) (c d : Nat) (w : World) (ha : BS w (.slice A a.length c) a) (hb : BS w (.slice B b.length d) b) :
    Calls Tryz.prog 26 #[adv k A a.length c, adv k' B b.length d] w fun e w' => e = .returned (.bool (k == k' && a == b)) ∧ Ext w w' := by
  have h0 := AB.new w k A a.length c
  have x0 := (Ext.refl w).alloc (.cells #[.int .i64 k, .slice A a.length c] 25)
  obtain ⟨W1, e1⟩ : ∃ W, w.alloc (.cells #[.int .i64 k, .slice A a.length c] 25) = W := ⟨_, rfl⟩
  rw [e1] at h0 x0
  have h1 := AB.new W1 k' B b.length d
  have x1 := (Ext.refl W1).alloc (.cells #[.int .i64 k', .slice B b.length d] 25)
  obtain ⟨W2, e2⟩ : ∃ W, W1.alloc (.cells #[.int .i64 k', .slice B b.length d] 25) = W := ⟨_, rfl⟩
  rw [e2] at h1 x1
  obtain ⟨c0, c1⟩ := (h0.ext x1).cells
  obtain ⟨d0, d1⟩ := h1.cells
  have HX := Lib.hid (x0.trans x1)
  have HQ := Lib.hid (BEqual_at A B c d a b W2 (ha.ext (x0.trans x1)) (hb.ext (x0.trans x1)))
  clear h0 h1 x0 x1 ha hb
  unfold adv
  by_cases hk : k = k'
  · have hq : (k == k') = true := by rw [hk]; exact beq_self_eq_true _
    rw [hq, Bool.true_and]
    obtain ⟨v, hv⟩ : ∃ v, (a == b) = v := ⟨_, rfl⟩
    rw [hv] at HQ ⊢
    clear hv hk
    go_enter Tryz.func26, Tryz.ntmps26
    go_wp2_with fail
    refine HQ.out.mono ?_
    rintro _ w3 ⟨rfl, rfl⟩
    go_wp2_with fail
    go_ret
    exact ⟨rfl, HX.out⟩
  · have hq : (k == k') = false := by rw [beq_eq_false_iff_ne]; exact hk
    rw [hq, Bool.false_and]
    clear hk
    go_enter Tryz.func26, Tryz.ntmps26
    go_wp2_with fail
    go_ret
    exact ⟨rfl, HX.out⟩
/-! Networks. -/
/-- Bit i of bytes. -/
def nb (l : List UInt8) (i : Nat) : Bool := (l.getD (i / 8) 0).toNat.testBit (7 - i % 8)
/-- The first n bits are alike. -/
def netN (a b : List UInt8) (n : Nat) : Bool := (List.range n).all fun i => nb a i == nb b i
theorem netN_iff (a b : List UInt8) (n : Nat) : netN a b n = true ↔ ∀ i, i < n → nb a i = nb b i := by
  unfold netN
  rw [List.all_eq_true]
  constructor
  · intro h i hi
    have := h i (by simpa using hi)
    simpa using this
  · intro h i hi
    have := h i (by simpa using hi)
    simpa using this
/-- Whether an address is in a network, or the error. -/
def netP (k : Int) (a : List UInt8) (bits : Int) (k' : Int) (b : List UInt8) : Bool × Int :=
  if okA k a = false ∨ k = 20 ∨ okA k' b = false then (false, 2)
  else if bits < 0 ∨ 8 * (a.length : Int) < bits then (false, 3)
  else if k ≠ k' then (false, 0)
  else (netN a b bits.toNat, 0)
def netG (a b : List UInt8) (q r : Nat) : Bool := (a.take q == b.take q) && (decide (r = 0) || ((a.getD q 0).toNat ^^^ (b.getD q 0).toNat) / 2 ^ (8 - r) == 0)
theorem byte_bits (x y : UInt8) : (∀ j, j < 8 → x.toNat.testBit (7 - j) = y.toNat.testBit (7 - j)) → x = y := by
  intro h
  apply UInt8.toNat_inj.1
  refine Nat.eq_of_testBit_eq fun i => ?_
  by_cases hi : i < 8
  · have := h (7 - i) (by omega)
    rwa [show 7 - (7 - i) = i by omega] at this
  · rw [Nat.testBit_lt_two_pow (Nat.lt_of_lt_of_le x.toNat_lt (Nat.pow_le_pow_right (by omega) (by omega : 8 ≤ i))), Nat.testBit_lt_two_pow (Nat.lt_of_lt_of_le y.toNat_lt (Nat.pow_le_pow_right (by omega) (by omega : 8 ≤ i)))]
theorem xor_hi (x y r : Nat) (hx : x < 256) (hy : y < 256) (hr : r < 8) : (x ^^^ y) / 2 ^ (8 - r) = 0 ↔ ∀ j, j < r → x.testBit (7 - j) = y.testBit (7 - j) := by
  rw [← Nat.shiftRight_eq_div_pow]
  constructor
  · intro h j hj
    have h1 := congrArg (fun z => z.testBit (7 - j - (8 - r))) h
    simp only [Nat.testBit_shiftRight, Nat.zero_testBit] at h1
    rw [show 8 - r + (7 - j - (8 - r)) = 7 - j by omega, Nat.testBit_xor] at h1
    cases hx1 : x.testBit (7 - j) <;> cases hy1 : y.testBit (7 - j) <;> rw [hx1, hy1] at h1 <;> simp_all
  · intro h
    refine Nat.eq_of_testBit_eq fun i => ?_
    rw [Nat.testBit_shiftRight, Nat.zero_testBit, Nat.testBit_xor]
    by_cases hi : 8 - r + i < 8
    · have := h (7 - (8 - r + i)) (by omega)
      rw [show 7 - (7 - (8 - r + i)) = 8 - r + i by omega] at this
      rw [this]; simp
    · rw [Nat.testBit_lt_two_pow (Nat.lt_of_lt_of_le hx (Nat.pow_le_pow_right (by omega : 0 < 2) (by omega : 8 ≤ 8 - r + i))), Nat.testBit_lt_two_pow (Nat.lt_of_lt_of_le hy (Nat.pow_le_pow_right (by omega : 0 < 2) (by omega : 8 ≤ 8 - r + i)))]
      rfl
theorem netG_eq (a b : List UInt8) (n : Nat) (ha : n ≤ 8 * a.length) (hl : a.length = b.length) : netG a b (n / 8) (n % 8) = netN a b n := by
  rw [Bool.eq_iff_iff, netN_iff]
  unfold netG
  rw [Bool.and_eq_true, beq_iff_eq, Bool.or_eq_true, decide_eq_true_eq, beq_iff_eq]
  constructor
  · rintro ⟨h1, h2⟩ i hi
    unfold nb
    by_cases hq : i / 8 < n / 8
    · have := congrArg (fun z => z.getD (i / 8) 0) h1
      simp only [List.getD_eq_getElem?_getD, List.getElem?_take, if_pos hq] at this
      rw [List.getD_eq_getElem?_getD, List.getD_eq_getElem?_getD, this]
    · have he : i / 8 = n / 8 := by omega
      rw [he]
      rcases h2 with h2 | h2
      · omega
      · exact (xor_hi _ _ (n % 8) (UInt8.toNat_lt _) (UInt8.toNat_lt _) (by omega)).1 h2 (i % 8) (by omega)
  · intro h
    refine ⟨?_, ?_⟩
    · refine List.ext_getElem? fun j => ?_
      rw [List.getElem?_take, List.getElem?_take]
      by_cases hj : j < n / 8
      · rw [if_pos hj, if_pos hj]
        have ha1 : j < a.length := by omega
        have hb1 : j < b.length := by omega
        rw [List.getElem?_eq_getElem ha1, List.getElem?_eq_getElem hb1]
        congr 1
        refine byte_bits _ _ fun i hi => ?_
        have := h (8 * j + i) (by omega)
        unfold nb at this
        rw [show (8 * j + i) / 8 = j by omega, show (8 * j + i) % 8 = i by omega] at this
        simpa [List.getD_eq_getElem?_getD, List.getElem?_eq_getElem ha1, List.getElem?_eq_getElem hb1] using this
      · rw [if_neg hj, if_neg hj]
    · by_cases hr : n % 8 = 0
      · exact .inl hr
      · refine .inr ((xor_hi _ _ (n % 8) (UInt8.toNat_lt _) (UInt8.toNat_lt _) (by omega)).2 fun j hj => ?_)
        have := h (8 * (n / 8) + j) (by omega)
        unfold nb at this
        rwa [show (8 * (n / 8) + j) / 8 = n / 8 by omega, show (8 * (n / 8) + j) % 8 = j by omega] at this
end Go.Proofs.YthpfomjibfbiiaaGreatDoor
