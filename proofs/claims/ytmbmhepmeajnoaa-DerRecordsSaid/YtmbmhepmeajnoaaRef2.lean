/- The reference's Integer. -/
import Derived.Test.YtmbmhepmeajnoaaRef1
namespace Go.Proofs.Ytmbmhepmeajnoaa
open Go Go.RowKit

set_option maxRecDepth 100000 in
set_option maxHeartbeats 1000000 in
theorem RInteger_yes (v : Int) (h : inRange v = true) (w : World) :
    Calls Try.prog 20 #[.int .i64 v] w fun e w' => ∃ r, e = .returned r ∧ OB 5 w' w.heap.size r (encInt v) ∧ Ext w w' := by
  obtain ⟨i0, hi, hz0, hz1, hz2⟩ := info_parts u8info
  have hh : ¬ v < -4611686018427387904 ∧ ¬ 4611686018427387904 < v := by
    rw [inRange_iff] at h; omega
  have H := Lib.hid h; clear h
  obtain ⟨h1, h2⟩ := hh
  have hd : decide (v < -4611686018427387904) = false := decide_eq_false h1
  have hd2 : decide (4611686018427387904 < v) = false := decide_eq_false h2
  clear h1 h2
  go_enter Try.func20, Try.ntmps20
  go_wp2_with fail
  go_loop [3] (fun n => ∃ k : Nat, 1 ≤ k ∧ k ≤ 7 ∧ n = .int .i64 k ∧ Hid (intSize v = szF (8 - k) v k)) (fun n => 8 - (intOf n).toNat)
  case atStart => exact ⟨1, by omega, by omega, rfl, rfl⟩
  case round =>
    obtain ⟨k, hk1, hk8, rfl, hs⟩ := hrel
    have hf : Hid (fits v k = true ↔ ¬ (v < -(128 * 256 ^ (k - 1))) ∧ ¬ (128 * 256 ^ (k - 1) ≤ v)) := fits_iff' v k
    obtain ⟨p, hp⟩ : ∃ p : Int, p = 128 * 256 ^ (k - 1) := ⟨_, rfl⟩
    have hpb := pow_bd k hk8
    have h2 := two_pow_step k hk1
    rw [← hp] at hf hpb h2
    have hw1 : wrap64 (2 ^ (8 * k - 1)) = p := by rw [h2]; exact IntWalk.wrap64_in p (by omega)
    have hw2 : wrap64 (-p) = -p := IntWalk.wrap64_in (-p) (by omega)
    clear h2 hp
    have HPB := Lib.hid hpb; clear hpb
    by_cases hfit : fits v k = true
    · obtain ⟨h1, h2⟩ := hf.out.1 hfit
      have hs2 : intSize v = k := by have := hs.out; rw [szF_yes v k hfit] at this; exact this
      have HS2 := Lib.hid hs2; clear hs2 hfit hf hs
      go_wp2_with fail
      go_loopw [4, 5] (fun b i wr => ∃ j : Nat, j ≤ k ∧ i = .int .i64 ((j : Int) - 1) ∧ OB 5 wr w.heap.size b ((beBytes v k).take (k - j)) ∧ Ext w wr) (fun _ i _ => (intOf i + 1).toNat)
      case atStart => exact ⟨k, Nat.le_refl _, by go_num, by rw [Nat.sub_self]; exact OB.nil _ _ _, Ext.refl _⟩
      case round =>
        obtain ⟨j, hj, rfl, hb, hx⟩ := hrel
        rcases j with _ | m
        · rw [show (((0 : Nat) : Int) - 1) = -1 by omega]
          have e : (beBytes v k).take (k - 0) = beBytes v k := List.take_of_length_le (by rw [beBytes_length]; omega)
          rw [e] at hb
          obtain ⟨A5, c5, rfl⟩ := hb.shape
          clear e
          go_wp2_with (go_at_call 56; refine (Make_at 2 2 rfl _ _ (beBytes v k) _ hb.bs).mono ?_; rintro e w2 ⟨A2, c2, rfl, hb2, hx2⟩)
          go_ret
          have e : encInt v = elem 2 (beBytes v k) := by
            unfold encInt
            rw [if_pos H.out, HS2.out]
          rw [e]
          exact ⟨_, rfl, hb2.up hx, hx.trans hx2⟩
        · rw [show (((m + 1 : Nat) : Int) - 1) = (m : Int) by omega]
          have hm8 : m < 8 := by omega
          have HB := Lib.hid (byteAt_toNat v m)
          have HL : Hid (((beBytes v k).take (k - (m + 1))).length ≤ 8) := by
            show _ ≤ _
            rw [List.length_take, beBytes_length]; omega
          go_wp2_with (at_builtin; refine wpList_append_bs _ rfl (.tmp 37) (.tmp 43) 24 rfl w.heap.size 5 i0 (.int .u8 0) Try.underlying24 hi hz0 hz1 hz2 rfl _ _ rfl (hb.ext ((Ext.refl _).alloc _)) _ [byteAt v m] rfl (BS.new' wr 5 _ [byteAt v m] ?ha 1 rfl ?hc ?hz) ?hd ?he ?_; rotate_right; intro v3 w3 hown3 hg3 hat3)
          case ha => rw [bv_cons, HB.out]; rfl
          case hc => simp [maxLen]
          case hz => rfl
          case hd => have := HL.out; simp only [List.length_cons, List.length_nil] at *; omega
          case he => have := hx.size; simp <;> omega
          go_roundw
          case rel => exact ⟨m, by omega, by go_num, by rw [beBytes_take v k m (by omega)]; exact hown3, (hx.alloc _).grown hg3 (fun k hk => OB.lt hb k hk)⟩
          case measure => simp [intOf] <;> omega
    · have hno : fits v k = false := by simpa using hfit
      have hor : v < -p ∨ (¬ v < -p ∧ p ≤ v) := by
        by_cases h1 : v < -p
        · exact .inl h1
        · refine .inr ⟨h1, ?_⟩
          by_cases h2 : p ≤ v
          · exact h2
          · exact absurd (hf.out.2 ⟨h1, h2⟩) hfit
      have hs2 : intSize v = szF (8 - (k + 1)) v (k + 1) := by have := hs.out; rw [szF_no v k (by omega) hno] at this; exact this
      have HS2 := Lib.hid hs2; clear hs2 hfit hf hs hno
      by_cases h7 : k = 7
      · have hne : ((k : Int) + 1 == 8) = true := by simp; omega
        have hs3 : intSize v = k + 1 := by have := HS2.out; subst h7; exact this
        have HS2 := Lib.hid hs3
        clear hs3
        have hk8' : k ≤ 7 := by omega
        clear h7
        rcases hor with h1 | ⟨h1, h2⟩
        · go_wp2_with fail
          go_loopw [4, 5] (fun b i wr => ∃ j : Nat, j ≤ (k + 1) ∧ i = .int .i64 ((j : Int) - 1) ∧ OB 5 wr w.heap.size b ((beBytes v (k + 1)).take ((k + 1) - j)) ∧ Ext w wr) (fun _ i _ => (intOf i + 1).toNat)
          case atStart => exact ⟨(k + 1), Nat.le_refl _, by go_num, by rw [Nat.sub_self]; exact OB.nil _ _ _, Ext.refl _⟩
          case round =>
            obtain ⟨j, hj, rfl, hb, hx⟩ := hrel
            rcases j with _ | m
            · rw [show (((0 : Nat) : Int) - 1) = -1 by omega]
              have e : (beBytes v (k + 1)).take ((k + 1) - 0) = beBytes v (k + 1) := List.take_of_length_le (by rw [beBytes_length]; omega)
              rw [e] at hb
              obtain ⟨A5, c5, rfl⟩ := hb.shape
              clear e
              go_wp2_with (go_at_call 56; refine (Make_at 2 2 rfl _ _ (beBytes v (k + 1)) _ hb.bs).mono ?_; rintro e w2 ⟨A2, c2, rfl, hb2, hx2⟩)
              go_ret
              have e : encInt v = elem 2 (beBytes v (k + 1)) := by
                unfold encInt
                rw [if_pos H.out, HS2.out]
              rw [e]
              exact ⟨_, rfl, hb2.up hx, hx.trans hx2⟩
            · rw [show (((m + 1 : Nat) : Int) - 1) = (m : Int) by omega]
              have hm8 : m < 8 := by omega
              have HB := Lib.hid (byteAt_toNat v m)
              have HL : Hid (((beBytes v (k + 1)).take ((k + 1) - (m + 1))).length ≤ 8) := by
                show _ ≤ _
                rw [List.length_take, beBytes_length]; omega
              go_wp2_with (at_builtin; refine wpList_append_bs _ rfl (.tmp 37) (.tmp 43) 24 rfl w.heap.size 5 i0 (.int .u8 0) Try.underlying24 hi hz0 hz1 hz2 rfl _ _ rfl (hb.ext ((Ext.refl _).alloc _)) _ [byteAt v m] rfl (BS.new' wr 5 _ [byteAt v m] ?ha 1 rfl ?hc ?hz) ?hd ?he ?_; rotate_right; intro v3 w3 hown3 hg3 hat3)
              case ha => rw [bv_cons, HB.out]; rfl
              case hc => simp [maxLen]
              case hz => rfl
              case hd => have := HL.out; simp only [List.length_cons, List.length_nil] at *; omega
              case he => have := hx.size; simp <;> omega
              go_roundw
              case rel => exact ⟨m, by omega, by go_num, by rw [beBytes_take v (k + 1) m (by omega)]; exact hown3, (hx.alloc _).grown hg3 (fun k hk => OB.lt hb k hk)⟩
              case measure => simp [intOf] <;> omega
        · go_wp2_with fail
          go_loopw [4, 5] (fun b i wr => ∃ j : Nat, j ≤ (k + 1) ∧ i = .int .i64 ((j : Int) - 1) ∧ OB 5 wr w.heap.size b ((beBytes v (k + 1)).take ((k + 1) - j)) ∧ Ext w wr) (fun _ i _ => (intOf i + 1).toNat)
          case atStart => exact ⟨(k + 1), Nat.le_refl _, by go_num, by rw [Nat.sub_self]; exact OB.nil _ _ _, Ext.refl _⟩
          case round =>
            obtain ⟨j, hj, rfl, hb, hx⟩ := hrel
            rcases j with _ | m
            · rw [show (((0 : Nat) : Int) - 1) = -1 by omega]
              have e : (beBytes v (k + 1)).take ((k + 1) - 0) = beBytes v (k + 1) := List.take_of_length_le (by rw [beBytes_length]; omega)
              rw [e] at hb
              obtain ⟨A5, c5, rfl⟩ := hb.shape
              clear e
              go_wp2_with (go_at_call 56; refine (Make_at 2 2 rfl _ _ (beBytes v (k + 1)) _ hb.bs).mono ?_; rintro e w2 ⟨A2, c2, rfl, hb2, hx2⟩)
              go_ret
              have e : encInt v = elem 2 (beBytes v (k + 1)) := by
                unfold encInt
                rw [if_pos H.out, HS2.out]
              rw [e]
              exact ⟨_, rfl, hb2.up hx, hx.trans hx2⟩
            · rw [show (((m + 1 : Nat) : Int) - 1) = (m : Int) by omega]
              have hm8 : m < 8 := by omega
              have HB := Lib.hid (byteAt_toNat v m)
              have HL : Hid (((beBytes v (k + 1)).take ((k + 1) - (m + 1))).length ≤ 8) := by
                show _ ≤ _
                rw [List.length_take, beBytes_length]; omega
              go_wp2_with (at_builtin; refine wpList_append_bs _ rfl (.tmp 37) (.tmp 43) 24 rfl w.heap.size 5 i0 (.int .u8 0) Try.underlying24 hi hz0 hz1 hz2 rfl _ _ rfl (hb.ext ((Ext.refl _).alloc _)) _ [byteAt v m] rfl (BS.new' wr 5 _ [byteAt v m] ?ha 1 rfl ?hc ?hz) ?hd ?he ?_; rotate_right; intro v3 w3 hown3 hg3 hat3)
              case ha => rw [bv_cons, HB.out]; rfl
              case hc => simp [maxLen]
              case hz => rfl
              case hd => have := HL.out; simp only [List.length_cons, List.length_nil] at *; omega
              case he => have := hx.size; simp <;> omega
              go_roundw
              case rel => exact ⟨m, by omega, by go_num, by rw [beBytes_take v (k + 1) m (by omega)]; exact hown3, (hx.alloc _).grown hg3 (fun k hk => OB.lt hb k hk)⟩
              case measure => simp [intOf] <;> omega
      · have hne : ((k : Int) + 1 == 8) = false := by simp; omega
        rcases hor with h1 | ⟨h1, h2⟩
        · go_wp2_with fail
          go_round
          case rel => exact ⟨k + 1, by omega, by omega, by go_num, HS2⟩
          case measure => simp [intOf] <;> omega
        · go_wp2_with fail
          go_round
          case rel => exact ⟨k + 1, by omega, by omega, by go_num, HS2⟩
          case measure => simp [intOf] <;> omega

set_option maxRecDepth 100000 in
theorem RInteger_no (v : Int) (h : inRange v = false) (w : World) :
    Calls Try.prog 20 #[.int .i64 v] w fun e w' => e = .returned (.slice none 0 0) ∧ w = w' := by
  have hh : v < -4611686018427387904 ∨ (¬ v < -4611686018427387904 ∧ 4611686018427387904 < v) := by
    simp only [inRange, Bool.and_eq_false_iff, decide_eq_false_iff_not] at h; omega
  clear h
  rcases hh with h1 | ⟨h1, h2⟩
  · have hd : decide (v < -4611686018427387904) = true := decide_eq_true h1
    clear h1
    go_enter Try.func20, Try.ntmps20
    go_wp2
    go_ret
    exact ⟨rfl, rfl⟩
  · have hd : decide (v < -4611686018427387904) = false := decide_eq_false h1
    have hd2 : decide (4611686018427387904 < v) = true := decide_eq_true h2
    clear h1 h2
    go_enter Try.func20, Try.ntmps20
    go_wp2
    go_ret
    exact ⟨rfl, rfl⟩
theorem RInteger_at (v : Int) (w : World) :
    Calls Try.prog 20 #[.int .i64 v] w fun e w' => ∃ A c, e = .returned (.slice A (encInt v).length c) ∧ OB 5 w' w.heap.size (.slice A (encInt v).length c) (encInt v) ∧ Ext w w' := by
  cases h : inRange v with
  | true => exact (RInteger_yes v h w).mono fun _ _ h => OB.ret h
  | false =>
    refine (RInteger_no v h w).mono ?_
    rintro e w' ⟨rfl, rfl⟩
    have e : encInt v = [] := by unfold encInt; rw [h]; rfl
    rw [e]
    exact ⟨none, 0, rfl, OB.nil _ _ _, Ext.refl _⟩
#print axioms RInteger_at
end Go.Proofs.Ytmbmhepmeajnoaa
