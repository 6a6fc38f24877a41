/- DerInverts: the law. (wip/tools/geninv.py printed this.) -/
import Derived.Test.YtmbmhepmeajnoaaKnown
import Derived.Test.YtmbmhepmeajnoaaAgain
import Derived.Test.YtmbmhepmeajnoaaPure13
namespace Go.Proofs.Ytmbmhepmeajnoaa.derInverts
open Go Go.RowKit
set_option linter.unusedVariables false

def VB (L : List UInt8) (v : Value) (w : World) : Prop := ∃ A c, v = .slice A L.length c ∧ BS w (.slice A L.length c) L
theorem str_at {L : List UInt8} {A : Option Addr} {c : Nat} {w : World} (h : BS w (.slice A L.length c) L) : (convert 24 9 (.slice A L.length c)).run Try.prog w = .ok (.string ⟨L.toArray⟩) w :=
  run_str w _ _ 5 _ _ Try.underlying24 Try.underlying5 Try.underlying9 h
theorem End_ok (g : Nat) (l : List UInt8) (k : Nat) (hk : ¬ k < l.length) (w : World) (h : RD 62 w g l k) :
    Calls Try.prog 33 #[.pointer (some ⟨g, 0, none⟩)] w fun e w' => e = .returned (.int .i64 0) ∧ Ext w w' := by
  have := End_at g l k w h
  rw [if_neg hk] at this
  exact this
theorem Left_is (g : Nat) (l : List UInt8) (k n : Nat) (hn : l.length - k = n) (w : World) (h : RD 62 w g l k) :
    Calls Try.prog 50 #[.pointer (some ⟨g, 0, none⟩)] w fun e w' => e = .returned (.int .i64 (n : Int)) ∧ Ext w w' := hn ▸ Left_at g l k w h
theorem Tag3_at (A : Option Addr) (c : Nat) (l : List UInt8) (w : World) (h : BS w (.slice A l.length c) l) :
    Calls Try.prog 13 #[.int .i64 3, .slice A l.length c] w fun e w' => ∃ A c, e = .returned (.slice A (encTag 3 l).length c) ∧ OB 5 w' w.heap.size (.slice A (encTag 3 l).length c) (encTag 3 l) ∧ Ext w w' := Tagged_at 3 A c l w h
theorem parts_new (w : World) (v t f : Int) (tb : Bool) (b : List UInt8) (x1 x2 x3 x4 x5 x6 x7 : Value) (h1 : BS w x1 (encInt v)) (h2 : BS w x2 (encTime t)) (h3 : BS w x3 (encBits f)) (h4 : BS w x4 (encBool tb)) (h5 : BS w x5 (encOctets b)) (h6 : BS w x6 (encString b)) (h7 : BS w x7 (encTag 3 (tripleF v t b))) :
    BSS (w.alloc (.cells #[x1, x2, x3, x4, x5, x6, x7] 24)) (.slice (some ⟨w.heap.size, 0, none⟩) 7 7) (partsI v t f tb b) :=
  BSS.new w 24 [x1, x2, x3, x4, x5, x6, x7] (partsI v t f tb b) 7 rfl rfl (by simp [maxLen]) (fun i hi h' => by
    have : i = 0 ∨ i = 1 ∨ i = 2 ∨ i = 3 ∨ i = 4 ∨ i = 5 ∨ i = 6 := by simp at hi; omega
    rcases this with rfl | rfl | rfl | rfl | rfl | rfl | rfl
    · exact h1
    · exact h2
    · exact h3
    · exact h4
    · exact h5
    · exact h6
    · exact h7)

set_option maxRecDepth 100000 in
theorem law_no (v t f : Int) (A : Option Addr) (c : Nat) (b : List UInt8) (A2 : Option Addr) (c2 : Nat) (rest : List UInt8) (w : World)
    (h : ¬ (inRange v = true ∧ timeOk t = true ∧ b.length ≤ 200 ∧ rest.length ≤ 200)) :
    Calls Try.prog 9 #[.int .i64 v, .int .i64 t, .int .u32 f, .slice A b.length c, .slice A2 rest.length c2] w fun e w' => e = .returned (.bool true) ∧ Ext w w' := by
  have hh : (200 : Int) < b.length ∨ (200 : Int) < rest.length ∨ v < -4611686018427387904 ∨ 4611686018427387904 < v ∨ t < 0 ∨ (1099511627776 : Int) < t := by
    apply Classical.byContradiction
    intro hn
    apply h
    rw [inRange_iff]
    unfold timeOk
    simp only [Bool.and_eq_true, decide_eq_true_eq]
    omega
  clear h
  by_cases g0 : (200 : Int) < b.length
  · clear hh
    go_enter Try.func9, Try.ntmps9
    go_wp2_with fail
    refine (known_at _).mono ?_
    rintro e w1 ⟨rfl, hx1⟩
    go_wp2_with fail
    go_ret
    exact ⟨rfl, hx1⟩
  by_cases g1 : (200 : Int) < rest.length
  · clear hh
    go_enter Try.func9, Try.ntmps9
    go_wp2_with fail
    refine (known_at _).mono ?_
    rintro e w1 ⟨rfl, hx1⟩
    go_wp2_with fail
    go_ret
    exact ⟨rfl, hx1⟩
  by_cases g2 : v < -4611686018427387904
  · clear hh
    have e2 : decide (v < -4611686018427387904) = true := decide_eq_true g2
    clear g2
    go_enter Try.func9, Try.ntmps9
    go_wp2_with fail
    refine (known_at _).mono ?_
    rintro e w1 ⟨rfl, hx1⟩
    go_wp2_with fail
    go_ret
    exact ⟨rfl, hx1⟩
  by_cases g3 : 4611686018427387904 < v
  · clear hh
    have e2 : decide (v < -4611686018427387904) = false := decide_eq_false g2
    clear g2
    have e3 : decide (4611686018427387904 < v) = true := decide_eq_true g3
    clear g3
    go_enter Try.func9, Try.ntmps9
    go_wp2_with fail
    refine (known_at _).mono ?_
    rintro e w1 ⟨rfl, hx1⟩
    go_wp2_with fail
    go_ret
    exact ⟨rfl, hx1⟩
  by_cases g4 : t < 0
  · clear hh
    have e2 : decide (v < -4611686018427387904) = false := decide_eq_false g2
    clear g2
    have e3 : decide (4611686018427387904 < v) = false := decide_eq_false g3
    clear g3
    go_enter Try.func9, Try.ntmps9
    go_wp2_with fail
    refine (known_at _).mono ?_
    rintro e w1 ⟨rfl, hx1⟩
    go_wp2_with fail
    go_ret
    exact ⟨rfl, hx1⟩
  by_cases g5 : (1099511627776 : Int) < t
  · clear hh
    have e2 : decide (v < -4611686018427387904) = false := decide_eq_false g2
    clear g2
    have e3 : decide (4611686018427387904 < v) = false := decide_eq_false g3
    clear g3
    go_enter Try.func9, Try.ntmps9
    go_wp2_with fail
    refine (known_at _).mono ?_
    rintro e w1 ⟨rfl, hx1⟩
    go_wp2_with fail
    go_ret
    exact ⟨rfl, hx1⟩
  exfalso
  rcases hh with h | h | h | h | h | h <;> contradiction

set_option maxRecDepth 100000 in
set_option maxHeartbeats 8000000 in
theorem law_yes (v t f : Int) (hf0 : 0 ≤ f) (hf1 : f ≤ 4294967295) (A : Option Addr) (c : Nat) (b : List UInt8) (A2 : Option Addr) (c2 : Nat) (rest : List UInt8) (w : World)
    (hB : BS w (.slice A b.length c) b) (hB2 : BS w (.slice A2 rest.length c2) rest) (hiv : inRange v = true) (hto : timeOk t = true) (hb : b.length ≤ 200) (hr : rest.length ≤ 200) :
    Calls Try.prog 9 #[.int .i64 v, .int .i64 t, .int .u32 f, .slice A b.length c, .slice A2 rest.length c2] w fun e w' => e = .returned (.bool true) ∧ Ext w w' := by
  obtain ⟨i0, hi, hz0, hz1, hz2⟩ := info_parts u8info
  obtain ⟨tb, htb⟩ : ∃ tb, (t % 2 == 0) = tb := ⟨_, rfl⟩
  have ht0 : 0 ≤ t ∧ t ≤ 1099511627776 := by
    unfold timeOk at hto
    simpa only [Bool.and_eq_true, decide_eq_true_eq] using hto
  obtain ⟨ht0, ht1⟩ := ht0
  have htm : (t.tmod 2 == 0) = tb := by rw [← htb, Int.tmod_eq_emod_of_nonneg ht0]
  obtain ⟨cc, K, m1, m2, m3, m4, m5, m6, n0, n1, n2, n3, n4, n5, n6, n7, n8, r0, rl, al, r1, d1, r2, d2, r3, d3, r4, d4, r5, l4, d5, r6, d6, r7, e7, r8, e8, lK⟩ := inverts_facts v t f tb b rest hiv hto hf0 hf1 hb hr
  obtain ⟨all, hall⟩ : ∃ all, encSeq (partsI v t f tb b) = all := ⟨_, rfl⟩
  rw [hall] at r0 rl al
  have HSQ := Lib.hid (fun (W : World) (g : Nat) => RdSequence_at g (all ++ rest) 0 _ rfl _ _ _ r0 W)
  have HLF := Lib.hid (fun (W : World) (g : Nat) => Left_is g (all ++ rest) (0 + n0) _ rl W)
  have HM1 := Lib.hid (fun (W : World) (g : Nat) => RdInteger_at g cc 0 cc rfl _ _ _ r1 W)
  have HM2 := Lib.hid (fun (W : World) (g : Nat) => RdTime_at g cc (0 + n1) _ d1 _ _ _ r2 W)
  have HM3 := Lib.hid (fun (W : World) (g : Nat) => RdBits_at g cc (0 + n1 + n2) _ d2 _ _ _ r3 W)
  have HM4 := Lib.hid (fun (W : World) (g : Nat) => RdBool_at g cc (0 + n1 + n2 + n3) _ d3 _ _ _ r4 W)
  have HM5 := Lib.hid (fun (W : World) (g : Nat) => RdOctets_at g cc (0 + n1 + n2 + n3 + n4) _ d4 _ _ _ r5 (by omega) W)
  have HM6 := Lib.hid (fun (W : World) (g : Nat) => RdString_at g cc (0 + n1 + n2 + n3 + n4 + n5) _ d5 _ _ _ r6 W)
  have HM7 := Lib.hid (fun (W : World) (g : Nat) => RdTagged_at g cc (0 + n1 + n2 + n3 + n4 + n5 + n6) _ d6 3 (by omega) _ _ _ _ r7 W)
  have HE7 := Lib.hid (fun (W : World) (g : Nat) => End_ok g cc (0 + n1 + n2 + n3 + n4 + n5 + n6 + n7) e7 W)
  have HM8 := Lib.hid (fun (W : World) (g : Nat) => RdKey_at g K 0 K rfl (by omega) v t b 0 n8 r8 W)
  have HE8 := Lib.hid (fun (W : World) (g : Nat) => End_ok g K (0 + n8) e8 W)
  have HAL := Lib.hid al
  have hd : decide (v < -4611686018427387904) = false := by rw [inRange_iff] at hiv; exact decide_eq_false (by omega)
  have hd2 : decide (4611686018427387904 < v) = false := by rw [inRange_iff] at hiv; exact decide_eq_false (by omega)
  clear hiv hto r0 rl al r1 d1 r2 d2 r3 d3 r4 d4 r5 l4 d5 r6 d6 r7 e7 r8 e8 lK
  have HALL := Lib.hid hall
  have HB := Lib.hid hB; have HB2 := Lib.hid hB2
  obtain ⟨we, hwe, hxe, hke⟩ : ∃ we, w.alloc (.cells #[.int .i64 v, .int .i64 t, .slice A b.length c] 49) = we ∧ Ext w we ∧ B3 49 we w.heap.size (.int .i64 v) (.int .i64 t) (.slice A b.length c) := ⟨_, rfl, (Ext.refl _).alloc _, B3.new _ w _ _ _⟩
  have HXE := Lib.hid hxe; have HKE := Lib.hid hke
  clear hall hB hB2 hxe hke
  go_enter Try.func9, Try.ntmps9
  go_wp2_with fail
  clear hwe
  refine wp_region_ext (fun i v' w' => match i with | 1 => VB (encInt v) v' w' | 3 => VB (encTime t) v' w' | 5 => VB (encBits f) v' w' | 9 => VB (encBool tb) v' w' | 11 => VB (encOctets b) v' w' | 14 => VB (encString b) v' w' | 16 => VB (tripleF v t b) v' w' | 17 => VB (encTag 3 (tripleF v t b)) v' w' | 18 => BSS w' v' (partsI v t f tb b) | 19 => VB all v' w' | _ => False) (by kernel_rfl) (by kernel_rfl) ?_
  refine wpE_op rfl rfl (fun w' hw' K' hK' => ?_)
  have hE := hw'.1
  go_step
  refine hK' _ ⟨_, rfl⟩ ?_
  clear hK' K'  hE hw' w'
  refine wpE_call 63 rfl (by simp) rfl (fun w' hw' K' hK' => ?_) ?_
  · have hE := hw'.1
    go_step
    refine (Integer_at v w').mono ?_
    rintro e w2 ⟨A9, c9, rfl, hb, hx⟩
    exact hK' _ _ ⟨_, rfl, A9, c9, rfl, hb.bs⟩ hx
  rintro _ wc1 hE1 ⟨Y1, d1, rfl, hb1⟩
  simp only [Act.put, List.setIfInBounds_toArray, List.set_cons_succ, List.set_cons_zero]
  refine wpE_op rfl rfl (fun w' hw' K' hK' => ?_)
  have hE := hw'.1
  go_step
  refine hK' _ ⟨_, rfl⟩ ?_
  clear hK' K'  hE hw' w'
  refine wpE_call 65 rfl (by simp) rfl (fun w' hw' K' hK' => ?_) ?_
  · have hE := hw'.1
    go_step
    refine (Time_at t w').mono ?_
    rintro e w2 ⟨A9, c9, rfl, hb, hx⟩
    exact hK' _ _ ⟨_, rfl, A9, c9, rfl, hb.bs⟩ hx
  rintro _ wc2 hE2 ⟨Y2, d2, rfl, hb2⟩
  simp only [Act.put, List.setIfInBounds_toArray, List.set_cons_succ, List.set_cons_zero]
  refine wpE_op rfl rfl (fun w' hw' K' hK' => ?_)
  have hE := hw'.1
  go_step
  refine hK' _ ⟨_, rfl⟩ ?_
  clear hK' K'  hE hw' w'
  refine wpE_call 67 rfl (by simp) rfl (fun w' hw' K' hK' => ?_) ?_
  · have hE := hw'.1
    go_step
    refine (Bits_at f hf0 hf1 w').mono ?_
    rintro e w2 ⟨A9, c9, rfl, hb, hx⟩
    exact hK' _ _ ⟨_, rfl, A9, c9, rfl, hb.bs⟩ hx
  rintro _ wc3 hE3 ⟨Y3, d3, rfl, hb3⟩
  simp only [Act.put, List.setIfInBounds_toArray, List.set_cons_succ, List.set_cons_zero]
  refine wpE_op rfl rfl (fun w' hw' K' hK' => ?_)
  have hE := hw'.1
  go_step
  refine hK' _ ⟨_, rfl⟩ ?_
  clear hK' K'  hE hw' w'
  refine wpE_op rfl rfl (fun w' hw' K' hK' => ?_)
  have hE := hw'.1
  go_step
  refine hK' _ ⟨_, rfl⟩ ?_
  clear hK' K'  hE hw' w'
  refine wpE_op rfl rfl (fun w' hw' K' hK' => ?_)
  have hE := hw'.1
  go_step
  refine hK' _ ⟨_, rfl⟩ ?_
  clear hK' K'  hE hw' w'
  refine wpE_call 71 rfl (by simp) rfl (fun w' hw' K' hK' => ?_) ?_
  · have hE := hw'.1
    go_step
    refine (Bool_at tb w').mono ?_
    rintro e w2 ⟨A9, c9, rfl, hb, hx⟩
    exact hK' _ _ ⟨_, rfl, A9, c9, rfl, hb.bs⟩ hx
  rintro _ wc4 hE4 ⟨Y4, d4, rfl, hb4⟩
  simp only [Act.put, List.setIfInBounds_toArray, List.set_cons_succ, List.set_cons_zero]
  refine wpE_op rfl rfl (fun w' hw' K' hK' => ?_)
  have hE := hw'.1
  go_step
  refine hK' _ ⟨_, rfl⟩ ?_
  clear hK' K'  hE hw' w'
  refine wpE_call 73 rfl (by simp) rfl (fun w' hw' K' hK' => ?_) ?_
  · have hE := hw'.1
    go_step
    refine (Octets_at A c b w' (HB.out.ext ((HXE.out.trans (Ext.drew we)).trans hE))).mono ?_
    rintro e w2 ⟨A9, c9, rfl, hb, hx⟩
    exact hK' _ _ ⟨_, rfl, A9, c9, rfl, hb.bs⟩ hx
  rintro _ wc5 hE5 ⟨Y5, d5, rfl, hb5⟩
  simp only [Act.put, List.setIfInBounds_toArray, List.set_cons_succ, List.set_cons_zero]
  refine wpE_op rfl rfl (fun w' hw' K' hK' => ?_)
  have hE := hw'.1
  go_step
  refine hK' _ ⟨_, rfl⟩ ?_
  clear hK' K'  hE hw' w'
  refine wpE_op rfl rfl (fun w' hw' K' hK' => ?_)
  have hE := hw'.1
  have hs := str_at (HB.out.ext ((HXE.out.trans (Ext.drew we)).trans hE))
  go_step
  refine hK' _ ⟨_, rfl⟩ ?_
  clear hK' K' hs hE hw' w'
  refine wpE_call 76 rfl (by simp) rfl (fun w' hw' K' hK' => ?_) ?_
  · have hE := hw'.1
    go_step
    refine (String_at b w' (by unfold maxLen; omega)).mono ?_
    rintro e w2 ⟨A9, c9, rfl, hb, hx⟩
    exact hK' _ _ ⟨_, rfl, A9, c9, rfl, hb.bs⟩ hx
  rintro _ wc6 hE6 ⟨Y6, d6, rfl, hb6⟩
  simp only [Act.put, List.setIfInBounds_toArray, List.set_cons_succ, List.set_cons_zero]
  refine wpE_op rfl rfl (fun w' hw' K' hK' => ?_)
  have hE := hw'.1
  have hq := (HKE.out.ext ((Ext.drew we).trans hE)).cells
  have q0 := hq.1
  have q1 := hq.2.1
  have q2 := hq.2.2
  go_step
  refine hK' _ ⟨_, rfl⟩ ?_
  clear hK' K' q2 q1 q0 hq hE hw' w'
  refine wpE_call 78 rfl (by simp) rfl (fun w' hw' K' hK' => ?_) ?_
  · have hE := hw'.1
    go_step
    refine (Key_at v t A c b w' (HB.out.ext ((HXE.out.trans (Ext.drew we)).trans hE))).mono ?_
    rintro e w2 ⟨A9, c9, rfl, hb, hx⟩
    exact hK' _ _ ⟨_, rfl, A9, c9, rfl, hb.bs⟩ hx
  rintro _ wc7 hE7 ⟨Y7, d7, rfl, hb7⟩
  simp only [Act.put, List.setIfInBounds_toArray, List.set_cons_succ, List.set_cons_zero]
  refine wpE_call 79 rfl (by simp) rfl (fun w' hw' K' hK' => ?_) ?_
  · have hE := hw'.1
    have hM78 : Ext wc7 w' := hw'.2 78 wc7 (by simp [adds]) (by decide)
    go_step
    refine (Tag3_at Y7 d7 (tripleF v t b) w' (hb7.ext hM78)).mono ?_
    rintro e w2 ⟨A9, c9, rfl, hb, hx⟩
    exact hK' _ _ ⟨_, rfl, A9, c9, rfl, hb.bs⟩ hx
  rintro _ wc8 hE8 ⟨Y8, d8, rfl, hb8⟩
  simp only [Act.put, List.setIfInBounds_toArray, List.set_cons_succ, List.set_cons_zero]
  refine wpE_call 80 rfl (by simp) rfl (fun w' hw' K' hK' => ?_) ?_
  · have hE := hw'.1
    have hM63 : Ext wc1 w' := hw'.2 63 wc1 (by simp [adds]) (by decide)
    have hM65 : Ext wc2 w' := hw'.2 65 wc2 (by simp [adds]) (by decide)
    have hM67 : Ext wc3 w' := hw'.2 67 wc3 (by simp [adds]) (by decide)
    have hM71 : Ext wc4 w' := hw'.2 71 wc4 (by simp [adds]) (by decide)
    have hM73 : Ext wc5 w' := hw'.2 73 wc5 (by simp [adds]) (by decide)
    have hM76 : Ext wc6 w' := hw'.2 76 wc6 (by simp [adds]) (by decide)
    have hM79 : Ext wc8 w' := hw'.2 79 wc8 (by simp [adds]) (by decide)
    go_step
    exact hK' _ _ ⟨_, rfl, parts_new w' v t f tb b _ _ _ _ _ _ _ (hb1.ext hM63) (hb2.ext hM65) (hb3.ext hM67) (hb4.ext hM71) (hb5.ext hM73) (hb6.ext hM76) (hb8.ext hM79)⟩ ((Ext.refl w').alloc _)
  rintro vp wc9 hE9 hp9
  simp only [Act.put, List.setIfInBounds_toArray, List.set_cons_succ, List.set_cons_zero]
  refine wpE_call 81 rfl (by simp) rfl (fun w' hw' K' hK' => ?_) ?_
  · have hE := hw'.1
    have hM80 : Ext wc9 w' := hw'.2 80 wc9 (by simp [adds]) (by decide)
    go_step
    refine (Sequence_at vp (partsI v t f tb b) w' (hp9.ext hM80)).mono ?_
    rintro e w2 ⟨A9, c9, rfl, hb, hx⟩
    exact hK' _ _ ⟨_, rfl, A9, c9, by rw [HALL.out], by have := hb.bs; rwa [HALL.out] at this⟩ hx
  rintro _ wcA hEA ⟨YA, dA, rfl, hbA⟩
  simp only [Act.put, List.setIfInBounds_toArray, List.set_cons_succ, List.set_cons_zero]
  refine wpE_op rfl rfl (fun w' hw' K' hK' => ?_)
  have hE := hw'.1
  go_step
  refine hK' _ ⟨_, rfl⟩ ?_
  clear hK' K'  hE hw' w'
  refine wpE_nil (fun w1 ha => ?_)
  have hx1 := (HXE.out.trans (Ext.drew we)).trans ha.1
  have hball := hbA.ext (ha.2 81 wcA (by simp [adds]))
  have HX1 := Lib.hid hx1; have HBA := Lib.hid hball
  clear ha hx1 hball hb1 hb2 hb3 hb4 hb5 hb6 hb7 hb8 hp9 hbA hE1 hE2 hE3 hE4 hE5 hE6 hE7 hE8 hE9 hEA
  have hol := OB.lit w1 5 w.heap.size [] [] rfl 0 rfl (by simp [maxLen]) HX1.out.size
  have HOL := Lib.hid hol; clear hol
  have hX2 := Lib.hid (HX1.out.alloc (.cells #[] 5))
  go_wp2_with (first
    | (at_builtin; refine wpList_append_bs _ rfl (.tmp 82) (.tmp 83) 24 rfl w.heap.size 5 i0 (.int .u8 0) Try.underlying24 hi hz0 hz1 hz2 rfl _ [] rfl HOL.out _ all rfl (HBA.out.ext ((Ext.refl w1).alloc _)) (by have := HAL.out; simp; omega) hX2.out.size ?_; intro v5 w5 ho5 hg5 ha5; have HX5 := Lib.hid (hX2.out.grown hg5 (fun j hj => (HOL.out.lt j hj))); have HO5 := Lib.hid ho5; clear ho5 hg5 ha5)
    | (at_builtin; refine wpList_append_bs _ rfl (.tmp 84) (.tmp 85) 24 rfl w.heap.size 5 i0 (.int .u8 0) Try.underlying24 hi hz0 hz1 hz2 rfl v5 ([] ++ all) rfl HO5.out _ rest rfl (HB2.out.ext HX5.out) (by have := HAL.out; simp; omega) HX5.out.size ?_; intro v6 w6 ho6 hg6 ha6; have HX6 := Lib.hid (HX5.out.grown hg6 (fun j hj => (HO5.out.lt j hj))); have HO6 := Lib.hid ho6; clear ho6 hg6 ha6))
  obtain ⟨A6, c6, rfl⟩ := HO6.out.shape
  have hl7 : ([] ++ all ++ rest) = all ++ rest := rfl
  have ho7 := HO6.out.bs
  rw [hl7] at ho7 ⊢
  refine (New_at A6 c6 (all ++ rest) w6 ho7 (by have := HAL.out; simp; omega)).mono ?_
  rintro e w7 ⟨g, rfl, hBg, hr7, hx7⟩
  have HX7 := Lib.hid (HX6.out.trans hx7)
  have hgw : w.heap.size ≤ g := by have := HX6.out.size; omega
  clear hl7 ho7 hx7
  go_wp2_with fail
  refine (HSQ.out w7 g hr7).mono ?_
  rintro e w8 ⟨p, rfl, hg8, hr8, ⟨hx, _⟩ | ⟨x1, g1, hx, _, rfl, hB1, hr8'⟩⟩
  · cases hx
  injection hx with hx
  subst hx
  have HX8 := Lib.hid (Ext.of_grown HX7.out hg8 hgw)
  have hg1w : w.heap.size ≤ g1 := by have := HX7.out.size; omega
  go_wp2_with fail
  refine (HLF.out w8 g hr8).mono ?_
  rintro e w9 ⟨rfl, hx9⟩
  have HX9 := Lib.hid (HX8.out.trans hx9)
  have hr9 := hr8'.ext hx9
  clear hr7 hg8 hr8 hr8' hx9 HX8 HX7
  go_wp2_with fail
  refine (HM1.out w9 g1 hr9).mono ?_
  rintro e w10 ⟨rfl, hr10, hg10⟩
  have HX10 := Lib.hid (Ext.of_grown HX9.out hg10 hg1w); clear hr9 hg10
  go_wp2_with fail
  refine (HM2.out w10 g1 hr10).mono ?_
  rintro e w11 ⟨rfl, hr11, hg11⟩
  have HX11 := Lib.hid (Ext.of_grown HX10.out hg11 hg1w); clear hr10 hg11
  go_wp2_with fail
  refine (HM3.out w11 g1 hr11).mono ?_
  rintro e w12 ⟨rfl, hr12, hg12⟩
  have HX12 := Lib.hid (Ext.of_grown HX11.out hg12 hg1w); clear hr11 hg12
  go_wp2_with fail
  refine (HM4.out w12 g1 hr12).mono ?_
  rintro e w13 ⟨rfl, hr13, hg13⟩
  have HX13 := Lib.hid (Ext.of_grown HX12.out hg13 hg1w); clear hr12 hg13
  go_wp2_with fail
  refine (HM5.out w13 g1 hr13).mono ?_
  rintro e w14 ⟨Ao, co, rfl, hob, hr14, hg14⟩
  have HX14 := Lib.hid (Ext.of_grown HX13.out hg14 hg1w); clear hr13 hg14
  have HO14 := Lib.hid hob.bs; clear hob
  go_wp2_with fail
  refine (HM6.out w14 g1 hr14).mono ?_
  rintro e w15 ⟨rfl, hr15, hg15⟩
  have HX15 := Lib.hid (Ext.of_grown HX14.out hg15 hg1w)
  have HO15 := Lib.hid (HO14.out.but hr14.noU8 hg15); clear hr14 hg15
  go_wp2_with fail
  refine (HM7.out w15 g1 hr15).mono ?_
  rintro e w16 ⟨p, rfl, hg16, hr16, ⟨hx, _⟩ | ⟨x1, g2, hx, rfl, hB2', hr16'⟩⟩
  · cases hx
  injection hx with hx
  subst hx
  have HX16 := Lib.hid (Ext.of_grown HX15.out hg16 hg1w)
  have HO16 := Lib.hid (HO15.out.but hr15.noU8 hg16)
  have hg2w : w.heap.size ≤ g2 := by have := HX15.out.size; omega
  have HR16 := Lib.hid hr16; have HR16' := Lib.hid hr16'
  clear hr15 hg16 hr16 hr16'
  have hcva := str_at HO16.out
  have hcvb := str_at (HB.out.ext HX16.out)
  go_wp2_with fail
  refine (HE7.out w16 g1 HR16.out).mono ?_
  rintro e w17 ⟨rfl, hx17⟩
  have HX17 := Lib.hid (HX16.out.trans hx17); have HR17 := Lib.hid (HR16'.out.ext hx17)
  clear hx17 hcva hcvb
  go_wp2_with fail
  refine (HM8.out w17 g2 HR17.out).mono ?_
  rintro e w18 ⟨hg18, hr18, A8, c8, rfl, hob8⟩
  have HX18 := Lib.hid (Ext.of_grown HX17.out hg18 hg2w)
  obtain ⟨W19, hW19, hx19, hk19⟩ : ∃ W19, w18.alloc (.cells #[.int .i64 v, .int .i64 t, .slice A8 b.length c8] 49) = W19 ∧ Ext w18 W19 ∧ B3 49 W19 w18.heap.size (.int .i64 v) (.int .i64 t) (.slice A8 b.length c8) := ⟨_, rfl, (Ext.refl _).alloc _, B3.new _ w18 _ _ _⟩
  obtain ⟨q0, q1, q2⟩ := hk19.cells
  have hcv1 := str_at (hob8.bs.ext hx19)
  have hcv2 := str_at (HB.out.ext (HX18.out.trans hx19))
  have HX19 := Lib.hid (HX18.out.trans hx19); have HR19 := Lib.hid (hr18.ext hx19)
  clear hg18 hr18 hob8 hx19 hk19
  go_wp2_with fail
  refine (HE8.out W19 g2 HR19.out).mono ?_
  rintro e w20 ⟨rfl, hx20⟩
  have HX20 := Lib.hid (HX19.out.trans hx20); clear hx20
  go_wp2_with fail
  refine (again_at A2 c2 rest hr w20 (HB2.out.ext HX20.out)).mono ?_
  rintro e w21 ⟨rfl, hx21⟩
  have HX21 := Lib.hid (HX20.out.trans hx21); clear hx21
  go_wp2_with fail
  refine (known_at _).mono ?_
  rintro e w22 ⟨rfl, hx22⟩
  have HX22 := Lib.hid (HX21.out.trans hx22); clear hx22
  go_wp2_with fail
  go_ret
  exact ⟨rfl, HX22.out⟩
theorem law_walk (v t f : Int) (A : Option Addr) (c : Nat) (b : List UInt8) (A2 : Option Addr) (c2 : Nat) (rest : List UInt8) (w : World)
    (hB : BS w (.slice A b.length c) b) (hB2 : BS w (.slice A2 rest.length c2) rest) (hf0 : 0 ≤ f) (hf1 : f ≤ 4294967295) :
    Calls Try.prog 9 #[.int .i64 v, .int .i64 t, .int .u32 f, .slice A b.length c, .slice A2 rest.length c2] w fun e w' => e = .returned (.bool true) ∧ Ext w w' := by
  by_cases h : inRange v = true ∧ timeOk t = true ∧ b.length ≤ 200 ∧ rest.length ≤ 200
  · exact law_yes v t f hf0 hf1 A c b A2 c2 rest w hB hB2 h.1 h.2.1 h.2.2.1 h.2.2.2
  · exact law_no v t f A c b A2 c2 rest w h
end Go.Proofs.Ytmbmhepmeajnoaa.derInverts
