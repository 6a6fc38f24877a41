/- Names: the reference's Realm, Part, Valid. (wip/tools/gennm5.py printed this.) -/
import Derived.Test.YtgclchdccgkjaaaDoorMg8
namespace Go.Proofs.YtgclchdccgkjaaaDoor
open Go Go.RowKit
set_option linter.unusedVariables false

theorem drop_byte (s : ByteArray) (k : Nat) (h : k < s.size) : s.data.toList.drop k = s[k] :: s.data.toList.drop (k + 1) := by
  rw [List.drop_eq_getElem_cons (by rw [Array.length_toList]; exact h)]; rfl
theorem drop_end (s : ByteArray) (k : Nat) (h : ¬ k < s.size) : s.data.toList.drop k = [] := List.drop_eq_nil_of_le (by rw [size_list]; omega)
theorem labB_dot {n : Nat} {c : UInt8} {r : List UInt8} (h : c.toNat = 46) (hn : 0 < n) : labB n (c :: r) = labB 0 r := by rw [labB, if_pos h, decide_eq_true hn, Bool.true_and]
theorem labB_dot0 {c : UInt8} {r : List UInt8} (h : c.toNat = 46) : labB 0 (c :: r) = false := by rw [labB, if_pos h]; rfl
theorem labB_ok {n : Nat} {c : UInt8} {r : List UInt8} (h : c.toNat ≠ 46) (hc : okc c = true) : labB n (c :: r) = labB (n + 1) r := by rw [labB, if_neg h, hc, Bool.true_and]
theorem labB_bad {n : Nat} {c : UInt8} {r : List UInt8} (h : c.toNat ≠ 46) (hc : okc c = false) : labB n (c :: r) = false := by rw [labB, if_neg h, hc, Bool.false_and]

set_option maxRecDepth 100000 in
set_option maxHeartbeats 2000000 in
theorem RRealm_at (s : ByteArray) (hs : s.size ≤ 4294967280) (w : World) :
    Calls Tryd.prog 15 #[.string s] w fun e w' => e = .returned (.bool (realmB s.data.toList)) ∧ w = w' := by
  obtain ⟨b, hb⟩ : ∃ b, realmB s.data.toList = b := ⟨_, rfl⟩
  have HB := Lib.hid (show (sizedB s.data.toList && labB 0 s.data.toList) = b from hb)
  rw [hb]; clear hb
  have HZ : Hid (sizedB s.data.toList = decide (1 ≤ s.size ∧ s.size ≤ 32)) := Lib.hid (by unfold sizedB; rw [size_list])
  by_cases h1 : 1 ≤ s.size
  · have g1 : ¬ ((s.size : Int) < 1) := by omega
    by_cases h2 : s.size ≤ 32
    · have HY := Lib.hid (show labB 0 s.data.toList = b by have := HB.out; rwa [HZ.out, decide_eq_true ⟨h1, h2⟩, Bool.true_and] at this)
      have d2 : decide ((32 : Int) < (s.size : Int)) = false := decide_eq_false (by omega)
      clear h1
      go_enter Tryd.func15, Tryd.ntmps15
      go_wp2_with fail
      clear d2
      go_loop [3, 4, 5] (fun t i _ => ∃ k n : Nat, k ≤ s.size ∧ n ≤ k ∧ i = .int .i64 k ∧ t = .int .i64 n ∧ Hid (labB 0 s.data.toList = labB n (s.data.toList.drop k))) (fun _ i _ => s.size - (intOf i).toNat)
      case atStart => exact ⟨0, 0, Nat.zero_le _, Nat.le_refl _, rfl, rfl, Lib.hid rfl⟩
      case round =>
        obtain ⟨k, n, hk, hn, rfl, rfl, HL⟩ := hrel
        by_cases hlt : k < s.size
        · have HD := Lib.hid (drop_byte s k hlt)
          by_cases h46 : s[k].toNat = 46
          · have e46 : ((s[k].toNat : Int) == 46) = true := by rw [h46]; rfl
            by_cases h0 : n = 0
            · have HX := Lib.hid (show labB 0 s.data.toList = false by rw [HL.out, HD.out, h0]; exact labB_dot0 h46)
              subst h0
              clear h46
              go_wp2_with fail
              go_ret
              refine ⟨?_, rfl⟩
              rw [← HY.out, HX.out]; rfl
            · have HX := Lib.hid (show labB 0 s.data.toList = labB 0 (s.data.toList.drop (k + 1)) by rw [HL.out, HD.out]; exact labB_dot h46 (by omega))
              have e0 : ((n : Int) == 0) = false := by rw [beq_eq_false_iff_ne]; omega
              clear h46 h0
              go_wp2_with fail
              go_round
              case rel => exact ⟨k + 1, 0, by omega, Nat.zero_le _, by go_num, rfl, HX⟩
              case measure => simp [intOf]; omega
          · have e46 : ((s[k].toNat : Int) == 46) = false := by rw [beq_eq_false_iff_ne]; omega
            rcases (show (s[k].toNat : Int) < 48 ∧ (s[k].toNat : Int) ≠ 45 ∨ (s[k].toNat : Int) = 45 ∨ (48 ≤ (s[k].toNat : Int) ∧ (s[k].toNat : Int) ≤ 57) ∨ (57 < (s[k].toNat : Int) ∧ (s[k].toNat : Int) < 65) ∨ (65 ≤ (s[k].toNat : Int) ∧ (s[k].toNat : Int) ≤ 90) ∨ 90 < (s[k].toNat : Int) by omega) with ⟨g1, g2⟩ | g1 | ⟨g1, g2⟩ | ⟨g1, g2⟩ | ⟨g1, g2⟩ | g1
            · have g3 : (s[k].toNat : Int) < 65 := by omega
              have g4 : ((s[k].toNat : Int) == 45) = false := by rw [beq_eq_false_iff_ne]; exact g2
              have HX := Lib.hid (show labB 0 s.data.toList = false by rw [HL.out, HD.out]; exact labB_bad h46 (okc_no (by omega)))
              clear h46
              go_wp2_with fail
              go_ret
              refine ⟨?_, rfl⟩
              rw [← HY.out, HX.out]; rfl
            · have g3 : (s[k].toNat : Int) < 65 := by omega
              have g5 : (s[k].toNat : Int) < 48 := by omega
              have g4 : ((s[k].toNat : Int) == 45) = true := by rw [g1]; rfl
              have HX := Lib.hid (show labB 0 s.data.toList = labB (n + 1) (s.data.toList.drop (k + 1)) by rw [HL.out, HD.out]; exact labB_ok h46 (okc_yes (by omega)))
              clear h46
              clear g1
              go_wp2_with fail
              go_round
              case rel => exact ⟨k + 1, n + 1, by omega, by omega, by go_num, by go_num, HX⟩
              case measure => simp [intOf]; omega
            · have g3 : (s[k].toNat : Int) < 65 := by omega
              have HX := Lib.hid (show labB 0 s.data.toList = labB (n + 1) (s.data.toList.drop (k + 1)) by rw [HL.out, HD.out]; exact labB_ok h46 (okc_yes (by omega)))
              clear h46
              go_wp2_with fail
              go_round
              case rel => exact ⟨k + 1, n + 1, by omega, by omega, by go_num, by go_num, HX⟩
              case measure => simp [intOf]; omega
            · have g3 : 48 ≤ (s[k].toNat : Int) := by omega
              have g4 : ((s[k].toNat : Int) == 45) = false := by rw [beq_eq_false_iff_ne]; omega
              have HX := Lib.hid (show labB 0 s.data.toList = false by rw [HL.out, HD.out]; exact labB_bad h46 (okc_no (by omega)))
              clear h46
              go_wp2_with fail
              go_ret
              refine ⟨?_, rfl⟩
              rw [← HY.out, HX.out]; rfl
            · skip
              have HX := Lib.hid (show labB 0 s.data.toList = labB (n + 1) (s.data.toList.drop (k + 1)) by rw [HL.out, HD.out]; exact labB_ok h46 (okc_yes (by omega)))
              clear h46
              go_wp2_with fail
              go_round
              case rel => exact ⟨k + 1, n + 1, by omega, by omega, by go_num, by go_num, HX⟩
              case measure => simp [intOf]; omega
            · have g2 : 65 ≤ (s[k].toNat : Int) := by omega
              have g3 : 48 ≤ (s[k].toNat : Int) := by omega
              have g5 : 57 < (s[k].toNat : Int) := by omega
              have g4 : ((s[k].toNat : Int) == 45) = false := by rw [beq_eq_false_iff_ne]; omega
              have HX := Lib.hid (show labB 0 s.data.toList = false by rw [HL.out, HD.out]; exact labB_bad h46 (okc_no (by omega)))
              clear h46
              go_wp2_with fail
              go_ret
              refine ⟨?_, rfl⟩
              rw [← HY.out, HX.out]; rfl
        · have HE := Lib.hid (show labB n [] = b by rw [← HY.out, HL.out, drop_end s k hlt])
          by_cases h0 : n = 0
          · subst h0
            go_wp2_with fail
            go_ret
            refine ⟨?_, rfl⟩
            rw [← HE.out]; rfl
          · have e0 : (0 : Int) < (n : Int) := by omega
            have HN := Lib.hid (show 0 < n by omega)
            clear h0
            go_wp2_with fail
            go_ret
            refine ⟨?_, rfl⟩
            rw [← HE.out, labB, decide_eq_true HN.out]; rfl
    · have HY := Lib.hid (show false = b by have := HB.out; rwa [HZ.out, decide_eq_false (fun h => h2 h.2), Bool.false_and] at this)
      have d2 : decide ((32 : Int) < (s.size : Int)) = true := decide_eq_true (by omega)
      clear h1 h2
      go_enter Tryd.func15, Tryd.ntmps15
      go_wp2_with fail
      go_ret
      refine ⟨?_, rfl⟩
      rw [← HY.out]; rfl
  · have HY := Lib.hid (show false = b by have := HB.out; rwa [HZ.out, decide_eq_false (fun h => h1 h.1), Bool.false_and] at this)
    have g1 : (s.size : Int) < 1 := by omega
    clear h1
    go_enter Tryd.func15, Tryd.ntmps15
    go_wp2_with fail
    go_ret
    refine ⟨?_, rfl⟩
    rw [← HY.out]; rfl

set_option maxRecDepth 100000 in
theorem RPart_at (s : ByteArray) (hs : s.size ≤ 4294967280) (w : World) :
    Calls Tryd.prog 17 #[.string s] w fun e w' => e = .returned (.bool (partB s.data.toList)) ∧ w = w' := by
  have HP := Lib.hid (show partB s.data.toList = (sizedB s.data.toList && s.data.toList.all prtc) from rfl)
  have HZ : Hid (sizedB s.data.toList = decide (1 ≤ s.size ∧ s.size ≤ 32)) := Lib.hid (by unfold sizedB; rw [size_list])
  obtain ⟨b, hb⟩ : ∃ b, partB s.data.toList = b := ⟨_, rfl⟩
  rw [hb] at HP ⊢
  clear hb
  go_enter Tryd.func17, Tryd.ntmps17
  go_wp2
  go_loop [3] (fun i => ∃ k : Nat, k ≤ s.size ∧ i = .int .i64 k ∧ (s.data.toList.take k).all prtc = true) (fun i => s.size - (intOf i).toNat)
  case atStart => exact ⟨0, Nat.zero_le _, rfl, by simp⟩
  case round =>
    obtain ⟨k, hk, rfl, hall⟩ := hrel
    have HA := Lib.hid hall; clear hall
    by_cases hlt : k < s.size
    · by_cases h1 : (s[k].toNat : Int) < 33
      · have HN := Lib.hid (all_take_no hlt (prtc_no (.inl h1)))
        go_wp2
        go_ret
        refine ⟨?_, rfl⟩
        rw [HP.out, HN.out, Bool.and_false]; rfl
      · have h1' : 33 ≤ (s[k].toNat : Int) := by omega
        by_cases h2 : 126 < (s[k].toNat : Int)
        · have HN := Lib.hid (all_take_no hlt (prtc_no (.inr h2)))
          clear h1
          go_wp2
          go_ret
          refine ⟨?_, rfl⟩
          rw [HP.out, HN.out, Bool.and_false]; rfl
        · have h2' : (s[k].toNat : Int) ≤ 126 := by omega
          have HY := Lib.hid (all_take_yes hlt HA.out (prtc_yes h1' h2'))
          clear h1 h2
          go_wp2
          go_round
          case rel => exact ⟨k + 1, by omega, by go_num, HY.out⟩
          case measure => simp [intOf]; omega
    · have HF := Lib.hid (show s.data.toList.all prtc = true by
        have := HA.out
        rwa [List.take_of_length_le (by rw [size_list]; omega)] at this)
      by_cases g1 : 1 ≤ s.size
      · have d1 : 1 ≤ (s.size : Int) := by omega
        by_cases g2 : s.size ≤ 32
        · have d2 : decide ((s.size : Int) ≤ 32) = true := decide_eq_true (by omega)
          have HT := Lib.hid (show b = true by rw [HP.out, HF.out, HZ.out, decide_eq_true ⟨g1, g2⟩]; rfl)
          clear g1 g2
          go_wp2_with fail
          go_ret
          refine ⟨?_, rfl⟩
          rw [HT.out]; rfl
        · have d2 : decide ((s.size : Int) ≤ 32) = false := decide_eq_false (by omega)
          have HT := Lib.hid (show b = false by rw [HP.out, HF.out, HZ.out, decide_eq_false (fun h => g2 h.2)]; rfl)
          clear g1 g2
          go_wp2_with fail
          go_ret
          refine ⟨?_, rfl⟩
          rw [HT.out]; rfl
      · have d1 : decide (1 ≤ (s.size : Int)) = false := decide_eq_false (by omega)
        have d2 : (s.size : Int) < 1 := by omega
        have HT := Lib.hid (show b = false by rw [HP.out, HF.out, HZ.out, decide_eq_false (fun h => g1 h.1)]; rfl)
        clear g1
        go_wp2_with fail
        go_ret
        refine ⟨?_, rfl⟩
        rw [HT.out]; rfl

set_option maxRecDepth 100000 in
set_option maxHeartbeats 2000000 in
theorem RValid_at (A : Option Addr) (c : Nat) (ps : List ByteArray) (r : ByteArray) (hn : ps.length ≤ 1000) (hps : ∀ p ∈ ps, p.size ≤ 4294967280) (hr : r.size ≤ 4294967280) (w : World) (hR : RS w (.slice A ps.length c) (sv ps)) :
    Calls Tryd.prog 13 #[.agg #[.slice A ps.length c, .string r]] w fun e w' => e = .returned (.bool (nameB (dat ps) r.data.toList)) ∧ Ext w w' := by
  have HN := Lib.hid (nameB_all (ps := ps) (r := r))
  obtain ⟨b, hb⟩ : ∃ b, nameB (dat ps) r.data.toList = b := ⟨_, rfl⟩
  rw [hb] at HN ⊢
  clear hb
  have HPS := Lib.hid hps; have HR := Lib.hid hr; have HRS := Lib.hid hR
  clear hps hr hR
  have hT := heap_alloc_new w (.cells #[.slice A ps.length c, .string r] 24)
  have hX := (Ext.refl w).alloc (.cells #[.slice A ps.length c, .string r] 24)
  obtain ⟨wr, hwr⟩ : ∃ wr, wr = w.alloc (.cells #[.slice A ps.length c, .string r] 24) := ⟨_, rfl⟩
  rw [← hwr] at hT hX
  have HT : Hid (PB wr w.heap.size (.slice A ps.length c) r) := Lib.hid hT
  have HX := Lib.hid hX
  have HRW := Lib.hid (HRS.out.ext hX)
  obtain ⟨q0, q1⟩ := HT.out.cells
  clear hT hX HRS
  go_enter Tryd.func13, Tryd.ntmps13
  go_wp2_with fail
  rw [← hwr]
  clear hwr
  go_loopw [3] (fun i W' => ∃ k : Nat, k ≤ ps.length ∧ i = .int .i64 k ∧ (dat (ps.take k)).all partB = true ∧ W' = wr) (fun i _ => ps.length - (intOf i).toNat)
  case atStart => exact ⟨0, Nat.zero_le _, rfl, by simp [dat], rfl⟩
  case round =>
    obtain ⟨k, hk, rfl, hall, rfl⟩ := hrel
    have HA := Lib.hid hall; clear hall
    by_cases hlt : k < ps.length
    · obtain ⟨A', c', he, e1, e2, e3⟩ := HRW.out
      rw [sv_length] at e1 e3 he
      injection he with z1 _ z3
      subst z1; subst z3
      obtain ⟨ad, rfl, hblt, hcell⟩ := e3 (by omega)
      have hck := hcell k _ (sv_get ps k hlt)
      have HPK := Lib.hid (RPart_at ps[k] (HPS.out _ (List.getElem_mem hlt)) wr)
      clear hcell e3 e2 e1 hblt
      cases hp : partB ps[k].data.toList with
      | false =>
        have HP := Lib.hid hp
        rw [hp] at HPK
        clear hp
        go_wp2_with fail
        refine HPK.out.mono ?_
        rintro _ w9 ⟨rfl, rfl⟩
        go_wp2_with fail
        go_ret
        refine ⟨?_, HX.out⟩
        rw [HN.out, parts_no hlt HP.out, Bool.and_false]; rfl
      | true =>
        have HP := Lib.hid hp
        rw [hp] at HPK
        clear hp
        go_wp2_with fail
        refine HPK.out.mono ?_
        rintro _ w9 ⟨rfl, rfl⟩
        go_wp2_with fail
        go_roundw
        case rel => exact ⟨k + 1, by omega, by go_num, parts_yes hlt HA.out HP.out, trivial⟩
        case measure => simp [intOf]; omega
    · have HF := Lib.hid (show (dat ps).all partB = true by
        have := HA.out
        rwa [List.take_of_length_le (by omega)] at this)
      by_cases g1 : 1 ≤ ps.length
      · have d1 : 1 ≤ (ps.length : Int) := by omega
        by_cases g2 : ps.length ≤ 4
        · have d2 : decide ((ps.length : Int) ≤ 4) = true := decide_eq_true (by omega)
          have d2' : (ps.length : Int) ≤ 4 := by omega
          have HT := Lib.hid (show b = realmB r.data.toList by rw [HN.out, HF.out, decide_eq_true d1, d2]; simp)
          clear g1 g2
          go_wp2_with fail
          refine (RRealm_at r HR.out wr).mono ?_
          rintro _ w9 ⟨rfl, rfl⟩
          go_wp2_with fail
          go_ret
          refine ⟨?_, HX.out⟩
          rw [HT.out]; rfl
        · have d2 : decide ((ps.length : Int) ≤ 4) = false := decide_eq_false (by omega)
          have d2' : ¬ (ps.length : Int) ≤ 4 := by omega
          have HT := Lib.hid (show b = false by rw [HN.out, HF.out, decide_eq_true d1, d2]; simp)
          clear g1 g2
          go_wp2_with fail
          go_ret
          refine ⟨?_, HX.out⟩
          rw [HT.out]; rfl
      · have d1 : decide (1 ≤ (ps.length : Int)) = false := decide_eq_false (by omega)
        have d2 : (ps.length : Int) < 1 := by omega
        have HT := Lib.hid (show b = false by rw [HN.out, d1]; simp)
        clear g1
        go_wp2_with fail
        go_ret
        refine ⟨?_, HX.out⟩
        rw [HT.out]; rfl
end Go.Proofs.YtgclchdccgkjaaaDoor
