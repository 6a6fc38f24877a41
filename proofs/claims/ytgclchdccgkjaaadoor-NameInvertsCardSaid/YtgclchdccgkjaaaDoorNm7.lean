/- Names: the reference's Text. (wip/tools/gennm7.py printed this.) -/
import Derived.Test.YtgclchdccgkjaaaDoorNm6
namespace Go.Proofs.YtgclchdccgkjaaaDoor
open Go Go.RowKit
set_option linter.unusedVariables false

theorem extract_one (p : ByteArray) (j : Nat) (h : j < p.size) : p.extract j (j + 1) = ⟨#[p[j]]⟩ := by
  apply ByteArray.ext
  apply Array.toList_inj.1
  rw [ByteArray.data_extract, Array.toList_extract, List.extract_eq_take_drop, drop_byte p j h]
  simp
theorem app_one (S : ByteArray) (c : UInt8) : (S ++ (⟨#[c]⟩ : ByteArray)).data.toList = S.data.toList ++ [c] := by simp [ByteArray.data_append]

theorem spc_not {c : UInt8} (a1 : c ≠ 47) (a2 : c ≠ 64) (a3 : c ≠ 92) : ¬ spc c = true := by
  unfold spc
  simp only [decide_eq_true_eq]
  intro h
  rcases h with h | h | h
  · exact a1 (u8_of (n := 47) (by omega) h)
  · exact a2 (u8_of (n := 64) (by omega) h)
  · exact a3 (u8_of (n := 92) (by omega) h)
set_option maxRecDepth 100000 in
set_option maxHeartbeats 4000000 in
theorem RNText_at (A : Option Addr) (c : Nat) (ps : List ByteArray) (r : ByteArray) (hn : ps.length ≤ 1000) (hps : ∀ p ∈ ps, p.size ≤ 1000) (hr : r.size ≤ 1000) (w : World) (hR : RS w (.slice A ps.length c) (sv ps)) :
    Calls Tryd.prog 19 #[.agg #[.slice A ps.length c, .string r]] w fun e w' => e = .returned (.string ⟨(textN (dat ps) r.data.toList).toArray⟩) ∧ Ext w w' := by
  have hT := heap_alloc_new w (.cells #[.slice A ps.length c, .string r] 24)
  have hX := (Ext.refl w).alloc (.cells #[.slice A ps.length c, .string r] 24)
  obtain ⟨wb, hwb⟩ : ∃ wb, wb = w.alloc (.cells #[.slice A ps.length c, .string r] 24) := ⟨_, rfl⟩
  rw [← hwb] at hT hX
  have HT : Hid (PB wb w.heap.size (.slice A ps.length c) r) := Lib.hid hT
  have HX := Lib.hid hX; have HRS := Lib.hid (hR.ext hX); have HPS := Lib.hid hps
  obtain ⟨q0, q1⟩ := HT.out.cells
  clear hT hX hR hps
  go_enter Tryd.func19, Tryd.ntmps19
  go_wp2_with fail
  rw [← hwb]
  clear hwb
  go_loopw [3, 4, 5, 6] (fun t i _ _ wr => ∃ (k : Nat) (S : ByteArray), k ≤ ps.length ∧ i = .int .i64 k ∧ t = .string S ∧ Hid (S.data.toList = partsT ((dat ps).take k)) ∧ S.size ≤ 3000 * k ∧ wr = wb) (fun _ i _ _ _ => ps.length - (intOf i).toNat)
  case atStart => exact ⟨0, ⟨#[]⟩, Nat.zero_le _, rfl, rfl, Lib.hid rfl, by simp [ByteArray.size], rfl⟩
  case round =>
    obtain ⟨k, S, hk, rfl, rfl, HS, hsz, rfl⟩ := hrel
    by_cases hlt : k < ps.length
    · obtain ⟨p, hp⟩ : ∃ p, ps[k] = p := ⟨_, rfl⟩
      have hp1 : p.size ≤ 1000 := by rw [← hp]; exact HPS.out _ (List.getElem_mem hlt)
      obtain ⟨A', c', he, e1, e2, e3⟩ := HRS.out
      rw [sv_length] at e1 e3 he
      injection he with z1 _ z3
      subst z1; subst z3
      obtain ⟨ad, rfl, hblt, hcell⟩ := e3 (by omega)
      have hck := hcell k _ (sv_get ps k hlt)
      rw [hp] at hck
      have HPR := Lib.hid (show partsT ((dat ps).take (k + 1)) = (if k = 0 then [] else partsT ((dat ps).take k) ++ [47]) ++ esc p.data.toList by
        rw [text_step _ k (by rw [dat_length]; exact hlt)]
        simp [dat, hp])
      clear hcell e3 e2 e1 hblt hp
      by_cases hk0 : k = 0
      · have hgt : (k : Int) ≤ 0 := by omega
        rw [if_pos hk0] at HPR
        obtain ⟨pref, hpref⟩ : ∃ pref : List UInt8, pref = [] := ⟨_, rfl⟩
        rw [← hpref] at HPR
        have HPF := Lib.hid (show S.data.toList = pref by rw [HS.out, hk0, hpref]; rfl)
        have hps2 : S.size ≤ 3000 * k + 1 := by omega
        clear hk0 hpref
        go_wp2_with fail
        go_loopw [3, 5, 6] (fun t i _ wr2 => ∃ (j : Nat) (T : ByteArray), j ≤ p.size ∧ i = .int .i64 j ∧ t = .string T ∧ Hid (T.data.toList = pref ++ esc (p.data.toList.take j)) ∧ T.size ≤ 3000 * k + 1 + 2 * j ∧ wr2 = wr) (fun _ i _ _ => p.size - (intOf i).toNat)
        case atStart => exact ⟨0, S, Nat.zero_le _, rfl, rfl, Lib.hid (by rw [HPF.out]; simp [esc]), by first | omega | exact HSZ.out, rfl⟩
        case round =>
          obtain ⟨j, T, hj, rfl, rfl, HTT, htz, rfl⟩ := hrel
          by_cases hlj : j < p.size
          · have hx1 := extract_one p j hlj
            obtain ⟨ch, hch⟩ : ∃ ch, p[j] = ch := ⟨_, rfl⟩
            rw [hch] at hx1
            rcases (show ch = 47 ∨ ch = 64 ∨ ch = 92 ∨ (ch ≠ 47 ∧ ch ≠ 64 ∧ ch ≠ 92) by
              by_cases a1 : ch = 47
              · exact .inl a1
              · by_cases a2 : ch = 64
                · exact .inr (.inl a2)
                · by_cases a3 : ch = 92
                  · exact .inr (.inr (.inl a3))
                  · exact .inr (.inr (.inr ⟨a1, a2, a3⟩))) with rfl | rfl | rfl | ⟨a1, a2, a3⟩
            · have HTK := Lib.hid (show esc (p.data.toList.take (j + 1)) = esc (p.data.toList.take j) ++ [92, 47] by rw [take_at p j hlj, hch, esc_append]; rfl)
              clear hch
              go_wp2_with fail
              go_roundw
              case rel => exact ⟨j + 1, _, by omega, by go_num, rfl, Lib.hid (by rw [HTK.out, app_one, app_one, HTT.out]; simp), by rw [ByteArray.size_append, ByteArray.size_append]; show T.size + 1 + 1 ≤ _; omega, trivial⟩
              case measure => simp [intOf]; omega
            · have HTK := Lib.hid (show esc (p.data.toList.take (j + 1)) = esc (p.data.toList.take j) ++ [92, 64] by rw [take_at p j hlj, hch, esc_append]; rfl)
              clear hch
              go_wp2_with fail
              go_roundw
              case rel => exact ⟨j + 1, _, by omega, by go_num, rfl, Lib.hid (by rw [HTK.out, app_one, app_one, HTT.out]; simp), by rw [ByteArray.size_append, ByteArray.size_append]; show T.size + 1 + 1 ≤ _; omega, trivial⟩
              case measure => simp [intOf]; omega
            · have HTK := Lib.hid (show esc (p.data.toList.take (j + 1)) = esc (p.data.toList.take j) ++ [92, 92] by rw [take_at p j hlj, hch, esc_append]; rfl)
              clear hch
              go_wp2_with fail
              go_roundw
              case rel => exact ⟨j + 1, _, by omega, by go_num, rfl, Lib.hid (by rw [HTK.out, app_one, app_one, HTT.out]; simp), by rw [ByteArray.size_append, ByteArray.size_append]; show T.size + 1 + 1 ≤ _; omega, trivial⟩
              case measure => simp [intOf]; omega
            · have f1 : (ch == 47) = false := by rw [beq_eq_false_iff_ne]; exact a1
              have f2 : (ch == 64) = false := by rw [beq_eq_false_iff_ne]; exact a2
              have f3 : (ch == 92) = false := by rw [beq_eq_false_iff_ne]; exact a3
              have HTK := Lib.hid (show esc (p.data.toList.take (j + 1)) = esc (p.data.toList.take j) ++ [ch] by
                rw [take_at p j hlj, hch, esc_append, esc_one (spc_not a1 a2 a3)])
              clear hch a1 a2 a3
              go_wp2_with fail
              go_roundw
              case rel => exact ⟨j + 1, _, by omega, by go_num, rfl, Lib.hid (by rw [HTK.out, app_one, HTT.out]; simp), by rw [ByteArray.size_append]; show T.size + 1 ≤ _; omega, trivial⟩
              case measure => simp [intOf]; omega
          · have HFE := Lib.hid (show T.data.toList = partsT ((dat ps).take (k + 1)) by rw [HPR.out, HTT.out, List.take_of_length_le (by rw [size_list]; omega)])
            go_wp2_with fail
            go_roundw
            case rel => exact ⟨k + 1, T, by omega, by go_num, rfl, HFE, by omega, trivial⟩
            case measure => simp [intOf]; omega
      · have hgt : 0 < (k : Int) := by omega
        rw [if_neg hk0] at HPR
        obtain ⟨pref, hpref⟩ : ∃ pref : List UInt8, pref = partsT ((dat ps).take k) ++ [47] := ⟨_, rfl⟩
        rw [← hpref] at HPR
        have HPF := Lib.hid (show (S ++ (⟨#[47]⟩ : ByteArray)).data.toList = pref by rw [app_one, HS.out, hpref])
        have HSZ := Lib.hid (show (S ++ (⟨#[47]⟩ : ByteArray)).size ≤ 3000 * k + 1 by rw [ByteArray.size_append]; show S.size + 1 ≤ _; omega)
        clear hk0 hpref
        go_wp2_with fail
        go_loopw [3, 5, 6] (fun t i _ wr2 => ∃ (j : Nat) (T : ByteArray), j ≤ p.size ∧ i = .int .i64 j ∧ t = .string T ∧ Hid (T.data.toList = pref ++ esc (p.data.toList.take j)) ∧ T.size ≤ 3000 * k + 1 + 2 * j ∧ wr2 = wr) (fun _ i _ _ => p.size - (intOf i).toNat)
        case atStart => exact ⟨0, _, Nat.zero_le _, rfl, rfl, Lib.hid (by rw [HPF.out]; simp [esc]), by first | omega | exact HSZ.out, rfl⟩
        case round =>
          obtain ⟨j, T, hj, rfl, rfl, HTT, htz, rfl⟩ := hrel
          by_cases hlj : j < p.size
          · have hx1 := extract_one p j hlj
            obtain ⟨ch, hch⟩ : ∃ ch, p[j] = ch := ⟨_, rfl⟩
            rw [hch] at hx1
            rcases (show ch = 47 ∨ ch = 64 ∨ ch = 92 ∨ (ch ≠ 47 ∧ ch ≠ 64 ∧ ch ≠ 92) by
              by_cases a1 : ch = 47
              · exact .inl a1
              · by_cases a2 : ch = 64
                · exact .inr (.inl a2)
                · by_cases a3 : ch = 92
                  · exact .inr (.inr (.inl a3))
                  · exact .inr (.inr (.inr ⟨a1, a2, a3⟩))) with rfl | rfl | rfl | ⟨a1, a2, a3⟩
            · have HTK := Lib.hid (show esc (p.data.toList.take (j + 1)) = esc (p.data.toList.take j) ++ [92, 47] by rw [take_at p j hlj, hch, esc_append]; rfl)
              clear hch
              go_wp2_with fail
              go_roundw
              case rel => exact ⟨j + 1, _, by omega, by go_num, rfl, Lib.hid (by rw [HTK.out, app_one, app_one, HTT.out]; simp), by rw [ByteArray.size_append, ByteArray.size_append]; show T.size + 1 + 1 ≤ _; omega, trivial⟩
              case measure => simp [intOf]; omega
            · have HTK := Lib.hid (show esc (p.data.toList.take (j + 1)) = esc (p.data.toList.take j) ++ [92, 64] by rw [take_at p j hlj, hch, esc_append]; rfl)
              clear hch
              go_wp2_with fail
              go_roundw
              case rel => exact ⟨j + 1, _, by omega, by go_num, rfl, Lib.hid (by rw [HTK.out, app_one, app_one, HTT.out]; simp), by rw [ByteArray.size_append, ByteArray.size_append]; show T.size + 1 + 1 ≤ _; omega, trivial⟩
              case measure => simp [intOf]; omega
            · have HTK := Lib.hid (show esc (p.data.toList.take (j + 1)) = esc (p.data.toList.take j) ++ [92, 92] by rw [take_at p j hlj, hch, esc_append]; rfl)
              clear hch
              go_wp2_with fail
              go_roundw
              case rel => exact ⟨j + 1, _, by omega, by go_num, rfl, Lib.hid (by rw [HTK.out, app_one, app_one, HTT.out]; simp), by rw [ByteArray.size_append, ByteArray.size_append]; show T.size + 1 + 1 ≤ _; omega, trivial⟩
              case measure => simp [intOf]; omega
            · have f1 : (ch == 47) = false := by rw [beq_eq_false_iff_ne]; exact a1
              have f2 : (ch == 64) = false := by rw [beq_eq_false_iff_ne]; exact a2
              have f3 : (ch == 92) = false := by rw [beq_eq_false_iff_ne]; exact a3
              have HTK := Lib.hid (show esc (p.data.toList.take (j + 1)) = esc (p.data.toList.take j) ++ [ch] by
                rw [take_at p j hlj, hch, esc_append, esc_one (spc_not a1 a2 a3)])
              clear hch a1 a2 a3
              go_wp2_with fail
              go_roundw
              case rel => exact ⟨j + 1, _, by omega, by go_num, rfl, Lib.hid (by rw [HTK.out, app_one, HTT.out]; simp), by rw [ByteArray.size_append]; show T.size + 1 ≤ _; omega, trivial⟩
              case measure => simp [intOf]; omega
          · have HFE := Lib.hid (show T.data.toList = partsT ((dat ps).take (k + 1)) by rw [HPR.out, HTT.out, List.take_of_length_le (by rw [size_list]; omega)])
            go_wp2_with fail
            go_roundw
            case rel => exact ⟨k + 1, T, by omega, by go_num, rfl, HFE, by omega, trivial⟩
            case measure => simp [intOf]; omega
    · have HFE := Lib.hid (show S.data.toList = partsT (dat ps) by rw [HS.out, List.take_of_length_le (by rw [dat_length]; omega)])
      have hsz2 : S.size ≤ 3000000 := by omega
      go_wp2_with fail
      go_ret
      refine ⟨?_, HX.out⟩
      have e : (S ++ (⟨#[64]⟩ : ByteArray)) ++ r = ⟨(textN (dat ps) r.data.toList).toArray⟩ := by
        apply ByteArray.ext
        apply Array.toList_inj.1
        simp [ByteArray.data_append, textN, HFE.out]
      rw [← e]; rfl
end Go.Proofs.YtgclchdccgkjaaaDoor
