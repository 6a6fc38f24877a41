/- Flags: the reference's Named, Options, Text. -/
import Derived.Test.YtigjecmhhjjenaaDoorFlR1
namespace Go.Proofs.YtigjecmhhjjenaaDoor
open Go Go.RowKit
set_option linter.unusedVariables false

theorem nm_iff (f : W32) : nmB f = true ↔ ∀ k, k < 32 → f.getLsbD k = true → (nameAt k).isSome = true := by
  unfold nmB
  rw [hasB_iff]
  constructor
  · intro h k hk hb
    rw [← nm_bits k hk]
    exact h k hk hb
  · intro h k hk hb
    rw [nm_bits k hk]
    exact h k hk hb
def okO (k : Nat) : Bool := decide (k ≤ 5) || decide (k = 7) || (decide (16 ≤ k) && decide (k ≤ 20))
theorem op_bits (k : Nat) (hk : k < 32) : opM.getLsbD k = okO k := by
  have h : ∀ k : Fin 32, opM.getLsbD k.val = okO k.val := by decide
  exact h ⟨k, hk⟩
theorem opt_iff (f : W32) : optB f = true ↔ ∀ k, k < 32 → f.getLsbD k = true → okO k = true := by
  unfold optB
  rw [hasB_iff]
  constructor
  · intro h k hk hb
    rw [← op_bits k hk]
    exact h k hk hb
  · intro h k hk hb
    rw [op_bits k hk]
    exact h k hk hb
theorem names_ne : ((List.range 32).all fun k => !(nameAt k).isSome || !(nmS k).data.toList.isEmpty) = true := by kernel_rfl
theorem nmS_ne {k : Nat} (hk : k < 32) (h : (nameAt k).isSome = true) : (nmS k).toList ≠ [] ∧ (nmS k).toList.isEmpty = false := by
  have := (List.all_eq_true.1 names_ne) k (by simpa using hk)
  rw [h] at this
  have h2 : (nmS k).data.toList.isEmpty = false := by simpa using this
  rw [ByteArray.toList_eq]
  exact ⟨fun e => by rw [e] at h2; simp at h2, h2⟩
theorem nmS_no {k : Nat} (h : (nameAt k).isSome = false) : nmS k = ⟨#[]⟩ := by
  unfold nmS
  cases hn : nameAt k with
  | none => rfl
  | some s => rw [hn] at h; cases h
set_option maxRecDepth 100000 in
set_option maxHeartbeats 1000000 in
theorem RNamed_at (f : W32) (w : World) :
    Calls Tryd.prog 18 #[.int .u32 (f.toNat : Int)] w fun e w' => e = .returned (.bool (nmB f)) ∧ Ext w w' := by
  obtain ⟨B, hB⟩ : ∃ B, nmB f = B := ⟨_, rfl⟩
  rw [hB]
  have HB := Lib.hid hB
  clear hB
  go_enter Tryd.func18, Tryd.ntmps18
  go_wp2_with fail
  go_loopw [3] (fun i wr => ∃ k : Nat, k ≤ 32 ∧ i = .int .i64 k ∧ Hid (∀ j, j < k → f.getLsbD j = true → (nameAt j).isSome = true) ∧ Ext w wr) (fun i _ => 32 - (intOf i).toNat)
  case atStart => exact ⟨0, by omega, rfl, Lib.hid (fun j hj => by omega), Ext.refl _⟩
  case round =>
    obtain ⟨k, hk, rfl, HA, hx⟩ := hrel
    have HX := Lib.hid hx
    clear hx
    by_cases hlt : k < 32
    · cases hb : f.getLsbD k with
      | false =>
        have HH := Lib.hid (hb ▸ RHas_at f k hlt wr)
        have HA2 := Lib.hid (show ∀ j, j < k + 1 → f.getLsbD j = true → (nameAt j).isSome = true from fun j hj hbj => by
          rcases (show j < k ∨ j = k by omega) with h | rfl
          · exact HA.out j h hbj
          · rw [hb] at hbj; cases hbj)
        clear hb
        go_wp2_with fail
        refine HH.out.mono ?_
        rintro _ w1 ⟨rfl, rfl⟩
        go_wp2_with fail
        go_roundw
        case rel => exact ⟨k + 1, by omega, by go_num, HA2, HX.out⟩
        case measure => simp [intOf]; omega
      | true =>
        have HH := Lib.hid (hb ▸ RHas_at f k hlt wr)
        cases hn : (nameAt k).isSome with
        | false =>
          have HN := Lib.hid (nmS_no hn ▸ RName_at k hlt wr)
          have HF := Lib.hid (show B = false by
            rw [← HB.out]
            cases hv : nmB f with
            | false => rfl
            | true => rw [(nm_iff f).1 hv k hlt hb] at hn; cases hn)
          clear hb hn
          go_wp2_with fail
          refine HH.out.mono ?_
          rintro _ w1 ⟨rfl, rfl⟩
          go_wp2_with fail
          refine HN.out.mono ?_
          rintro _ w2 ⟨rfl, hx2⟩
          have HX2 := Lib.hid (HX.out.trans hx2)
          clear hx2
          go_wp2_with fail
          go_ret
          exact ⟨by rw [HF.out]; rfl, HX2.out⟩
        | true =>
          have HN := Lib.hid (RName_at k hlt wr)
          obtain ⟨e1, e2⟩ := nmS_ne hlt hn
          have HA2 := Lib.hid (show ∀ j, j < k + 1 → f.getLsbD j = true → (nameAt j).isSome = true from fun j hj hbj => by
            rcases (show j < k ∨ j = k by omega) with h | rfl
            · exact HA.out j h hbj
            · exact hn)
          clear hb hn
          go_wp2_with fail
          refine HH.out.mono ?_
          rintro _ w1 ⟨rfl, rfl⟩
          go_wp2_with fail
          refine HN.out.mono ?_
          rintro _ w2 ⟨rfl, hx2⟩
          have HX2 := Lib.hid (HX.out.trans hx2)
          clear hx2
          go_wp2_with fail
          go_roundw
          case rel => exact ⟨k + 1, by omega, by go_num, HA2, HX2.out⟩
          case measure => simp [intOf]; omega
    · have HF := Lib.hid (show B = true by
        rw [← HB.out, nm_iff]
        exact fun j hj hbj => HA.out j (by omega) hbj)
      go_wp2_with fail
      go_ret
      exact ⟨by rw [HF.out]; rfl, HX.out⟩

set_option maxRecDepth 100000 in
set_option maxHeartbeats 1000000 in
theorem ROptions_at (f : W32) (w : World) :
    Calls Tryd.prog 14 #[.int .u32 (f.toNat : Int)] w fun e w' => e = .returned (.bool (optB f)) ∧ w = w' := by
  obtain ⟨B, hB⟩ : ∃ B, optB f = B := ⟨_, rfl⟩
  rw [hB]
  have HB := Lib.hid hB
  clear hB
  go_enter Tryd.func14, Tryd.ntmps14
  go_wp2_with fail
  go_loopw [3] (fun i wr => ∃ k : Nat, k ≤ 32 ∧ i = .int .i64 k ∧ Hid (∀ j, j < k → f.getLsbD j = true → okO j = true) ∧ wr = w) (fun i _ => 32 - (intOf i).toNat)
  case atStart => exact ⟨0, by omega, rfl, Lib.hid (fun j hj => by omega), rfl⟩
  case round =>
    obtain ⟨k, hk, rfl, HA, rfl⟩ := hrel
    by_cases hlt : k < 32
    · cases hb : f.getLsbD k with
      | false =>
        have HH := Lib.hid (hb ▸ RHas_at f k hlt wr)
        have HA2 := Lib.hid (show ∀ j, j < k + 1 → f.getLsbD j = true → okO j = true from fun j hj hbj => by
          rcases (show j < k ∨ j = k by omega) with h | rfl
          · exact HA.out j h hbj
          · rw [hb] at hbj; cases hbj)
        clear hb
        go_wp2_with fail
        refine HH.out.mono ?_
        rintro _ w1 ⟨rfl, rfl⟩
        go_wp2_with fail
        go_roundw
        case rel => exact ⟨k + 1, by omega, by go_num, HA2, trivial⟩
        case measure => simp [intOf]; omega
      | true =>
        have HH := Lib.hid (hb ▸ RHas_at f k hlt wr)
        have HA2 := Lib.hid (show okO k = true → ∀ j, j < k + 1 → f.getLsbD j = true → okO j = true from fun hok j hj hbj => by
          rcases (show j < k ∨ j = k by omega) with h | rfl
          · exact HA.out j h hbj
          · exact hok)
        have HF := Lib.hid (show okO k = false → B = false from fun hok => by
          rw [← HB.out]
          cases hv : optB f with
          | false => rfl
          | true => rw [(opt_iff f).1 hv k hlt hb] at hok; cases hok)
        clear hb
        rcases (show k ≤ 5 ∨ k = 6 ∨ k = 7 ∨ (8 ≤ k ∧ k ≤ 15) ∨ (16 ≤ k ∧ k ≤ 20) ∨ 21 ≤ k by omega) with h | rfl | rfl | ⟨h, h'⟩ | ⟨h, h'⟩ | h
        · have h2 : (k : Int) ≤ 5 := by omega
          have HO := Lib.hid (show okO k = true by simp [okO, h])
          clear h
          go_wp2_with fail
          refine HH.out.mono ?_
          rintro _ w1 ⟨rfl, rfl⟩
          go_wp2_with fail
          all_goals
            go_roundw
            case rel => exact ⟨k + 1, by omega, by go_num, Lib.hid (HA2.out HO.out), trivial⟩
            case measure => simp [intOf]; omega
        · have HO := Lib.hid (show okO 6 = false by decide)
          go_wp2_with fail
          refine HH.out.mono ?_
          rintro _ w1 ⟨rfl, rfl⟩
          go_wp2_with fail
          go_ret
          exact ⟨by rw [HF.out HO.out]; rfl, rfl⟩
        · have HO := Lib.hid (show okO 7 = true by decide)
          go_wp2_with fail
          refine HH.out.mono ?_
          rintro _ w1 ⟨rfl, rfl⟩
          go_wp2_with fail
          go_roundw
          case rel => exact ⟨8, by omega, by go_num, Lib.hid (HA2.out HO.out), trivial⟩
          case measure => simp [intOf]
        · have h2 : (5 : Int) < (k : Int) := by omega
          have h3 : ((k : Int) == 7) = false := by rw [beq_eq_false_iff_ne]; omega
          have h4 : (k : Int) < 16 := by omega
          have hd1 : decide ((k : Int) ≤ 5) = false := by simp; omega
          have HO := Lib.hid (show okO k = false by simp [okO]; omega)
          clear h h'
          go_wp2_with fail
          refine HH.out.mono ?_
          rintro _ w1 ⟨rfl, rfl⟩
          go_wp2_with fail
          go_ret
          exact ⟨by rw [HF.out HO.out]; rfl, rfl⟩
        · have h2 : (5 : Int) < (k : Int) := by omega
          have h3 : ((k : Int) == 7) = false := by rw [beq_eq_false_iff_ne]; omega
          have h4 : 16 ≤ (k : Int) := by omega
          have h5 : (k : Int) ≤ 20 := by omega
          have HO := Lib.hid (show okO k = true by simp [okO]; omega)
          clear h h'
          go_wp2_with fail
          refine HH.out.mono ?_
          rintro _ w1 ⟨rfl, rfl⟩
          go_wp2_with fail
          all_goals
            go_roundw
            case rel => exact ⟨k + 1, by omega, by go_num, Lib.hid (HA2.out HO.out), trivial⟩
            case measure => simp [intOf]; omega
        · have h2 : (5 : Int) < (k : Int) := by omega
          have h3 : ((k : Int) == 7) = false := by rw [beq_eq_false_iff_ne]; omega
          have h4 : 16 ≤ (k : Int) := by omega
          have h5 : 20 < (k : Int) := by omega
          have hd1 : decide ((k : Int) ≤ 5) = false := by simp; omega
          have hd2 : decide ((k : Int) ≤ 20) = false := by simp; omega
          have HO := Lib.hid (show okO k = false by simp [okO]; omega)
          clear h
          go_wp2_with fail
          refine HH.out.mono ?_
          rintro _ w1 ⟨rfl, rfl⟩
          go_wp2_with fail
          go_ret
          exact ⟨by rw [HF.out HO.out]; rfl, rfl⟩
    · have HF := Lib.hid (show B = true by
        rw [← HB.out, opt_iff]
        exact fun j hj hbj => HA.out j (by omega) hbj)
      go_wp2_with fail
      go_ret
      exact ⟨by rw [HF.out]; rfl, rfl⟩

/-- The names of the bits below n, joined. -/
def joinTo (f : W32) (n : Nat) : List UInt8 := Lib.join ((nmL (bitsTo f n)).map (·.data.toList)) [44]
theorem join_snoc (ls : List (List UInt8)) (l : List UInt8) : Lib.join (ls ++ [l]) [44] = if ls = [] then l else Lib.join ls [44] ++ 44 :: l := by
  induction ls with
  | nil => simp [Lib.join, List.intercalate]
  | cons a r ih =>
    cases r with
    | nil => simp [Lib.join, List.intercalate, List.intersperse]
    | cons b r =>
      rw [if_neg (by simp)] at ih ⊢
      have e : ∀ x : List (List UInt8), Lib.join (a :: b :: x) [44] = a ++ [44] ++ Lib.join (b :: x) [44] := fun x => by simp [Lib.join, List.intercalate, List.intersperse]
      show Lib.join (a :: b :: (r ++ [l])) [44] = _
      rw [e, e]
      have ih' : Lib.join (b :: (r ++ [l])) [44] = _ := ih
      rw [ih']
      simp
theorem joinTo_no {f : W32} {n : Nat} (h : isF f n = false) : joinTo f (n + 1) = joinTo f n := by unfold joinTo; rw [bitsTo_no h]
theorem joinTo_yes {f : W32} {n : Nat} (h : isF f n = true) : joinTo f (n + 1) = if bitsTo f n = [] then (nmS n).data.toList else joinTo f n ++ 44 :: (nmS n).data.toList := by
  unfold joinTo
  rw [bitsTo_yes h, nmL, List.map_append, List.map_append, List.map_singleton, List.map_singleton, join_snoc]
  simp [nmL]
theorem joinTo_len (f : W32) (n : Nat) : (joinTo f n).length ≤ 13 * n := by
  have := join_len ((nmL (bitsTo f n)).map (·.data.toList)) (fun l hl => by
    simp only [nmL, List.map_map, List.mem_map] at hl
    obtain ⟨y, _, rfl⟩ := hl
    have := nmS_len y
    show (nmS y).data.toList.length ≤ 12
    rw [Array.length_toList]; exact this)
  rw [List.length_map, nmL, List.length_map] at this
  have h32 := bitsTo_len f n
  unfold joinTo
  exact Nat.le_trans this (by omega)
theorem joinTo_ne {f : W32} : ∀ {n : Nat}, n ≤ 32 → bitsTo f n ≠ [] → joinTo f n ≠ []
  | 0, _, h => absurd rfl h
  | n + 1, hn, h => by
    cases hb : isF f n with
    | false =>
      rw [joinTo_no hb]
      rw [bitsTo_no hb] at h
      exact joinTo_ne (by omega) h
    | true =>
      rw [joinTo_yes hb]
      split
      · have hs : (nameAt n).isSome = true := by unfold isF at hb; rw [Bool.and_eq_true] at hb; exact hb.1
        have := (nmS_ne (k := n) (by omega) hs).1
        rwa [ByteArray.toList_eq] at this
      · simp

theorem app_ba (a b : ByteArray) : (a ++ b).data.toList = a.data.toList ++ b.data.toList := by simp [ByteArray.data_append]
set_option maxRecDepth 100000 in
set_option maxHeartbeats 1000000 in
theorem RText_at (f : W32) (hv : nmB f = true) (w : World) :
    Calls Tryd.prog 19 #[.int .u32 (f.toNat : Int)] w fun e w' => e = .returned (.string ⟨(textF f).toArray⟩) ∧ Ext w w' := by
  obtain ⟨T, hT⟩ : ∃ T, textF f = T := ⟨_, rfl⟩
  rw [hT]
  have HT := Lib.hid hT; have HV := Lib.hid hv
  clear hT hv
  go_enter Tryd.func19, Tryd.ntmps19
  go_wp2_with fail
  go_loopw [3, 4] (fun t i wr => ∃ (k : Nat) (S : ByteArray), k ≤ 32 ∧ i = .int .i64 k ∧ t = .string S ∧ Hid (S.data.toList = joinTo f k) ∧ S.size ≤ 500 ∧ Ext w wr) (fun _ i _ => 32 - (intOf i).toNat)
  case atStart => exact ⟨0, ⟨#[]⟩, by omega, rfl, rfl, Lib.hid rfl, by decide, Ext.refl _⟩
  case round =>
    obtain ⟨k, S, hk, rfl, rfl, HS, hsz, hx⟩ := hrel
    have HX := Lib.hid hx
    clear hx
    by_cases hlt : k < 32
    · have hbit := isF_bit HV.out k hlt
      cases hb : f.getLsbD k with
      | false =>
        have HH := Lib.hid (hb ▸ RHas_at f k hlt wr)
        rw [hb] at hbit
        have HJ := Lib.hid (joinTo_no hbit)
        clear hb hbit
        go_wp2_with fail
        refine HH.out.mono ?_
        rintro _ w1 ⟨rfl, rfl⟩
        go_wp2_with fail
        go_roundw
        case rel => exact ⟨k + 1, S, by omega, by go_num, rfl, Lib.hid (by rw [HJ.out]; exact HS.out), hsz, HX.out⟩
        case measure => simp [intOf]; omega
      | true =>
        have HH := Lib.hid (hb ▸ RHas_at f k hlt wr)
        have HN := Lib.hid (RName_at k hlt wr)
        rw [hb] at hbit
        have HJ := Lib.hid (joinTo_yes hbit)
        have HJL := Lib.hid (joinTo_len f (k + 1))
        have hns := nmS_len k
        clear hb hbit
        by_cases hnil : bitsTo f k = []
        · have hse : S.toList = [] := by rw [ByteArray.toList_eq, HS.out, joinTo, hnil]; rfl
          have hse2 : S.toList.isEmpty = true := by rw [hse]; rfl
          rw [if_pos hnil] at HJ
          have HS0 := Lib.hid (show S.data.toList = [] by rw [← ByteArray.toList_eq]; exact hse)
          have hsz0 : S.size ≤ 0 := by rw [← sizeL, HS0.out]; exact Nat.le_refl _
          clear hnil
          go_wp2_with fail
          refine HH.out.mono ?_
          rintro _ w1 ⟨rfl, rfl⟩
          go_wp2_with fail
          refine HN.out.mono ?_
          rintro _ w2 ⟨rfl, hx2⟩
          have HX2 := Lib.hid (HX.out.trans hx2)
          clear hx2
          go_wp2_with fail
          go_roundw
          case rel => exact ⟨k + 1, S ++ nmS k, by omega, by go_num, rfl, Lib.hid (by rw [HJ.out, app_ba, HS0.out]; rfl), by rw [← sizeL, app_ba, List.length_append, sizeL, sizeL]; omega, HX2.out⟩
          case measure => simp [intOf]; omega
        · have hne := joinTo_ne (f := f) (n := k) (by omega) hnil
          have hse : S.toList ≠ [] := by rw [ByteArray.toList_eq, HS.out]; exact hne
          have hse2 : S.toList.isEmpty = false := by cases hh : S.toList with | nil => exact absurd hh hse | cons a b => rfl
          rw [if_neg hnil] at HJ
          clear hnil hne
          go_wp2_with fail
          refine HH.out.mono ?_
          rintro _ w1 ⟨rfl, rfl⟩
          go_wp2_with fail
          refine HN.out.mono ?_
          rintro _ w2 ⟨rfl, hx2⟩
          have HX2 := Lib.hid (HX.out.trans hx2)
          clear hx2
          have hsz1 : S.size + 1 ≤ 600 := by omega
          have hsz2 : (S ++ (⟨#[44]⟩ : ByteArray)).size ≤ 600 := by rw [← sizeL, app_ba, List.length_append, sizeL]; simp; omega
          go_wp2_with fail
          go_roundw
          case rel =>
            have e : ((S ++ (⟨#[44]⟩ : ByteArray)) ++ nmS k).data.toList = joinTo f (k + 1) := by rw [app_ba, app_ba, HJ.out, HS.out]; simp
            exact ⟨k + 1, _, by omega, by go_num, rfl, Lib.hid e, by rw [← sizeL, e]; have := HJL.out; omega, HX2.out⟩
          case measure => simp [intOf]; omega
    · obtain rfl : k = 32 := by omega
      by_cases hnil : bitsTo f 32 = []
      · have hse : S.toList = [] := by rw [ByteArray.toList_eq, HS.out, joinTo, hnil]; rfl
        have hse2 : S.toList.isEmpty = true := by rw [hse]; rfl
        have HF := Lib.hid (show (⟨#[45]⟩ : ByteArray) = ⟨T.toArray⟩ by
          rw [← HT.out]
          unfold textF
          by_cases hz : f = 0#32
          · rw [if_pos hz]
          · exact absurd (by unfold bitsF; rw [hnil]; rfl) (bitsF_ne HV.out hz))
        clear hnil
        go_wp2_with fail
        go_ret
        exact ⟨by rw [← HF.out]; rfl, HX.out⟩
      · have hne := joinTo_ne (f := f) (n := 32) (by omega) hnil
        have hse : S.toList ≠ [] := by rw [ByteArray.toList_eq, HS.out]; exact hne
        have hse2 : S.toList.isEmpty = false := by cases hh : S.toList with | nil => exact absurd hh hse | cons a b => rfl
        have HF := Lib.hid (show S = ⟨T.toArray⟩ by
          have h2 : textF f = joinTo f 32 := by
            unfold textF
            rw [if_neg (by rintro rfl; exact hnil (by decide))]
            rfl
          rw [← HT.out, h2, ← HS.out])
        clear hnil hne
        go_wp2_with fail
        go_ret
        exact ⟨by rw [← HF.out]; rfl, HX.out⟩
end Go.Proofs.YtigjecmhhjjenaaDoor
