/- Flags: the reference's Parse. -/
import Derived.Test.YtigjecmhhjjenaaDoorFlR2
import Derived.Test.YtigjecmhhjjenaaDoorFl6
import Derived.Laws.DeepStrings4
namespace Go.Proofs.YtigjecmhhjjenaaDoor
open Go Go.RowKit
set_option linter.unusedVariables false

def pF (f : W32) (l : List UInt8) : W32 := match findK l with | none => f | some k => orW f (bitW k)
theorem splb_ne (x : UInt8) : ∀ (l acc : List UInt8), splb x acc l ≠ []
  | [], acc => by simp [splb]
  | c :: r, acc => by
    rw [splb]
    split
    · simp
    · exact splb_ne x r _
theorem splb_snoc (x c : UInt8) : ∀ (l acc : List UInt8) (d : List (List UInt8)) (e : List UInt8), splb x acc l = d ++ [e] → splb x acc (l ++ [c]) = if c = x then d ++ [e, []] else d ++ [e ++ [c]]
  | [], acc, d, e, h => by
    have hd : d = [] ∧ acc = e := by
      cases d with
      | nil => simpa [splb] using h
      | cons a r => simp [splb] at h
    obtain ⟨rfl, rfl⟩ := hd
    by_cases hc : c = x
    · simp [splb, hc]
    · simp [splb, hc]
  | y :: l, acc, d, e, h => by
    rw [List.cons_append]
    rw [splb] at h ⊢
    by_cases hy : y = x
    · rw [if_pos hy] at h ⊢
      cases d with
      | nil =>
        simp only [List.nil_append, List.cons.injEq] at h
        exact absurd h.2 (splb_ne x l [])
      | cons a r =>
        rw [List.cons_append] at h
        injection h with h1 h2
        rw [splb_snoc x c l [] r e h2, h1]
        split <;> rfl
    · rw [if_neg hy] at h ⊢
      exact splb_snoc x c l _ d e h
theorem inner_none (P : Nat → Prop) [DecidablePred P] (f : W32) : ∀ (n : Nat), (∀ j, j < n → ¬ P j) → (List.range n).foldl (fun a j => if P j then orW a (bitW j) else a) f = f
  | 0, _ => rfl
  | n + 1, h => by
    rw [List.range_succ, List.foldl_append, inner_none P f n (fun j hj => h j (by omega))]
    simp [h n (by omega)]
theorem inner_one (P : Nat → Prop) [DecidablePred P] (f : W32) (k : Nat) (hk : P k) : ∀ (n : Nat), k < n → (∀ j, j < n → P j → j = k) → (List.range n).foldl (fun a j => if P j then orW a (bitW j) else a) f = orW f (bitW k)
  | n + 1, hn, h => by
    rw [List.range_succ, List.foldl_append]
    rcases (show k = n ∨ k < n by omega) with rfl | hlt
    · rw [inner_none P f k (fun j hj hp => by have := h j (by omega) hp; omega)]
      simp [hk]
    · rw [inner_one P f k hk n hlt (fun j hj => h j (by omega))]
      have : ¬ P n := fun hp => by have := h n (by omega) hp; omega
      simp [this]
/-- What the loop over the bits has made of flags, behind n bits. -/
def inF (f : W32) (l : List UInt8) (n : Nat) : W32 := (List.range n).foldl (fun a j => if (l ≠ [] ∧ (nmS j).data.toList = l) then orW a (bitW j) else a) f
theorem inF_succ (f : W32) (l : List UInt8) (n : Nat) : inF f l (n + 1) = if (l ≠ [] ∧ (nmS n).data.toList = l) then orW (inF f l n) (bitW n) else inF f l n := by
  unfold inF
  rw [List.range_succ, List.foldl_append]
  rfl
theorem all_named {j : Nat} (h32 : j < 32) : isF allW j = (nameAt j).isSome := by
  unfold isF
  rw [has_bit allW j h32]
  unfold allW
  rw [nm_bits j h32]
  cases (nameAt j).isSome <;> rfl
theorem inF_all (f : W32) (l : List UInt8) : inF f l 32 = pF f l := by
  unfold inF pF
  have hmem : ∀ j, j < 32 → l ≠ [] → (nmS j).data.toList = l → j ∈ bitsF allW := fun j hj hne he => by
    unfold bitsF bitsTo
    rw [List.mem_filter, all_named hj]
    refine ⟨by simpa using hj, ?_⟩
    cases hn : (nameAt j).isSome with
    | true => rfl
    | false => rw [nmS_no hn] at he; exact absurd he.symm hne
  cases hf : findK l with
  | none =>
    refine inner_none _ f 32 (fun j hj hp => ?_)
    unfold findK at hf
    rw [List.find?_eq_none] at hf
    have := hf j (hmem j hj hp.1 hp.2)
    simp [hp.2] at this
  | some k =>
    have hk : (nmS k).data.toList = l ∧ k ∈ bitsF allW := by
      unfold findK at hf
      exact ⟨by simpa using List.find?_some hf, List.mem_of_find?_eq_some hf⟩
    have hk32 : k < 32 := by
      have := hk.2
      unfold bitsF bitsTo at this
      rw [List.mem_filter] at this
      simpa using this.1
    have hkn : (nameAt k).isSome = true := by
      have := hk.2
      unfold bitsF bitsTo at this
      rw [List.mem_filter, all_named hk32] at this
      exact this.2
    have hne : l ≠ [] := by
      rw [← hk.1, ← ByteArray.toList_eq]
      exact (nmS_ne hk32 hkn).1
    refine inner_one _ f k ⟨hne, hk.1⟩ 32 hk32 (fun j hj hp => ?_)
    have hjm := hmem j hj hp.1 hp.2
    have hji : isF allW j = true := by
      unfold bitsF bitsTo at hjm
      rw [List.mem_filter] at hjm
      exact hjm.2
    have := find_name hj hji
    rw [hp.2, hf] at this
    injection this with this
    exact this.symm
theorem nm_zero : nmB 0#32 = true := by decide
theorem pF_nm {f : W32} (h : nmB f = true) (l : List UInt8) : nmB (pF f l) = true := by
  unfold pF
  cases hf : findK l with
  | none => exact h
  | some k =>
    have hk : k ∈ bitsF allW := by unfold findK at hf; exact List.mem_of_find?_eq_some hf
    unfold bitsF bitsTo at hk
    rw [List.mem_filter] at hk
    have hk32 : k < 32 := by simpa using hk.1
    have hkn := hk.2
    rw [all_named hk32] at hkn
    show nmB (orW f (bitW k)) = true
    rw [nm_iff] at h ⊢
    intro j hj hb
    rw [or_bit, bitW_bit k j hk32] at hb
    by_cases e : j = k
    · subst e; exact hkn
    · simp [e] at hb
      exact h j hj hb
theorem pF_all : ∀ (ls : List (List UInt8)) (f : W32), nmB f = true → nmB (ls.foldl pF f) = true
  | [], _, h => h
  | l :: ls, f, h => pF_all ls _ (pF_nm h l)
theorem fold_bits {f : W32} (hv : nmB f = true) : ∀ (m n : Nat), n + m = 32 → (((List.range' n m).filter (isF f)).map fun k => (nmS k).data.toList).foldl pF (lowW f n) = f
  | 0, n, h => by
    obtain rfl : n = 32 := by omega
    simp only [List.range'_zero, List.filter_nil, List.map_nil, List.foldl_nil]
    refine BitVec.eq_of_toNat_eq ?_
    rw [lowW_nat]
    exact Nat.mod_eq_of_lt f.isLt
  | m + 1, n, h => by
    have ih := fold_bits hv m (n + 1) (by omega)
    rw [List.range'_succ, List.filter_cons]
    cases hb : isF f n with
    | true =>
      rw [if_pos rfl, List.map_cons, List.foldl_cons]
      have e : pF (lowW f n) (nmS n).data.toList = lowW f (n + 1) := by
        unfold pF
        rw [find_name (by omega) hb]
        exact low_yes (by omega) (by rw [← isF_bit hv n (by omega)]; exact hb)
      rw [e]
      exact ih
    | false =>
      rw [if_neg (by simp), low_no (by rw [← isF_bit hv n (by omega)]; exact hb)]
      exact ih
theorem fold_dash : (splb 44 [] [45]).foldl pF 0#32 = 0#32 := by kernel_rfl
theorem fold_text {f : W32} (hv : nmB f = true) : (splb 44 [] (textF f)).foldl pF 0#32 = f := by
  unfold textF
  by_cases hz : f = 0#32
  · subst hz; rw [if_pos rfl]; exact fold_dash
  · rw [if_neg hz]
    have hn : ∀ m ∈ (nmL (bitsF f)).map (·.data.toList), ∀ c ∈ m, c ≠ 44 := by
      intro m hm c hc
      simp only [nmL, List.map_map, List.mem_map] at hm
      obtain ⟨k, hk, rfl⟩ := hm
      have h32 : k < 32 := by
        unfold bitsF bitsTo at hk
        rw [List.mem_filter] at hk
        simpa using hk.1
      have := (List.all_eq_true.1 names_free) k (by simpa using h32)
      have := (List.all_eq_true.1 this) c hc
      simpa using this
    have h0 := fold_bits hv 32 0 rfl
    have e0 : lowW f 0 = 0#32 := by
      refine BitVec.eq_of_toNat_eq ?_
      rw [lowW_nat]
      simp [Nat.mod_one]
    rw [e0] at h0
    have e1 : ((List.range' 0 32).filter (isF f)).map (fun k => (nmS k).data.toList) = (nmL (bitsF f)).map (·.data.toList) := by
      simp only [nmL, List.map_map, bitsF, bitsTo, List.range_eq_range']
      rfl
    rw [e1] at h0
    unfold joinF
    cases hl : (nmL (bitsF f)).map (·.data.toList) with
    | nil =>
      have := bitsF_ne hv hz
      have h1 := congrArg List.length hl
      simp [nmL] at h1
      rw [h1] at this
      simp at this
    | cons l r =>
      rw [hl] at h0 hn
      rw [splb_join 44 l r hn]
      exact h0
/-- What the loop over the bytes has: the words so far, the word under way. -/
def RpI (s : ByteArray) (k : Nat) (f : W32) (W : ByteArray) : Prop := ∃ d, splb 44 [] (s.data.toList.take k) = d ++ [W.data.toList] ∧ f = d.foldl pF 0#32 ∧ W.size ≤ k
theorem RpI.byte {s : ByteArray} {k : Nat} {f : W32} {W : ByteArray} (h : RpI s k f W) (hk : k < s.size) (hc : s[k] ≠ 44) : RpI s (k + 1) f (W ++ s.extract k (k + 1)) := by
  obtain ⟨d, h1, h2, h3⟩ := h
  have hkl : k < s.data.toList.length := by rw [sizeL]; exact hk
  have hx : (s.extract k (k + 1)).data.toList = [s[k]] := by
    rw [ByteArray.data_extract, Array.toList_extract, List.extract_eq_take_drop, show k + 1 - k = 1 by omega, List.drop_eq_getElem_cons hkl]
    rfl
  refine ⟨d, ?_, h2, ?_⟩
  · rw [List.take_succ_eq_append_getElem hkl, splb_snoc 44 _ _ [] d _ h1, if_neg (by exact hc), app_ba, hx]
    rfl
  · rw [← sizeL, app_ba, List.length_append, sizeL, hx]; simp; omega
theorem RpI.comma {s : ByteArray} {k : Nat} {f : W32} {W : ByteArray} (h : RpI s k f W) (hk : k < s.size) (hc : s[k] = 44) : RpI s (k + 1) (pF f W.data.toList) ⟨#[]⟩ := by
  obtain ⟨d, h1, h2, h3⟩ := h
  have hkl : k < s.data.toList.length := by rw [sizeL]; exact hk
  refine ⟨d ++ [W.data.toList], ?_, ?_, by show 0 ≤ _; omega⟩
  · rw [List.take_succ_eq_append_getElem hkl, splb_snoc 44 _ _ [] d _ h1, if_pos (by exact hc)]
    simp
  · rw [List.foldl_append, ← h2]; rfl
theorem RpI.done {s : ByteArray} {f : W32} {W : ByteArray} (h : RpI s s.size f W) : (splb 44 [] s.data.toList).foldl pF 0#32 = pF f W.data.toList := by
  obtain ⟨d, h1, h2, h3⟩ := h
  rw [List.take_of_length_le (by rw [sizeL]; exact Nat.le_refl _)] at h1
  rw [h1, List.foldl_append, ← h2]
  rfl

set_option maxRecDepth 100000 in
set_option maxHeartbeats 2000000 in
theorem RFParse_at (s : ByteArray) (hs : s.size ≤ 1000) (w : World) :
    Calls Tryd.prog 21 #[.string s] w fun e w' => PFl s.data.toList e ∧ Ext w w' := by
  go_enter Tryd.func21, Tryd.ntmps21
  go_wp2_with fail
  go_loopw [4, 5, 6] (fun t u i wr => ∃ (k : Nat) (f : W32) (W : ByteArray), k ≤ s.size + 1 ∧ i = .int .i64 k ∧ t = .int .u32 (f.toNat : Int) ∧ u = .string W ∧ Hid ((k ≤ s.size → RpI s k f W) ∧ (k = s.size + 1 → f = (splb 44 [] s.data.toList).foldl pF 0#32)) ∧ Ext w wr) (fun _ _ i _ => s.size + 1 - (intOf i).toNat)
  case atStart => exact ⟨0, 0#32, ⟨#[]⟩, by omega, rfl, rfl, rfl, Lib.hid ⟨fun _ => ⟨[], rfl, rfl, by decide⟩, fun h => by omega⟩, Ext.refl _⟩
  case round =>
    obtain ⟨k, f, W, hk, rfl, rfl, rfl, HR, hx⟩ := hrel
    have HX := Lib.hid hx
    clear hx
    by_cases hle : k ≤ s.size
    · have HI := Lib.hid (HR.out.1 hle)
      have hwz : W.size ≤ 1000 := by obtain ⟨d, _, _, h3⟩ := HI.out; omega
      by_cases hlt : k < s.size
      · by_cases hc : s[k] = 44
        · have hc1 : ((s[k].toNat : Int) == 44) = true := by rw [hc]; rfl
          have hc2 : ((s[k].toNat : Int) != 44) = false := by rw [hc]; rfl
          have HCM := Lib.hid (HI.out.comma hlt hc)
          have hlt2 : (k : Int) < (s.size : Int) := by omega
          obtain ⟨wo, rfl⟩ : ∃ wo : World, wo = wr := ⟨_, rfl⟩
          clear hc
          go_wp2_with fail
          go_loopw [4, 7] (fun t j wr2 => ∃ n : Nat, n ≤ 32 ∧ j = .int .i64 n ∧ t = .int .u32 ((inF f W.data.toList n).toNat : Int) ∧ Ext w wr2) (fun _ j _ => 32 - (intOf j).toNat)
          case atStart => exact ⟨0, by omega, rfl, rfl, HX.out⟩
          case round =>
            obtain ⟨n, hn, rfl, rfl, hx3⟩ := hrel
            have HX3 := Lib.hid hx3
            clear hx3
            by_cases hn32 : n < 32
            · have hst := inF_succ f W.data.toList n
              by_cases hwe : W.data.toList = []
              · have q1 : W.toList = [] := by rw [ByteArray.toList_eq]; exact hwe
                have q2 : W.toList.isEmpty = true := by rw [q1]; rfl
                rw [if_neg (fun h => h.1 hwe)] at hst
                have HST := Lib.hid hst
                clear hst hwe
                go_wp2_with fail
                go_roundw
                case rel => exact ⟨n + 1, by omega, by go_num, by rw [HST.out], HX3.out⟩
                case measure => simp [intOf]; omega
              · have q1 : W.toList ≠ [] := by rw [ByteArray.toList_eq]; exact hwe
                have q2 : W.toList.isEmpty = false := by cases hh : W.toList with | nil => exact absurd hh q1 | cons a b => rfl
                have HN := Lib.hid (RName_at n hn32 wr)
                by_cases he : (nmS n).data.toList = W.data.toList
                · have q3 : ((nmS n).toList == W.toList) = true := by rw [ByteArray.toList_eq, ByteArray.toList_eq, he]; exact beq_self_eq_true _
                  rw [if_pos ⟨hwe, he⟩] at hst
                  have HST := Lib.hid hst
                  have hp := pow_bit n hn32
                  obtain ⟨g, hg⟩ : ∃ g, inF f W.data.toList n = g := ⟨_, rfl⟩
                  rw [hg] at HST ⊢
                  have hor := u32_or g (bitW n)
                  rw [← hp] at hor
                  clear hst hwe he hp hg
                  go_wp2_with fail
                  refine HN.out.mono ?_
                  rintro _ w5 ⟨rfl, hx5⟩
                  have HX5 := Lib.hid (HX3.out.trans hx5)
                  clear hx5
                  go_wp2_with fail
                  go_roundw
                  case rel => exact ⟨n + 1, by omega, by go_num, by rw [HST.out], HX5.out⟩
                  case measure => simp [intOf]; omega
                · have q3 : ((nmS n).toList == W.toList) = false := by rw [ByteArray.toList_eq, ByteArray.toList_eq, beq_eq_false_iff_ne]; exact he
                  rw [if_neg (fun h => he h.2)] at hst
                  have HST := Lib.hid hst
                  clear hst hwe he
                  go_wp2_with fail
                  refine HN.out.mono ?_
                  rintro _ w5 ⟨rfl, hx5⟩
                  have HX5 := Lib.hid (HX3.out.trans hx5)
                  clear hx5
                  go_wp2_with fail
                  go_roundw
                  case rel => exact ⟨n + 1, by omega, by go_num, by rw [HST.out], HX5.out⟩
                  case measure => simp [intOf]; omega
            · obtain rfl : n = 32 := by omega
              have HST := Lib.hid (inF_all f W.data.toList)
              go_wp2_with fail
              go_roundw
              case rel => exact ⟨k + 1, _, ⟨#[]⟩, by omega, by go_num, rfl, rfl, Lib.hid ⟨fun _ => by rw [HST.out]; exact HCM.out, fun h => by omega⟩, HX3.out⟩
              case measure => simp [intOf]; omega
        · have hcn : ((s[k].toNat : Int) == 44) = false := by
            rw [beq_eq_false_iff_ne]
            intro h
            exact hc (UInt8.toNat.inj (by have h2 : (44 : UInt8).toNat = 44 := rfl; rw [h2]; omega))
          have hcn2 : ((s[k].toNat : Int) != 44) = true := by rw [bne, hcn]; rfl
          have HBY := Lib.hid (HI.out.byte hlt hc)
          have hz1 : (s.extract k (k + 1)).size ≤ 1 := by rw [ByteArray.size_extract]; omega
          have hsl : ∀ W', (Instr.slice 9 (.string s) (some (.int .i64 (k : Int))) (some (.int .i64 ((k : Int) + 1))) none).run Tryd.prog W' = .ok (.string (s.extract k (k + 1))) W' := fun W' => by
            rw [run_slice_string_if W' _ _ _ _ _ _ Tryd.underlying9, if_pos (by omega), if_pos (by omega), show ((k : Int)).toNat = k by omega, show ((k : Int) + 1).toNat = k + 1 by omega]
          have hz2 : (k : Int) + 1 ≤ (s.size : Int) := by omega
          have hz3 : (0 : Int) ≤ (k : Int) := by omega
          clear hc
          go_wp2_with fail
          go_roundw
          case rel => exact ⟨k + 1, f, W ++ s.extract k (k + 1), by omega, by go_num, rfl, rfl, Lib.hid ⟨fun _ => HBY.out, fun h => by omega⟩, HX.out⟩
          case measure => simp [intOf]; omega
      · obtain rfl : k = s.size := by omega
        have HCM := Lib.hid HI.out.done
        obtain ⟨wo, rfl⟩ : ∃ wo : World, wo = wr := ⟨_, rfl⟩
        go_wp2_with fail
        go_loopw [4, 7] (fun t j wr2 => ∃ n : Nat, n ≤ 32 ∧ j = .int .i64 n ∧ t = .int .u32 ((inF f W.data.toList n).toNat : Int) ∧ Ext w wr2) (fun _ j _ => 32 - (intOf j).toNat)
        case atStart => exact ⟨0, by omega, rfl, rfl, HX.out⟩
        case round =>
          obtain ⟨n, hn, rfl, rfl, hx3⟩ := hrel
          have HX3 := Lib.hid hx3
          clear hx3
          by_cases hn32 : n < 32
          · have hst := inF_succ f W.data.toList n
            by_cases hwe : W.data.toList = []
            · have q1 : W.toList = [] := by rw [ByteArray.toList_eq]; exact hwe
              have q2 : W.toList.isEmpty = true := by rw [q1]; rfl
              rw [if_neg (fun h => h.1 hwe)] at hst
              have HST := Lib.hid hst
              clear hst hwe
              go_wp2_with fail
              go_roundw
              case rel => exact ⟨n + 1, by omega, by go_num, by rw [HST.out], HX3.out⟩
              case measure => simp [intOf]; omega
            · have q1 : W.toList ≠ [] := by rw [ByteArray.toList_eq]; exact hwe
              have q2 : W.toList.isEmpty = false := by cases hh : W.toList with | nil => exact absurd hh q1 | cons a b => rfl
              have HN := Lib.hid (RName_at n hn32 wr)
              by_cases he : (nmS n).data.toList = W.data.toList
              · have q3 : ((nmS n).toList == W.toList) = true := by rw [ByteArray.toList_eq, ByteArray.toList_eq, he]; exact beq_self_eq_true _
                rw [if_pos ⟨hwe, he⟩] at hst
                have HST := Lib.hid hst
                have hp := pow_bit n hn32
                obtain ⟨g, hg⟩ : ∃ g, inF f W.data.toList n = g := ⟨_, rfl⟩
                rw [hg] at HST ⊢
                have hor := u32_or g (bitW n)
                rw [← hp] at hor
                clear hst hwe he hp hg
                go_wp2_with fail
                refine HN.out.mono ?_
                rintro _ w5 ⟨rfl, hx5⟩
                have HX5 := Lib.hid (HX3.out.trans hx5)
                clear hx5
                go_wp2_with fail
                go_roundw
                case rel => exact ⟨n + 1, by omega, by go_num, by rw [HST.out], HX5.out⟩
                case measure => simp [intOf]; omega
              · have q3 : ((nmS n).toList == W.toList) = false := by rw [ByteArray.toList_eq, ByteArray.toList_eq, beq_eq_false_iff_ne]; exact he
                rw [if_neg (fun h => he h.2)] at hst
                have HST := Lib.hid hst
                clear hst hwe he
                go_wp2_with fail
                refine HN.out.mono ?_
                rintro _ w5 ⟨rfl, hx5⟩
                have HX5 := Lib.hid (HX3.out.trans hx5)
                clear hx5
                go_wp2_with fail
                go_roundw
                case rel => exact ⟨n + 1, by omega, by go_num, by rw [HST.out], HX5.out⟩
                case measure => simp [intOf]; omega
          · obtain rfl : n = 32 := by omega
            have HST := Lib.hid (inF_all f W.data.toList)
            go_wp2_with fail
            go_roundw
            case rel => exact ⟨s.size + 1, _, ⟨#[]⟩, by omega, by go_num, rfl, rfl, Lib.hid ⟨fun h => by omega, fun _ => by rw [HST.out]; exact HCM.out.symm⟩, HX3.out⟩
            case measure => simp [intOf]
    · obtain rfl : k = s.size + 1 := by omega
      have HF := Lib.hid (HR.out.2 rfl)
      have hnm : nmB f = true := by rw [HF.out]; exact pF_all _ _ nm_zero
      have hTx := fun W' => RText_at f hnm W'
      have HNM := Lib.hid hnm
      have HNO := Lib.hid (show textF f ≠ s.data.toList → ∀ g : W32, nmB g = true → textF g ≠ s.data.toList from fun hne g hg he => by
        have := fold_text hg
        rw [he, ← HF.out] at this
        subst this
        exact hne he)
      obtain ⟨T, hT⟩ : ∃ T, textF f = T := ⟨_, rfl⟩
      rw [hT] at HNO
      simp only [hT] at hTx
      have HTX := Lib.hid hTx; have HTT := Lib.hid hT
      clear hnm hTx hT hle
      by_cases he : T = s.data.toList
      · have q3 : (T == s.toList) = true := by rw [ByteArray.toList_eq, he]; exact beq_self_eq_true _
        have HE := Lib.hid he
        clear he
        go_wp2_with fail
        refine (HTX.out _).mono ?_
        rintro _ w5 ⟨rfl, hx5⟩
        have HX5 := Lib.hid (HX.out.trans hx5)
        clear hx5
        go_wp2_with fail
        go_ret2
        exact ⟨.inl ⟨f, HNM.out, HTT.out.trans HE.out, rfl⟩, HX5.out⟩
      · have q3 : (T == s.toList) = false := by rw [ByteArray.toList_eq, beq_eq_false_iff_ne]; exact he
        have HE := Lib.hid he
        clear he
        go_wp2_with fail
        refine (HTX.out _).mono ?_
        rintro _ w5 ⟨rfl, hx5⟩
        have HX5 := Lib.hid (HX.out.trans hx5)
        clear hx5
        go_wp2_with fail
        go_ret2
        exact ⟨.inr ⟨HNO.out HE.out, rfl⟩, HX5.out⟩
end Go.Proofs.YtigjecmhhjjenaaDoor
