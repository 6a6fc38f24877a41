/- Names: the reference's Parents; slices.Clone of texts; the program's Copy. -/
import Derived.Test.YtgclchdccgkjaaaDoorNm22
namespace Go.Proofs.YtgclchdccgkjaaaDoor
open Go Go.RowKit
set_option linter.unusedVariables false

set_option maxRecDepth 100000 in
set_option maxHeartbeats 1000000 in
theorem RParents_at (s : ByteArray) (hs : s.size ≤ 1000) (w : World) :
    Calls Tryd.prog 28 #[.string s] w fun e w' => ∃ A c xs, e = .returned (.slice A xs.length c) ∧ RS w' (.slice A xs.length c) (sv xs) ∧ dat xs = par s.data.toList ∧ Ext w w' := by
  obtain ⟨i0, hi, hz0, hz1, hz2⟩ := info_parts sinfo'
  go_enter Tryd.func28, Tryd.ntmps28
  go_wp2_with fail
  go_loopw [3, 4] (fun v i wr => ∃ (k : Nat) (front : List ByteArray), k ≤ s.size ∧ i = .int .i64 k ∧ front.length ≤ k ∧ Hid (wr.ownsRow w.heap.size 9 1 v (sv front).length (sv front)) ∧ Hid (dat front ++ par (s.data.toList.drop k) = par s.data.toList) ∧ Hid (Ext w wr)) (fun _ i _ => s.size - (intOf i).toNat)
  case atStart => exact ⟨0, [], Nat.zero_le _, rfl, Nat.zero_le _, Lib.hid (World.ownsRow_nil _ _ _ _), Lib.hid rfl, Lib.hid (Ext.refl _)⟩
  case round =>
    obtain ⟨k, front, hk, rfl, hf, HO, HE, HX⟩ := hrel
    by_cases hlt : k < s.size
    · have hd := drop_byte s k hlt
      by_cases h46 : s[k].toNat = 46
      · have e0 : ((s[k].toNat : Int) == 46) = true := by rw [beq_iff_eq]; omega
        have HE2 := Lib.hid (show dat (front ++ [s.extract (k + 1) s.size]) ++ par (s.data.toList.drop (k + 1)) = par s.data.toList by
          rw [← HE.out, hd, par, if_pos h46]; unfold dat; rw [List.map_append, List.append_assoc, List.map_singleton, extract_drop s (k + 1)]; rfl)
        have HB := Lib.hid (show ((sv front).length + 1) * 16 ≤ 140737488355328 by rw [sv_length]; omega)
        have HM := Lib.hid HX.out.size
        clear hd h46
        go_wp2_with (at_builtin; refine wpList_append_rs _ rfl (.tmp 15) (.tmp 20) 22 rfl w.heap.size 9 i0 (.string ⟨#[]⟩) 16 Tryd.underlying22 hi hz0 hz1 hz2 rfl _ (sv front) rfl (ownsRow_ext8 HO.out ((Ext.refl wr).alloc _)) _ [.string (s.extract (k + 1) s.size)] rfl (RS.one _ _ _) (by simp [Value.oneCell']) ?hb (by omega) ?hm ?_; rotate_right; intro v4 w4 hown4 hg4 _)
        case hb => exact HB.out
        case hm => have := HM.out; simp; omega
        have HO4 := Lib.hid (show w4.ownsRow w.heap.size 9 1 v4 (sv (front ++ [s.extract (k + 1) s.size])).length (sv (front ++ [s.extract (k + 1) s.size])) by
          have e : sv front ++ [Value.string (s.extract (k + 1) s.size)] = sv (front ++ [s.extract (k + 1) s.size]) := by simp [sv]
          rw [← e]; exact hown4)
        have HX4 := Lib.hid ((HX.out.alloc _).grown hg4 (fun j hj => (World.ownsRow.lt HO.out j hj).1))
        clear hown4 hg4
        go_roundw
        case rel => exact ⟨k + 1, front ++ [s.extract (k + 1) s.size], by omega, by go_num, by rw [List.length_append, List.length_singleton]; omega, HO4, HE2, HX4⟩
        case measure => simp [intOf]; omega
      · have e0 : ((s[k].toNat : Int) == 46) = false := by rw [beq_eq_false_iff_ne]; omega
        have HE2 := Lib.hid (show dat front ++ par (s.data.toList.drop (k + 1)) = par s.data.toList by
          rw [← HE.out, hd, par, if_neg h46])
        clear hd h46
        go_wp2_with fail
        go_roundw
        case rel => exact ⟨k + 1, front, by omega, by go_num, by omega, HO, HE2, HX⟩
        case measure => simp [intOf]; omega
    · have HF := Lib.hid (show dat front = par s.data.toList by
        have := HE.out
        rwa [drop_end s k hlt, par, List.append_nil] at this)
      obtain ⟨A, c, hsh⟩ := rs_shape8 (RS.of_own HO.out)
      have HR := Lib.hid (RS.of_own HO.out)
      subst hsh
      go_wp2_with fail
      go_ret
      exact ⟨A, c, front, rfl, HR.out, HF.out, HX.out⟩

theorem own_none (w : World) (e : TypeId) : (w.alloc (.cells #[] e)).ownsRow w.heap.size e 1 (.slice (some ⟨w.heap.size, 0, none⟩) 0 0) 0 [] :=
  ⟨rfl, .inr ⟨w.heap.size, 0, #[], rfl, Nat.le_refl _, heap_alloc_new w _, Nat.le_refl _, by simp [maxLen], rfl, rfl⟩⟩
theorem rs_none {w : World} {n c : Nat} {xs : List Value} (h : RS w (.slice none n c) xs) : xs = [] := by
  obtain ⟨A', c', he, _, _, hc⟩ := h
  injection he with e1 _ _
  subst e1
  rcases Nat.eq_zero_or_pos xs.length with h0 | h0
  · exact List.eq_nil_of_length_eq_zero h0
  · obtain ⟨ad, ha, _⟩ := hc h0; cases ha
set_option maxRecDepth 100000 in
set_option maxHeartbeats 1000000 in
theorem SClone_at (A : Option Addr) (c : Nat) (ps : List ByteArray) (hn : ps.length ≤ 1000) (w : World) (h : RS w (.slice A ps.length c) (sv ps)) :
    Calls Tryd.prog 53 #[.slice A ps.length c] w fun e w' => ∃ A c, e = .returned (.slice A ps.length c) ∧ w'.ownsRow w.heap.size 9 1 (.slice A ps.length c) (sv ps).length (sv ps) ∧ Ext w w' := by
  obtain ⟨i0, hi, hz0, hz1, hz2⟩ := info_parts sinfo'
  rcases A with _ | ad
  · have h0 : ps = [] := by
      have := rs_none h
      unfold sv at this
      exact List.map_eq_nil_iff.1 this
    subst h0
    have qT : ∀ (w : World), (binOp .eql 22 (.slice none 0 c) (.slice none 0 0)).run Tryd.prog w = .ok (.bool true) w := fun w => Lib.run_eql_slice_nil w _ _ none 0 c 0 0 Tryd.underlying22
    go_enter Tryd.func53, Tryd.ntmps53
    go_wp2
    go_ret
    exact ⟨none, 0, rfl, World.ownsRow_nil _ _ _ _, Ext.refl _⟩
  · have qT : ∀ (w : World), (binOp .eql 22 (.slice (some ad) ps.length c) (.slice none 0 0)).run Tryd.prog w = .ok (.bool false) w := fun w => Lib.run_eql_slice_nil w _ _ (some ad) ps.length c 0 0 Tryd.underlying22
    have HO := Lib.hid (own_none w 9)
    have HL := Lib.hid hn; clear hn
    have HS1 := Lib.hid (show ∀ u ∈ sv ps, u.oneCell' = true from fun u hu => by
      simp only [sv, List.mem_map] at hu
      obtain ⟨b, _, rfl⟩ := hu
      rfl)
    have HH := Lib.hid h; clear h
    go_enter Tryd.func53, Tryd.ntmps53
    go_wp2_with (at_builtin; refine wpList_append_rs _ rfl (.tmp 5) (.tmp 6) 22 rfl w.heap.size 9 i0 (.string ⟨#[]⟩) 16 Tryd.underlying22 hi hz0 hz1 hz2 rfl _ [] rfl HO.out _ (sv ps) rfl (HH.out.ext ((Ext.refl w).alloc _)) HS1.out ?hb (by omega) ?hm ?_; rotate_right; intro v3 w3 hown3 hg3 _)
    case hb => have := HL.out; rw [sv_length]; simp; omega
    case hm => simp
    go_ret
    rw [List.nil_append] at hown3
    obtain ⟨A3, c3, rfl⟩ := rs_shape8 (RS.of_own hown3)
    exact ⟨_, _, rfl, hown3, ((Ext.refl w).alloc _).grown hg3 (fun j hj => (World.ownsRow.lt HO.out j hj).1)⟩
end Go.Proofs.YtgclchdccgkjaaaDoor
