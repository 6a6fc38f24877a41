/- Times: what is written is read again, and back. Plain laws. -/
import Derived.Test.YtfgmmjpejlpdoaaGreatDoorLtD4
import Derived.Test.YtfgmmjpejlpdoaaGreatDoorLtE1
namespace Go.Proofs.YtfgmmjpejlpdoaaGreatDoor
set_option linter.unusedVariables false

def lastE (r : Int) : List UInt8 := if r = 0 then [] else encTag 3 (encTime r)
theorem encTimes_eq (a s e r : Int) : encTimes a s e r = elem 48 (encTag 0 (encTime a) ++ (encTag 1 (encTime s) ++ (encTag 2 (encTime e) ++ lastE r))) := by
  unfold encTimes encSeq lastE encTag
  simp only [List.flatten_cons, List.flatten_nil, List.append_nil]
  rfl
theorem readTime_nil : (readTimeF []).2.1 ≠ 0 := by unfold readTimeF; rw [readF_nil]; simp
theorem fieldT_inv (n : Nat) (hn : n ≤ 30) (m : List UInt8) (v : Int) (used : Nat) (h : fieldF 0 readTimeF n m = (v, 0, used)) : used ≤ m.length ∧ m.take used = encTag n (encTime v) :=
  let i := field_inv 0 readTimeF encTime (fun m v u h => let j := readTime_inv m v u h; ⟨j.1, j.2.1⟩) readTime_nil n hn m v used h
  ⟨i.1, i.2.1⟩
theorem lastF_inv (m : List UInt8) (r : Int) (u : Nat) (h : lastF m = (r, 0, u)) : u ≤ m.length ∧ m.take u = lastE r := by
  unfold lastF at h
  by_cases h0 : taggedF 3 m = (none, false, 0, 0)
  · rw [if_pos h0] at h
    simp only [Prod.mk.injEq, true_and] at h
    obtain ⟨rfl, rfl⟩ := h
    exact ⟨Nat.zero_le _, by unfold lastE; simp⟩
  · rw [if_neg h0] at h
    by_cases h1 : (fieldF 0 readTimeF 3 m).2.1 ≠ 0
    · rw [if_pos h1] at h; simp only [Prod.mk.injEq] at h; exact absurd h.2.1 h1
    rw [if_neg h1] at h
    by_cases h2 : (fieldF 0 readTimeF 3 m).1 = 0
    · rw [if_pos h2] at h; simp at h
    rw [if_neg h2, ] at h
    rw [h] at h2
    have i := fieldT_inv 3 (by omega) m r u h
    refine ⟨i.1, ?_⟩
    unfold lastE
    rw [if_neg h2]
    exact i.2
theorem timesIn_inv (x : List UInt8) (a s e r : Int) (h : timesIn x = ((a, s, e, r), 0)) : validB a s e r = true ∧ x = encTag 0 (encTime a) ++ (encTag 1 (encTime s) ++ (encTag 2 (encTime e) ++ lastE r)) := by
  unfold timesIn at h
  simp only at h
  by_cases h1 : (fieldF 0 readTimeF 0 x).2.1 ≠ 0
  · rw [if_pos h1] at h; simp only [Prod.mk.injEq] at h; exact absurd h.2 h1
  rw [if_neg h1] at h
  have e1 := triple_eta _ h1
  generalize (fieldF 0 readTimeF 0 x).1 = a' at *
  generalize (fieldF 0 readTimeF 0 x).2.2 = u1 at *
  by_cases h2 : (fieldF 0 readTimeF 1 (x.drop u1)).2.1 ≠ 0
  · rw [if_pos h2] at h; simp only [Prod.mk.injEq] at h; exact absurd h.2 h2
  rw [if_neg h2] at h
  have e2 := triple_eta _ h2
  generalize (fieldF 0 readTimeF 1 (x.drop u1)).1 = s' at *
  generalize (fieldF 0 readTimeF 1 (x.drop u1)).2.2 = u2 at *
  by_cases h3 : (fieldF 0 readTimeF 2 (x.drop (u1 + u2))).2.1 ≠ 0
  · rw [if_pos h3] at h; simp only [Prod.mk.injEq] at h; exact absurd h.2 h3
  rw [if_neg h3] at h
  have e3 := triple_eta _ h3
  generalize (fieldF 0 readTimeF 2 (x.drop (u1 + u2))).1 = b' at *
  generalize (fieldF 0 readTimeF 2 (x.drop (u1 + u2))).2.2 = u3 at *
  by_cases h4 : (lastF (x.drop (u1 + u2 + u3))).2.1 ≠ 0
  · rw [if_pos h4] at h; simp only [Prod.mk.injEq] at h; exact absurd h.2 h4
  rw [if_neg h4] at h
  have e4 := triple_eta _ h4
  generalize (lastF (x.drop (u1 + u2 + u3))).1 = r' at *
  generalize (lastF (x.drop (u1 + u2 + u3))).2.2 = u4 at *
  by_cases h5 : u1 + u2 + u3 + u4 < x.length ∨ validB a' s' b' r' = false
  · rw [if_pos h5] at h; simp at h
  rw [if_neg h5] at h
  simp only [Prod.mk.injEq, and_true] at h
  obtain ⟨rfl, rfl, rfl, rfl⟩ := h
  have i1 := fieldT_inv 0 (by omega) x a' u1 e1
  have i2 := fieldT_inv 1 (by omega) (x.drop u1) s' u2 e2
  have i3 := fieldT_inv 2 (by omega) (x.drop (u1 + u2)) b' u3 e3
  have i4 := lastF_inv (x.drop (u1 + u2 + u3)) r' u4 e4
  refine ⟨by cases hb : validB a' s' b' r' with | true => rfl | false => exact absurd (.inr hb) h5, ?_⟩
  have hx : x = x.take (u1 + (u2 + (u3 + u4))) := (List.take_of_length_le (by omega)).symm
  rw [hx, take_add, take_add, take_add, i1.2, i2.2, List.drop_drop, i3.2, List.drop_drop]
  rw [show u1 + u2 + u3 = u1 + u2 + u3 from rfl, i4.2]
theorem timesDec_inv (b : List UInt8) (a s e r : Int) (h : timesDec b = ((a, s, e, r), 0)) : validB a s e r = true ∧ encTimes a s e r = b := by
  unfold timesDec at h
  by_cases h1 : (timesRd b).2.1 ≠ 0
  · rw [if_pos h1] at h; simp only [Prod.mk.injEq] at h; exact absurd h.2 h1
  rw [if_neg h1] at h
  by_cases h2 : (timesRd b).2.2 < b.length
  · rw [if_pos h2] at h; simp at h
  rw [if_neg h2] at h
  have e1 := triple_eta _ h1
  simp only [Prod.mk.injEq, and_true] at h
  generalize (timesRd b).2.2 = u at *
  rw [h] at e1
  unfold timesRd at e1
  by_cases h3 : (readInF 48 b).2.1 ≠ 0
  · rw [if_pos h3] at e1; simp only [Prod.mk.injEq] at e1; exact absurd e1.2.1 h3
  rw [if_neg h3] at e1
  by_cases h4 : (timesIn ((readInF 48 b).1.getD [])).2 ≠ 0
  · rw [if_pos h4] at e1; simp only [Prod.mk.injEq] at e1; exact absurd e1.2.1 h4
  rw [if_neg h4] at e1
  simp only [Prod.mk.injEq, true_and] at e1
  rcases readIn_cases 48 b with ⟨x, hx, hl⟩ | ⟨er, he, hx⟩
  · rw [hx] at e1 h4
    simp only [Option.getD_some] at e1 h4
    obtain ⟨hT, hu⟩ := e1
    have ht : timesIn x = ((a, s, e, r), 0) := by
      rw [← hT]
      exact Prod.ext rfl (by simpa using h4)
    obtain ⟨hv, hxe⟩ := timesIn_inv x a s e r ht
    have j := readIn_inv _ _ _ _ hx
    refine ⟨hv, ?_⟩
    rw [encTimes_eq, ← hxe, ← j.2.2]
    exact List.take_of_length_le (by omega)
  · rw [hx] at h3; exact absurd he (by simpa using h3)
theorem time_ok_of {t : Int} (h0 : 0 ≤ t) (h1 : t ≤ 1099511627776) : timeOk t = true := by unfold timeOk; simp; omega
theorem encTime_ne {t : Int} (h : timeOk t = true) : encTime t ≠ [] ∧ (encTime t).length < 16777216 := by
  have hl : (beBytes t 6).length = 6 := beBytes_length _ _
  unfold encTime
  rw [if_pos h]
  constructor
  · unfold elem
    rw [if_pos (by omega)]
    simp
  · have := elem_le 24 (beBytes t 6)
    omega
theorem fieldT_enc (n : Nat) (hn : n ≤ 30) (t : Int) (h : timeOk t = true) (rest : List UInt8) : fieldF 0 readTimeF n (encTag n (encTime t) ++ rest) = (t, 0, (encTag n (encTime t)).length) :=
  field_enc 0 readTimeF n (encTime t) rest t hn (encTime_ne h).1 (encTime_ne h).2 (by have := readTime_enc t h []; rwa [List.append_nil] at this)
theorem lastF_enc (r : Int) (h : timeOk r = true) : lastF (lastE r) = (r, 0, (lastE r).length) := by
  unfold lastE lastF
  by_cases hr : r = 0
  · rw [if_pos hr, if_pos (by unfold taggedF; simp)]
    subst hr; rfl
  · rw [if_neg hr]
    have hf := fieldT_enc 3 (by omega) r h []
    rw [List.append_nil] at hf
    have ht := tagged_enc 3 (encTime r) [] (by omega) (encTime_ne h).1 (encTime_ne h).2
    rw [List.append_nil] at ht
    rw [if_neg (by rw [ht]; simp), hf, if_neg (by simp), if_neg hr]
theorem timesDec_enc (a s e r : Int) (hv : validB a s e r = true) : timesDec (encTimes a s e r) = ((a, s, e, r), 0) := by
  obtain ⟨v1, v2, v3, v4, v5, v6, _⟩ := validB_bd hv
  have ta := time_ok_of (t := a) (by omega) (by omega)
  have ts := time_ok_of (t := s) (by omega) (by omega)
  have te := time_ok_of (t := e) (by omega) (by omega)
  have tr := time_ok_of (t := r) (by omega) (by omega)
  obtain ⟨x, hx⟩ : ∃ x, encTag 0 (encTime a) ++ (encTag 1 (encTime s) ++ (encTag 2 (encTime e) ++ lastE r)) = x := ⟨_, rfl⟩
  have h0 := fieldT_enc 0 (by omega) a ta (encTag 1 (encTime s) ++ (encTag 2 (encTime e) ++ lastE r))
  have h1 := fieldT_enc 1 (by omega) s ts (encTag 2 (encTime e) ++ lastE r)
  have h2 := fieldT_enc 2 (by omega) e te (lastE r)
  have h3 := lastF_enc r tr
  have hxl : x.length = (encTag 0 (encTime a)).length + (encTag 1 (encTime s)).length + (encTag 2 (encTime e)).length + (lastE r).length := by rw [← hx]; simp; omega
  have d1 : x.drop (encTag 0 (encTime a)).length = encTag 1 (encTime s) ++ (encTag 2 (encTime e) ++ lastE r) := by rw [← hx, List.drop_left]
  have d2 : x.drop ((encTag 0 (encTime a)).length + (encTag 1 (encTime s)).length) = encTag 2 (encTime e) ++ lastE r := by rw [← List.drop_drop, d1, List.drop_left]
  have d3 : x.drop ((encTag 0 (encTime a)).length + (encTag 1 (encTime s)).length + (encTag 2 (encTime e)).length) = lastE r := by rw [← List.drop_drop, d2, List.drop_left]
  have lw : ∀ (n : Nat) (t : Int), (encTag n (encTime t)).length ≤ 1000 := fun n t => by
    have h1 : (encTime t).length ≤ 100 := by
      unfold encTime
      split
      · have := elem_le 24 (beBytes t 6); rw [beBytes_length] at this; omega
      · simp
    unfold encTag encWrap
    split
    · have := elem_le (UInt8.ofNat (160 + (n : Int)).toNat) (encTime t); omega
    · simp
  have ll : (lastE r).length ≤ 1000 := by unfold lastE; split; · simp
                                          · exact lw _ _
  have l0 := lw 0 a; have l1 := lw 1 s; have l2 := lw 2 e
  have hrd : timesRd (elem 48 x) = ((a, s, e, r), 0, (elem 48 x).length) := by
    have hin : readInF 48 (elem 48 x) = (some x, 0, (elem 48 x).length) := by
      have := readIn_enc 48 x [] (by omega)
      rwa [List.append_nil] at this
    unfold timesRd timesIn
    rw [hin]
    simp only [Option.getD_some, ne_eq, not_true_eq_false, if_false]
    rw [hx] at h0
    simp only [h0, d1, h1, d2, h2, d3, h3, ne_eq, not_true_eq_false, if_false]
    have hn : ¬ ((encTag 0 (encTime a)).length + (encTag 1 (encTime s)).length + (encTag 2 (encTime e)).length + (lastE r).length < x.length ∨ validB a s e r = false) := by rw [hv, hxl]; simp
    simp only [if_neg hn]
    simp
  rw [encTimes_eq, hx]
  unfold timesDec
  rw [hrd]
  simp
end Go.Proofs.YtfgmmjpejlpdoaaGreatDoor
