/- What DerInverts writes is read again. No program. -/
import Derived.Test.YtmbmhepmeajnoaaPure12
namespace Go.Proofs.Ytmbmhepmeajnoaa

theorem tripleRd_ok (m x : List UInt8) (us : Nat) (h : readInF 48 m = (some x, 0, us)) (p0 : Int) (u0 : Nat) (h0 : fieldF 0 readIntF 0 x = (p0, 0, u0)) (p1 : Int) (u1 : Nat) (h1 : fieldF 0 readIntF 1 (x.drop u0) = (p1, 0, u1))
    (b : List UInt8) (u2 : Nat) (h2 : fieldF [] readOctetsF 2 (x.drop (u0 + u1)) = (b, 0, u2)) (d : ¬ u0 + u1 + u2 < x.length) : tripleRd m = ((p0, p1, b), 0, us) := by
  have hu : tripleRd m = if (tripleIn x).2 ≠ 0 then ((0, 0, []), (tripleIn x).2, 0) else ((tripleIn x).1, 0, us) := by
    unfold tripleRd
    rw [h]
    simp
  rw [hu]
  unfold tripleIn
  simp only [h0, h1, h2]
  simp only [d, ne_eq, not_true_eq_false, if_false]
theorem triple_enc (p v : Int) (b rest : List UInt8) (hp : inRange p = true) (hv : inRange v = true) (hb : b.length ≤ 1000) : tripleRd (threeF p v b ++ rest) = ((p, v, b), 0, (threeF p v b).length) := by
  have np : encInt p ≠ [] := by unfold encInt; rw [if_pos hp]; exact elem_ne _ _ (by rw [beBytes_length]; have := intSize_le p; omega)
  have nv : encInt v ≠ [] := by unfold encInt; rw [if_pos hv]; exact elem_ne _ _ (by rw [beBytes_length]; have := intSize_le v; omega)
  have no : encOctets b ≠ [] := elem_ne 4 b (by omega)
  have lp := encInt_lt p; have lv := encInt_lt v
  have lo : (encOctets b).length ≤ 1005 := by have := elem_le 4 b; unfold encOctets; omega
  have t0 := encTag_le 0 (encInt p); have t1 := encTag_le 1 (encInt v); have t2 := encTag_le 2 (encOctets b)
  have e : threeF p v b = elem 48 (encTag 0 (encInt p) ++ (encTag 1 (encInt v) ++ encTag 2 (encOctets b))) := by
    unfold threeF
    rw [if_neg (by intro h; rcases h with h | h <;> contradiction)]
    unfold encSeq
    simp
  rw [e]
  have hlen : (encTag 0 (encInt p) ++ (encTag 1 (encInt v) ++ encTag 2 (encOctets b))).length < 16777216 := by
    simp only [List.length_append]; omega
  have hin := readIn_enc 48 (encTag 0 (encInt p) ++ (encTag 1 (encInt v) ++ encTag 2 (encOctets b))) rest hlen
  have f0 := field_enc (0 : Int) readIntF 0 (encInt p) (encTag 1 (encInt v) ++ encTag 2 (encOctets b)) p (by omega) np (by omega) (by have := readInt_enc p hp []; rwa [List.append_nil] at this)
  have f1 := field_enc (0 : Int) readIntF 1 (encInt v) (encTag 2 (encOctets b)) v (by omega) nv (by omega) (by have := readInt_enc v hv []; rwa [List.append_nil] at this)
  have f2 := field_enc ([] : List UInt8) readOctetsF 2 (encOctets b) [] b (by omega) no (by omega) (by have := readOctets_enc b [] (by omega); rwa [List.append_nil] at this)
  rw [List.append_nil] at f2
  have d1 : (encTag 0 (encInt p) ++ (encTag 1 (encInt v) ++ encTag 2 (encOctets b))).drop (encTag 0 (encInt p)).length = encTag 1 (encInt v) ++ encTag 2 (encOctets b) := List.drop_left
  have d2 : (encTag 0 (encInt p) ++ (encTag 1 (encInt v) ++ encTag 2 (encOctets b))).drop ((encTag 0 (encInt p)).length + (encTag 1 (encInt v)).length) = encTag 2 (encOctets b) := by
    rw [← List.drop_drop, d1, List.drop_left]
  exact tripleRd_ok _ _ _ hin _ _ f0 _ _ (by rw [d1]; exact f1) _ _ (by rw [d2]; exact f2) (by simp only [List.length_append]; omega)

def partsI (v t f : Int) (tb : Bool) (b : List UInt8) : List (List UInt8) := [encInt v, encTime t, encBits f, encBool tb, encOctets b, encString b, encTag 3 (tripleF v t b)]
theorem drop_pre {α : Type} (l m : List α) (k : Nat) (a : List α) (h : l.drop k = a ++ m) : l.drop (k + a.length) = m := by
  rw [← List.drop_drop, h, List.drop_left]
theorem inverts_facts (v t f : Int) (tb : Bool) (b rest : List UInt8) (hv : inRange v = true) (ht : timeOk t = true) (hf0 : 0 ≤ f) (hf1 : f ≤ 4294967295) (hb : b.length ≤ 200) (hr : rest.length ≤ 200) :
    ∃ (c K m1 m2 m3 m4 m5 m6 : List UInt8) (n0 n1 n2 n3 n4 n5 n6 n7 n8 : Nat),
      readInF 48 (encSeq (partsI v t f tb b) ++ rest) = (some c, 0, n0) ∧ (encSeq (partsI v t f tb b) ++ rest).length - (0 + n0) = rest.length ∧ (encSeq (partsI v t f tb b)).length ≤ 5000 ∧
      readIntF c = (v, 0, n1) ∧ c.drop (0 + n1) = m1 ∧ readTimeF m1 = (t, 0, n2) ∧ c.drop (0 + n1 + n2) = m2 ∧ readBitsF m2 = (f, 0, n3) ∧ c.drop (0 + n1 + n2 + n3) = m3 ∧ readBoolF m3 = (tb, 0, n4) ∧
      c.drop (0 + n1 + n2 + n3 + n4) = m4 ∧ readOctetsF m4 = (b, 0, n5) ∧ m4.length ≤ 5000 ∧ c.drop (0 + n1 + n2 + n3 + n4 + n5) = m5 ∧ readStringF m5 = (b, 0, n6) ∧ c.drop (0 + n1 + n2 + n3 + n4 + n5 + n6) = m6 ∧
      taggedF 3 m6 = (some K, true, 0, n7) ∧ ¬ (0 + n1 + n2 + n3 + n4 + n5 + n6 + n7 < c.length) ∧ tripleRd K = ((v, t, b), 0, n8) ∧ ¬ (0 + n8 < K.length) ∧ K.length ≤ 5000 := by
  have htr : inRange t = true := by
    unfold timeOk at ht; unfold inRange
    simp only [Bool.and_eq_true, decide_eq_true_eq] at ht ⊢
    omega
  have li := encInt_lt v
  have lt : (encTime t).length ≤ 11 := by unfold encTime; rw [if_pos ht]; have := elem_le 24 (beBytes t 6); rw [beBytes_length] at this; omega
  have lf : (encBits f).length ≤ 10 := by unfold encBits; have := elem_le 3 (0 :: beBytes f 4); simp only [List.length_cons, beBytes_length] at this; omega
  have lb : (encBool tb).length ≤ 6 := by unfold encBool; have := elem_le 1 [if tb = true then 255 else 0]; simp only [List.length_cons, List.length_nil] at this; omega
  have lo : (encOctets b).length ≤ 205 := by have := elem_le 4 b; unfold encOctets; omega
  have ls : (encString b).length ≤ 205 := by have := elem_le 27 b; unfold encString; omega
  have e3 := tripleF_eq v t b (by omega) (by have := encInt_lt t; omega) (by omega)
  have np : encInt v ≠ [] := by unfold encInt; rw [if_pos hv]; exact elem_ne _ _ (by rw [beBytes_length]; have := intSize_le v; omega)
  have nv : encInt t ≠ [] := by unfold encInt; rw [if_pos htr]; exact elem_ne _ _ (by rw [beBytes_length]; have := intSize_le t; omega)
  have lk : (threeF v t b).length ≤ 2300 := by
    unfold threeF
    rw [if_neg (by intro h; rcases h with h | h <;> contradiction)]
    unfold encSeq
    have h48 := elem_le 48 ([encTag 0 (encInt v), encTag 1 (encInt t), encTag 2 (encOctets b)].flatten)
    have hX : ([encTag 0 (encInt v), encTag 1 (encInt t), encTag 2 (encOctets b)].flatten).length = (encTag 0 (encInt v)).length + ((encTag 1 (encInt t)).length + ((encTag 2 (encOctets b)).length + 0)) := by simp only [List.flatten_cons, List.flatten_nil, List.length_append, List.length_nil]
    have := encTag_le 0 (encInt v); have := encTag_le 1 (encInt t); have := encTag_le 2 (encOctets b); have := encInt_lt t
    omega
  have nk : threeF v t b ≠ [] := by
    unfold threeF
    rw [if_neg (by intro h; rcases h with h | h <;> contradiction)]
    unfold encSeq
    apply elem_ne
    have := encTag_le 0 (encInt v); have := encTag_le 1 (encInt t); have := encTag_le 2 (encOctets b); have := encInt_lt t
    simp only [List.flatten_cons, List.flatten_nil, List.length_append, List.length_nil]
    omega
  have l7 := encTag_le 3 (threeF v t b)
  obtain ⟨c, hc⟩ : ∃ c, c = encInt v ++ (encTime t ++ (encBits f ++ (encBool tb ++ (encOctets b ++ (encString b ++ (encTag 3 (threeF v t b) ++ [])))))) := ⟨_, rfl⟩
  have hfl : (partsI v t f tb b).flatten = c := by rw [hc]; unfold partsI; rw [e3]; simp
  have hcl : c.length ≤ 4000 := by rw [hc]; simp only [List.length_append, List.length_nil]; omega
  have hseq : encSeq (partsI v t f tb b) = elem 48 c := by unfold encSeq; rw [hfl]
  have he48 := elem_le 48 c
  have c0 : c.drop 0 = encInt v ++ (encTime t ++ (encBits f ++ (encBool tb ++ (encOctets b ++ (encString b ++ (encTag 3 (threeF v t b) ++ [])))))) := by rw [List.drop_zero]; exact hc
  have c1 := drop_pre _ _ _ _ c0
  have c2 := drop_pre _ _ _ _ c1
  have c3 := drop_pre _ _ _ _ c2
  have c4 := drop_pre _ _ _ _ c3
  have c5 := drop_pre _ _ _ _ c4
  have c6 := drop_pre _ _ _ _ c5
  have hk3 := triple_enc v t b [] hv htr (by omega)
  rw [List.append_nil] at hk3
  refine ⟨c, threeF v t b, _, _, _, _, _, _, (elem 48 c).length, (encInt v).length, (encTime t).length, (encBits f).length, (encBool tb).length, (encOctets b).length, (encString b).length, (encTag 3 (threeF v t b)).length, (threeF v t b).length,
    ?_, ?_, ?_, ?_, c1, readTime_enc t ht _, c2, readBits_enc f hf0 (by omega) _, c3, readBool_enc tb _, c4, readOctets_enc b _ (by omega), ?_, c5, readString_enc b _ (by omega), c6, ?_, ?_, hk3, by omega, by omega⟩
  · rw [hseq]; exact readIn_enc 48 c rest (by omega)
  · rw [hseq, List.length_append]; omega
  · rw [hseq]; omega
  · rw [hc]; exact readInt_enc v hv _
  · simp only [List.length_append, List.length_nil]; omega
  · exact tagged_enc 3 (threeF v t b) [] (by omega) nk (by omega)
  · rw [hc]; simp only [List.length_append, List.length_nil]; omega
end Go.Proofs.Ytmbmhepmeajnoaa
