/- Texts laid together (wip/tools/automerge.py): Pure9, Pure10. -/
import Derived.Test.YthpfomjibfbiiaaGreatDoorMg36
namespace Go.Proofs.YthpfomjibfbiiaaGreatDoor

theorem ofNat_toNat (b : UInt8) : UInt8.ofNat b.toNat = b := by simp
/-- What 'measure' accepts is what 'element' writes. -/
theorem measure_inv (a s : UInt8) (t : List UInt8) (b e : Nat) (h : measureF (a :: s :: t) = (b, e, 0)) :
    b ≤ e ∧ e ≤ (a :: s :: t).length ∧ e - b < 16777216 ∧ (a :: s :: t).take b = a :: encLen (e - b) := by
  have hok := measureF_ok _ _ _ h
  refine ⟨hok.2.1, hok.2.2, ?_⟩
  unfold measureF at h
  rw [if_neg (by simp)] at h
  have hs : ((a :: s :: t)[1]?.getD 0) = s := rfl
  simp only [hs] at h
  by_cases h1 : s.toNat < 128
  · rw [if_pos h1] at h
    obtain ⟨rfl, rfl, _⟩ := finF_ok _ _ _ _ _ (by simp) h
    refine ⟨by omega, ?_⟩
    rw [show 2 + s.toNat - 2 = s.toNat by omega]
    unfold encLen
    rw [if_pos h1, ofNat_toNat]
    rfl
  · rw [if_neg h1] at h
    by_cases h2 : s.toNat - 128 < 1 ∨ 3 < s.toNat - 128
    · rw [if_pos h2] at h; simp at h
    · rw [if_neg h2] at h
      by_cases h3 : (a :: s :: t).length < 2 + (s.toNat - 128)
      · rw [if_pos h3] at h; simp at h
      · rw [if_neg h3] at h
        rcases (show s.toNat = 129 ∨ s.toNat = 130 ∨ s.toNat = 131 by omega) with hv | hv | hv
        · obtain rfl : s = 129 := UInt8.toNat_inj.1 hv
          rcases t with _ | ⟨x, t⟩
          · simp at h3
          have hb : beNat (((a :: 129 :: x :: t).take (2 + ((129 : UInt8).toNat - 128))).drop 2) = x.toNat := by
            show beNat [x] = _
            simp [beNat]
          rw [hb] at h
          by_cases h4 : x.toNat < leastF ((129 : UInt8).toNat - 128)
          · rw [if_pos h4] at h; simp at h
          · rw [if_neg h4] at h
            have h4' : 128 ≤ x.toNat := by
              have : leastF ((129 : UInt8).toNat - 128) = 128 := by decide
              omega
            obtain ⟨rfl, rfl, _⟩ := finF_ok _ _ _ _ _ (by omega) h
            have hx := x.toNat_lt
            have e1 : 2 + ((129 : UInt8).toNat - 128) = 3 := rfl
            rw [e1, show 3 + x.toNat - 3 = x.toNat by omega]
            refine ⟨by omega, ?_⟩
            unfold encLen
            rw [if_neg (by omega), if_pos (by omega), ofNat_toNat]
            rfl
        · obtain rfl : s = 130 := UInt8.toNat_inj.1 hv
          rcases t with _ | ⟨x, _ | ⟨y, t⟩⟩
          · simp at h3
          · simp at h3
          have hb : beNat (((a :: 130 :: x :: y :: t).take (2 + ((130 : UInt8).toNat - 128))).drop 2) = x.toNat * 256 + y.toNat := by
            show beNat [x, y] = _
            simp [beNat]
          rw [hb] at h
          by_cases h4 : x.toNat * 256 + y.toNat < leastF ((130 : UInt8).toNat - 128)
          · rw [if_pos h4] at h; simp at h
          · rw [if_neg h4] at h
            have h4' : 256 ≤ x.toNat * 256 + y.toNat := by
              have : leastF ((130 : UInt8).toNat - 128) = 256 := by decide
              omega
            obtain ⟨rfl, rfl, _⟩ := finF_ok _ _ _ _ _ (by omega) h
            have hx := x.toNat_lt
            have hy := y.toNat_lt
            have e1 : 2 + ((130 : UInt8).toNat - 128) = 4 := rfl
            rw [e1, show 4 + (x.toNat * 256 + y.toNat) - 4 = x.toNat * 256 + y.toNat by omega]
            refine ⟨by omega, ?_⟩
            unfold encLen
            rw [if_neg (by omega), if_neg (by omega), if_pos (by omega)]
            have ex : UInt8.ofNat ((x.toNat * 256 + y.toNat) / 256) = x := by
              rw [show (x.toNat * 256 + y.toNat) / 256 = x.toNat by omega, ofNat_toNat]
            have ey : UInt8.ofNat (x.toNat * 256 + y.toNat) = y := by
              apply UInt8.toNat_inj.1
              simp only [UInt8.toNat_ofNat']; omega
            rw [ex, ey]
            rfl
        · obtain rfl : s = 131 := UInt8.toNat_inj.1 hv
          rcases t with _ | ⟨x, _ | ⟨y, _ | ⟨z, t⟩⟩⟩
          · simp at h3
          · simp at h3
          · simp at h3
          have hb : beNat (((a :: 131 :: x :: y :: z :: t).take (2 + ((131 : UInt8).toNat - 128))).drop 2) = (x.toNat * 256 + y.toNat) * 256 + z.toNat := by
            show beNat [x, y, z] = _
            simp [beNat]
          rw [hb] at h
          by_cases h4 : (x.toNat * 256 + y.toNat) * 256 + z.toNat < leastF ((131 : UInt8).toNat - 128)
          · rw [if_pos h4] at h; simp at h
          · rw [if_neg h4] at h
            have h4' : 65536 ≤ (x.toNat * 256 + y.toNat) * 256 + z.toNat := by
              have : leastF ((131 : UInt8).toNat - 128) = 65536 := by decide
              omega
            obtain ⟨rfl, rfl, _⟩ := finF_ok _ _ _ _ _ (by omega) h
            have hx := x.toNat_lt
            have hy := y.toNat_lt
            have hz := z.toNat_lt
            have e1 : 2 + ((131 : UInt8).toNat - 128) = 5 := rfl
            rw [e1, show 5 + ((x.toNat * 256 + y.toNat) * 256 + z.toNat) - 5 = (x.toNat * 256 + y.toNat) * 256 + z.toNat by omega]
            refine ⟨by omega, ?_⟩
            unfold encLen
            rw [if_neg (by omega), if_neg (by omega), if_neg (by omega)]
            have ex : UInt8.ofNat (((x.toNat * 256 + y.toNat) * 256 + z.toNat) / 65536) = x := by
              rw [show ((x.toNat * 256 + y.toNat) * 256 + z.toNat) / 65536 = x.toNat by omega, ofNat_toNat]
            have ey : UInt8.ofNat (((x.toNat * 256 + y.toNat) * 256 + z.toNat) / 256) = y := by
              apply UInt8.toNat_inj.1
              simp only [UInt8.toNat_ofNat']; omega
            have ez : UInt8.ofNat ((x.toNat * 256 + y.toNat) * 256 + z.toNat) = z := by
              apply UInt8.toNat_inj.1
              simp only [UInt8.toNat_ofNat']; omega
            rw [ex, ey, ez]
            rfl
theorem takeF_inv (tag : UInt8) (m cont : List UInt8) (used : Nat) (h : takeF tag m = (cont, 0, used)) : cont.length < 16777216 ∧ used ≤ m.length ∧ m.take used = elem tag cont := by
  have hu := takeF_used _ _ _ _ _ h
  unfold takeF at h
  by_cases h0 : m = []
  · rw [if_pos h0] at h; simp at h
  rw [if_neg h0] at h
  by_cases h1 : m[0]?.getD 0 ≠ tag
  · rw [if_pos h1] at h; simp at h
  rw [if_neg h1] at h
  simp only at h
  by_cases h2 : (measureF m).2.2 ≠ 0
  · rw [if_pos h2] at h
    simp only [Prod.mk.injEq] at h
    exact absurd h.2.1 h2
  rw [if_neg h2] at h
  simp only [Prod.mk.injEq] at h
  obtain ⟨hc, _, rfl⟩ := h
  rcases m with _ | ⟨a, _ | ⟨s, t⟩⟩
  · exact absurd rfl h0
  · exact absurd (show (measureF [a]).2.2 ≠ 0 by unfold measureF; rw [if_pos (by simp)]; simp) h2
  have ha : a = tag := by
    have : ((a :: s :: t)[0]?.getD 0) = a := rfl
    rw [this] at h1
    exact Classical.byContradiction h1
  subst ha
  have hm : measureF (a :: s :: t) = ((measureF (a :: s :: t)).1, (measureF (a :: s :: t)).2.1, 0) := by
    have : (measureF (a :: s :: t)).2.2 = 0 := by simpa using h2
    rw [← this]
  obtain ⟨k1, k2, k3, k4⟩ := measure_inv a s t _ _ hm
  generalize hb : (measureF (a :: s :: t)).1 = b at *
  generalize he : (measureF (a :: s :: t)).2.1 = e at *
  have hl : cont.length = e - b := by
    rw [← hc]
    rw [List.length_drop, List.length_take]
    omega
  refine ⟨by omega, hu, ?_⟩
  rw [elem_shape _ _ (by omega), hl, ← List.cons_append, ← k4, ← hc]
  have e2 : (a :: s :: t).take b = ((a :: s :: t).take e).take b := by rw [List.take_take, Nat.min_eq_left k1]
  rw [e2, List.take_append_drop]
theorem readF_inv {α : Type} (tag : UInt8) (z : α) (ok : List UInt8 → Bool) (val : List UInt8 → α) (m : List UInt8) (v : α) (used : Nat) (h : readF tag z ok val m = (v, 0, used)) :
    ∃ cont, v = val cont ∧ ok cont = true ∧ cont.length < 16777216 ∧ used ≤ m.length ∧ m.take used = elem tag cont := by
  unfold readF at h
  by_cases h0 : (takeF tag m).2.1 ≠ 0
  · rw [if_pos h0] at h
    simp only [Prod.mk.injEq] at h
    exact absurd h.2.1 h0
  rw [if_neg h0] at h
  by_cases h1 : ok (takeF tag m).1 = true
  · rw [if_pos h1] at h
    simp only [Prod.mk.injEq] at h
    obtain ⟨rfl, _, rfl⟩ := h
    have ht : takeF tag m = ((takeF tag m).1, 0, (takeF tag m).2.2) := by
      have : (takeF tag m).2.1 = 0 := by simpa using h0
      rw [← this]
    obtain ⟨k1, k2, k3⟩ := takeF_inv _ _ _ _ ht
    exact ⟨_, rfl, h1, k1, k2, k3⟩
  · rw [if_neg h1] at h
    simp at h
theorem readInt_inv (m : List UInt8) (v : Int) (used : Nat) (h : readIntF m = (v, 0, used)) : used ≤ m.length ∧ m.take used = encInt v := by
  obtain ⟨cont, rfl, hok, _, hu, ht⟩ := readF_inv _ _ _ _ _ _ _ h
  unfold intOk at hok
  simp only [Bool.and_eq_true, beq_iff_eq] at hok
  exact ⟨hu, by rw [ht, hok.2]⟩
theorem readOctets_inv (m v : List UInt8) (used : Nat) (h : readOctetsF m = (v, 0, used)) : used ≤ m.length ∧ m.take used = encOctets v := by
  obtain ⟨cont, rfl, _, _, hu, ht⟩ := readF_inv _ _ _ _ _ _ _ h
  exact ⟨hu, ht⟩
theorem readString_inv (m v : List UInt8) (used : Nat) (h : readStringF m = (v, 0, used)) : used ≤ m.length ∧ m.take used = encString v := by
  obtain ⟨cont, rfl, _, _, hu, ht⟩ := readF_inv _ _ _ _ _ _ _ h
  exact ⟨hu, ht⟩
theorem readIn_inv (tag : UInt8) (m x : List UInt8) (used : Nat) (h : readInF tag m = (some x, 0, used)) : used ≤ m.length ∧ x.length < 16777216 ∧ m.take used = elem tag x := by
  obtain ⟨cont, hv, _, hl, hu, ht⟩ := readF_inv _ _ _ _ _ _ _ h
  injection hv with hv
  subst hv
  exact ⟨hu, hl, ht⟩
theorem byteAt_eq (v : Int) (j : Nat) (b : UInt8) (h : (v / 2 ^ (8 * j)) % 256 = (b.toNat : Int)) : byteAt v j = b := by
  apply UInt8.toNat_inj.1
  have := byteAt_toNat v j
  omega
theorem be4 (a b c d : UInt8) : beBytes (beNat [a, b, c, d] : Int) 4 = [a, b, c, d] := by
  have ha := a.toNat_lt; have hb := b.toNat_lt; have hc := c.toNat_lt; have hd := d.toNat_lt
  have hv : (beNat [a, b, c, d] : Int) = ((a.toNat * 256 + b.toNat) * 256 + c.toNat) * 256 + d.toNat := by simp [beNat]
  rw [hv]
  simp only [beBytes_succ]
  rw [byteAt_eq _ 3 a (by simp; omega), byteAt_eq _ 2 b (by simp; omega), byteAt_eq _ 1 c (by simp; omega), byteAt_eq _ 0 d (by simp; omega)]
  rfl
theorem be6 (a b c d e f : UInt8) : beBytes (beNat [a, b, c, d, e, f] : Int) 6 = [a, b, c, d, e, f] := by
  have ha := a.toNat_lt; have hb := b.toNat_lt; have hc := c.toNat_lt; have hd := d.toNat_lt; have he := e.toNat_lt; have hf := f.toNat_lt
  have hv : (beNat [a, b, c, d, e, f] : Int) = ((((a.toNat * 256 + b.toNat) * 256 + c.toNat) * 256 + d.toNat) * 256 + e.toNat) * 256 + f.toNat := by simp [beNat]
  rw [hv]
  simp only [beBytes_succ]
  rw [byteAt_eq _ 5 a (by simp; omega), byteAt_eq _ 4 b (by simp; omega), byteAt_eq _ 3 c (by simp; omega), byteAt_eq _ 2 d (by simp; omega), byteAt_eq _ 1 e (by simp; omega), byteAt_eq _ 0 f (by simp; omega)]
  rfl
theorem len4 (l : List UInt8) (h : l.length = 4) : ∃ a b c d, l = [a, b, c, d] := by
  match l, h with
  | [a, b, c, d], _ => exact ⟨a, b, c, d, rfl⟩
theorem len6 (l : List UInt8) (h : l.length = 6) : ∃ a b c d e f, l = [a, b, c, d, e, f] := by
  match l, h with
  | [a, b, c, d, e, f], _ => exact ⟨a, b, c, d, e, f, rfl⟩
theorem readTime_inv (m : List UInt8) (v : Int) (used : Nat) (h : readTimeF m = (v, 0, used)) : used ≤ m.length ∧ m.take used = encTime v ∧ timeOk v = true := by
  obtain ⟨cont, rfl, hok, _, hu, ht⟩ := readF_inv _ _ _ _ _ _ _ h
  unfold tmOk at hok
  simp only [Bool.and_eq_true, decide_eq_true_eq] at hok
  obtain ⟨a, b, c, d, e, f, rfl⟩ := len6 cont hok.1
  have hto : timeOk (tmVal [a, b, c, d, e, f]) = true := by
    unfold timeOk tmVal
    simp only [Bool.and_eq_true, decide_eq_true_eq]
    exact ⟨by omega, hok.2⟩
  refine ⟨hu, ?_, hto⟩
  rw [ht]
  unfold encTime
  rw [if_pos hto]
  unfold tmVal
  rw [be6]
theorem readBits_inv (m : List UInt8) (v : Int) (used : Nat) (h : readBitsF m = (v, 0, used)) : used ≤ m.length ∧ m.take used = encBits v := by
  obtain ⟨cont, rfl, hok, _, hu, ht⟩ := readF_inv _ _ _ _ _ _ _ h
  unfold bitsOk at hok
  simp only [Bool.and_eq_true, decide_eq_true_eq, beq_iff_eq] at hok
  match cont, hok with
  | x :: l, hok =>
    have h4 : l.length = 4 := by simpa using hok.1
    obtain ⟨a, b, c, d, rfl⟩ := len4 l h4
    obtain rfl : x = 0 := by simpa using hok.2
    refine ⟨hu, ?_⟩
    rw [ht]
    unfold encBits bitsVal
    rw [show ([0, a, b, c, d] : List UInt8).drop 1 = [a, b, c, d] from rfl, be4]

/- Forward. -/
theorem szF_fits (v : Int) : ∀ (f n : Nat), fits v (n + f) = true → fits v (szF f v n) = true
  | 0, n, h => by simpa [szF] using h
  | f + 1, n, h => by
    unfold szF
    split
    · assumption
    · exact szF_fits v f (n + 1) (by rw [show n + 1 + f = n + (f + 1) by omega]; exact h)
theorem intSize_fits (v : Int) (h : inRange v = true) : fits v (intSize v) = true := szF_fits v 7 1 (fits_8 v h)
theorem pow8 (j : Nat) : (2 : Int) ^ (8 * j) = 256 ^ j := by rw [Int.pow_mul]; rfl
theorem sInt_be (v : Int) (n : Nat) (hn : 1 ≤ n) (h : fits v n = true) : ∀ k, k < n → sInt ((beBytes v n).take (k + 1)) = v / 256 ^ (n - 1 - k)
  | 0, hk => by
    rw [sInt_one _ (by rw [beBytes_length]; omega), beBytes_get v n 0 hk]
    have hb := byteAt_toNat v (n - 1 - 0)
    rw [pow8] at hb
    rw [fits_iff] at h
    have hlt := (byteAt v (n - 1 - 0)).toNat_lt
    rw [Nat.sub_zero] at *
    generalize v / 256 ^ (n - 1) = q at *
    unfold s8
    split <;> omega
  | k + 1, hk => by
    have ih := sInt_be v n hn h k (by omega)
    rw [sInt_succ _ _ (by rw [beBytes_length]; omega), ih, beBytes_get v n (k + 1) hk, byteAt_toNat, pow8]
    have hd := div_step v (n - 1 - k) (by omega)
    rw [show n - 1 - k - 1 = n - 1 - (k + 1) by omega, show n - 1 - k + 1 - 1 = n - 1 - k by omega] at hd
    rw [← hd]
    omega
theorem sInt_all (v : Int) (n : Nat) (hn : 1 ≤ n) (h : fits v n = true) : sInt (beBytes v n) = v := by
  have h0 := sInt_be v n hn h (n - 1) (by omega)
  rw [show n - 1 + 1 = n by omega, List.take_of_length_le (by rw [beBytes_length]; omega), show n - 1 - (n - 1) = 0 by omega] at h0
  simpa using h0
theorem readInt_enc (v : Int) (h : inRange v = true) (rest : List UInt8) : readIntF (encInt v ++ rest) = (v, 0, (encInt v).length) := by
  have hs := sInt_all v (intSize v) (intSize_ge v) (intSize_fits v h)
  have he : encInt v = elem 2 (beBytes v (intSize v)) := by unfold encInt; rw [if_pos h]
  have h8 := intSize_le v
  have h1 := intSize_ge v
  rw [he]
  have := readF_elem 2 (0 : Int) intOk sInt (beBytes v (intSize v)) rest (by rw [beBytes_length]; omega) (by
    unfold intOk
    rw [hs, he, beBytes_length]
    simp [h1, h8])
  rw [hs] at this
  exact this
theorem beNat6 (t : Int) (h0 : 0 ≤ t) (h1 : t ≤ 1099511627776) : (beNat (beBytes t 6) : Int) = t := by
  have e : beBytes t 6 = [byteAt t 5, byteAt t 4, byteAt t 3, byteAt t 2, byteAt t 1, byteAt t 0] := rfl
  rw [e]
  have b5 := byteAt_toNat t 5; have b4 := byteAt_toNat t 4; have b3 := byteAt_toNat t 3; have b2 := byteAt_toNat t 2; have b1 := byteAt_toNat t 1; have b0 := byteAt_toNat t 0
  simp only [beNat, List.foldl_cons, List.foldl_nil]
  simp at b5 b4 b3 b2 b1 b0
  omega
theorem beNat4 (t : Int) (h0 : 0 ≤ t) (h1 : t < 4294967296) : (beNat (beBytes t 4) : Int) = t := by
  have e : beBytes t 4 = [byteAt t 3, byteAt t 2, byteAt t 1, byteAt t 0] := rfl
  rw [e]
  have b3 := byteAt_toNat t 3; have b2 := byteAt_toNat t 2; have b1 := byteAt_toNat t 1; have b0 := byteAt_toNat t 0
  simp only [beNat, List.foldl_cons, List.foldl_nil]
  simp at b3 b2 b1 b0
  omega
theorem readTime_enc (t : Int) (h : timeOk t = true) (rest : List UInt8) : readTimeF (encTime t ++ rest) = (t, 0, (encTime t).length) := by
  have h' := h
  unfold timeOk at h'
  simp only [Bool.and_eq_true, decide_eq_true_eq] at h'
  have hb := beNat6 t h'.1 h'.2
  have he : encTime t = elem 24 (beBytes t 6) := by unfold encTime; rw [if_pos h]
  rw [he]
  have := readF_elem 24 (0 : Int) tmOk tmVal (beBytes t 6) rest (by rw [beBytes_length]; omega) (by
    unfold tmOk
    rw [hb, beBytes_length]
    simp [h'.2])
  unfold tmVal at this
  rw [hb] at this
  exact this
theorem readBits_enc (f : Int) (h0 : 0 ≤ f) (h1 : f < 4294967296) (rest : List UInt8) : readBitsF (encBits f ++ rest) = (f, 0, (encBits f).length) := by
  have hb := beNat4 f h0 h1
  unfold encBits
  have := readF_elem 3 (0 : Int) bitsOk bitsVal (0 :: beBytes f 4) rest (by simp [beBytes_length]) (by
    unfold bitsOk
    simp [beBytes_length])
  unfold bitsVal at this
  rw [show (0 :: beBytes f 4 : List UInt8).drop 1 = beBytes f 4 from rfl, hb] at this
  exact this
theorem readBool_enc (b : Bool) (rest : List UInt8) : readBoolF (encBool b ++ rest) = (b, 0, (encBool b).length) := by
  unfold encBool
  have := readF_elem 1 false boolOk boolVal [if b then 255 else 0] rest (by simp) (by cases b <;> rfl)
  have hv : boolVal [if b then 255 else 0] = b := by cases b <;> rfl
  rw [hv] at this
  exact this
theorem readString_enc (L rest : List UInt8) (h : L.length < 16777216) : readStringF (encString L ++ rest) = (L, 0, (encString L).length) := readF_elem _ _ _ _ _ _ h rfl
theorem readIn_enc (tag : UInt8) (L rest : List UInt8) (h : L.length < 16777216) : readInF tag (elem tag L ++ rest) = (some L, 0, (elem tag L).length) := readF_elem _ _ _ _ _ _ h rfl
theorem encTag_shape (n : Nat) (l : List UInt8) (hn : n ≤ 30) (h : l ≠ []) : encTag n l = elem (tagB n) l := by
  unfold encTag encWrap tagB
  rw [if_pos ⟨by omega, by omega, h⟩]
  congr 2
theorem tagged_enc (n : Nat) (l rest : List UInt8) (hn : n ≤ 30) (h : l ≠ []) (hl : l.length < 16777216) : taggedF n (encTag n l ++ rest) = (some l, true, 0, (encTag n l).length) := by
  rw [encTag_shape n l hn h]
  unfold taggedF
  rw [readIn_enc _ _ _ hl, if_neg]
  · simp
  · rw [elem_shape _ _ hl]; simp
end Go.Proofs.YthpfomjibfbiiaaGreatDoor
namespace Go.Proofs.YthpfomjibfbiiaaGreatDoor

theorem readF_nil {α : Type} (tag : UInt8) (z : α) (ok : List UInt8 → Bool) (val : List UInt8 → α) : readF tag z ok val [] = (z, 4, 0) := by
  unfold readF takeF
  simp
/-- The ways of a field. -/
theorem field_cases {α : Type} (z : α) (rd : List UInt8 → α × Nat × Nat) (n : Nat) (m : List UInt8) :
    (taggedF n m = (none, false, 0, 0) ∧ fieldF z rd n m = (z, if m = [] then 4 else 6, 0)) ∨
    (∃ er, er ≠ 0 ∧ taggedF n m = (none, false, er, 0) ∧ fieldF z rd n m = (z, er, 0)) ∨
    (∃ x used, taggedF n m = (some x, true, 0, used) ∧ x.length ≤ m.length ∧ readInF (tagB n) m = (some x, 0, used) ∧ m ≠ [] ∧
      (((rd x).2.1 ≠ 0 ∧ fieldF z rd n m = (z, (rd x).2.1, 0)) ∨ ((rd x).2.1 = 0 ∧ (rd x).2.2 < x.length ∧ fieldF z rd n m = (z, 6, 0)) ∨ ((rd x).2.1 = 0 ∧ ¬ (rd x).2.2 < x.length ∧ fieldF z rd n m = ((rd x).1, 0, used)))) := by
  rcases tagged_cases n m with ⟨h, _⟩ | ⟨⟨hm, _⟩, ⟨x, used, h, hr, hl⟩ | ⟨er, he, h, _⟩⟩
  · left
    refine ⟨h, ?_⟩
    unfold fieldF
    rw [h]
    simp
  · right; right
    refine ⟨x, used, h, hl, hr, hm, ?_⟩
    unfold fieldF
    rw [h]
    simp only [Option.getD_some, ne_eq, not_true_eq_false, if_false, Bool.true_eq_false]
    by_cases h1 : (rd x).2.1 = 0
    · right
      rw [if_neg (by simpa using h1)]
      by_cases h2 : (rd x).2.2 < x.length
      · left; rw [if_pos h2]; exact ⟨h1, h2, rfl⟩
      · right; rw [if_neg h2]; exact ⟨h1, h2, rfl⟩
    · left
      rw [if_pos (by simpa using h1)]
      exact ⟨h1, rfl⟩
  · right; left
    refine ⟨er, he, h, ?_⟩
    unfold fieldF
    rw [h]
    simp [he]
theorem field_enc {α : Type} (z : α) (rd : List UInt8 → α × Nat × Nat) (n : Nat) (x rest : List UInt8) (v : α) (hn : n ≤ 30) (hne : x ≠ []) (hl : x.length < 16777216) (hrd : rd x = (v, 0, x.length)) :
    fieldF z rd n (encTag n x ++ rest) = (v, 0, (encTag n x).length) := by
  unfold fieldF
  rw [tagged_enc n x rest hn hne hl]
  simp only [Option.getD_some, hrd]
  simp
theorem field_inv {α : Type} (z : α) (rd : List UInt8 → α × Nat × Nat) (enc : α → List UInt8) (hinv : ∀ m v u, rd m = (v, 0, u) → u ≤ m.length ∧ m.take u = enc v) (hnil : (rd []).2.1 ≠ 0) (n : Nat) (hn : n ≤ 30) (m : List UInt8) (v : α) (used : Nat) (h : fieldF z rd n m = (v, 0, used)) :
    used ≤ m.length ∧ m.take used = encTag n (enc v) ∧ enc v ≠ [] ∧ (enc v).length < 16777216 := by
  rcases field_cases z rd n m with ⟨_, he⟩ | ⟨er, hne, _, he⟩ | ⟨x, u, ht, hl, hr, _, ⟨h1, he⟩ | ⟨h1, h2, he⟩ | ⟨h1, h2, he⟩⟩
  · rw [h] at he
    simp only [Prod.mk.injEq] at he
    split at he <;> simp at he
  · rw [h] at he
    simp only [Prod.mk.injEq] at he
    exact absurd he.2.1.symm hne
  · rw [h] at he
    simp only [Prod.mk.injEq] at he
    exact absurd he.2.1.symm h1
  · rw [h] at he
    simp at he
  · rw [h] at he
    simp only [Prod.mk.injEq] at he
    obtain ⟨rfl, _, rfl⟩ := he
    have hrd : rd x = ((rd x).1, 0, (rd x).2.2) := by rw [← h1]
    obtain ⟨k1, k2⟩ := hinv _ _ _ hrd
    have hx : x.take (rd x).2.2 = x := List.take_of_length_le (by omega)
    rw [hx] at k2
    obtain ⟨j1, j2, j3⟩ := readIn_inv _ _ _ _ hr
    have hxe : x ≠ [] := by
      rintro rfl
      exact hnil h1
    rw [← k2, encTag_shape n x hn hxe]
    exact ⟨j1, j3, hxe, j2⟩
theorem triple_eta {α : Type} (t : α × Nat × Nat) (h : ¬ t.2.1 ≠ 0) : t = (t.1, 0, t.2.2) := by
  obtain ⟨a, b, c⟩ := t
  simp only [ne_eq, Decidable.not_not] at h
  subst h
  rfl
theorem take_add {α : Type} (l : List α) (i j : Nat) : l.take (i + j) = l.take i ++ (l.drop i).take j := by
  rw [List.take_add]

theorem tripleIn_inv (x : List UInt8) (p v : Int) (b : List UInt8) (h : tripleIn x = ((p, v, b), 0)) : x = encTag 0 (encInt p) ++ (encTag 1 (encInt v) ++ encTag 2 (encOctets b)) ∧ encInt p ≠ [] ∧ encInt v ≠ [] ∧ encOctets b ≠ [] ∧ (encOctets b).length < 16777216 := by
  unfold tripleIn at h
  simp only at h
  by_cases h1 : (fieldF 0 readIntF 0 x).2.1 ≠ 0
  · rw [if_pos h1] at h; simp only [Prod.mk.injEq] at h; exact absurd h.2 h1
  rw [if_neg h1] at h
  by_cases h2 : (fieldF 0 readIntF 1 (x.drop (fieldF 0 readIntF 0 x).2.2)).2.1 ≠ 0
  · rw [if_pos h2] at h; simp only [Prod.mk.injEq] at h; exact absurd h.2 h2
  rw [if_neg h2] at h
  by_cases h3 : (fieldF [] readOctetsF 2 (x.drop ((fieldF 0 readIntF 0 x).2.2 + (fieldF 0 readIntF 1 (x.drop (fieldF 0 readIntF 0 x).2.2)).2.2))).2.1 ≠ 0
  · rw [if_pos h3] at h; simp only [Prod.mk.injEq] at h; exact absurd h.2 h3
  rw [if_neg h3] at h
  have e1 : fieldF 0 readIntF 0 x = ((fieldF 0 readIntF 0 x).1, 0, (fieldF 0 readIntF 0 x).2.2) := triple_eta _ h1
  generalize hp : (fieldF 0 readIntF 0 x).1 = p' at *
  generalize hu1 : (fieldF 0 readIntF 0 x).2.2 = u1 at *
  have e2 : fieldF 0 readIntF 1 (x.drop u1) = ((fieldF 0 readIntF 1 (x.drop u1)).1, 0, (fieldF 0 readIntF 1 (x.drop u1)).2.2) := triple_eta _ h2
  generalize hp2 : (fieldF 0 readIntF 1 (x.drop u1)).1 = v' at *
  generalize hu2 : (fieldF 0 readIntF 1 (x.drop u1)).2.2 = u2 at *
  have e3 : fieldF [] readOctetsF 2 (x.drop (u1 + u2)) = ((fieldF [] readOctetsF 2 (x.drop (u1 + u2))).1, 0, (fieldF [] readOctetsF 2 (x.drop (u1 + u2))).2.2) := triple_eta _ h3
  generalize hp3 : (fieldF [] readOctetsF 2 (x.drop (u1 + u2))).1 = b' at *
  generalize hu3 : (fieldF [] readOctetsF 2 (x.drop (u1 + u2))).2.2 = u3 at *
  have i1 := field_inv 0 readIntF encInt (fun m v u h => readInt_inv m v u h) (by unfold readIntF; rw [readF_nil]; simp) 0 (by omega) x p' u1 e1
  have i2 := field_inv 0 readIntF encInt (fun m v u h => readInt_inv m v u h) (by unfold readIntF; rw [readF_nil]; simp) 1 (by omega) (x.drop u1) v' u2 e2
  have i3 := field_inv [] readOctetsF encOctets (fun m v u h => readOctets_inv m v u h) (by unfold readOctetsF; rw [readF_nil]; simp) 2 (by omega) (x.drop (u1 + u2)) b' u3 e3
  by_cases h4 : u1 + u2 + u3 < x.length
  · rw [if_pos h4] at h; simp at h
  rw [if_neg h4] at h
  simp only [Prod.mk.injEq, and_true] at h
  obtain ⟨rfl, rfl, rfl⟩ := h
  refine ⟨?_, i1.2.2.1, i2.2.2.1, i3.2.2.1, i3.2.2.2⟩
  have hx : x = x.take (u1 + (u2 + u3)) := (List.take_of_length_le (by omega)).symm
  rw [hx, take_add, take_add, i1.2.1, i2.2.1, List.drop_drop, i3.2.1]
theorem tripleRd_inv (m : List UInt8) (p v : Int) (b : List UInt8) (used : Nat) (hm : m.length ≤ 900) (h : tripleRd m = ((p, v, b), 0, used)) : used ≤ m.length ∧ m.take used = tripleF p v b ∧ tripleF p v b ≠ [] := by
  unfold tripleRd at h
  rcases readIn_cases 48 m with ⟨x, hx, hl⟩ | ⟨er, he, hx⟩
  · rw [hx] at h
    simp only [Option.getD_some, ne_eq, not_true_eq_false, if_false] at h
    by_cases h1 : (tripleIn x).2 ≠ 0
    · rw [if_pos h1] at h; simp only [Prod.mk.injEq] at h; exact absurd h.2.1 h1
    rw [if_neg h1] at h
    simp only [Prod.mk.injEq] at h
    obtain ⟨hv, _, rfl⟩ := h
    have ht : tripleIn x = ((p, v, b), 0) := by
      have h0 : (tripleIn x).2 = 0 := by simpa using h1
      rw [← hv, ← h0]
    obtain ⟨hx2, hp, hv2, h5, h7⟩ := tripleIn_inv x p v b ht
    obtain ⟨j1, j2, j3⟩ := readIn_inv _ _ _ _ hx
    have hlx : x.length = (encTag 0 (encInt p)).length + ((encTag 1 (encInt v)).length + (encTag 2 (encOctets b)).length) := by rw [hx2]; simp
    have lb : ∀ (n : Nat) (l : List UInt8), n ≤ 30 → l.length < 16777216 → l ≠ [] → l.length ≤ (encTag n l).length := by
      intro n l hn hl hne
      rw [encTag_shape n l hn hne, elem_shape _ _ hl]
      simp; omega
    have hI : ∀ v, (encInt v).length < 1000 := by
      intro v
      unfold encInt
      split
      · have := elem_le 2 (beBytes v (intSize v))
        rw [beBytes_length] at this
        have := intSize_le v
        omega
      · simp
    have hbl : b.length ≤ 1000 := by
      have hb : b.length < 16777216 := by
        apply Classical.byContradiction
        intro hb
        apply h5
        unfold encOctets elem
        rw [if_neg hb]
      have h6 : b.length ≤ (encOctets b).length := by unfold encOctets; rw [elem_shape _ _ hb]; simp; omega
      have := lb 2 (encOctets b) (by omega) h7 h5
      omega
    have e3 := tripleF_eq p v b (by have := hI p; omega) (by have := hI v; omega) hbl
    rw [e3]
    unfold threeF
    rw [if_neg (by intro h; rcases h with h | h <;> contradiction)]
    refine ⟨j1, ?_, ?_⟩
    · rw [j3, hx2]
      unfold encSeq
      simp
    · unfold encSeq
      apply elem_ne
      simp
      have := encTag_le 0 (encInt p); have := encTag_le 1 (encInt v); have := encTag_le 2 (encOctets b)
      omega
  · rw [hx] at h
    simp only at h
    rw [if_pos he] at h
    simp only [Prod.mk.injEq] at h
    exact absurd h.2.1 he
end Go.Proofs.YthpfomjibfbiiaaGreatDoor
