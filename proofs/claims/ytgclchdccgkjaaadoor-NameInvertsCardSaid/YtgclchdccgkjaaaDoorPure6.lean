/- What is encoded is read again. No program. -/
import Derived.Test.YtgclchdccgkjaaaDoorMg17
namespace Go.Proofs.YtgclchdccgkjaaaDoor

theorem u8_nat (n : Nat) (h : n < 256) : (UInt8.ofNat n).toNat = n := by simp only [UInt8.toNat_ofNat']; omega
theorem takeF_of (tag : UInt8) (pre L rest : List UInt8) (h : measureF (tag :: (pre ++ L) ++ rest) = (1 + pre.length, 1 + pre.length + L.length, 0)) :
    takeF tag (tag :: (pre ++ L) ++ rest) = (L, 0, (tag :: (pre ++ L)).length) := by
  unfold takeF
  rw [if_neg (by simp), if_neg (by simp)]
  simp only [h]
  rw [if_neg (by simp)]
  have e1 : 1 + pre.length + L.length = (tag :: (pre ++ L)).length := by simp; omega
  have e2 : (tag :: (pre ++ L)).drop (1 + pre.length) = L := by
    rw [show 1 + pre.length = pre.length + 1 by omega, List.drop_succ_cons]
    simp
  rw [e1, List.take_left, e2]
theorem finF_all (n size b : Nat) (h : b + size ≤ n) : finF n size b = (b, b + size, 0) := by
  unfold finF; rw [if_neg (by omega)]
theorem elem_shape (tag : UInt8) (L : List UInt8) (h : L.length < 16777216) : elem tag L = tag :: (encLen L.length ++ L) := by unfold elem; rw [if_pos h]
theorem takeF_elem (tag : UInt8) (L rest : List UInt8) (h : L.length < 16777216) : takeF tag (elem tag L ++ rest) = (L, 0, (elem tag L).length) := by
  rw [elem_shape tag L h]
  apply takeF_of
  obtain ⟨n, hn⟩ : ∃ n, n = L.length := ⟨_, rfl⟩
  rw [← hn] at h ⊢
  unfold measureF
  by_cases h1 : n < 128
  · have e : encLen n = [UInt8.ofNat n] := by unfold encLen; rw [if_pos h1]
    rw [e]
    have hl : (tag :: ([UInt8.ofNat n] ++ L) ++ rest).length = 2 + n + rest.length := by simp [hn]; omega
    have hs : ((tag :: ([UInt8.ofNat n] ++ L) ++ rest)[1]?.getD 0).toNat = n := by
      show (UInt8.ofNat n).toNat = n
      exact u8_nat n (by omega)
    simp only [hs, hl]
    rw [if_neg (by omega), if_pos h1, finF_all _ _ _ (by omega)]
    rfl
  by_cases h2 : n < 256
  · have e : encLen n = [0x81, UInt8.ofNat n] := by unfold encLen; rw [if_neg h1, if_pos h2]
    rw [e]
    have hl : (tag :: ([0x81, UInt8.ofNat n] ++ L) ++ rest).length = 3 + n + rest.length := by simp [hn]; omega
    have hs : ((tag :: ([0x81, UInt8.ofNat n] ++ L) ++ rest)[1]?.getD 0).toNat = 129 := rfl
    have hb : beNat (((tag :: ([0x81, UInt8.ofNat n] ++ L) ++ rest).take (2 + (129 - 128))).drop 2) = n := by
      show beNat [UInt8.ofNat n] = n
      simp only [beNat, List.foldl_cons, List.foldl_nil, u8_nat n h2]; omega
    simp only [hs, hl, hb]
    rw [if_neg (by omega), if_neg (by omega), if_neg (by omega), if_neg (by omega), if_neg (by simp [leastF]; omega), finF_all _ _ _ (by omega)]
    rfl
  by_cases h3 : n < 65536
  · have e : encLen n = [0x82, UInt8.ofNat (n / 256), UInt8.ofNat n] := by unfold encLen; rw [if_neg h1, if_neg h2, if_pos h3]
    rw [e]
    have hl : (tag :: ([0x82, UInt8.ofNat (n / 256), UInt8.ofNat n] ++ L) ++ rest).length = 4 + n + rest.length := by simp [hn]; omega
    have hs : ((tag :: ([0x82, UInt8.ofNat (n / 256), UInt8.ofNat n] ++ L) ++ rest)[1]?.getD 0).toNat = 130 := rfl
    have hb : beNat (((tag :: ([0x82, UInt8.ofNat (n / 256), UInt8.ofNat n] ++ L) ++ rest).take (2 + (130 - 128))).drop 2) = n := by
      show beNat [UInt8.ofNat (n / 256), UInt8.ofNat n] = n
      simp only [beNat, List.foldl_cons, List.foldl_nil, UInt8.toNat_ofNat']; omega
    simp only [hs, hl, hb]
    rw [if_neg (by omega), if_neg (by omega), if_neg (by omega), if_neg (by omega), if_neg (by simp [leastF]; omega), finF_all _ _ _ (by omega)]
    rfl
  · have e : encLen n = [0x83, UInt8.ofNat (n / 65536), UInt8.ofNat (n / 256), UInt8.ofNat n] := by unfold encLen; rw [if_neg h1, if_neg h2, if_neg h3]
    rw [e]
    have hl : (tag :: ([0x83, UInt8.ofNat (n / 65536), UInt8.ofNat (n / 256), UInt8.ofNat n] ++ L) ++ rest).length = 5 + n + rest.length := by simp [hn]; omega
    have hs : ((tag :: ([0x83, UInt8.ofNat (n / 65536), UInt8.ofNat (n / 256), UInt8.ofNat n] ++ L) ++ rest)[1]?.getD 0).toNat = 131 := rfl
    have hb : beNat (((tag :: ([0x83, UInt8.ofNat (n / 65536), UInt8.ofNat (n / 256), UInt8.ofNat n] ++ L) ++ rest).take (2 + (131 - 128))).drop 2) = n := by
      show beNat [UInt8.ofNat (n / 65536), UInt8.ofNat (n / 256), UInt8.ofNat n] = n
      simp only [beNat, List.foldl_cons, List.foldl_nil, UInt8.toNat_ofNat']; omega
    simp only [hs, hl, hb]
    rw [if_neg (by omega), if_neg (by omega), if_neg (by omega), if_neg (by omega), if_neg (by simp [leastF]; omega), finF_all _ _ _ (by omega)]
    rfl

theorem readF_elem {α : Type} (tag : UInt8) (z : α) (ok : List UInt8 → Bool) (val : List UInt8 → α) (L rest : List UInt8) (h : L.length < 16777216) (hok : ok L = true) :
    readF tag z ok val (elem tag L ++ rest) = (val L, 0, (elem tag L).length) := by
  unfold readF
  rw [takeF_elem tag L rest h]
  simp [hok]
theorem readOctets_enc (L rest : List UInt8) (h : L.length < 16777216) : readOctetsF (encOctets L ++ rest) = (L, 0, (encOctets L).length) := readF_elem _ _ _ _ _ _ h rfl
end Go.Proofs.YtgclchdccgkjaaaDoor
