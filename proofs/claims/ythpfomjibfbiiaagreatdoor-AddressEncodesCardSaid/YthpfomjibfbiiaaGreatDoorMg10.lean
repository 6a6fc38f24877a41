/- Texts laid together (wip/tools/automerge.py): Pure3, Pure4, Pure5, Pure6, Pure7, Pure8, Pure9, Pure10, Pure11, PureD. -/
import Derived.Test.YthpfomjibfbiiaaGreatDoorMg9
namespace Go.Proofs.YthpfomjibfbiiaaGreatDoor

/-- The number in bytes, the highest first. -/
def beNat (l : List UInt8) : Nat := l.foldl (fun a b => a * 256 + b.toNat) 0
theorem beNat_snoc (l : List UInt8) (b : UInt8) : beNat (l ++ [b]) = beNat l * 256 + b.toNat := by simp [beNat]
theorem beNat_take_succ (l : List UInt8) (k : Nat) (h : k < l.length) : beNat (l.take (k + 1)) = beNat (l.take k) * 256 + l[k].toNat := by
  rw [List.take_succ_eq_append_getElem h, beNat_snoc]
theorem beNat_take_lt (l : List UInt8) : ∀ k, k ≤ l.length → beNat (l.take k) < 256 ^ k
  | 0, _ => by simp [beNat]
  | k + 1, h => by
    have ih := beNat_take_lt l k (by omega)
    rw [beNat_take_succ l k (by omega), Nat.pow_succ]
    have : l[k].toNat < 256 := l[k].toNat_lt
    omega
theorem beNat_lt (l : List UInt8) : beNat l < 256 ^ l.length := by
  have := beNat_take_lt l l.length (Nat.le_refl _)
  rwa [List.take_length] at this
/-- The least number of n length bytes. -/
def leastF (n : Nat) : Nat := if n = 1 then 128 else if n = 2 then 256 else if n = 3 then 65536 else 0
/-- Contents of a size from an offset on: begin, end, error. -/
def finF (n size begin_ : Nat) : Nat × Nat × Nat := if n - begin_ < size then (0, 0, 4) else (begin_, begin_ + size, 0)
/-- What 'measure' hands back. -/
def measureF (l : List UInt8) : Nat × Nat × Nat :=
  if l.length < 2 then (0, 0, 4)
  else
    let s := (l[1]?.getD 0).toNat
    if s < 128 then finF l.length s 2
    else if s - 128 < 1 ∨ 3 < s - 128 then (0, 0, 6)
    else if l.length < 2 + (s - 128) then (0, 0, 4)
    else
      let m := beNat ((l.take (2 + (s - 128))).drop 2)
      if m < leastF (s - 128) then (0, 0, 6) else finF l.length m (2 + (s - 128))
/-- What 'take' hands back: the contents, the error, and how many bytes are passed. -/
def takeF (tag : UInt8) (m : List UInt8) : List UInt8 × Nat × Nat :=
  if m = [] then ([], 4, 0)
  else if m[0]?.getD 0 ≠ tag then ([], 6, 0)
  else
    let r := measureF m
    if r.2.2 ≠ 0 then ([], r.2.2, 0) else ((m.take r.2.1).drop r.1, 0, r.2.1)
theorem finF_ok (n size b0 b e : Nat) (hb : b0 ≤ n) (h : finF n size b0 = (b, e, 0)) : b = b0 ∧ e = b0 + size ∧ e ≤ n := by
  unfold finF at h
  split at h
  · simp at h
  · simp only [Prod.mk.injEq] at h
    omega
theorem measureF_ok (l : List UInt8) (b e : Nat) (h : measureF l = (b, e, 0)) : 2 ≤ b ∧ b ≤ e ∧ e ≤ l.length := by
  unfold measureF at h
  simp only at h
  split at h
  · simp at h
  split at h
  · have := finF_ok _ _ _ _ _ (by omega) h; omega
  split at h
  · simp at h
  split at h
  · simp at h
  split at h
  · simp at h
  · have := finF_ok _ _ _ _ _ (by omega) h; omega
theorem measureF_err (l : List UInt8) : (measureF l).2.2 = 0 ∨ (measureF l).2.2 = 4 ∨ (measureF l).2.2 = 6 := by
  have hf : ∀ n s b, (finF n s b).2.2 = 0 ∨ (finF n s b).2.2 = 4 ∨ (finF n s b).2.2 = 6 := by
    intro n s b; unfold finF; split <;> simp
  unfold measureF
  simp only
  split
  · simp
  split
  · exact hf _ _ _
  split
  · simp
  split
  · simp
  split
  · simp
  · exact hf _ _ _
theorem takeF_err (tag : UInt8) (m cont : List UInt8) (er used : Nat) (h : takeF tag m = (cont, er, used)) (he : er ≠ 0) : used = 0 := by
  unfold takeF at h
  simp only at h
  split at h
  · simp at h; omega
  split at h
  · simp at h; omega
  split at h
  · simp at h; omega
  · simp at h; omega
theorem takeF_used (tag : UInt8) (m cont : List UInt8) (er used : Nat) (h : takeF tag m = (cont, er, used)) : used ≤ m.length := by
  unfold takeF at h
  simp only at h
  split at h
  · simp at h; omega
  split at h
  · simp at h; omega
  split at h
  · simp at h; omega
  · rename_i h3
    have h4 := measureF_ok m (measureF m).1 (measureF m).2.1 (by
      have : (measureF m).2.2 = 0 := by simpa using h3
      rw [← this])
    simp at h; omega
theorem takeF_cont (tag : UInt8) (m cont : List UInt8) (er used : Nat) (h : takeF tag m = (cont, er, used)) : cont.length ≤ m.length := by
  unfold takeF at h
  simp only at h
  split at h
  · simp at h; rw [h.1]; simp
  split at h
  · simp at h; rw [h.1]; simp
  split at h
  · simp at h; rw [h.1]; simp
  · simp at h; rw [← h.1]; simp; omega
end Go.Proofs.YthpfomjibfbiiaaGreatDoor
namespace Go.Proofs.YthpfomjibfbiiaaGreatDoor
/-- A byte with its sign. -/
def s8 (b : UInt8) : Int := if b.toNat < 128 then (b.toNat : Int) else (b.toNat : Int) - 256
/-- The integer in bytes, the highest first, with its sign. -/
def sInt : List UInt8 → Int
  | [] => 0
  | b :: t => t.foldl (fun v c => v * 256 + (c.toNat : Int)) (s8 b)
theorem sInt_one (l : List UInt8) (h : 0 < l.length) : sInt (l.take 1) = s8 l[0] := by
  match l, h with
  | b :: t, _ => simp [sInt]
theorem sInt_succ (l : List UInt8) (k : Nat) (h : k + 1 < l.length) : sInt (l.take (k + 1 + 1)) = sInt (l.take (k + 1)) * 256 + (l[k + 1].toNat : Int) := by
  match l, h with
  | b :: t, h =>
    have ht : k < t.length := by simpa using h
    rw [List.take_succ_cons, List.take_succ_cons, List.take_succ_eq_append_getElem ht]
    simp only [sInt, List.foldl_append, List.foldl_cons, List.foldl_nil, List.getElem_cons_succ]
theorem s8_bd (b : UInt8) : -128 ≤ s8 b ∧ s8 b < 128 := by
  have := b.toNat_lt
  unfold s8; split <;> omega
theorem sInt_bd (l : List UInt8) : ∀ k, k < l.length → -(128 * 256 ^ k) ≤ sInt (l.take (k + 1)) ∧ sInt (l.take (k + 1)) < 128 * 256 ^ k
  | 0, h => by
    rw [sInt_one l h]
    have := s8_bd l[0]
    simpa using this
  | k + 1, h => by
    have ih := sInt_bd l k (by omega)
    rw [sInt_succ l k h, Int.pow_succ]
    have := l[k + 1].toNat_lt
    generalize (256 : Int) ^ k = p at *
    omega
/-- What the closure of Integer hands back. -/
def intOk (l : List UInt8) : Bool := decide (1 ≤ l.length) && decide (l.length ≤ 8) && (encInt (sInt l) == elem 2 l)
/-- A value read by its contents: the value, the error, the bytes passed. -/
def readF {α : Type} (tag : UInt8) (z : α) (ok : List UInt8 → Bool) (val : List UInt8 → α) (m : List UInt8) : α × Nat × Nat :=
  if (takeF tag m).2.1 ≠ 0 then (z, (takeF tag m).2.1, 0) else if ok (takeF tag m).1 then (val (takeF tag m).1, 0, (takeF tag m).2.2) else (z, 6, 0)
def readIntF : List UInt8 → Int × Nat × Nat := readF 2 0 intOk sInt
end Go.Proofs.YthpfomjibfbiiaaGreatDoor
namespace Go.Proofs.YthpfomjibfbiiaaGreatDoor
def boolOk (l : List UInt8) : Bool := decide (l.length = 1) && (l[0]?.getD 0 == 255 || l[0]?.getD 0 == 0)
def boolVal (l : List UInt8) : Bool := l[0]?.getD 0 == 255
def bitsOk (l : List UInt8) : Bool := decide (l.length = 5) && l[0]?.getD 0 == 0
def bitsVal (l : List UInt8) : Int := (beNat (l.drop 1) : Int)
def tmOk (l : List UInt8) : Bool := decide (l.length = 6) && decide ((beNat l : Int) ≤ 1099511627776)
def tmVal (l : List UInt8) : Int := (beNat l : Int)
def readBoolF : List UInt8 → Bool × Nat × Nat := readF 1 false boolOk boolVal
def readBitsF : List UInt8 → Int × Nat × Nat := readF 3 0 bitsOk bitsVal
def readOctetsF : List UInt8 → List UInt8 × Nat × Nat := readF 4 [] (fun _ => true) id
def readTimeF : List UInt8 → Int × Nat × Nat := readF 24 0 tmOk tmVal
def readStringF : List UInt8 → List UInt8 × Nat × Nat := readF 27 [] (fun _ => true) id
/-- A reader of contents: none, or the contents. -/
def readInF (tag : UInt8) : List UInt8 → Option (List UInt8) × Nat × Nat := readF tag none (fun _ => true) some
theorem readF_used {α : Type} (tag : UInt8) (z : α) (ok : List UInt8 → Bool) (val : List UInt8 → α) (m : List UInt8) (v : α) (er used : Nat) (h : readF tag z ok val m = (v, er, used)) : used ≤ m.length := by
  unfold readF at h
  have hu := takeF_used tag m (takeF tag m).1 (takeF tag m).2.1 (takeF tag m).2.2 rfl
  split at h
  · simp only [Prod.mk.injEq] at h; omega
  · split at h
    · simp only [Prod.mk.injEq] at h; omega
    · simp only [Prod.mk.injEq] at h; omega
end Go.Proofs.YthpfomjibfbiiaaGreatDoor
namespace Go.Proofs.YthpfomjibfbiiaaGreatDoor

theorem u8_nat (n : Nat) (h : n < 256) : (UInt8.ofNat n).toNat = n := by simp only [UInt8.toNat_ofNat']; omega
theorem takeF_of (tag : UInt8) (pre L rest : List UInt8) (h : measureF (tag :: (pre ++ L) ++ rest) = (1 + pre.length, 1 + pre.length + L.length, 0)) :
    takeF tag (tag :: (pre ++ L) ++ rest) = (L, 0, (tag :: (pre ++ L)).length) := by
  unfold takeF
  rw [if_neg (by simp), if_neg (by simp)]
  simp only [h]
  rw [if_neg (by simp)]
  have e1 : 1 + pre.length + L.length = (tag :: (pre ++ L)).length := by simp; omega
  have e2 : (tag :: (pre ++ L)).drop (1 + pre.length) = L := by
    rw [show 1 + pre.length = pre.length + 1 by omega, List.drop_succ_cons]
    simp
  rw [e1, List.take_left, e2]
theorem finF_all (n size b : Nat) (h : b + size ≤ n) : finF n size b = (b, b + size, 0) := by
  unfold finF; rw [if_neg (by omega)]
theorem elem_shape (tag : UInt8) (L : List UInt8) (h : L.length < 16777216) : elem tag L = tag :: (encLen L.length ++ L) := by unfold elem; rw [if_pos h]
theorem takeF_elem (tag : UInt8) (L rest : List UInt8) (h : L.length < 16777216) : takeF tag (elem tag L ++ rest) = (L, 0, (elem tag L).length) := by
  rw [elem_shape tag L h]
  apply takeF_of
  obtain ⟨n, hn⟩ : ∃ n, n = L.length := ⟨_, rfl⟩
  rw [← hn] at h ⊢
  unfold measureF
  by_cases h1 : n < 128
  · have e : encLen n = [UInt8.ofNat n] := by unfold encLen; rw [if_pos h1]
    rw [e]
    have hl : (tag :: ([UInt8.ofNat n] ++ L) ++ rest).length = 2 + n + rest.length := by simp [hn]; omega
    have hs : ((tag :: ([UInt8.ofNat n] ++ L) ++ rest)[1]?.getD 0).toNat = n := by
      show (UInt8.ofNat n).toNat = n
      exact u8_nat n (by omega)
    simp only [hs, hl]
    rw [if_neg (by omega), if_pos h1, finF_all _ _ _ (by omega)]
    rfl
  by_cases h2 : n < 256
  · have e : encLen n = [0x81, UInt8.ofNat n] := by unfold encLen; rw [if_neg h1, if_pos h2]
    rw [e]
    have hl : (tag :: ([0x81, UInt8.ofNat n] ++ L) ++ rest).length = 3 + n + rest.length := by simp [hn]; omega
    have hs : ((tag :: ([0x81, UInt8.ofNat n] ++ L) ++ rest)[1]?.getD 0).toNat = 129 := rfl
    have hb : beNat (((tag :: ([0x81, UInt8.ofNat n] ++ L) ++ rest).take (2 + (129 - 128))).drop 2) = n := by
      show beNat [UInt8.ofNat n] = n
      simp only [beNat, List.foldl_cons, List.foldl_nil, u8_nat n h2]; omega
    simp only [hs, hl, hb]
    rw [if_neg (by omega), if_neg (by omega), if_neg (by omega), if_neg (by omega), if_neg (by simp [leastF]; omega), finF_all _ _ _ (by omega)]
    rfl
  by_cases h3 : n < 65536
  · have e : encLen n = [0x82, UInt8.ofNat (n / 256), UInt8.ofNat n] := by unfold encLen; rw [if_neg h1, if_neg h2, if_pos h3]
    rw [e]
    have hl : (tag :: ([0x82, UInt8.ofNat (n / 256), UInt8.ofNat n] ++ L) ++ rest).length = 4 + n + rest.length := by simp [hn]; omega
    have hs : ((tag :: ([0x82, UInt8.ofNat (n / 256), UInt8.ofNat n] ++ L) ++ rest)[1]?.getD 0).toNat = 130 := rfl
    have hb : beNat (((tag :: ([0x82, UInt8.ofNat (n / 256), UInt8.ofNat n] ++ L) ++ rest).take (2 + (130 - 128))).drop 2) = n := by
      show beNat [UInt8.ofNat (n / 256), UInt8.ofNat n] = n
      simp only [beNat, List.foldl_cons, List.foldl_nil, UInt8.toNat_ofNat']; omega
    simp only [hs, hl, hb]
    rw [if_neg (by omega), if_neg (by omega), if_neg (by omega), if_neg (by omega), if_neg (by simp [leastF]; omega), finF_all _ _ _ (by omega)]
    rfl
  · have e : encLen n = [0x83, UInt8.ofNat (n / 65536), UInt8.ofNat (n / 256), UInt8.ofNat n] := by unfold encLen; rw [if_neg h1, if_neg h2, if_neg h3]
    rw [e]
    have hl : (tag :: ([0x83, UInt8.ofNat (n / 65536), UInt8.ofNat (n / 256), UInt8.ofNat n] ++ L) ++ rest).length = 5 + n + rest.length := by simp [hn]; omega
    have hs : ((tag :: ([0x83, UInt8.ofNat (n / 65536), UInt8.ofNat (n / 256), UInt8.ofNat n] ++ L) ++ rest)[1]?.getD 0).toNat = 131 := rfl
    have hb : beNat (((tag :: ([0x83, UInt8.ofNat (n / 65536), UInt8.ofNat (n / 256), UInt8.ofNat n] ++ L) ++ rest).take (2 + (131 - 128))).drop 2) = n := by
      show beNat [UInt8.ofNat (n / 65536), UInt8.ofNat (n / 256), UInt8.ofNat n] = n
      simp only [beNat, List.foldl_cons, List.foldl_nil, UInt8.toNat_ofNat']; omega
    simp only [hs, hl, hb]
    rw [if_neg (by omega), if_neg (by omega), if_neg (by omega), if_neg (by omega), if_neg (by simp [leastF]; omega), finF_all _ _ _ (by omega)]
    rfl

theorem readF_elem {α : Type} (tag : UInt8) (z : α) (ok : List UInt8 → Bool) (val : List UInt8 → α) (L rest : List UInt8) (h : L.length < 16777216) (hok : ok L = true) :
    readF tag z ok val (elem tag L ++ rest) = (val L, 0, (elem tag L).length) := by
  unfold readF
  rw [takeF_elem tag L rest h]
  simp [hok]
theorem readOctets_enc (L rest : List UInt8) (h : L.length < 16777216) : readOctetsF (encOctets L ++ rest) = (L, 0, (encOctets L).length) := readF_elem _ _ _ _ _ _ h rfl
end Go.Proofs.YthpfomjibfbiiaaGreatDoor
namespace Go.Proofs.YthpfomjibfbiiaaGreatDoor

def encTag (n : Nat) (l : List UInt8) : List UInt8 := encWrap 160 (n : Int) l
def wholeF (ls : List (List UInt8)) : List UInt8 := if [] ∈ ls then [] else encSeq ls
/-- The first k, each in the element of its number. -/
def tags (ls : List (List UInt8)) (k : Nat) : List (List UInt8) := (List.range k).map fun i => encTag i (ls[i]?.getD [])
theorem tags_length (ls : List (List UInt8)) (k : Nat) : (tags ls k).length = k := by simp [tags]
theorem tags_succ (ls : List (List UInt8)) (k : Nat) (h : k < ls.length) : tags ls (k + 1) = tags ls k ++ [encTag k ls[k]] := by
  unfold tags
  rw [List.range_succ, List.map_append]
  simp [List.getElem?_eq_getElem h]
def fieldsF (ls : List (List UInt8)) : List UInt8 := wholeF (tags ls ls.length)
def tripleF (p v : Int) (b : List UInt8) : List UInt8 := fieldsF [encInt p, encInt v, encOctets b]
def pairF (k : Int) (b : List UInt8) : List UInt8 := fieldsF [encInt k, encOctets b]
def threeF (p v : Int) (b : List UInt8) : List UInt8 := if encInt p = [] ∨ encInt v = [] then [] else encSeq [encTag 0 (encInt p), encTag 1 (encInt v), encTag 2 (encOctets b)]
def twoF (k : Int) (b : List UInt8) : List UInt8 := encSeq [encTag 0 (encInt k), encTag 1 (encOctets b)]

theorem elem_ne (t : UInt8) (l : List UInt8) (h : l.length < 16777216) : elem t l ≠ [] := by rw [elem_shape t l h]; simp
theorem encTag_nil (n : Nat) : encTag n [] = [] := by unfold encTag encWrap; rw [if_neg (by simp)]
theorem encTag_ne (n : Nat) (l : List UInt8) (hn : n ≤ 30) (h : l ≠ []) (hl : l.length < 16777216) : encTag n l ≠ [] := by
  unfold encTag encWrap
  rw [if_pos ⟨by omega, by omega, h⟩]
  exact elem_ne _ _ hl
theorem encTag_le (n : Nat) (l : List UInt8) : (encTag n l).length ≤ l.length + 5 := by
  unfold encTag encWrap
  split
  · exact elem_le _ _
  · simp
theorem tripleF_eq (p v : Int) (b : List UInt8) (hp : (encInt p).length ≤ 1000) (hv : (encInt v).length ≤ 1000) (hb : b.length ≤ 1000) : tripleF p v b = threeF p v b := by
  have hob : (encOctets b).length ≤ 1005 := by have := elem_le 4 b; unfold encOctets; omega
  have hoe : encOctets b ≠ [] := elem_ne 4 b (by omega)
  have e : tags [encInt p, encInt v, encOctets b] [encInt p, encInt v, encOctets b].length = [encTag 0 (encInt p), encTag 1 (encInt v), encTag 2 (encOctets b)] := rfl
  unfold tripleF fieldsF threeF wholeF
  rw [e]
  have h2 := encTag_ne 2 _ (by omega) hoe (by omega)
  by_cases h : encInt p = [] ∨ encInt v = []
  · rw [if_pos h, if_pos]
    rcases h with h | h <;> rw [h, encTag_nil] <;> simp
  · rw [if_neg h, if_neg]
    have h0 := encTag_ne 0 (encInt p) (by omega) (fun e => h (.inl e)) (by omega)
    have h1 := encTag_ne 1 (encInt v) (by omega) (fun e => h (.inr e)) (by omega)
    simp only [List.mem_cons, List.not_mem_nil, or_false, not_or]
    exact ⟨h0.symm, h1.symm, h2.symm⟩
theorem pairF_eq (k : Int) (b : List UInt8) (hp : (encInt k).length ≤ 1000) (hb : b.length ≤ 1000) : pairF k b = if encInt k = [] then [] else twoF k b := by
  have hob : (encOctets b).length ≤ 1005 := by have := elem_le 4 b; unfold encOctets; omega
  have hoe : encOctets b ≠ [] := elem_ne 4 b (by omega)
  have e : tags [encInt k, encOctets b] [encInt k, encOctets b].length = [encTag 0 (encInt k), encTag 1 (encOctets b)] := rfl
  unfold pairF fieldsF twoF wholeF
  rw [e]
  have h2 := encTag_ne 1 _ (by omega) hoe (by omega)
  by_cases h : encInt k = []
  · rw [if_pos h, if_pos]
    rw [h, encTag_nil]; simp
  · rw [if_neg h, if_neg]
    have h0 := encTag_ne 0 (encInt k) (by omega) h (by omega)
    simp only [List.mem_cons, List.not_mem_nil, or_false, not_or]
    exact ⟨h0.symm, h2.symm⟩
theorem twoF_ne (k : Int) (b : List UInt8) (hp : (encInt k).length ≤ 1000) (hb : b.length ≤ 1000) : twoF k b ≠ [] := by
  have hob : (encOctets b).length ≤ 1005 := by have := elem_le 4 b; unfold encOctets; omega
  have h0 := encTag_le 0 (encInt k)
  have h1 := encTag_le 1 (encOctets b)
  unfold twoF encSeq
  apply elem_ne
  simp
  omega

/-- Data: der's and the reference's. -/
def dataF (ls : List (Int × List UInt8)) : List UInt8 := if 16 < ls.length then [] else wholeF (ls.map fun x => pairF x.1 x.2)
def dataR (ls : List (Int × List UInt8)) : List UInt8 := if (∃ x ∈ ls, encInt x.1 = []) ∨ 16 < ls.length then [] else encSeq (ls.map fun x => twoF x.1 x.2)
theorem dataF_eq (ls : List (Int × List UInt8)) (hk : ∀ x ∈ ls, (encInt x.1).length ≤ 1000) (hb : ∀ x ∈ ls, x.2.length ≤ 1000) : dataF ls = dataR ls := by
  unfold dataF dataR
  by_cases h : 16 < ls.length
  · rw [if_pos h, if_pos (.inr h)]
  · rw [if_neg h]
    by_cases h2 : ∃ x ∈ ls, encInt x.1 = []
    · rw [if_pos (.inl h2)]
      unfold wholeF
      rw [if_pos]
      obtain ⟨x, hx, he⟩ := h2
      rw [List.mem_map]
      exact ⟨x, hx, by rw [pairF_eq _ _ (hk x hx) (hb x hx), if_pos he]⟩
    · rw [if_neg (by intro h3; rcases h3 with h3 | h3 <;> contradiction)]
      have e : (ls.map fun x => pairF x.1 x.2) = ls.map fun x => twoF x.1 x.2 := by
        apply List.map_congr_left
        intro x hx
        rw [pairF_eq _ _ (hk x hx) (hb x hx), if_neg (fun h => h2 ⟨x, hx, h⟩)]
      rw [e]
      unfold wholeF
      rw [if_neg]
      rw [List.mem_map]
      rintro ⟨x, hx, he⟩
      exact twoF_ne _ _ (hk x hx) (hb x hx) he
end Go.Proofs.YthpfomjibfbiiaaGreatDoor
namespace Go.Proofs.YthpfomjibfbiiaaGreatDoor

def tagB (n : Nat) : UInt8 := UInt8.ofNat (160 + n)
theorem tagB_nat (n : Nat) (h : n ≤ 30) : (tagB n).toNat = 160 + n := by unfold tagB; simp only [UInt8.toNat_ofNat']; omega
/-- A tagged element, if it is there: the contents; whether; the error; how many bytes are passed. -/
def taggedF (n : Nat) (m : List UInt8) : Option (List UInt8) × Bool × Nat × Nat :=
  if m = [] ∨ m[0]?.getD 0 ≠ tagB n then (none, false, 0, 0)
  else ((readInF (tagB n) m).1, decide ((readInF (tagB n) m).2.1 = 0), (readInF (tagB n) m).2.1, (readInF (tagB n) m).2.2)
/-- A field: the value, the error, how many bytes are passed. -/
def fieldF {α : Type} (z : α) (rd : List UInt8 → α × Nat × Nat) (n : Nat) (m : List UInt8) : α × Nat × Nat :=
  if (taggedF n m).2.2.1 ≠ 0 then (z, (taggedF n m).2.2.1, 0)
  else if (taggedF n m).2.1 = false then (z, if m = [] then 4 else 6, 0)
  else if (rd ((taggedF n m).1.getD [])).2.1 ≠ 0 then (z, (rd ((taggedF n m).1.getD [])).2.1, 0)
  else if (rd ((taggedF n m).1.getD [])).2.2 < ((taggedF n m).1.getD []).length then (z, 6, 0)
  else ((rd ((taggedF n m).1.getD [])).1, 0, (taggedF n m).2.2.2)
/-- The fields of a key or of a sealed string: the contents of the sequence are given. -/
def tripleIn (x : List UInt8) : (Int × Int × List UInt8) × Nat :=
  let p := fieldF 0 readIntF 0 x
  if p.2.1 ≠ 0 then ((0, 0, []), p.2.1) else
  let v := fieldF 0 readIntF 1 (x.drop p.2.2)
  if v.2.1 ≠ 0 then ((0, 0, []), v.2.1) else
  let b := fieldF [] readOctetsF 2 (x.drop (p.2.2 + v.2.2))
  if b.2.1 ≠ 0 then ((0, 0, []), b.2.1) else
  if p.2.2 + v.2.2 + b.2.2 < x.length then ((0, 0, []), 6) else ((p.1, v.1, b.1), 0)
def tripleRd (m : List UInt8) : (Int × Int × List UInt8) × Nat × Nat :=
  if (readInF 48 m).2.1 ≠ 0 then ((0, 0, []), (readInF 48 m).2.1, 0)
  else if (tripleIn ((readInF 48 m).1.getD [])).2 ≠ 0 then ((0, 0, []), (tripleIn ((readInF 48 m).1.getD [])).2, 0)
  else ((tripleIn ((readInF 48 m).1.getD [])).1, 0, (readInF 48 m).2.2)
/-- What a reader of contents finds: contents just where there is no error. -/
theorem readIn_cases (tag : UInt8) (m : List UInt8) : (∃ x, readInF tag m = (some x, 0, (readInF tag m).2.2) ∧ x.length ≤ m.length) ∨ (∃ er, er ≠ 0 ∧ readInF tag m = (none, er, 0)) := by
  unfold readInF readF
  by_cases h : (takeF tag m).2.1 ≠ 0
  · right; rw [if_pos h]; exact ⟨_, h, rfl⟩
  · left; rw [if_neg h, if_pos rfl]
    exact ⟨_, rfl, takeF_cont tag m _ _ _ rfl⟩
theorem tagged_cases (n : Nat) (m : List UInt8) : (taggedF n m = (none, false, 0, 0) ∧ (m = [] ∨ m[0]?.getD 0 ≠ tagB n)) ∨
    ((m ≠ [] ∧ m[0]?.getD 0 = tagB n) ∧ ((∃ x used, taggedF n m = (some x, true, 0, used) ∧ readInF (tagB n) m = (some x, 0, used) ∧ x.length ≤ m.length) ∨ (∃ er, er ≠ 0 ∧ taggedF n m = (none, false, er, 0) ∧ readInF (tagB n) m = (none, er, 0)))) := by
  by_cases h : m = [] ∨ m[0]?.getD 0 ≠ tagB n
  · left; exact ⟨by unfold taggedF; rw [if_pos h], h⟩
  · right
    refine ⟨⟨fun e => h (.inl e), by_contra' (fun e => h (.inr e))⟩, ?_⟩
    rcases readIn_cases (tagB n) m with ⟨x, hx, hl⟩ | ⟨er, he, hx⟩
    · left
      refine ⟨x, (readInF (tagB n) m).2.2, ?_, hx, hl⟩
      unfold taggedF
      rw [if_neg h, hx]
      simp
    · right
      refine ⟨er, he, ?_, hx⟩
      unfold taggedF
      rw [if_neg h, hx]
      simp [he]
where by_contra' {p : Prop} (h : ¬ ¬ p) : p := Classical.byContradiction h
end Go.Proofs.YthpfomjibfbiiaaGreatDoor
namespace Go.Proofs.YthpfomjibfbiiaaGreatDoor

theorem ofNat_toNat (b : UInt8) : UInt8.ofNat b.toNat = b := by simp
/-- What 'measure' accepts is what 'element' writes. -/
theorem measure_inv (a s : UInt8) (t : List UInt8) (b e : Nat) (h : measureF (a :: s :: t) = (b, e, 0)) :
    b ≤ e ∧ e ≤ (a :: s :: t).length ∧ e - b < 16777216 ∧ (a :: s :: t).take b = a :: encLen (e - b) := by
  have hok := measureF_ok _ _ _ h
  refine ⟨hok.2.1, hok.2.2, ?_⟩
  unfold measureF at h
  rw [if_neg (by simp)] at h
  have hs : ((a :: s :: t)[1]?.getD 0) = s := rfl
  simp only [hs] at h
  by_cases h1 : s.toNat < 128
  · rw [if_pos h1] at h
    obtain ⟨rfl, rfl, _⟩ := finF_ok _ _ _ _ _ (by simp) h
    refine ⟨by omega, ?_⟩
    rw [show 2 + s.toNat - 2 = s.toNat by omega]
    unfold encLen
    rw [if_pos h1, ofNat_toNat]
    rfl
  · rw [if_neg h1] at h
    by_cases h2 : s.toNat - 128 < 1 ∨ 3 < s.toNat - 128
    · rw [if_pos h2] at h; simp at h
    · rw [if_neg h2] at h
      by_cases h3 : (a :: s :: t).length < 2 + (s.toNat - 128)
      · rw [if_pos h3] at h; simp at h
      · rw [if_neg h3] at h
        rcases (show s.toNat = 129 ∨ s.toNat = 130 ∨ s.toNat = 131 by omega) with hv | hv | hv
        · obtain rfl : s = 129 := UInt8.toNat_inj.1 hv
          rcases t with _ | ⟨x, t⟩
          · simp at h3
          have hb : beNat (((a :: 129 :: x :: t).take (2 + ((129 : UInt8).toNat - 128))).drop 2) = x.toNat := by
            show beNat [x] = _
            simp [beNat]
          rw [hb] at h
          by_cases h4 : x.toNat < leastF ((129 : UInt8).toNat - 128)
          · rw [if_pos h4] at h; simp at h
          · rw [if_neg h4] at h
            have h4' : 128 ≤ x.toNat := by
              have : leastF ((129 : UInt8).toNat - 128) = 128 := by decide
              omega
            obtain ⟨rfl, rfl, _⟩ := finF_ok _ _ _ _ _ (by omega) h
            have hx := x.toNat_lt
            have e1 : 2 + ((129 : UInt8).toNat - 128) = 3 := rfl
            rw [e1, show 3 + x.toNat - 3 = x.toNat by omega]
            refine ⟨by omega, ?_⟩
            unfold encLen
            rw [if_neg (by omega), if_pos (by omega), ofNat_toNat]
            rfl
        · obtain rfl : s = 130 := UInt8.toNat_inj.1 hv
          rcases t with _ | ⟨x, _ | ⟨y, t⟩⟩
          · simp at h3
          · simp at h3
          have hb : beNat (((a :: 130 :: x :: y :: t).take (2 + ((130 : UInt8).toNat - 128))).drop 2) = x.toNat * 256 + y.toNat := by
            show beNat [x, y] = _
            simp [beNat]
          rw [hb] at h
          by_cases h4 : x.toNat * 256 + y.toNat < leastF ((130 : UInt8).toNat - 128)
          · rw [if_pos h4] at h; simp at h
          · rw [if_neg h4] at h
            have h4' : 256 ≤ x.toNat * 256 + y.toNat := by
              have : leastF ((130 : UInt8).toNat - 128) = 256 := by decide
              omega
            obtain ⟨rfl, rfl, _⟩ := finF_ok _ _ _ _ _ (by omega) h
            have hx := x.toNat_lt
            have hy := y.toNat_lt
            have e1 : 2 + ((130 : UInt8).toNat - 128) = 4 := rfl
            rw [e1, show 4 + (x.toNat * 256 + y.toNat) - 4 = x.toNat * 256 + y.toNat by omega]
            refine ⟨by omega, ?_⟩
            unfold encLen
            rw [if_neg (by omega), if_neg (by omega), if_pos (by omega)]
            have ex : UInt8.ofNat ((x.toNat * 256 + y.toNat) / 256) = x := by
              rw [show (x.toNat * 256 + y.toNat) / 256 = x.toNat by omega, ofNat_toNat]
            have ey : UInt8.ofNat (x.toNat * 256 + y.toNat) = y := by
              apply UInt8.toNat_inj.1
              simp only [UInt8.toNat_ofNat']; omega
            rw [ex, ey]
            rfl
        · obtain rfl : s = 131 := UInt8.toNat_inj.1 hv
          rcases t with _ | ⟨x, _ | ⟨y, _ | ⟨z, t⟩⟩⟩
          · simp at h3
          · simp at h3
          · simp at h3
          have hb : beNat (((a :: 131 :: x :: y :: z :: t).take (2 + ((131 : UInt8).toNat - 128))).drop 2) = (x.toNat * 256 + y.toNat) * 256 + z.toNat := by
            show beNat [x, y, z] = _
            simp [beNat]
          rw [hb] at h
          by_cases h4 : (x.toNat * 256 + y.toNat) * 256 + z.toNat < leastF ((131 : UInt8).toNat - 128)
          · rw [if_pos h4] at h; simp at h
          · rw [if_neg h4] at h
            have h4' : 65536 ≤ (x.toNat * 256 + y.toNat) * 256 + z.toNat := by
              have : leastF ((131 : UInt8).toNat - 128) = 65536 := by decide
              omega
            obtain ⟨rfl, rfl, _⟩ := finF_ok _ _ _ _ _ (by omega) h
            have hx := x.toNat_lt
            have hy := y.toNat_lt
            have hz := z.toNat_lt
            have e1 : 2 + ((131 : UInt8).toNat - 128) = 5 := rfl
            rw [e1, show 5 + ((x.toNat * 256 + y.toNat) * 256 + z.toNat) - 5 = (x.toNat * 256 + y.toNat) * 256 + z.toNat by omega]
            refine ⟨by omega, ?_⟩
            unfold encLen
            rw [if_neg (by omega), if_neg (by omega), if_neg (by omega)]
            have ex : UInt8.ofNat (((x.toNat * 256 + y.toNat) * 256 + z.toNat) / 65536) = x := by
              rw [show ((x.toNat * 256 + y.toNat) * 256 + z.toNat) / 65536 = x.toNat by omega, ofNat_toNat]
            have ey : UInt8.ofNat (((x.toNat * 256 + y.toNat) * 256 + z.toNat) / 256) = y := by
              apply UInt8.toNat_inj.1
              simp only [UInt8.toNat_ofNat']; omega
            have ez : UInt8.ofNat ((x.toNat * 256 + y.toNat) * 256 + z.toNat) = z := by
              apply UInt8.toNat_inj.1
              simp only [UInt8.toNat_ofNat']; omega
            rw [ex, ey, ez]
            rfl
theorem takeF_inv (tag : UInt8) (m cont : List UInt8) (used : Nat) (h : takeF tag m = (cont, 0, used)) : cont.length < 16777216 ∧ used ≤ m.length ∧ m.take used = elem tag cont := by
  have hu := takeF_used _ _ _ _ _ h
  unfold takeF at h
  by_cases h0 : m = []
  · rw [if_pos h0] at h; simp at h
  rw [if_neg h0] at h
  by_cases h1 : m[0]?.getD 0 ≠ tag
  · rw [if_pos h1] at h; simp at h
  rw [if_neg h1] at h
  simp only at h
  by_cases h2 : (measureF m).2.2 ≠ 0
  · rw [if_pos h2] at h
    simp only [Prod.mk.injEq] at h
    exact absurd h.2.1 h2
  rw [if_neg h2] at h
  simp only [Prod.mk.injEq] at h
  obtain ⟨hc, _, rfl⟩ := h
  rcases m with _ | ⟨a, _ | ⟨s, t⟩⟩
  · exact absurd rfl h0
  · exact absurd (show (measureF [a]).2.2 ≠ 0 by unfold measureF; rw [if_pos (by simp)]; simp) h2
  have ha : a = tag := by
    have : ((a :: s :: t)[0]?.getD 0) = a := rfl
    rw [this] at h1
    exact Classical.byContradiction h1
  subst ha
  have hm : measureF (a :: s :: t) = ((measureF (a :: s :: t)).1, (measureF (a :: s :: t)).2.1, 0) := by
    have : (measureF (a :: s :: t)).2.2 = 0 := by simpa using h2
    rw [← this]
  obtain ⟨k1, k2, k3, k4⟩ := measure_inv a s t _ _ hm
  generalize hb : (measureF (a :: s :: t)).1 = b at *
  generalize he : (measureF (a :: s :: t)).2.1 = e at *
  have hl : cont.length = e - b := by
    rw [← hc]
    rw [List.length_drop, List.length_take]
    omega
  refine ⟨by omega, hu, ?_⟩
  rw [elem_shape _ _ (by omega), hl, ← List.cons_append, ← k4, ← hc]
  have e2 : (a :: s :: t).take b = ((a :: s :: t).take e).take b := by rw [List.take_take, Nat.min_eq_left k1]
  rw [e2, List.take_append_drop]
theorem readF_inv {α : Type} (tag : UInt8) (z : α) (ok : List UInt8 → Bool) (val : List UInt8 → α) (m : List UInt8) (v : α) (used : Nat) (h : readF tag z ok val m = (v, 0, used)) :
    ∃ cont, v = val cont ∧ ok cont = true ∧ cont.length < 16777216 ∧ used ≤ m.length ∧ m.take used = elem tag cont := by
  unfold readF at h
  by_cases h0 : (takeF tag m).2.1 ≠ 0
  · rw [if_pos h0] at h
    simp only [Prod.mk.injEq] at h
    exact absurd h.2.1 h0
  rw [if_neg h0] at h
  by_cases h1 : ok (takeF tag m).1 = true
  · rw [if_pos h1] at h
    simp only [Prod.mk.injEq] at h
    obtain ⟨rfl, _, rfl⟩ := h
    have ht : takeF tag m = ((takeF tag m).1, 0, (takeF tag m).2.2) := by
      have : (takeF tag m).2.1 = 0 := by simpa using h0
      rw [← this]
    obtain ⟨k1, k2, k3⟩ := takeF_inv _ _ _ _ ht
    exact ⟨_, rfl, h1, k1, k2, k3⟩
  · rw [if_neg h1] at h
    simp at h
theorem readInt_inv (m : List UInt8) (v : Int) (used : Nat) (h : readIntF m = (v, 0, used)) : used ≤ m.length ∧ m.take used = encInt v := by
  obtain ⟨cont, rfl, hok, _, hu, ht⟩ := readF_inv _ _ _ _ _ _ _ h
  unfold intOk at hok
  simp only [Bool.and_eq_true, beq_iff_eq] at hok
  exact ⟨hu, by rw [ht, hok.2]⟩
theorem readOctets_inv (m v : List UInt8) (used : Nat) (h : readOctetsF m = (v, 0, used)) : used ≤ m.length ∧ m.take used = encOctets v := by
  obtain ⟨cont, rfl, _, _, hu, ht⟩ := readF_inv _ _ _ _ _ _ _ h
  exact ⟨hu, ht⟩
theorem readString_inv (m v : List UInt8) (used : Nat) (h : readStringF m = (v, 0, used)) : used ≤ m.length ∧ m.take used = encString v := by
  obtain ⟨cont, rfl, _, _, hu, ht⟩ := readF_inv _ _ _ _ _ _ _ h
  exact ⟨hu, ht⟩
theorem readIn_inv (tag : UInt8) (m x : List UInt8) (used : Nat) (h : readInF tag m = (some x, 0, used)) : used ≤ m.length ∧ x.length < 16777216 ∧ m.take used = elem tag x := by
  obtain ⟨cont, hv, _, hl, hu, ht⟩ := readF_inv _ _ _ _ _ _ _ h
  injection hv with hv
  subst hv
  exact ⟨hu, hl, ht⟩
theorem byteAt_eq (v : Int) (j : Nat) (b : UInt8) (h : (v / 2 ^ (8 * j)) % 256 = (b.toNat : Int)) : byteAt v j = b := by
  apply UInt8.toNat_inj.1
  have := byteAt_toNat v j
  omega
theorem be4 (a b c d : UInt8) : beBytes (beNat [a, b, c, d] : Int) 4 = [a, b, c, d] := by
  have ha := a.toNat_lt; have hb := b.toNat_lt; have hc := c.toNat_lt; have hd := d.toNat_lt
  have hv : (beNat [a, b, c, d] : Int) = ((a.toNat * 256 + b.toNat) * 256 + c.toNat) * 256 + d.toNat := by simp [beNat]
  rw [hv]
  simp only [beBytes_succ]
  rw [byteAt_eq _ 3 a (by simp; omega), byteAt_eq _ 2 b (by simp; omega), byteAt_eq _ 1 c (by simp; omega), byteAt_eq _ 0 d (by simp; omega)]
  rfl
theorem be6 (a b c d e f : UInt8) : beBytes (beNat [a, b, c, d, e, f] : Int) 6 = [a, b, c, d, e, f] := by
  have ha := a.toNat_lt; have hb := b.toNat_lt; have hc := c.toNat_lt; have hd := d.toNat_lt; have he := e.toNat_lt; have hf := f.toNat_lt
  have hv : (beNat [a, b, c, d, e, f] : Int) = ((((a.toNat * 256 + b.toNat) * 256 + c.toNat) * 256 + d.toNat) * 256 + e.toNat) * 256 + f.toNat := by simp [beNat]
  rw [hv]
  simp only [beBytes_succ]
  rw [byteAt_eq _ 5 a (by simp; omega), byteAt_eq _ 4 b (by simp; omega), byteAt_eq _ 3 c (by simp; omega), byteAt_eq _ 2 d (by simp; omega), byteAt_eq _ 1 e (by simp; omega), byteAt_eq _ 0 f (by simp; omega)]
  rfl
theorem len4 (l : List UInt8) (h : l.length = 4) : ∃ a b c d, l = [a, b, c, d] := by
  match l, h with
  | [a, b, c, d], _ => exact ⟨a, b, c, d, rfl⟩
theorem len6 (l : List UInt8) (h : l.length = 6) : ∃ a b c d e f, l = [a, b, c, d, e, f] := by
  match l, h with
  | [a, b, c, d, e, f], _ => exact ⟨a, b, c, d, e, f, rfl⟩
theorem readTime_inv (m : List UInt8) (v : Int) (used : Nat) (h : readTimeF m = (v, 0, used)) : used ≤ m.length ∧ m.take used = encTime v ∧ timeOk v = true := by
  obtain ⟨cont, rfl, hok, _, hu, ht⟩ := readF_inv _ _ _ _ _ _ _ h
  unfold tmOk at hok
  simp only [Bool.and_eq_true, decide_eq_true_eq] at hok
  obtain ⟨a, b, c, d, e, f, rfl⟩ := len6 cont hok.1
  have hto : timeOk (tmVal [a, b, c, d, e, f]) = true := by
    unfold timeOk tmVal
    simp only [Bool.and_eq_true, decide_eq_true_eq]
    exact ⟨by omega, hok.2⟩
  refine ⟨hu, ?_, hto⟩
  rw [ht]
  unfold encTime
  rw [if_pos hto]
  unfold tmVal
  rw [be6]
theorem readBits_inv (m : List UInt8) (v : Int) (used : Nat) (h : readBitsF m = (v, 0, used)) : used ≤ m.length ∧ m.take used = encBits v := by
  obtain ⟨cont, rfl, hok, _, hu, ht⟩ := readF_inv _ _ _ _ _ _ _ h
  unfold bitsOk at hok
  simp only [Bool.and_eq_true, decide_eq_true_eq, beq_iff_eq] at hok
  match cont, hok with
  | x :: l, hok =>
    have h4 : l.length = 4 := by simpa using hok.1
    obtain ⟨a, b, c, d, rfl⟩ := len4 l h4
    obtain rfl : x = 0 := by simpa using hok.2
    refine ⟨hu, ?_⟩
    rw [ht]
    unfold encBits bitsVal
    rw [show ([0, a, b, c, d] : List UInt8).drop 1 = [a, b, c, d] from rfl, be4]

/- Forward. -/
theorem szF_fits (v : Int) : ∀ (f n : Nat), fits v (n + f) = true → fits v (szF f v n) = true
  | 0, n, h => by simpa [szF] using h
  | f + 1, n, h => by
    unfold szF
    split
    · assumption
    · exact szF_fits v f (n + 1) (by rw [show n + 1 + f = n + (f + 1) by omega]; exact h)
theorem intSize_fits (v : Int) (h : inRange v = true) : fits v (intSize v) = true := szF_fits v 7 1 (fits_8 v h)
theorem pow8 (j : Nat) : (2 : Int) ^ (8 * j) = 256 ^ j := by rw [Int.pow_mul]; rfl
theorem sInt_be (v : Int) (n : Nat) (hn : 1 ≤ n) (h : fits v n = true) : ∀ k, k < n → sInt ((beBytes v n).take (k + 1)) = v / 256 ^ (n - 1 - k)
  | 0, hk => by
    rw [sInt_one _ (by rw [beBytes_length]; omega), beBytes_get v n 0 hk]
    have hb := byteAt_toNat v (n - 1 - 0)
    rw [pow8] at hb
    rw [fits_iff] at h
    have hlt := (byteAt v (n - 1 - 0)).toNat_lt
    rw [Nat.sub_zero] at *
    generalize v / 256 ^ (n - 1) = q at *
    unfold s8
    split <;> omega
  | k + 1, hk => by
    have ih := sInt_be v n hn h k (by omega)
    rw [sInt_succ _ _ (by rw [beBytes_length]; omega), ih, beBytes_get v n (k + 1) hk, byteAt_toNat, pow8]
    have hd := div_step v (n - 1 - k) (by omega)
    rw [show n - 1 - k - 1 = n - 1 - (k + 1) by omega, show n - 1 - k + 1 - 1 = n - 1 - k by omega] at hd
    rw [← hd]
    omega
theorem sInt_all (v : Int) (n : Nat) (hn : 1 ≤ n) (h : fits v n = true) : sInt (beBytes v n) = v := by
  have h0 := sInt_be v n hn h (n - 1) (by omega)
  rw [show n - 1 + 1 = n by omega, List.take_of_length_le (by rw [beBytes_length]; omega), show n - 1 - (n - 1) = 0 by omega] at h0
  simpa using h0
theorem readInt_enc (v : Int) (h : inRange v = true) (rest : List UInt8) : readIntF (encInt v ++ rest) = (v, 0, (encInt v).length) := by
  have hs := sInt_all v (intSize v) (intSize_ge v) (intSize_fits v h)
  have he : encInt v = elem 2 (beBytes v (intSize v)) := by unfold encInt; rw [if_pos h]
  have h8 := intSize_le v
  have h1 := intSize_ge v
  rw [he]
  have := readF_elem 2 (0 : Int) intOk sInt (beBytes v (intSize v)) rest (by rw [beBytes_length]; omega) (by
    unfold intOk
    rw [hs, he, beBytes_length]
    simp [h1, h8])
  rw [hs] at this
  exact this
theorem beNat6 (t : Int) (h0 : 0 ≤ t) (h1 : t ≤ 1099511627776) : (beNat (beBytes t 6) : Int) = t := by
  have e : beBytes t 6 = [byteAt t 5, byteAt t 4, byteAt t 3, byteAt t 2, byteAt t 1, byteAt t 0] := rfl
  rw [e]
  have b5 := byteAt_toNat t 5; have b4 := byteAt_toNat t 4; have b3 := byteAt_toNat t 3; have b2 := byteAt_toNat t 2; have b1 := byteAt_toNat t 1; have b0 := byteAt_toNat t 0
  simp only [beNat, List.foldl_cons, List.foldl_nil]
  simp at b5 b4 b3 b2 b1 b0
  omega
theorem beNat4 (t : Int) (h0 : 0 ≤ t) (h1 : t < 4294967296) : (beNat (beBytes t 4) : Int) = t := by
  have e : beBytes t 4 = [byteAt t 3, byteAt t 2, byteAt t 1, byteAt t 0] := rfl
  rw [e]
  have b3 := byteAt_toNat t 3; have b2 := byteAt_toNat t 2; have b1 := byteAt_toNat t 1; have b0 := byteAt_toNat t 0
  simp only [beNat, List.foldl_cons, List.foldl_nil]
  simp at b3 b2 b1 b0
  omega
theorem readTime_enc (t : Int) (h : timeOk t = true) (rest : List UInt8) : readTimeF (encTime t ++ rest) = (t, 0, (encTime t).length) := by
  have h' := h
  unfold timeOk at h'
  simp only [Bool.and_eq_true, decide_eq_true_eq] at h'
  have hb := beNat6 t h'.1 h'.2
  have he : encTime t = elem 24 (beBytes t 6) := by unfold encTime; rw [if_pos h]
  rw [he]
  have := readF_elem 24 (0 : Int) tmOk tmVal (beBytes t 6) rest (by rw [beBytes_length]; omega) (by
    unfold tmOk
    rw [hb, beBytes_length]
    simp [h'.2])
  unfold tmVal at this
  rw [hb] at this
  exact this
theorem readBits_enc (f : Int) (h0 : 0 ≤ f) (h1 : f < 4294967296) (rest : List UInt8) : readBitsF (encBits f ++ rest) = (f, 0, (encBits f).length) := by
  have hb := beNat4 f h0 h1
  unfold encBits
  have := readF_elem 3 (0 : Int) bitsOk bitsVal (0 :: beBytes f 4) rest (by simp [beBytes_length]) (by
    unfold bitsOk
    simp [beBytes_length])
  unfold bitsVal at this
  rw [show (0 :: beBytes f 4 : List UInt8).drop 1 = beBytes f 4 from rfl, hb] at this
  exact this
theorem readBool_enc (b : Bool) (rest : List UInt8) : readBoolF (encBool b ++ rest) = (b, 0, (encBool b).length) := by
  unfold encBool
  have := readF_elem 1 false boolOk boolVal [if b then 255 else 0] rest (by simp) (by cases b <;> rfl)
  have hv : boolVal [if b then 255 else 0] = b := by cases b <;> rfl
  rw [hv] at this
  exact this
theorem readString_enc (L rest : List UInt8) (h : L.length < 16777216) : readStringF (encString L ++ rest) = (L, 0, (encString L).length) := readF_elem _ _ _ _ _ _ h rfl
theorem readIn_enc (tag : UInt8) (L rest : List UInt8) (h : L.length < 16777216) : readInF tag (elem tag L ++ rest) = (some L, 0, (elem tag L).length) := readF_elem _ _ _ _ _ _ h rfl
theorem encTag_shape (n : Nat) (l : List UInt8) (hn : n ≤ 30) (h : l ≠ []) : encTag n l = elem (tagB n) l := by
  unfold encTag encWrap tagB
  rw [if_pos ⟨by omega, by omega, h⟩]
  congr 2
theorem tagged_enc (n : Nat) (l rest : List UInt8) (hn : n ≤ 30) (h : l ≠ []) (hl : l.length < 16777216) : taggedF n (encTag n l ++ rest) = (some l, true, 0, (encTag n l).length) := by
  rw [encTag_shape n l hn h]
  unfold taggedF
  rw [readIn_enc _ _ _ hl, if_neg]
  · simp
  · rw [elem_shape _ _ hl]; simp
end Go.Proofs.YthpfomjibfbiiaaGreatDoor
namespace Go.Proofs.YthpfomjibfbiiaaGreatDoor

theorem readF_nil {α : Type} (tag : UInt8) (z : α) (ok : List UInt8 → Bool) (val : List UInt8 → α) : readF tag z ok val [] = (z, 4, 0) := by
  unfold readF takeF
  simp
/-- The ways of a field. -/
theorem field_cases {α : Type} (z : α) (rd : List UInt8 → α × Nat × Nat) (n : Nat) (m : List UInt8) :
    (taggedF n m = (none, false, 0, 0) ∧ fieldF z rd n m = (z, if m = [] then 4 else 6, 0)) ∨
    (∃ er, er ≠ 0 ∧ taggedF n m = (none, false, er, 0) ∧ fieldF z rd n m = (z, er, 0)) ∨
    (∃ x used, taggedF n m = (some x, true, 0, used) ∧ x.length ≤ m.length ∧ readInF (tagB n) m = (some x, 0, used) ∧ m ≠ [] ∧
      (((rd x).2.1 ≠ 0 ∧ fieldF z rd n m = (z, (rd x).2.1, 0)) ∨ ((rd x).2.1 = 0 ∧ (rd x).2.2 < x.length ∧ fieldF z rd n m = (z, 6, 0)) ∨ ((rd x).2.1 = 0 ∧ ¬ (rd x).2.2 < x.length ∧ fieldF z rd n m = ((rd x).1, 0, used)))) := by
  rcases tagged_cases n m with ⟨h, _⟩ | ⟨⟨hm, _⟩, ⟨x, used, h, hr, hl⟩ | ⟨er, he, h, _⟩⟩
  · left
    refine ⟨h, ?_⟩
    unfold fieldF
    rw [h]
    simp
  · right; right
    refine ⟨x, used, h, hl, hr, hm, ?_⟩
    unfold fieldF
    rw [h]
    simp only [Option.getD_some, ne_eq, not_true_eq_false, if_false, Bool.true_eq_false]
    by_cases h1 : (rd x).2.1 = 0
    · right
      rw [if_neg (by simpa using h1)]
      by_cases h2 : (rd x).2.2 < x.length
      · left; rw [if_pos h2]; exact ⟨h1, h2, rfl⟩
      · right; rw [if_neg h2]; exact ⟨h1, h2, rfl⟩
    · left
      rw [if_pos (by simpa using h1)]
      exact ⟨h1, rfl⟩
  · right; left
    refine ⟨er, he, h, ?_⟩
    unfold fieldF
    rw [h]
    simp [he]
theorem field_enc {α : Type} (z : α) (rd : List UInt8 → α × Nat × Nat) (n : Nat) (x rest : List UInt8) (v : α) (hn : n ≤ 30) (hne : x ≠ []) (hl : x.length < 16777216) (hrd : rd x = (v, 0, x.length)) :
    fieldF z rd n (encTag n x ++ rest) = (v, 0, (encTag n x).length) := by
  unfold fieldF
  rw [tagged_enc n x rest hn hne hl]
  simp only [Option.getD_some, hrd]
  simp
theorem field_inv {α : Type} (z : α) (rd : List UInt8 → α × Nat × Nat) (enc : α → List UInt8) (hinv : ∀ m v u, rd m = (v, 0, u) → u ≤ m.length ∧ m.take u = enc v) (hnil : (rd []).2.1 ≠ 0) (n : Nat) (hn : n ≤ 30) (m : List UInt8) (v : α) (used : Nat) (h : fieldF z rd n m = (v, 0, used)) :
    used ≤ m.length ∧ m.take used = encTag n (enc v) ∧ enc v ≠ [] ∧ (enc v).length < 16777216 := by
  rcases field_cases z rd n m with ⟨_, he⟩ | ⟨er, hne, _, he⟩ | ⟨x, u, ht, hl, hr, _, ⟨h1, he⟩ | ⟨h1, h2, he⟩ | ⟨h1, h2, he⟩⟩
  · rw [h] at he
    simp only [Prod.mk.injEq] at he
    split at he <;> simp at he
  · rw [h] at he
    simp only [Prod.mk.injEq] at he
    exact absurd he.2.1.symm hne
  · rw [h] at he
    simp only [Prod.mk.injEq] at he
    exact absurd he.2.1.symm h1
  · rw [h] at he
    simp at he
  · rw [h] at he
    simp only [Prod.mk.injEq] at he
    obtain ⟨rfl, _, rfl⟩ := he
    have hrd : rd x = ((rd x).1, 0, (rd x).2.2) := by rw [← h1]
    obtain ⟨k1, k2⟩ := hinv _ _ _ hrd
    have hx : x.take (rd x).2.2 = x := List.take_of_length_le (by omega)
    rw [hx] at k2
    obtain ⟨j1, j2, j3⟩ := readIn_inv _ _ _ _ hr
    have hxe : x ≠ [] := by
      rintro rfl
      exact hnil h1
    rw [← k2, encTag_shape n x hn hxe]
    exact ⟨j1, j3, hxe, j2⟩
theorem triple_eta {α : Type} (t : α × Nat × Nat) (h : ¬ t.2.1 ≠ 0) : t = (t.1, 0, t.2.2) := by
  obtain ⟨a, b, c⟩ := t
  simp only [ne_eq, Decidable.not_not] at h
  subst h
  rfl
theorem take_add {α : Type} (l : List α) (i j : Nat) : l.take (i + j) = l.take i ++ (l.drop i).take j := by
  rw [List.take_add]

theorem tripleIn_inv (x : List UInt8) (p v : Int) (b : List UInt8) (h : tripleIn x = ((p, v, b), 0)) : x = encTag 0 (encInt p) ++ (encTag 1 (encInt v) ++ encTag 2 (encOctets b)) ∧ encInt p ≠ [] ∧ encInt v ≠ [] ∧ encOctets b ≠ [] ∧ (encOctets b).length < 16777216 := by
  unfold tripleIn at h
  simp only at h
  by_cases h1 : (fieldF 0 readIntF 0 x).2.1 ≠ 0
  · rw [if_pos h1] at h; simp only [Prod.mk.injEq] at h; exact absurd h.2 h1
  rw [if_neg h1] at h
  by_cases h2 : (fieldF 0 readIntF 1 (x.drop (fieldF 0 readIntF 0 x).2.2)).2.1 ≠ 0
  · rw [if_pos h2] at h; simp only [Prod.mk.injEq] at h; exact absurd h.2 h2
  rw [if_neg h2] at h
  by_cases h3 : (fieldF [] readOctetsF 2 (x.drop ((fieldF 0 readIntF 0 x).2.2 + (fieldF 0 readIntF 1 (x.drop (fieldF 0 readIntF 0 x).2.2)).2.2))).2.1 ≠ 0
  · rw [if_pos h3] at h; simp only [Prod.mk.injEq] at h; exact absurd h.2 h3
  rw [if_neg h3] at h
  have e1 : fieldF 0 readIntF 0 x = ((fieldF 0 readIntF 0 x).1, 0, (fieldF 0 readIntF 0 x).2.2) := triple_eta _ h1
  generalize hp : (fieldF 0 readIntF 0 x).1 = p' at *
  generalize hu1 : (fieldF 0 readIntF 0 x).2.2 = u1 at *
  have e2 : fieldF 0 readIntF 1 (x.drop u1) = ((fieldF 0 readIntF 1 (x.drop u1)).1, 0, (fieldF 0 readIntF 1 (x.drop u1)).2.2) := triple_eta _ h2
  generalize hp2 : (fieldF 0 readIntF 1 (x.drop u1)).1 = v' at *
  generalize hu2 : (fieldF 0 readIntF 1 (x.drop u1)).2.2 = u2 at *
  have e3 : fieldF [] readOctetsF 2 (x.drop (u1 + u2)) = ((fieldF [] readOctetsF 2 (x.drop (u1 + u2))).1, 0, (fieldF [] readOctetsF 2 (x.drop (u1 + u2))).2.2) := triple_eta _ h3
  generalize hp3 : (fieldF [] readOctetsF 2 (x.drop (u1 + u2))).1 = b' at *
  generalize hu3 : (fieldF [] readOctetsF 2 (x.drop (u1 + u2))).2.2 = u3 at *
  have i1 := field_inv 0 readIntF encInt (fun m v u h => readInt_inv m v u h) (by unfold readIntF; rw [readF_nil]; simp) 0 (by omega) x p' u1 e1
  have i2 := field_inv 0 readIntF encInt (fun m v u h => readInt_inv m v u h) (by unfold readIntF; rw [readF_nil]; simp) 1 (by omega) (x.drop u1) v' u2 e2
  have i3 := field_inv [] readOctetsF encOctets (fun m v u h => readOctets_inv m v u h) (by unfold readOctetsF; rw [readF_nil]; simp) 2 (by omega) (x.drop (u1 + u2)) b' u3 e3
  by_cases h4 : u1 + u2 + u3 < x.length
  · rw [if_pos h4] at h; simp at h
  rw [if_neg h4] at h
  simp only [Prod.mk.injEq, and_true] at h
  obtain ⟨rfl, rfl, rfl⟩ := h
  refine ⟨?_, i1.2.2.1, i2.2.2.1, i3.2.2.1, i3.2.2.2⟩
  have hx : x = x.take (u1 + (u2 + u3)) := (List.take_of_length_le (by omega)).symm
  rw [hx, take_add, take_add, i1.2.1, i2.2.1, List.drop_drop, i3.2.1]
theorem tripleRd_inv (m : List UInt8) (p v : Int) (b : List UInt8) (used : Nat) (hm : m.length ≤ 900) (h : tripleRd m = ((p, v, b), 0, used)) : used ≤ m.length ∧ m.take used = tripleF p v b ∧ tripleF p v b ≠ [] := by
  unfold tripleRd at h
  rcases readIn_cases 48 m with ⟨x, hx, hl⟩ | ⟨er, he, hx⟩
  · rw [hx] at h
    simp only [Option.getD_some, ne_eq, not_true_eq_false, if_false] at h
    by_cases h1 : (tripleIn x).2 ≠ 0
    · rw [if_pos h1] at h; simp only [Prod.mk.injEq] at h; exact absurd h.2.1 h1
    rw [if_neg h1] at h
    simp only [Prod.mk.injEq] at h
    obtain ⟨hv, _, rfl⟩ := h
    have ht : tripleIn x = ((p, v, b), 0) := by
      have h0 : (tripleIn x).2 = 0 := by simpa using h1
      rw [← hv, ← h0]
    obtain ⟨hx2, hp, hv2, h5, h7⟩ := tripleIn_inv x p v b ht
    obtain ⟨j1, j2, j3⟩ := readIn_inv _ _ _ _ hx
    have hlx : x.length = (encTag 0 (encInt p)).length + ((encTag 1 (encInt v)).length + (encTag 2 (encOctets b)).length) := by rw [hx2]; simp
    have lb : ∀ (n : Nat) (l : List UInt8), n ≤ 30 → l.length < 16777216 → l ≠ [] → l.length ≤ (encTag n l).length := by
      intro n l hn hl hne
      rw [encTag_shape n l hn hne, elem_shape _ _ hl]
      simp; omega
    have hI : ∀ v, (encInt v).length < 1000 := by
      intro v
      unfold encInt
      split
      · have := elem_le 2 (beBytes v (intSize v))
        rw [beBytes_length] at this
        have := intSize_le v
        omega
      · simp
    have hbl : b.length ≤ 1000 := by
      have hb : b.length < 16777216 := by
        apply Classical.byContradiction
        intro hb
        apply h5
        unfold encOctets elem
        rw [if_neg hb]
      have h6 : b.length ≤ (encOctets b).length := by unfold encOctets; rw [elem_shape _ _ hb]; simp; omega
      have := lb 2 (encOctets b) (by omega) h7 h5
      omega
    have e3 := tripleF_eq p v b (by have := hI p; omega) (by have := hI v; omega) hbl
    rw [e3]
    unfold threeF
    rw [if_neg (by intro h; rcases h with h | h <;> contradiction)]
    refine ⟨j1, ?_, ?_⟩
    · rw [j3, hx2]
      unfold encSeq
      simp
    · unfold encSeq
      apply elem_ne
      simp
      have := encTag_le 0 (encInt p); have := encTag_le 1 (encInt v); have := encTag_le 2 (encOctets b)
      omega
  · rw [hx] at h
    simp only at h
    rw [if_pos he] at h
    simp only [Prod.mk.injEq] at h
    exact absurd h.2.1 he
end Go.Proofs.YthpfomjibfbiiaaGreatDoor
namespace Go.Proofs.YthpfomjibfbiiaaGreatDoor

theorem encInt_lt (v : Int) : (encInt v).length < 1000 := by
  unfold encInt
  split
  · have := elem_le 2 (beBytes v (intSize v))
    rw [beBytes_length] at this
    have := intSize_le v
    omega
  · simp
theorem encTag_ge (n : Nat) (l : List UInt8) (hn : n ≤ 30) (hl : l.length < 16777216) (hne : l ≠ []) : l.length ≤ (encTag n l).length := by
  rw [encTag_shape n l hn hne, elem_shape _ _ hl]
  simp; omega
theorem octets_le (b : List UInt8) (h5 : encOctets b ≠ []) : b.length < 16777216 ∧ b.length ≤ (encOctets b).length := by
  have hb : b.length < 16777216 := by
    apply Classical.byContradiction
    intro hb
    apply h5
    unfold encOctets elem
    rw [if_neg hb]
  exact ⟨hb, by unfold encOctets; rw [elem_shape _ _ hb]; simp; omega⟩
theorem pair_inv (x : List UInt8) (k : Int) (b : List UInt8) (u0 u1 : Nat) (h0 : fieldF 0 readIntF 0 x = (k, 0, u0)) (h1 : fieldF [] readOctetsF 1 (x.drop u0) = (b, 0, u1)) (h2 : ¬ u0 + u1 < x.length) (hx : x.length ≤ 900) : elem 48 x = pairF k b ∧ pairF k b ≠ [] := by
  have i0 := field_inv 0 readIntF encInt (fun m v u h => readInt_inv m v u h) (by unfold readIntF; rw [readF_nil]; simp) 0 (by omega) x k u0 h0
  have i1 := field_inv [] readOctetsF encOctets (fun m v u h => readOctets_inv m v u h) (by unfold readOctetsF; rw [readF_nil]; simp) 1 (by omega) (x.drop u0) b u1 h1
  have hx2 : x = encTag 0 (encInt k) ++ encTag 1 (encOctets b) := by
    have hx : x = x.take (u0 + u1) := (List.take_of_length_le (by omega)).symm
    rw [hx, take_add, i0.2.1, i1.2.1]
  have hlx : x.length = (encTag 0 (encInt k)).length + (encTag 1 (encOctets b)).length := by rw [hx2]; simp
  have l1 := encTag_ge 1 (encOctets b) (by omega) i1.2.2.2 i1.2.2.1
  have l2 := octets_le b i1.2.2.1
  have l3 := encInt_lt k
  have e := pairF_eq k b (by omega) (by omega)
  rw [if_neg i0.2.2.1] at e
  rw [e]
  refine ⟨?_, twoF_ne k b (by omega) (by omega)⟩
  unfold twoF encSeq
  rw [hx2]
  simp
theorem data_inv (x : List UInt8) (L : List (Int × List UInt8)) (h : x = (L.map fun q => pairF q.1 q.2).flatten) (hn : ∀ q ∈ L, pairF q.1 q.2 ≠ []) (hl : L.length ≤ 16) : elem 48 x = dataF L := by
  unfold dataF wholeF
  rw [if_neg (by omega), if_neg]
  · unfold encSeq
    rw [h]
  · rw [List.mem_map]
    rintro ⟨q, hq, he⟩
    exact hn q hq he
theorem readIn_pos (tag : UInt8) (m x : List UInt8) (used : Nat) (h : readInF tag m = (some x, 0, used)) : 0 < used := by
  obtain ⟨j1, j2, j3⟩ := readIn_inv _ _ _ _ h
  rcases Nat.eq_zero_or_pos used with h0 | h0
  · subst h0
    rw [elem_shape _ _ j2] at j3
    simp at j3
  · exact h0
end Go.Proofs.YthpfomjibfbiiaaGreatDoor
namespace Go.Proofs.YthpfomjibfbiiaaGreatDoor

def flatP (L : List (Int × List UInt8)) : List UInt8 := (L.map fun q => pairF q.1 q.2).flatten
theorem flatP_nil : flatP [] = [] := rfl
theorem flatP_cons (q : Int × List UInt8) (L : List (Int × List UInt8)) : flatP (q :: L) = pairF q.1 q.2 ++ flatP L := by simp [flatP]
theorem flatP_mem {L : List (Int × List UInt8)} {q : Int × List UInt8} (h : q ∈ L) : (pairF q.1 q.2).length ≤ (flatP L).length := by
  induction L with
  | nil => cases h
  | cons x t ih =>
    rw [flatP_cons, List.length_append]
    rcases List.mem_cons.1 h with rfl | h
    · omega
    · have := ih h; omega
theorem elem_len (t : UInt8) (l : List UInt8) (h : elem t l ≠ []) : l.length < 16777216 ∧ l.length < (elem t l).length := by
  have h1 : l.length < 16777216 := by
    apply Classical.byContradiction
    intro hn
    apply h
    unfold elem
    rw [if_neg hn]
  refine ⟨h1, ?_⟩
  rw [elem_shape t l h1]
  simp
  omega
/-- What is written of data that can be written. -/
theorem dataF_some {L : List (Int × List UInt8)} (h : dataF L ≠ []) : L.length ≤ 16 ∧ (∀ q ∈ L, pairF q.1 q.2 ≠ []) ∧ dataF L = elem 48 (flatP L) ∧ (flatP L).length < 16777216 ∧ (flatP L).length < (dataF L).length := by
  have h16 : ¬ 16 < L.length := by
    intro h1
    apply h
    unfold dataF
    rw [if_pos h1]
  have hw : dataF L = wholeF (L.map fun q => pairF q.1 q.2) := by unfold dataF; rw [if_neg h16]
  have hn : [] ∉ L.map fun q => pairF q.1 q.2 := by
    intro h1
    apply h
    rw [hw]
    unfold wholeF
    rw [if_pos h1]
  have he : dataF L = elem 48 (flatP L) := by
    rw [hw]
    unfold wholeF encSeq
    rw [if_neg hn]
    rfl
  rw [he] at h ⊢
  have := elem_len _ _ h
  exact ⟨by omega, fun q hq e => hn (List.mem_map.2 ⟨q, hq, e⟩), rfl, this.1, this.2⟩
theorem dataF_ne {L : List (Int × List UInt8)} (h1 : L.length ≤ 16) (h2 : ∀ q ∈ L, pairF q.1 q.2 ≠ []) (h3 : (flatP L).length < 16777216) : dataF L = elem 48 (flatP L) ∧ dataF L ≠ [] := by
  have e : dataF L = elem 48 (flatP L) := by
    unfold dataF wholeF
    rw [if_neg (by omega), if_neg]
    · rfl
    · intro h
      obtain ⟨q, hq, he⟩ := List.mem_map.1 h
      exact h2 q hq he
  exact ⟨e, by rw [e]; exact elem_ne _ _ h3⟩
/-- A pair that can be written is read again. -/
theorem pair_enc (k : Int) (b : List UInt8) (h : pairF k b ≠ []) (hb : (pairF k b).length ≤ 900) : ∃ (y : List UInt8) (u0 u1 : Nat), pairF k b = elem 48 y ∧ y.length < 16777216 ∧ y.length < (pairF k b).length ∧
    fieldF 0 readIntF 0 y = (k, 0, u0) ∧ fieldF [] readOctetsF 1 (y.drop u0) = (b, 0, u1) ∧ ¬ u0 + u1 < y.length := by
  have li := encInt_lt k
  -- the bytes are few
  have hbl : b.length ≤ 1000 := by
    apply Classical.byContradiction
    intro hbig
    unfold pairF at h hb
    have e : tags [encInt k, encOctets b] [encInt k, encOctets b].length = [encTag 0 (encInt k), encTag 1 (encOctets b)] := rfl
    unfold fieldsF at h hb
    rw [e] at h hb
    unfold wholeF at h hb
    split at h
    · exact h rfl
    · next hm =>
      rw [if_neg hm] at hb
      unfold encSeq at h hb
      have h1 := elem_len _ _ h
      have ho : encTag 1 (encOctets b) ≠ [] := fun e => hm (by rw [e]; simp)
      have hoo : encOctets b ≠ [] := fun e => ho (by rw [e, encTag_nil])
      have h2 := octets_le b hoo
      have h3 : (encTag 1 (encOctets b)).length ≤ ([encTag 0 (encInt k), encTag 1 (encOctets b)] : List (List UInt8)).flatten.length := by simp
      have h4 : encOctets b = elem 4 b := rfl
      have h5 := elem_le 4 b
      have h6 : (encOctets b).length ≤ (encTag 1 (encOctets b)).length := by
        rw [encTag_shape 1 (encOctets b) (by omega) hoo]
        have := elem_len (tagB 1) (encOctets b) (by rw [← encTag_shape 1 (encOctets b) (by omega) hoo]; exact ho)
        omega
      omega
  have e := pairF_eq k b (by omega) hbl
  have hk : encInt k ≠ [] := by
    intro h0
    rw [if_pos h0] at e
    exact h e
  have hr : inRange k = true := by
    cases hr : inRange k with
    | true => rfl
    | false =>
      exfalso
      apply hk
      unfold encInt
      rw [hr]; rfl
  rw [if_neg hk] at e
  have no : encOctets b ≠ [] := elem_ne 4 b (by omega)
  have lo : (encOctets b).length ≤ 1005 := by have := elem_le 4 b; unfold encOctets; omega
  have t0 := encTag_le 0 (encInt k); have t1 := encTag_le 1 (encOctets b)
  have hy : pairF k b = elem 48 (encTag 0 (encInt k) ++ encTag 1 (encOctets b)) := by
    rw [e]
    unfold twoF encSeq
    simp
  have hyl : (encTag 0 (encInt k) ++ encTag 1 (encOctets b)).length < 16777216 := by simp only [List.length_append]; omega
  have f0 := field_enc (0 : Int) readIntF 0 (encInt k) (encTag 1 (encOctets b)) k (by omega) hk (by omega) (by have := readInt_enc k hr []; rwa [List.append_nil] at this)
  have f1 := field_enc ([] : List UInt8) readOctetsF 1 (encOctets b) [] b (by omega) no (by omega) (by have := readOctets_enc b [] (by omega); rwa [List.append_nil] at this)
  rw [List.append_nil] at f1
  refine ⟨_, _, _, hy, hyl, ?_, f0, by rw [List.drop_left]; exact f1, by simp only [List.length_append]; omega⟩
  rw [hy] at h ⊢
  exact (elem_len _ _ h).2
end Go.Proofs.YthpfomjibfbiiaaGreatDoor
