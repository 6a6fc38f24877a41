/- Texts laid together (wip/tools/automerge.py): Der10, Pure5, Der11, Der12, Pure6, Pure7, Pure8. -/
import Derived.Test.YthpfomjibfbiiaaGreatDoorDer9
import Derived.Test.YthpfomjibfbiiaaGreatDoorMg33
namespace Go.Proofs.YthpfomjibfbiiaaGreatDoor
open Go Go.RowKit

theorem intClo_says (cont : List UInt8) (B : Nat) : CloSays Tryz.prog 94 cont (intOk cont) (fun v _ => v = .int .i64 (sInt cont)) B := by
  intro A c w1 _ hb
  refine (IntClo_at A c cont w1 hb).mono ?_
  rintro e w' ⟨⟨v, rfl, hv⟩, hx⟩
  exact ⟨⟨_, rfl, fun h => by rw [hv h]⟩, hx⟩

set_option maxRecDepth 100000 in
theorem RdInteger_at (g : Nat) (l : List UInt8) (k : Nat) (m : List UInt8) (hm : l.drop k = m) (v : Int) (er used : Nat) (hr : readIntF m = (v, er, used)) (w : World) (h : RD 72 w g l k) :
    Calls Tryz.prog 68 #[.pointer (some ⟨g, 0, none⟩)] w fun e w' => e = .returned (.tuple #[.int .i64 v, .int .i64 (er : Int)]) ∧ RD 72 w' g l (k + used) ∧ w.grownBy w' (some g) := by
  have hrd := read_int_at g l k 2 2 rfl m hm (takeF 2 m).1 (takeF 2 m).2.1 (takeF 2 m).2.2 rfl _ _ w (intClo_says _ _) h
  have HRD := Lib.hid hrd; have HR := Lib.hid hr
  clear hrd hr hm
  go_enter Tryz.func68, Tryz.ntmps68
  go_wp2_with fail
  refine HRD.out.mono ?_
  have hr := HR.out
  unfold readIntF readF at hr
  rintro e w1 ⟨hg, ⟨her, rfl, hr1⟩ | ⟨her, hok, rfl, hr1⟩ | ⟨her, hok, v', rfl, hv, hr1⟩⟩
  · rw [if_pos her] at hr
    simp only [Prod.mk.injEq] at hr
    obtain ⟨rfl, rfl, rfl⟩ := hr
    go_wp2_with fail
    go_ret2
    exact ⟨rfl, hr1, hg⟩
  · rw [if_neg (by omega), if_neg (by rw [hok]; simp)] at hr
    simp only [Prod.mk.injEq] at hr
    obtain ⟨rfl, rfl, rfl⟩ := hr
    go_wp2_with fail
    go_ret2
    exact ⟨rfl, hr1, hg⟩
  · rw [if_neg (by omega), if_pos hok] at hr
    simp only [Prod.mk.injEq] at hr
    obtain ⟨rfl, rfl, rfl⟩ := hr
    subst hv
    go_wp2_with fail
    go_ret2
    exact ⟨rfl, hr1, hg⟩
#print axioms RdInteger_at
end Go.Proofs.YthpfomjibfbiiaaGreatDoor
namespace Go.Proofs.YthpfomjibfbiiaaGreatDoor
def boolOk (l : List UInt8) : Bool := decide (l.length = 1) && (l[0]?.getD 0 == 255 || l[0]?.getD 0 == 0)
def boolVal (l : List UInt8) : Bool := l[0]?.getD 0 == 255
def bitsOk (l : List UInt8) : Bool := decide (l.length = 5) && l[0]?.getD 0 == 0
def bitsVal (l : List UInt8) : Int := (beNat (l.drop 1) : Int)
def tmOk (l : List UInt8) : Bool := decide (l.length = 6) && decide ((beNat l : Int) ≤ 1099511627776)
def tmVal (l : List UInt8) : Int := (beNat l : Int)
def readBoolF : List UInt8 → Bool × Nat × Nat := readF 1 false boolOk boolVal
def readBitsF : List UInt8 → Int × Nat × Nat := readF 3 0 bitsOk bitsVal
def readOctetsF : List UInt8 → List UInt8 × Nat × Nat := readF 4 [] (fun _ => true) id
def readTimeF : List UInt8 → Int × Nat × Nat := readF 24 0 tmOk tmVal
def readStringF : List UInt8 → List UInt8 × Nat × Nat := readF 27 [] (fun _ => true) id
/-- A reader of contents: none, or the contents. -/
def readInF (tag : UInt8) : List UInt8 → Option (List UInt8) × Nat × Nat := readF tag none (fun _ => true) some
theorem readF_used {α : Type} (tag : UInt8) (z : α) (ok : List UInt8 → Bool) (val : List UInt8 → α) (m : List UInt8) (v : α) (er used : Nat) (h : readF tag z ok val m = (v, er, used)) : used ≤ m.length := by
  unfold readF at h
  have hu := takeF_used tag m (takeF tag m).1 (takeF tag m).2.1 (takeF tag m).2.2 rfl
  split at h
  · simp only [Prod.mk.injEq] at h; omega
  · split at h
    · simp only [Prod.mk.injEq] at h; omega
    · simp only [Prod.mk.injEq] at h; omega
end Go.Proofs.YthpfomjibfbiiaaGreatDoor
namespace Go.Proofs.YthpfomjibfbiiaaGreatDoor
open Go Go.RowKit

set_option maxRecDepth 100000 in
theorem octetsClo_says (cont : List UInt8) (B : Nat) (hl : cont.length ≤ 140737488355328) : CloSays Tryz.prog 97 cont true (fun v w' => ∃ A c, v = .slice A cont.length c ∧ OB 5 w' B (.slice A cont.length c) cont) B := by
  intro A c w1 hB hb
  go_enter Tryz.func97, Tryz.ntmps97
  go_wp2_with (go_at_call 41; refine (Clone_at A c cont _ hb hl).mono ?_; rintro e w2 ⟨A2, c2, rfl, hb2, hx2⟩)
  go_ret2
  exact ⟨⟨_, rfl, fun _ => ⟨A2, c2, rfl, hb2.mono hB⟩⟩, hx2⟩

set_option maxRecDepth 100000 in
theorem contained_says (cont : List UInt8) (B : Nat) : CloSays Tryz.prog 90 cont true (fun v w' => ∃ g', v = .pointer (some ⟨g', 0, none⟩) ∧ B ≤ g' ∧ RD 72 w' g' cont 0) B := by
  intro A c w1 hB hb
  go_enter Tryz.func90, Tryz.ntmps90
  go_wp2_with (go_at_call 40; refine (inner_at A c cont _ hb).mono ?_; rintro e w2 ⟨rfl, hr2, hx2⟩)
  go_ret2
  exact ⟨⟨_, rfl, fun _ => ⟨_, rfl, hB, hr2⟩⟩, hx2⟩
end Go.Proofs.YthpfomjibfbiiaaGreatDoor
namespace Go.Proofs.YthpfomjibfbiiaaGreatDoor
open Go Go.RowKit

set_option maxRecDepth 100000 in
theorem RdOctets_at (g : Nat) (l : List UInt8) (k : Nat) (m : List UInt8) (hm : l.drop k = m) (v : List UInt8) (er used : Nat) (hr : readOctetsF m = (v, er, used)) (hl : m.length ≤ 140737488355328) (w : World) (h : RD 72 w g l k) :
    Calls Tryz.prog 70 #[.pointer (some ⟨g, 0, none⟩)] w fun e w' => ∃ A c, e = .returned (.tuple #[.slice A v.length c, .int .i64 (er : Int)]) ∧ OB 5 w' w.heap.size (.slice A v.length c) v ∧ RD 72 w' g l (k + used) ∧ w.grownBy w' (some g) := by
  have hlc : (takeF 4 m).1.length ≤ 140737488355328 := Nat.le_trans (takeF_cont 4 m _ _ _ rfl) hl
  have hrd := read_bytes_at g l k 4 4 rfl m hm (takeF 4 m).1 (takeF 4 m).2.1 (takeF 4 m).2.2 rfl _ _ w (octetsClo_says _ _ hlc) h
  have HRD := Lib.hid hrd; have HR := Lib.hid hr
  clear hrd hr hm hlc
  go_enter Tryz.func70, Tryz.ntmps70
  go_wp2_with fail
  refine HRD.out.mono ?_
  have hr := HR.out
  unfold readOctetsF readF at hr
  rintro e w1 ⟨hg, ⟨her, rfl, hr1⟩ | ⟨her, hok, rfl, hr1⟩ | ⟨her, hok, v', rfl, ⟨A3, c3, rfl, hv⟩, hr1⟩⟩
  · rw [if_pos her] at hr
    simp only [Prod.mk.injEq] at hr
    obtain ⟨rfl, rfl, rfl⟩ := hr
    go_wp2_with fail
    go_ret2
    exact ⟨none, 0, rfl, OB.nil _ _ _, hr1, hg⟩
  · cases hok
  · rw [if_neg (by omega), if_pos rfl] at hr
    simp only [Prod.mk.injEq, id] at hr
    obtain ⟨rfl, rfl, rfl⟩ := hr
    go_wp2_with fail
    go_ret2
    exact ⟨A3, c3, rfl, hv, hr1, hg⟩

/-- What a method that hands back a reader of contents leaves. -/
def InPost (w : World) (g : Nat) (l : List UInt8) (k : Nat) (v : Option (List UInt8)) (er used : Nat) (p : Value) (w' : World) : Prop :=
  w.grownBy w' (some g) ∧ RD 72 w' g l (k + used) ∧ ((v = none ∧ er ≠ 0 ∧ p = .pointer none) ∨ ∃ x g', v = some x ∧ er = 0 ∧ p = .pointer (some ⟨g', 0, none⟩) ∧ w.heap.size ≤ g' ∧ RD 72 w' g' x 0)

set_option maxRecDepth 100000 in
theorem RdSequence_at (g : Nat) (l : List UInt8) (k : Nat) (m : List UInt8) (hm : l.drop k = m) (v : Option (List UInt8)) (er used : Nat) (hr : readInF 48 m = (v, er, used)) (w : World) (h : RD 72 w g l k) :
    Calls Tryz.prog 66 #[.pointer (some ⟨g, 0, none⟩)] w fun e w' => ∃ p, e = .returned (.tuple #[p, .int .i64 (er : Int)]) ∧ InPost w g l k v er used p w' := by
  have hrd := read_reader_at g l k 48 48 rfl m hm (takeF 48 m).1 (takeF 48 m).2.1 (takeF 48 m).2.2 rfl _ _ w (contained_says _ _) h
  have HRD := Lib.hid hrd; have HR := Lib.hid hr
  clear hrd hr hm
  go_enter Tryz.func66, Tryz.ntmps66
  go_wp2_with fail
  refine HRD.out.mono ?_
  have hr := HR.out
  unfold readInF readF at hr
  rintro e w1 ⟨hg, ⟨her, rfl, hr1⟩ | ⟨her, hok, rfl, hr1⟩ | ⟨her, hok, v', rfl, ⟨g', rfl, hB', hv⟩, hr1⟩⟩
  · rw [if_pos her] at hr
    simp only [Prod.mk.injEq] at hr
    obtain ⟨rfl, rfl, rfl⟩ := hr
    go_wp2_with fail
    go_ret2
    exact ⟨_, rfl, hg, hr1, .inl ⟨rfl, her, rfl⟩⟩
  · cases hok
  · rw [if_neg (by omega), if_pos rfl] at hr
    simp only [Prod.mk.injEq] at hr
    obtain ⟨rfl, rfl, rfl⟩ := hr
    go_wp2_with fail
    go_ret2
    exact ⟨_, rfl, hg, hr1, .inr ⟨_, g', rfl, rfl, rfl, hB', hv⟩⟩

set_option maxRecDepth 100000 in
theorem Left_at (g : Nat) (l : List UInt8) (k : Nat) (w : World) (h : RD 72 w g l k) :
    Calls Tryz.prog 23 #[.pointer (some ⟨g, 0, none⟩)] w fun e w' => e = .returned (.int .i64 ((l.length - k : Nat) : Int)) ∧ Ext w w' := by
  obtain ⟨Ax, cx, hbx, k0, k1, k2, kf⟩ := h.cells
  have hk := h.le
  obtain ⟨m, hm⟩ : ∃ m, m = l.drop k := ⟨_, rfl⟩
  have hml : l.length - k = m.length := by rw [hm]; simp
  rw [hml]
  have HM := Lib.hid hm; clear hm hml
  go_enter Tryz.func23, Tryz.ntmps23
  go_wp2_with (go_at_call 45; refine (rest_at g l k m HM.out.symm _ h).mono ?_; rintro e w1 ⟨A1, c1, rfl, hb1, hx1⟩)
  go_ret
  exact ⟨rfl, hx1⟩

end Go.Proofs.YthpfomjibfbiiaaGreatDoor
namespace Go.Proofs.YthpfomjibfbiiaaGreatDoor

theorem u8_nat (n : Nat) (h : n < 256) : (UInt8.ofNat n).toNat = n := by simp only [UInt8.toNat_ofNat']; omega
theorem takeF_of (tag : UInt8) (pre L rest : List UInt8) (h : measureF (tag :: (pre ++ L) ++ rest) = (1 + pre.length, 1 + pre.length + L.length, 0)) :
    takeF tag (tag :: (pre ++ L) ++ rest) = (L, 0, (tag :: (pre ++ L)).length) := by
  unfold takeF
  rw [if_neg (by simp), if_neg (by simp)]
  simp only [h]
  rw [if_neg (by simp)]
  have e1 : 1 + pre.length + L.length = (tag :: (pre ++ L)).length := by simp; omega
  have e2 : (tag :: (pre ++ L)).drop (1 + pre.length) = L := by
    rw [show 1 + pre.length = pre.length + 1 by omega, List.drop_succ_cons]
    simp
  rw [e1, List.take_left, e2]
theorem finF_all (n size b : Nat) (h : b + size ≤ n) : finF n size b = (b, b + size, 0) := by
  unfold finF; rw [if_neg (by omega)]
theorem elem_shape (tag : UInt8) (L : List UInt8) (h : L.length < 16777216) : elem tag L = tag :: (encLen L.length ++ L) := by unfold elem; rw [if_pos h]
theorem takeF_elem (tag : UInt8) (L rest : List UInt8) (h : L.length < 16777216) : takeF tag (elem tag L ++ rest) = (L, 0, (elem tag L).length) := by
  rw [elem_shape tag L h]
  apply takeF_of
  obtain ⟨n, hn⟩ : ∃ n, n = L.length := ⟨_, rfl⟩
  rw [← hn] at h ⊢
  unfold measureF
  by_cases h1 : n < 128
  · have e : encLen n = [UInt8.ofNat n] := by unfold encLen; rw [if_pos h1]
    rw [e]
    have hl : (tag :: ([UInt8.ofNat n] ++ L) ++ rest).length = 2 + n + rest.length := by simp [hn]; omega
    have hs : ((tag :: ([UInt8.ofNat n] ++ L) ++ rest)[1]?.getD 0).toNat = n := by
      show (UInt8.ofNat n).toNat = n
      exact u8_nat n (by omega)
    simp only [hs, hl]
    rw [if_neg (by omega), if_pos h1, finF_all _ _ _ (by omega)]
    rfl
  by_cases h2 : n < 256
  · have e : encLen n = [0x81, UInt8.ofNat n] := by unfold encLen; rw [if_neg h1, if_pos h2]
    rw [e]
    have hl : (tag :: ([0x81, UInt8.ofNat n] ++ L) ++ rest).length = 3 + n + rest.length := by simp [hn]; omega
    have hs : ((tag :: ([0x81, UInt8.ofNat n] ++ L) ++ rest)[1]?.getD 0).toNat = 129 := rfl
    have hb : beNat (((tag :: ([0x81, UInt8.ofNat n] ++ L) ++ rest).take (2 + (129 - 128))).drop 2) = n := by
      show beNat [UInt8.ofNat n] = n
      simp only [beNat, List.foldl_cons, List.foldl_nil, u8_nat n h2]; omega
    simp only [hs, hl, hb]
    rw [if_neg (by omega), if_neg (by omega), if_neg (by omega), if_neg (by omega), if_neg (by simp [leastF]; omega), finF_all _ _ _ (by omega)]
    rfl
  by_cases h3 : n < 65536
  · have e : encLen n = [0x82, UInt8.ofNat (n / 256), UInt8.ofNat n] := by unfold encLen; rw [if_neg h1, if_neg h2, if_pos h3]
    rw [e]
    have hl : (tag :: ([0x82, UInt8.ofNat (n / 256), UInt8.ofNat n] ++ L) ++ rest).length = 4 + n + rest.length := by simp [hn]; omega
    have hs : ((tag :: ([0x82, UInt8.ofNat (n / 256), UInt8.ofNat n] ++ L) ++ rest)[1]?.getD 0).toNat = 130 := rfl
    have hb : beNat (((tag :: ([0x82, UInt8.ofNat (n / 256), UInt8.ofNat n] ++ L) ++ rest).take (2 + (130 - 128))).drop 2) = n := by
      show beNat [UInt8.ofNat (n / 256), UInt8.ofNat n] = n
      simp only [beNat, List.foldl_cons, List.foldl_nil, UInt8.toNat_ofNat']; omega
    simp only [hs, hl, hb]
    rw [if_neg (by omega), if_neg (by omega), if_neg (by omega), if_neg (by omega), if_neg (by simp [leastF]; omega), finF_all _ _ _ (by omega)]
    rfl
  · have e : encLen n = [0x83, UInt8.ofNat (n / 65536), UInt8.ofNat (n / 256), UInt8.ofNat n] := by unfold encLen; rw [if_neg h1, if_neg h2, if_neg h3]
    rw [e]
    have hl : (tag :: ([0x83, UInt8.ofNat (n / 65536), UInt8.ofNat (n / 256), UInt8.ofNat n] ++ L) ++ rest).length = 5 + n + rest.length := by simp [hn]; omega
    have hs : ((tag :: ([0x83, UInt8.ofNat (n / 65536), UInt8.ofNat (n / 256), UInt8.ofNat n] ++ L) ++ rest)[1]?.getD 0).toNat = 131 := rfl
    have hb : beNat (((tag :: ([0x83, UInt8.ofNat (n / 65536), UInt8.ofNat (n / 256), UInt8.ofNat n] ++ L) ++ rest).take (2 + (131 - 128))).drop 2) = n := by
      show beNat [UInt8.ofNat (n / 65536), UInt8.ofNat (n / 256), UInt8.ofNat n] = n
      simp only [beNat, List.foldl_cons, List.foldl_nil, UInt8.toNat_ofNat']; omega
    simp only [hs, hl, hb]
    rw [if_neg (by omega), if_neg (by omega), if_neg (by omega), if_neg (by omega), if_neg (by simp [leastF]; omega), finF_all _ _ _ (by omega)]
    rfl

theorem readF_elem {α : Type} (tag : UInt8) (z : α) (ok : List UInt8 → Bool) (val : List UInt8 → α) (L rest : List UInt8) (h : L.length < 16777216) (hok : ok L = true) :
    readF tag z ok val (elem tag L ++ rest) = (val L, 0, (elem tag L).length) := by
  unfold readF
  rw [takeF_elem tag L rest h]
  simp [hok]
theorem readOctets_enc (L rest : List UInt8) (h : L.length < 16777216) : readOctetsF (encOctets L ++ rest) = (L, 0, (encOctets L).length) := readF_elem _ _ _ _ _ _ h rfl
end Go.Proofs.YthpfomjibfbiiaaGreatDoor
namespace Go.Proofs.YthpfomjibfbiiaaGreatDoor

def encTag (n : Nat) (l : List UInt8) : List UInt8 := encWrap 160 (n : Int) l
def wholeF (ls : List (List UInt8)) : List UInt8 := if [] ∈ ls then [] else encSeq ls
/-- The first k, each in the element of its number. -/
def tags (ls : List (List UInt8)) (k : Nat) : List (List UInt8) := (List.range k).map fun i => encTag i (ls[i]?.getD [])
theorem tags_length (ls : List (List UInt8)) (k : Nat) : (tags ls k).length = k := by simp [tags]
theorem tags_succ (ls : List (List UInt8)) (k : Nat) (h : k < ls.length) : tags ls (k + 1) = tags ls k ++ [encTag k ls[k]] := by
  unfold tags
  rw [List.range_succ, List.map_append]
  simp [List.getElem?_eq_getElem h]
def fieldsF (ls : List (List UInt8)) : List UInt8 := wholeF (tags ls ls.length)
def tripleF (p v : Int) (b : List UInt8) : List UInt8 := fieldsF [encInt p, encInt v, encOctets b]
def pairF (k : Int) (b : List UInt8) : List UInt8 := fieldsF [encInt k, encOctets b]
def threeF (p v : Int) (b : List UInt8) : List UInt8 := if encInt p = [] ∨ encInt v = [] then [] else encSeq [encTag 0 (encInt p), encTag 1 (encInt v), encTag 2 (encOctets b)]
def twoF (k : Int) (b : List UInt8) : List UInt8 := encSeq [encTag 0 (encInt k), encTag 1 (encOctets b)]

theorem elem_ne (t : UInt8) (l : List UInt8) (h : l.length < 16777216) : elem t l ≠ [] := by rw [elem_shape t l h]; simp
theorem encTag_nil (n : Nat) : encTag n [] = [] := by unfold encTag encWrap; rw [if_neg (by simp)]
theorem encTag_ne (n : Nat) (l : List UInt8) (hn : n ≤ 30) (h : l ≠ []) (hl : l.length < 16777216) : encTag n l ≠ [] := by
  unfold encTag encWrap
  rw [if_pos ⟨by omega, by omega, h⟩]
  exact elem_ne _ _ hl
theorem encTag_le (n : Nat) (l : List UInt8) : (encTag n l).length ≤ l.length + 5 := by
  unfold encTag encWrap
  split
  · exact elem_le _ _
  · simp
theorem tripleF_eq (p v : Int) (b : List UInt8) (hp : (encInt p).length ≤ 1000) (hv : (encInt v).length ≤ 1000) (hb : b.length ≤ 1000) : tripleF p v b = threeF p v b := by
  have hob : (encOctets b).length ≤ 1005 := by have := elem_le 4 b; unfold encOctets; omega
  have hoe : encOctets b ≠ [] := elem_ne 4 b (by omega)
  have e : tags [encInt p, encInt v, encOctets b] [encInt p, encInt v, encOctets b].length = [encTag 0 (encInt p), encTag 1 (encInt v), encTag 2 (encOctets b)] := rfl
  unfold tripleF fieldsF threeF wholeF
  rw [e]
  have h2 := encTag_ne 2 _ (by omega) hoe (by omega)
  by_cases h : encInt p = [] ∨ encInt v = []
  · rw [if_pos h, if_pos]
    rcases h with h | h <;> rw [h, encTag_nil] <;> simp
  · rw [if_neg h, if_neg]
    have h0 := encTag_ne 0 (encInt p) (by omega) (fun e => h (.inl e)) (by omega)
    have h1 := encTag_ne 1 (encInt v) (by omega) (fun e => h (.inr e)) (by omega)
    simp only [List.mem_cons, List.not_mem_nil, or_false, not_or]
    exact ⟨h0.symm, h1.symm, h2.symm⟩
theorem pairF_eq (k : Int) (b : List UInt8) (hp : (encInt k).length ≤ 1000) (hb : b.length ≤ 1000) : pairF k b = if encInt k = [] then [] else twoF k b := by
  have hob : (encOctets b).length ≤ 1005 := by have := elem_le 4 b; unfold encOctets; omega
  have hoe : encOctets b ≠ [] := elem_ne 4 b (by omega)
  have e : tags [encInt k, encOctets b] [encInt k, encOctets b].length = [encTag 0 (encInt k), encTag 1 (encOctets b)] := rfl
  unfold pairF fieldsF twoF wholeF
  rw [e]
  have h2 := encTag_ne 1 _ (by omega) hoe (by omega)
  by_cases h : encInt k = []
  · rw [if_pos h, if_pos]
    rw [h, encTag_nil]; simp
  · rw [if_neg h, if_neg]
    have h0 := encTag_ne 0 (encInt k) (by omega) h (by omega)
    simp only [List.mem_cons, List.not_mem_nil, or_false, not_or]
    exact ⟨h0.symm, h2.symm⟩
theorem twoF_ne (k : Int) (b : List UInt8) (hp : (encInt k).length ≤ 1000) (hb : b.length ≤ 1000) : twoF k b ≠ [] := by
  have hob : (encOctets b).length ≤ 1005 := by have := elem_le 4 b; unfold encOctets; omega
  have h0 := encTag_le 0 (encInt k)
  have h1 := encTag_le 1 (encOctets b)
  unfold twoF encSeq
  apply elem_ne
  simp
  omega

/-- Data: der's and the reference's. -/
def dataF (ls : List (Int × List UInt8)) : List UInt8 := if 16 < ls.length then [] else wholeF (ls.map fun x => pairF x.1 x.2)
def dataR (ls : List (Int × List UInt8)) : List UInt8 := if (∃ x ∈ ls, encInt x.1 = []) ∨ 16 < ls.length then [] else encSeq (ls.map fun x => twoF x.1 x.2)
theorem dataF_eq (ls : List (Int × List UInt8)) (hk : ∀ x ∈ ls, (encInt x.1).length ≤ 1000) (hb : ∀ x ∈ ls, x.2.length ≤ 1000) : dataF ls = dataR ls := by
  unfold dataF dataR
  by_cases h : 16 < ls.length
  · rw [if_pos h, if_pos (.inr h)]
  · rw [if_neg h]
    by_cases h2 : ∃ x ∈ ls, encInt x.1 = []
    · rw [if_pos (.inl h2)]
      unfold wholeF
      rw [if_pos]
      obtain ⟨x, hx, he⟩ := h2
      rw [List.mem_map]
      exact ⟨x, hx, by rw [pairF_eq _ _ (hk x hx) (hb x hx), if_pos he]⟩
    · rw [if_neg (by intro h3; rcases h3 with h3 | h3 <;> contradiction)]
      have e : (ls.map fun x => pairF x.1 x.2) = ls.map fun x => twoF x.1 x.2 := by
        apply List.map_congr_left
        intro x hx
        rw [pairF_eq _ _ (hk x hx) (hb x hx), if_neg (fun h => h2 ⟨x, hx, h⟩)]
      rw [e]
      unfold wholeF
      rw [if_neg]
      rw [List.mem_map]
      rintro ⟨x, hx, he⟩
      exact twoF_ne _ _ (hk x hx) (hb x hx) he
end Go.Proofs.YthpfomjibfbiiaaGreatDoor
namespace Go.Proofs.YthpfomjibfbiiaaGreatDoor

def tagB (n : Nat) : UInt8 := UInt8.ofNat (160 + n)
theorem tagB_nat (n : Nat) (h : n ≤ 30) : (tagB n).toNat = 160 + n := by unfold tagB; simp only [UInt8.toNat_ofNat']; omega
/-- A tagged element, if it is there: the contents; whether; the error; how many bytes are passed. -/
def taggedF (n : Nat) (m : List UInt8) : Option (List UInt8) × Bool × Nat × Nat :=
  if m = [] ∨ m[0]?.getD 0 ≠ tagB n then (none, false, 0, 0)
  else ((readInF (tagB n) m).1, decide ((readInF (tagB n) m).2.1 = 0), (readInF (tagB n) m).2.1, (readInF (tagB n) m).2.2)
/-- A field: the value, the error, how many bytes are passed. -/
def fieldF {α : Type} (z : α) (rd : List UInt8 → α × Nat × Nat) (n : Nat) (m : List UInt8) : α × Nat × Nat :=
  if (taggedF n m).2.2.1 ≠ 0 then (z, (taggedF n m).2.2.1, 0)
  else if (taggedF n m).2.1 = false then (z, if m = [] then 4 else 6, 0)
  else if (rd ((taggedF n m).1.getD [])).2.1 ≠ 0 then (z, (rd ((taggedF n m).1.getD [])).2.1, 0)
  else if (rd ((taggedF n m).1.getD [])).2.2 < ((taggedF n m).1.getD []).length then (z, 6, 0)
  else ((rd ((taggedF n m).1.getD [])).1, 0, (taggedF n m).2.2.2)
/-- The fields of a key or of a sealed string: the contents of the sequence are given. -/
def tripleIn (x : List UInt8) : (Int × Int × List UInt8) × Nat :=
  let p := fieldF 0 readIntF 0 x
  if p.2.1 ≠ 0 then ((0, 0, []), p.2.1) else
  let v := fieldF 0 readIntF 1 (x.drop p.2.2)
  if v.2.1 ≠ 0 then ((0, 0, []), v.2.1) else
  let b := fieldF [] readOctetsF 2 (x.drop (p.2.2 + v.2.2))
  if b.2.1 ≠ 0 then ((0, 0, []), b.2.1) else
  if p.2.2 + v.2.2 + b.2.2 < x.length then ((0, 0, []), 6) else ((p.1, v.1, b.1), 0)
def tripleRd (m : List UInt8) : (Int × Int × List UInt8) × Nat × Nat :=
  if (readInF 48 m).2.1 ≠ 0 then ((0, 0, []), (readInF 48 m).2.1, 0)
  else if (tripleIn ((readInF 48 m).1.getD [])).2 ≠ 0 then ((0, 0, []), (tripleIn ((readInF 48 m).1.getD [])).2, 0)
  else ((tripleIn ((readInF 48 m).1.getD [])).1, 0, (readInF 48 m).2.2)
/-- What a reader of contents finds: contents just where there is no error. -/
theorem readIn_cases (tag : UInt8) (m : List UInt8) : (∃ x, readInF tag m = (some x, 0, (readInF tag m).2.2) ∧ x.length ≤ m.length) ∨ (∃ er, er ≠ 0 ∧ readInF tag m = (none, er, 0)) := by
  unfold readInF readF
  by_cases h : (takeF tag m).2.1 ≠ 0
  · right; rw [if_pos h]; exact ⟨_, h, rfl⟩
  · left; rw [if_neg h, if_pos rfl]
    exact ⟨_, rfl, takeF_cont tag m _ _ _ rfl⟩
theorem tagged_cases (n : Nat) (m : List UInt8) : (taggedF n m = (none, false, 0, 0) ∧ (m = [] ∨ m[0]?.getD 0 ≠ tagB n)) ∨
    ((m ≠ [] ∧ m[0]?.getD 0 = tagB n) ∧ ((∃ x used, taggedF n m = (some x, true, 0, used) ∧ readInF (tagB n) m = (some x, 0, used) ∧ x.length ≤ m.length) ∨ (∃ er, er ≠ 0 ∧ taggedF n m = (none, false, er, 0) ∧ readInF (tagB n) m = (none, er, 0)))) := by
  by_cases h : m = [] ∨ m[0]?.getD 0 ≠ tagB n
  · left; exact ⟨by unfold taggedF; rw [if_pos h], h⟩
  · right
    refine ⟨⟨fun e => h (.inl e), by_contra' (fun e => h (.inr e))⟩, ?_⟩
    rcases readIn_cases (tagB n) m with ⟨x, hx, hl⟩ | ⟨er, he, hx⟩
    · left
      refine ⟨x, (readInF (tagB n) m).2.2, ?_, hx, hl⟩
      unfold taggedF
      rw [if_neg h, hx]
      simp
    · right
      refine ⟨er, he, ?_, hx⟩
      unfold taggedF
      rw [if_neg h, hx]
      simp [he]
where by_contra' {p : Prop} (h : ¬ ¬ p) : p := Classical.byContradiction h
end Go.Proofs.YthpfomjibfbiiaaGreatDoor
