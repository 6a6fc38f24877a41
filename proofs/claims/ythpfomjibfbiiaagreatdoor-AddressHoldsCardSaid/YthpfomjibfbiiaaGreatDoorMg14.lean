/- Texts laid together (wip/tools/automerge.py): Der4, Pure3. -/
import Derived.Test.YthpfomjibfbiiaaGreatDoorMg13
import Derived.Test.YthpfomjibfbiiaaGreatDoorMg1
namespace Go.Proofs.YthpfomjibfbiiaaGreatDoor
open Go Go.RowKit

set_option maxRecDepth 100000 in
theorem Octets_at (A : Option Addr) (c : Nat) (l : List UInt8) (w : World) (h : BS w (.slice A l.length c) l) :
    Calls Tryz.prog 56 #[.slice A l.length c] w fun e w' => ∃ A c, e = .returned (.slice A (encOctets l).length c) ∧ OB 5 w' w.heap.size (.slice A (encOctets l).length c) (encOctets l) ∧ Ext w w' := by
  go_enter Tryz.func56, Tryz.ntmps56
  go_wp2_with (go_at_call 80; refine (element_at 4 4 rfl _ [l] l (by simp) _ (BSS.new1 w _ _ _ h)).mono ?_; rintro e w2 ⟨A2, c2, rfl, hb2, hx2⟩)
  go_ret
  exact ⟨_, _, rfl, hb2.up ((Ext.refl w).alloc _), ((Ext.refl w).alloc _).trans hx2⟩

set_option maxRecDepth 100000 in
theorem Sequence_at (v : Value) (ls : List (List UInt8)) (w : World) (h : BSS w v ls) :
    Calls Tryz.prog 82 #[v] w fun e w' => ∃ A c, e = .returned (.slice A (encSeq ls).length c) ∧ OB 5 w' w.heap.size (.slice A (encSeq ls).length c) (encSeq ls) ∧ Ext w w' := by
  go_enter Tryz.func82, Tryz.ntmps82
  go_wp2_with (go_at_call 80; refine (element_at 48 48 rfl _ ls ls.flatten rfl _ h).mono ?_; rintro e w2 ⟨A2, c2, rfl, hb2, hx2⟩)
  go_ret
  exact ⟨_, _, rfl, hb2, hx2⟩

set_option maxRecDepth 100000 in
theorem wrapped_yes (tag n : Int) (A : Option Addr) (c : Nat) (l : List UInt8) (w : World) (h : BS w (.slice A l.length c) l) (ht0 : 0 ≤ tag) (ht1 : tag ≤ 200) (hn0 : 0 ≤ n) (hn1 : n ≤ 30) (hl : l ≠ []) :
    Calls Tryz.prog 106 #[.int .i64 tag, .int .i64 n, .slice A l.length c] w fun e w' => ∃ A c, e = .returned (.slice A (encWrap tag n l).length c) ∧ OB 5 w' w.heap.size (.slice A (encWrap tag n l).length c) (encWrap tag n l) ∧ Ext w w' := by
  have he : encWrap tag n l = elem (UInt8.ofNat (tag + n).toNat) l := by unfold encWrap; rw [if_pos ⟨hn0, hn1, hl⟩]
  rw [he]
  have hl' : 0 < l.length := List.length_pos_iff.2 hl
  have ht : tag + n = ((UInt8.ofNat (tag + n).toNat).toNat : Int) := by simp only [UInt8.toNat_ofNat']; omega
  have HT := Lib.hid ht; clear ht
  have h3 : ((l.length : Int) == 0) = false := by simp; exact hl
  have HE := Lib.hid he; clear he
  have HL := Lib.hid hl; clear hl
  go_enter Tryz.func106, Tryz.ntmps106
  go_wp2_with (go_at_call 80; refine (element_at (tag + n) (UInt8.ofNat (tag + n).toNat) HT.out _ [l] l (by simp) _ (BSS.new1 w _ _ _ h)).mono ?_; rintro e w2 ⟨A2, c2, rfl, hb2, hx2⟩)
  go_ret
  exact ⟨_, _, rfl, hb2.up ((Ext.refl w).alloc _), ((Ext.refl w).alloc _).trans hx2⟩

set_option maxRecDepth 100000 in
theorem wrapped_no (tag n : Int) (A : Option Addr) (c : Nat) (l : List UInt8) (w : World) (h : n < 0 ∨ 30 < n ∨ l = []) :
    Calls Tryz.prog 106 #[.int .i64 tag, .int .i64 n, .slice A l.length c] w fun e w' => e = .returned (.slice none 0 0) ∧ w = w' := by
  have hh : n < 0 ∨ (¬ n < 0 ∧ 30 < n) ∨ (¬ n < 0 ∧ ¬ 30 < n ∧ l = []) := by
    by_cases h1 : n < 0
    · exact .inl h1
    · by_cases h2 : 30 < n
      · exact .inr (.inl ⟨h1, h2⟩)
      · exact .inr (.inr ⟨h1, h2, by rcases h with h | h | h <;> first | exact h | omega⟩)
  rcases hh with h1 | ⟨h1, h2⟩ | ⟨h1, h2, rfl⟩
  · clear h
    go_enter Tryz.func106, Tryz.ntmps106
    go_wp2
    go_ret
    exact ⟨rfl, rfl⟩
  · clear h
    go_enter Tryz.func106, Tryz.ntmps106
    go_wp2
    go_ret
    exact ⟨rfl, rfl⟩
  · clear h
    go_enter Tryz.func106, Tryz.ntmps106
    go_wp2
    go_ret
    exact ⟨rfl, rfl⟩

theorem wrapped_at (tag n : Int) (A : Option Addr) (c : Nat) (l : List UInt8) (w : World) (h : BS w (.slice A l.length c) l) (ht0 : 0 ≤ tag) (ht1 : tag ≤ 200) :
    Calls Tryz.prog 106 #[.int .i64 tag, .int .i64 n, .slice A l.length c] w fun e w' => ∃ A c, e = .returned (.slice A (encWrap tag n l).length c) ∧ OB 5 w' w.heap.size (.slice A (encWrap tag n l).length c) (encWrap tag n l) ∧ Ext w w' := by
  by_cases hh : 0 ≤ n ∧ n ≤ 30 ∧ l ≠ []
  · exact wrapped_yes tag n A c l w h ht0 ht1 hh.1 hh.2.1 hh.2.2
  · refine (wrapped_no tag n A c l w (by
      by_cases hl : l = []
      · exact .inr (.inr hl)
      · have : ¬ (0 ≤ n ∧ n ≤ 30) := fun h => hh ⟨h.1, h.2, hl⟩
        omega)).mono ?_
    rintro e w' ⟨rfl, rfl⟩
    have e : encWrap tag n l = [] := by unfold encWrap; rw [if_neg hh]
    rw [e]
    exact ⟨none, 0, rfl, OB.nil _ _ _, Ext.refl _⟩

set_option maxRecDepth 100000 in
theorem Tagged_at (n : Int) (A : Option Addr) (c : Nat) (l : List UInt8) (w : World) (h : BS w (.slice A l.length c) l) :
    Calls Tryz.prog 79 #[.int .i64 n, .slice A l.length c] w fun e w' => ∃ A c, e = .returned (.slice A (encWrap 160 n l).length c) ∧ OB 5 w' w.heap.size (.slice A (encWrap 160 n l).length c) (encWrap 160 n l) ∧ Ext w w' := by
  go_enter Tryz.func79, Tryz.ntmps79
  go_wp2_with (go_at_call 106; refine (wrapped_at 160 n A c l _ h (by omega) (by omega)).mono ?_; rintro e w2 ⟨A2, c2, rfl, hb2, hx2⟩)
  go_ret
  exact ⟨_, _, rfl, hb2, hx2⟩
end Go.Proofs.YthpfomjibfbiiaaGreatDoor
namespace Go.Proofs.YthpfomjibfbiiaaGreatDoor

/-- The number in bytes, the highest first. -/
def beNat (l : List UInt8) : Nat := l.foldl (fun a b => a * 256 + b.toNat) 0
theorem beNat_snoc (l : List UInt8) (b : UInt8) : beNat (l ++ [b]) = beNat l * 256 + b.toNat := by simp [beNat]
theorem beNat_take_succ (l : List UInt8) (k : Nat) (h : k < l.length) : beNat (l.take (k + 1)) = beNat (l.take k) * 256 + l[k].toNat := by
  rw [List.take_succ_eq_append_getElem h, beNat_snoc]
theorem beNat_take_lt (l : List UInt8) : ∀ k, k ≤ l.length → beNat (l.take k) < 256 ^ k
  | 0, _ => by simp [beNat]
  | k + 1, h => by
    have ih := beNat_take_lt l k (by omega)
    rw [beNat_take_succ l k (by omega), Nat.pow_succ]
    have : l[k].toNat < 256 := l[k].toNat_lt
    omega
theorem beNat_lt (l : List UInt8) : beNat l < 256 ^ l.length := by
  have := beNat_take_lt l l.length (Nat.le_refl _)
  rwa [List.take_length] at this
/-- The least number of n length bytes. -/
def leastF (n : Nat) : Nat := if n = 1 then 128 else if n = 2 then 256 else if n = 3 then 65536 else 0
/-- Contents of a size from an offset on: begin, end, error. -/
def finF (n size begin_ : Nat) : Nat × Nat × Nat := if n - begin_ < size then (0, 0, 4) else (begin_, begin_ + size, 0)
/-- What 'measure' hands back. -/
def measureF (l : List UInt8) : Nat × Nat × Nat :=
  if l.length < 2 then (0, 0, 4)
  else
    let s := (l[1]?.getD 0).toNat
    if s < 128 then finF l.length s 2
    else if s - 128 < 1 ∨ 3 < s - 128 then (0, 0, 6)
    else if l.length < 2 + (s - 128) then (0, 0, 4)
    else
      let m := beNat ((l.take (2 + (s - 128))).drop 2)
      if m < leastF (s - 128) then (0, 0, 6) else finF l.length m (2 + (s - 128))
/-- What 'take' hands back: the contents, the error, and how many bytes are passed. -/
def takeF (tag : UInt8) (m : List UInt8) : List UInt8 × Nat × Nat :=
  if m = [] then ([], 4, 0)
  else if m[0]?.getD 0 ≠ tag then ([], 6, 0)
  else
    let r := measureF m
    if r.2.2 ≠ 0 then ([], r.2.2, 0) else ((m.take r.2.1).drop r.1, 0, r.2.1)
theorem finF_ok (n size b0 b e : Nat) (hb : b0 ≤ n) (h : finF n size b0 = (b, e, 0)) : b = b0 ∧ e = b0 + size ∧ e ≤ n := by
  unfold finF at h
  split at h
  · simp at h
  · simp only [Prod.mk.injEq] at h
    omega
theorem measureF_ok (l : List UInt8) (b e : Nat) (h : measureF l = (b, e, 0)) : 2 ≤ b ∧ b ≤ e ∧ e ≤ l.length := by
  unfold measureF at h
  simp only at h
  split at h
  · simp at h
  split at h
  · have := finF_ok _ _ _ _ _ (by omega) h; omega
  split at h
  · simp at h
  split at h
  · simp at h
  split at h
  · simp at h
  · have := finF_ok _ _ _ _ _ (by omega) h; omega
theorem measureF_err (l : List UInt8) : (measureF l).2.2 = 0 ∨ (measureF l).2.2 = 4 ∨ (measureF l).2.2 = 6 := by
  have hf : ∀ n s b, (finF n s b).2.2 = 0 ∨ (finF n s b).2.2 = 4 ∨ (finF n s b).2.2 = 6 := by
    intro n s b; unfold finF; split <;> simp
  unfold measureF
  simp only
  split
  · simp
  split
  · exact hf _ _ _
  split
  · simp
  split
  · simp
  split
  · simp
  · exact hf _ _ _
theorem takeF_err (tag : UInt8) (m cont : List UInt8) (er used : Nat) (h : takeF tag m = (cont, er, used)) (he : er ≠ 0) : used = 0 := by
  unfold takeF at h
  simp only at h
  split at h
  · simp at h; omega
  split at h
  · simp at h; omega
  split at h
  · simp at h; omega
  · simp at h; omega
theorem takeF_used (tag : UInt8) (m cont : List UInt8) (er used : Nat) (h : takeF tag m = (cont, er, used)) : used ≤ m.length := by
  unfold takeF at h
  simp only at h
  split at h
  · simp at h; omega
  split at h
  · simp at h; omega
  split at h
  · simp at h; omega
  · rename_i h3
    have h4 := measureF_ok m (measureF m).1 (measureF m).2.1 (by
      have : (measureF m).2.2 = 0 := by simpa using h3
      rw [← this])
    simp at h; omega
theorem takeF_cont (tag : UInt8) (m cont : List UInt8) (er used : Nat) (h : takeF tag m = (cont, er, used)) : cont.length ≤ m.length := by
  unfold takeF at h
  simp only at h
  split at h
  · simp at h; rw [h.1]; simp
  split at h
  · simp at h; rw [h.1]; simp
  split at h
  · simp at h; rw [h.1]; simp
  · simp at h; rw [← h.1]; simp; omega
end Go.Proofs.YthpfomjibfbiiaaGreatDoor
