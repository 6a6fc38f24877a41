/- The other writers of one element. -/
import Derived.Test.YtmbmhepmeajnoaaDer3
import Derived.Test.YtmbmhepmeajnoaaStr
import Derived.Test.YtmbmhepmeajnoaaPure2
namespace Go.Proofs.Ytmbmhepmeajnoaa
open Go Go.RowKit

set_option maxRecDepth 100000 in
theorem Bool_at (b : Bool) (w : World) :
    Calls Try.prog 17 #[.bool b] w fun e w' => ∃ A c, e = .returned (.slice A (encBool b).length c) ∧ OB 5 w' w.heap.size (.slice A (encBool b).length c) (encBool b) ∧ Ext w w' := by
  cases b
  · go_enter Try.func17, Try.ntmps17
    go_wp2_with (go_at_call 55; refine (element_at 1 1 rfl _ [[0]] [0] (by simp) _ (BSS.new1 _ _ _ _ (BS.new' w 5 [.int .u8 0] [0] rfl 1 rfl (by simp [maxLen])))).mono ?_; rintro e w2 ⟨A2, c2, rfl, hb2, hx2⟩)
    go_ret
    exact ⟨_, _, rfl, hb2.up (((Ext.refl w).alloc _).alloc _), (((Ext.refl w).alloc _).alloc _).trans hx2⟩
  · go_enter Try.func17, Try.ntmps17
    go_wp2_with (go_at_call 55; refine (element_at 1 1 rfl _ [[255]] [255] (by simp) _ (BSS.new1 _ _ _ _ (BS.new' w 5 [.int .u8 255] [255] rfl 1 rfl (by simp [maxLen])))).mono ?_; rintro e w2 ⟨A2, c2, rfl, hb2, hx2⟩)
    go_ret
    exact ⟨_, _, rfl, hb2.up (((Ext.refl w).alloc _).alloc _), (((Ext.refl w).alloc _).alloc _).trans hx2⟩

set_option maxRecDepth 100000 in
theorem Octets_at (A : Option Addr) (c : Nat) (l : List UInt8) (w : World) (h : BS w (.slice A l.length c) l) :
    Calls Try.prog 25 #[.slice A l.length c] w fun e w' => ∃ A c, e = .returned (.slice A (encOctets l).length c) ∧ OB 5 w' w.heap.size (.slice A (encOctets l).length c) (encOctets l) ∧ Ext w w' := by
  go_enter Try.func25, Try.ntmps25
  go_wp2_with (go_at_call 55; refine (element_at 4 4 rfl _ [l] l (by simp) _ (BSS.new1 w _ _ _ h)).mono ?_; rintro e w2 ⟨A2, c2, rfl, hb2, hx2⟩)
  go_ret
  exact ⟨_, _, rfl, hb2.up ((Ext.refl w).alloc _), ((Ext.refl w).alloc _).trans hx2⟩

set_option maxRecDepth 100000 in
theorem String_at (l : List UInt8) (w : World) (hl : l.length ≤ maxLen) :
    Calls Try.prog 27 #[.string ⟨l.toArray⟩] w fun e w' => ∃ A c, e = .returned (.slice A (encString l).length c) ∧ OB 5 w' w.heap.size (.slice A (encString l).length c) (encString l) ∧ Ext w w' := by
  obtain ⟨c1, w1, hrun, hb1, hx1, hz1⟩ := run_bytes (P := Try.prog) w 9 24 5 l Try.underlying9 Try.underlying24 Try.underlying5 hl
  have HZ := Lib.hid hz1; clear hz1
  go_enter Try.func27, Try.ntmps27
  go_wp2_with (go_at_call 55; refine (element_at 27 27 rfl _ [l] l (by simp) _ (BSS.new1 w1 _ _ _ hb1)).mono ?_; rintro e w2 ⟨A2, c2, rfl, hb2, hx2⟩)
  go_ret
  exact ⟨_, _, rfl, hb2.up (hx1.alloc _), (hx1.alloc _).trans hx2⟩

set_option maxRecDepth 100000 in
theorem Sequence_at (v : Value) (ls : List (List UInt8)) (w : World) (h : BSS w v ls) :
    Calls Try.prog 15 #[v] w fun e w' => ∃ A c, e = .returned (.slice A (encSeq ls).length c) ∧ OB 5 w' w.heap.size (.slice A (encSeq ls).length c) (encSeq ls) ∧ Ext w w' := by
  go_enter Try.func15, Try.ntmps15
  go_wp2_with (go_at_call 55; refine (element_at 48 48 rfl _ ls ls.flatten rfl _ h).mono ?_; rintro e w2 ⟨A2, c2, rfl, hb2, hx2⟩)
  go_ret
  exact ⟨_, _, rfl, hb2, hx2⟩

set_option maxRecDepth 100000 in
theorem Bits_at (f : Int) (hf0 : 0 ≤ f) (hf1 : f ≤ 4294967295) (w : World) :
    Calls Try.prog 23 #[.int .u32 f] w fun e w' => ∃ A c, e = .returned (.slice A (encBits f).length c) ∧ OB 5 w' w.heap.size (.slice A (encBits f).length c) (encBits f) ∧ Ext w w' := by
  have hn := number_at f 4 (by omega) (w.alloc (.cells #[.int .u8 0] 5))
  have HN := Lib.hid hn; clear hn
  go_enter Try.func23, Try.ntmps23
  go_wp2_with (first
    | (go_at_call 57; refine HN.out.mono ?_; rintro e w1 ⟨A1, c1, rfl, hb1, hx1⟩)
    | (go_at_call 55; refine (element_at 3 3 rfl _ [[0], beBytes f 4] (0 :: beBytes f 4) (by simp) _ (BSS.new2 w1 _ _ _ _ _ ((BS.new' w 5 [.int .u8 0] [0] rfl 1 rfl (by simp [maxLen])).ext hx1) hb1.bs)).mono ?_; rintro e w2 ⟨A2, c2, rfl, hb2, hx2⟩))
  go_ret
  have hx := ((Ext.refl w).alloc (.cells #[.int .u8 0] 5)).trans hx1
  exact ⟨_, _, rfl, hb2.up (hx.alloc _), (hx.alloc _).trans hx2⟩

set_option maxRecDepth 100000 in
theorem Time_yes (t : Int) (h : timeOk t = true) (w : World) :
    Calls Try.prog 21 #[.int .i64 t] w fun e w' => ∃ A c, e = .returned (.slice A (encTime t).length c) ∧ OB 5 w' w.heap.size (.slice A (encTime t).length c) (encTime t) ∧ Ext w w' := by
  have he : encTime t = elem 24 (beBytes t 6) := by unfold encTime; rw [if_pos h]
  rw [he]
  have h1 : decide (t < 0) = false := by simp [timeOk] at h; simp; omega
  have h2 : decide (1099511627776 < t) = false := by simp [timeOk] at h; simp; omega
  clear h he
  go_enter Try.func21, Try.ntmps21
  go_wp2_with (first
    | (go_at_call 57; refine (number_at t 6 (by omega) _).mono ?_; rintro e w1 ⟨A1, c1, rfl, hb1, hx1⟩)
    | (go_at_call 55; refine (element_at 24 24 rfl _ [beBytes t 6] (beBytes t 6) (by simp) _ (BSS.new1 w1 _ _ _ hb1.bs)).mono ?_; rintro e w2 ⟨A2, c2, rfl, hb2, hx2⟩))
  go_ret
  exact ⟨_, _, rfl, hb2.up (hx1.alloc _), (hx1.alloc _).trans hx2⟩

set_option maxRecDepth 100000 in
theorem Time_no (t : Int) (h : timeOk t = false) (w : World) :
    Calls Try.prog 21 #[.int .i64 t] w fun e w' => e = .returned (.slice none 0 0) ∧ w = w' := by
  have hh : t < 0 ∨ (¬ t < 0 ∧ 1099511627776 < t) := by simp [timeOk] at h; omega
  clear h
  rcases hh with h1 | ⟨h1, h2⟩
  · have hd : decide (t < 0) = true := decide_eq_true h1
    clear h1
    go_enter Try.func21, Try.ntmps21
    go_wp2
    go_ret
    exact ⟨rfl, rfl⟩
  · have hd : decide (t < 0) = false := decide_eq_false h1
    have hd2 : decide (1099511627776 < t) = true := decide_eq_true h2
    clear h1 h2
    go_enter Try.func21, Try.ntmps21
    go_wp2
    go_ret
    exact ⟨rfl, rfl⟩

theorem Time_at (t : Int) (w : World) :
    Calls Try.prog 21 #[.int .i64 t] w fun e w' => ∃ A c, e = .returned (.slice A (encTime t).length c) ∧ OB 5 w' w.heap.size (.slice A (encTime t).length c) (encTime t) ∧ Ext w w' := by
  cases h : timeOk t with
  | true => exact Time_yes t h w
  | false =>
    refine (Time_no t h w).mono ?_
    rintro e w' ⟨rfl, rfl⟩
    have e : encTime t = [] := by unfold encTime; rw [h]; rfl
    rw [e]
    exact ⟨none, 0, rfl, OB.nil _ _ _, Ext.refl _⟩

set_option maxRecDepth 100000 in
theorem wrapped_yes (tag n : Int) (A : Option Addr) (c : Nat) (l : List UInt8) (w : World) (h : BS w (.slice A l.length c) l) (ht0 : 0 ≤ tag) (ht1 : tag ≤ 200) (hn0 : 0 ≤ n) (hn1 : n ≤ 30) (hl : l ≠ []) :
    Calls Try.prog 53 #[.int .i64 tag, .int .i64 n, .slice A l.length c] w fun e w' => ∃ A c, e = .returned (.slice A (encWrap tag n l).length c) ∧ OB 5 w' w.heap.size (.slice A (encWrap tag n l).length c) (encWrap tag n l) ∧ Ext w w' := by
  have he : encWrap tag n l = elem (UInt8.ofNat (tag + n).toNat) l := by unfold encWrap; rw [if_pos ⟨hn0, hn1, hl⟩]
  rw [he]
  have hl' : 0 < l.length := List.length_pos_iff.2 hl
  have ht : tag + n = ((UInt8.ofNat (tag + n).toNat).toNat : Int) := by simp only [UInt8.toNat_ofNat']; omega
  have HT := Lib.hid ht; clear ht
  have h3 : ((l.length : Int) == 0) = false := by simp; exact hl
  have HE := Lib.hid he; clear he
  have HL := Lib.hid hl; clear hl
  go_enter Try.func53, Try.ntmps53
  go_wp2_with (go_at_call 55; refine (element_at (tag + n) (UInt8.ofNat (tag + n).toNat) HT.out _ [l] l (by simp) _ (BSS.new1 w _ _ _ h)).mono ?_; rintro e w2 ⟨A2, c2, rfl, hb2, hx2⟩)
  go_ret
  exact ⟨_, _, rfl, hb2.up ((Ext.refl w).alloc _), ((Ext.refl w).alloc _).trans hx2⟩

set_option maxRecDepth 100000 in
theorem wrapped_no (tag n : Int) (A : Option Addr) (c : Nat) (l : List UInt8) (w : World) (h : n < 0 ∨ 30 < n ∨ l = []) :
    Calls Try.prog 53 #[.int .i64 tag, .int .i64 n, .slice A l.length c] w fun e w' => e = .returned (.slice none 0 0) ∧ w = w' := by
  have hh : n < 0 ∨ (¬ n < 0 ∧ 30 < n) ∨ (¬ n < 0 ∧ ¬ 30 < n ∧ l = []) := by
    by_cases h1 : n < 0
    · exact .inl h1
    · by_cases h2 : 30 < n
      · exact .inr (.inl ⟨h1, h2⟩)
      · exact .inr (.inr ⟨h1, h2, by rcases h with h | h | h <;> first | exact h | omega⟩)
  rcases hh with h1 | ⟨h1, h2⟩ | ⟨h1, h2, rfl⟩
  · clear h
    go_enter Try.func53, Try.ntmps53
    go_wp2
    go_ret
    exact ⟨rfl, rfl⟩
  · clear h
    go_enter Try.func53, Try.ntmps53
    go_wp2
    go_ret
    exact ⟨rfl, rfl⟩
  · clear h
    go_enter Try.func53, Try.ntmps53
    go_wp2
    go_ret
    exact ⟨rfl, rfl⟩

theorem wrapped_at (tag n : Int) (A : Option Addr) (c : Nat) (l : List UInt8) (w : World) (h : BS w (.slice A l.length c) l) (ht0 : 0 ≤ tag) (ht1 : tag ≤ 200) :
    Calls Try.prog 53 #[.int .i64 tag, .int .i64 n, .slice A l.length c] w fun e w' => ∃ A c, e = .returned (.slice A (encWrap tag n l).length c) ∧ OB 5 w' w.heap.size (.slice A (encWrap tag n l).length c) (encWrap tag n l) ∧ Ext w w' := by
  by_cases hh : 0 ≤ n ∧ n ≤ 30 ∧ l ≠ []
  · exact wrapped_yes tag n A c l w h ht0 ht1 hh.1 hh.2.1 hh.2.2
  · refine (wrapped_no tag n A c l w (by
      by_cases hl : l = []
      · exact .inr (.inr hl)
      · have : ¬ (0 ≤ n ∧ n ≤ 30) := fun h => hh ⟨h.1, h.2, hl⟩
        omega)).mono ?_
    rintro e w' ⟨rfl, rfl⟩
    have e : encWrap tag n l = [] := by unfold encWrap; rw [if_neg hh]
    rw [e]
    exact ⟨none, 0, rfl, OB.nil _ _ _, Ext.refl _⟩

set_option maxRecDepth 100000 in
theorem Application_at (n : Int) (A : Option Addr) (c : Nat) (l : List UInt8) (w : World) (h : BS w (.slice A l.length c) l) :
    Calls Try.prog 11 #[.int .i64 n, .slice A l.length c] w fun e w' => ∃ A c, e = .returned (.slice A (encWrap 96 n l).length c) ∧ OB 5 w' w.heap.size (.slice A (encWrap 96 n l).length c) (encWrap 96 n l) ∧ Ext w w' := by
  go_enter Try.func11, Try.ntmps11
  go_wp2_with (go_at_call 53; refine (wrapped_at 96 n A c l _ h (by omega) (by omega)).mono ?_; rintro e w2 ⟨A2, c2, rfl, hb2, hx2⟩)
  go_ret
  exact ⟨_, _, rfl, hb2, hx2⟩

set_option maxRecDepth 100000 in
theorem Tagged_at (n : Int) (A : Option Addr) (c : Nat) (l : List UInt8) (w : World) (h : BS w (.slice A l.length c) l) :
    Calls Try.prog 13 #[.int .i64 n, .slice A l.length c] w fun e w' => ∃ A c, e = .returned (.slice A (encWrap 160 n l).length c) ∧ OB 5 w' w.heap.size (.slice A (encWrap 160 n l).length c) (encWrap 160 n l) ∧ Ext w w' := by
  go_enter Try.func13, Try.ntmps13
  go_wp2_with (go_at_call 53; refine (wrapped_at 160 n A c l _ h (by omega) (by omega)).mono ?_; rintro e w2 ⟨A2, c2, rfl, hb2, hx2⟩)
  go_ret
  exact ⟨_, _, rfl, hb2, hx2⟩
end Go.Proofs.Ytmbmhepmeajnoaa
