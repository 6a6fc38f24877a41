/- The other writers of one element. -/
import Derived.Test.YtgclchdccgkjaaaDoorDer3
import Derived.Test.YtgclchdccgkjaaaDoorStr
import Derived.Test.YtgclchdccgkjaaaDoorPl
namespace Go.Proofs.YtgclchdccgkjaaaDoor
open Go Go.RowKit

set_option maxRecDepth 100000 in
theorem String_at (l : List UInt8) (w : World) (hl : l.length ≤ maxLen) :
    Calls Tryd.prog 40 #[.string ⟨l.toArray⟩] w fun e w' => ∃ A c, e = .returned (.slice A (encString l).length c) ∧ OB 5 w' w.heap.size (.slice A (encString l).length c) (encString l) ∧ Ext w w' := by
  obtain ⟨c1, w1, hrun, hb1, hx1, hz1⟩ := run_bytes (P := Tryd.prog) w 9 38 5 l Tryd.underlying9 Tryd.underlying38 Tryd.underlying5 hl
  have HZ := Lib.hid hz1; clear hz1
  go_enter Tryd.func40, Tryd.ntmps40
  go_wp2_with (go_at_call 59; refine (element_at 27 27 rfl _ [l] l (by simp) _ (BSS.new1 w1 _ _ _ hb1)).mono ?_; rintro e w2 ⟨A2, c2, rfl, hb2, hx2⟩)
  go_ret
  exact ⟨_, _, rfl, hb2.up (hx1.alloc _), (hx1.alloc _).trans hx2⟩

set_option maxRecDepth 100000 in
theorem Sequence_at (v : Value) (ls : List (List UInt8)) (w : World) (h : BSS w v ls) :
    Calls Tryd.prog 41 #[v] w fun e w' => ∃ A c, e = .returned (.slice A (encSeq ls).length c) ∧ OB 5 w' w.heap.size (.slice A (encSeq ls).length c) (encSeq ls) ∧ Ext w w' := by
  go_enter Tryd.func41, Tryd.ntmps41
  go_wp2_with (go_at_call 59; refine (element_at 48 48 rfl _ ls ls.flatten rfl _ h).mono ?_; rintro e w2 ⟨A2, c2, rfl, hb2, hx2⟩)
  go_ret
  exact ⟨_, _, rfl, hb2, hx2⟩

set_option maxRecDepth 100000 in
theorem wrapped_yes (tag n : Int) (A : Option Addr) (c : Nat) (l : List UInt8) (w : World) (h : BS w (.slice A l.length c) l) (ht0 : 0 ≤ tag) (ht1 : tag ≤ 200) (hn0 : 0 ≤ n) (hn1 : n ≤ 30) (hl : l ≠ []) :
    Calls Tryd.prog 60 #[.int .i64 tag, .int .i64 n, .slice A l.length c] w fun e w' => ∃ A c, e = .returned (.slice A (encWrap tag n l).length c) ∧ OB 5 w' w.heap.size (.slice A (encWrap tag n l).length c) (encWrap tag n l) ∧ Ext w w' := by
  have he : encWrap tag n l = elem (UInt8.ofNat (tag + n).toNat) l := by unfold encWrap; rw [if_pos ⟨hn0, hn1, hl⟩]
  rw [he]
  have hl' : 0 < l.length := List.length_pos_iff.2 hl
  have ht : tag + n = ((UInt8.ofNat (tag + n).toNat).toNat : Int) := by simp only [UInt8.toNat_ofNat']; omega
  have HT := Lib.hid ht; clear ht
  have h3 : ((l.length : Int) == 0) = false := by simp; exact hl
  have HE := Lib.hid he; clear he
  have HL := Lib.hid hl; clear hl
  go_enter Tryd.func60, Tryd.ntmps60
  go_wp2_with (go_at_call 59; refine (element_at (tag + n) (UInt8.ofNat (tag + n).toNat) HT.out _ [l] l (by simp) _ (BSS.new1 w _ _ _ h)).mono ?_; rintro e w2 ⟨A2, c2, rfl, hb2, hx2⟩)
  go_ret
  exact ⟨_, _, rfl, hb2.up ((Ext.refl w).alloc _), ((Ext.refl w).alloc _).trans hx2⟩

set_option maxRecDepth 100000 in
theorem wrapped_no (tag n : Int) (A : Option Addr) (c : Nat) (l : List UInt8) (w : World) (h : n < 0 ∨ 30 < n ∨ l = []) :
    Calls Tryd.prog 60 #[.int .i64 tag, .int .i64 n, .slice A l.length c] w fun e w' => e = .returned (.slice none 0 0) ∧ w = w' := by
  have hh : n < 0 ∨ (¬ n < 0 ∧ 30 < n) ∨ (¬ n < 0 ∧ ¬ 30 < n ∧ l = []) := by
    by_cases h1 : n < 0
    · exact .inl h1
    · by_cases h2 : 30 < n
      · exact .inr (.inl ⟨h1, h2⟩)
      · exact .inr (.inr ⟨h1, h2, by rcases h with h | h | h <;> first | exact h | omega⟩)
  rcases hh with h1 | ⟨h1, h2⟩ | ⟨h1, h2, rfl⟩
  · clear h
    go_enter Tryd.func60, Tryd.ntmps60
    go_wp2
    go_ret
    exact ⟨rfl, rfl⟩
  · clear h
    go_enter Tryd.func60, Tryd.ntmps60
    go_wp2
    go_ret
    exact ⟨rfl, rfl⟩
  · clear h
    go_enter Tryd.func60, Tryd.ntmps60
    go_wp2
    go_ret
    exact ⟨rfl, rfl⟩

theorem wrapped_at (tag n : Int) (A : Option Addr) (c : Nat) (l : List UInt8) (w : World) (h : BS w (.slice A l.length c) l) (ht0 : 0 ≤ tag) (ht1 : tag ≤ 200) :
    Calls Tryd.prog 60 #[.int .i64 tag, .int .i64 n, .slice A l.length c] w fun e w' => ∃ A c, e = .returned (.slice A (encWrap tag n l).length c) ∧ OB 5 w' w.heap.size (.slice A (encWrap tag n l).length c) (encWrap tag n l) ∧ Ext w w' := by
  by_cases hh : 0 ≤ n ∧ n ≤ 30 ∧ l ≠ []
  · exact wrapped_yes tag n A c l w h ht0 ht1 hh.1 hh.2.1 hh.2.2
  · refine (wrapped_no tag n A c l w (by
      by_cases hl : l = []
      · exact .inr (.inr hl)
      · have : ¬ (0 ≤ n ∧ n ≤ 30) := fun h => hh ⟨h.1, h.2, hl⟩
        omega)).mono ?_
    rintro e w' ⟨rfl, rfl⟩
    have e : encWrap tag n l = [] := by unfold encWrap; rw [if_neg hh]
    rw [e]
    exact ⟨none, 0, rfl, OB.nil _ _ _, Ext.refl _⟩

set_option maxRecDepth 100000 in
theorem Tagged_at (n : Int) (A : Option Addr) (c : Nat) (l : List UInt8) (w : World) (h : BS w (.slice A l.length c) l) :
    Calls Tryd.prog 42 #[.int .i64 n, .slice A l.length c] w fun e w' => ∃ A c, e = .returned (.slice A (encWrap 160 n l).length c) ∧ OB 5 w' w.heap.size (.slice A (encWrap 160 n l).length c) (encWrap 160 n l) ∧ Ext w w' := by
  go_enter Tryd.func42, Tryd.ntmps42
  go_wp2_with (go_at_call 60; refine (wrapped_at 160 n A c l _ h (by omega) (by omega)).mono ?_; rintro e w2 ⟨A2, c2, rfl, hb2, hx2⟩)
  go_ret
  exact ⟨_, _, rfl, hb2, hx2⟩
end Go.Proofs.YtgclchdccgkjaaaDoor
