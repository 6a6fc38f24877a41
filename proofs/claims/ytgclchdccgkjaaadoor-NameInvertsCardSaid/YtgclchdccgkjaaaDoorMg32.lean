/- Texts laid together (wip/tools/automerge.py): Ref1, Ref2, Ref3. -/
import Derived.Test.YtgclchdccgkjaaaDoorMg11
namespace Go.Proofs.YtgclchdccgkjaaaDoor
open Go Go.RowKit

set_option maxRecDepth 100000 in
theorem Make_0 (tag : Int) (t : UInt8) (ht : tag = (t.toNat : Int)) (A : Option Addr) (c : Nat) (l : List UInt8) (w : World) (h : BS w (.slice A l.length c) l) (hd0 : decide ((l.length : Int) < 128) = true) :
    Calls Tryd.prog 61 #[.int .i64 tag, .slice A l.length c] w fun e w' => ∃ v, e = .returned v ∧ OB 5 w' w.heap.size v (elem t l) ∧ Ext w w' := by
  obtain ⟨i0, hi, hz0, hz1, hz2⟩ := info_parts u8info
  have htb : t.toNat < 256 := t.toNat_lt
  have b0 : 0 ≤ tag := by omega
  have b1 : tag ≤ 255 := by omega
  have HT := Lib.hid ht; clear ht htb
  have hlo : 0 ≤ l.length := by omega
  have hhi : l.length < 128 := by simp at hd0; omega
  have hi1 : (l.length : Int) ≤ 127 := by omega
  have HLO := Lib.hid hlo; clear hlo
  have HHI := Lib.hid hhi; clear hhi
  have HOB := Lib.hid (OB.lit w 5 w.heap.size [.int .u8 tag] [t] (by rw [HT.out]; rfl) 1 rfl (by simp [maxLen]) (Nat.le_refl _) (z := w.heap.size) rfl)
  go_enter Tryd.func61, Tryd.ntmps61
  go_wp2_with (first
    | (at_builtin; refine wpList_append_bs _ rfl (.tmp 14) (.tmp 17) 38 rfl w.heap.size 5 i0 (.int .u8 0) Tryd.underlying38 hi hz0 hz1 hz2 rfl _ [t] rfl (HOB.out.ext ((Ext.refl _).alloc _)) _ (encLen l.length) rfl (BS.new' _ 5 _ _ ?ha _ ?hb ?hc ?hz) ?hd ?he ?_; rotate_right; intro v3 w3 hown3 hg3 hat3)
    | (at_builtin; refine wpList_append_bs _ rfl (.tmp 52) (.tmp 53) 38 rfl w.heap.size 5 i0 (.int .u8 0) Tryd.underlying38 hi hz0 hz1 hz2 rfl v3 ([t] ++ encLen l.length) rfl hown3 _ l rfl (h.ext (((Ext.refl w).alloc _ |>.alloc _).grown hg3 ?hr)) ?hf ?hg ?_; rotate_right; intro v4 w4 hown4 hg4 hat4))
  case ha => exact (bv_encLen0 l.length (by have := HLO.out; have := HHI.out; omega) HHI.out).symm
  case hb => rw [← bv_length, bv_encLen0 l.length (by have := HLO.out; have := HHI.out; omega) HHI.out]; rfl
  case hc => have := encLen_le l.length; unfold maxLen; omega
  case hz => simp
  case hd => have := encLen_le l.length; simp; omega
  case he => simp; omega
  case hr => intro j hj; exact OB.lt (HOB.out.ext ((Ext.refl _).alloc (.cells #[] 0))) j hj
  case hf => have := encLen_le l.length; have := HHI.out; simp; omega
  case hg => have := hg3.size; simp at this; omega
  go_ret
  refine ⟨_, rfl, ?_, (((Ext.refl w).alloc _ |>.alloc _).grown hg3 (fun j hj => OB.lt HOB.out j hj)).grown hg4 (fun j hj => OB.lt hown3 j hj)⟩
  have he : elem t l = [t] ++ encLen l.length ++ l := by unfold elem; rw [if_pos (by have := HHI.out; omega)]; simp
  rw [he]; exact hown4

set_option maxRecDepth 100000 in
theorem Make_1 (tag : Int) (t : UInt8) (ht : tag = (t.toNat : Int)) (A : Option Addr) (c : Nat) (l : List UInt8) (w : World) (h : BS w (.slice A l.length c) l) (hd0 : decide ((l.length : Int) < 128) = false) (hd1 : decide ((l.length : Int) < 256) = true) :
    Calls Tryd.prog 61 #[.int .i64 tag, .slice A l.length c] w fun e w' => ∃ v, e = .returned v ∧ OB 5 w' w.heap.size v (elem t l) ∧ Ext w w' := by
  obtain ⟨i0, hi, hz0, hz1, hz2⟩ := info_parts u8info
  have htb : t.toNat < 256 := t.toNat_lt
  have b0 : 0 ≤ tag := by omega
  have b1 : tag ≤ 255 := by omega
  have HT := Lib.hid ht; clear ht htb
  have hlo : 128 ≤ l.length := by simp at hd0; omega
  have hhi : l.length < 256 := by simp at hd1; omega
  have hi1 : (l.length : Int) ≤ 255 := by omega
  have HLO := Lib.hid hlo; clear hlo
  have HHI := Lib.hid hhi; clear hhi
  have HOB := Lib.hid (OB.lit w 5 w.heap.size [.int .u8 tag] [t] (by rw [HT.out]; rfl) 1 rfl (by simp [maxLen]) (Nat.le_refl _) (z := w.heap.size) rfl)
  go_enter Tryd.func61, Tryd.ntmps61
  go_wp2_with (first
    | (at_builtin; refine wpList_append_bs _ rfl (.tmp 21) (.tmp 24) 38 rfl w.heap.size 5 i0 (.int .u8 0) Tryd.underlying38 hi hz0 hz1 hz2 rfl _ [t] rfl (HOB.out.ext ((Ext.refl _).alloc _)) _ (encLen l.length) rfl (BS.new' _ 5 _ _ ?ha _ ?hb ?hc ?hz) ?hd ?he ?_; rotate_right; intro v3 w3 hown3 hg3 hat3)
    | (at_builtin; refine wpList_append_bs _ rfl (.tmp 52) (.tmp 53) 38 rfl w.heap.size 5 i0 (.int .u8 0) Tryd.underlying38 hi hz0 hz1 hz2 rfl v3 ([t] ++ encLen l.length) rfl hown3 _ l rfl (h.ext (((Ext.refl w).alloc _ |>.alloc _).grown hg3 ?hr)) ?hf ?hg ?_; rotate_right; intro v4 w4 hown4 hg4 hat4))
  case ha => exact (bv_encLen1 l.length (by have := HLO.out; have := HHI.out; omega) HHI.out).symm
  case hb => rw [← bv_length, bv_encLen1 l.length (by have := HLO.out; have := HHI.out; omega) HHI.out]; rfl
  case hc => have := encLen_le l.length; unfold maxLen; omega
  case hz => simp
  case hd => have := encLen_le l.length; simp; omega
  case he => simp; omega
  case hr => intro j hj; exact OB.lt (HOB.out.ext ((Ext.refl _).alloc (.cells #[] 0))) j hj
  case hf => have := encLen_le l.length; have := HHI.out; simp; omega
  case hg => have := hg3.size; simp at this; omega
  go_ret
  refine ⟨_, rfl, ?_, (((Ext.refl w).alloc _ |>.alloc _).grown hg3 (fun j hj => OB.lt HOB.out j hj)).grown hg4 (fun j hj => OB.lt hown3 j hj)⟩
  have he : elem t l = [t] ++ encLen l.length ++ l := by unfold elem; rw [if_pos (by have := HHI.out; omega)]; simp
  rw [he]; exact hown4

set_option maxRecDepth 100000 in
theorem Make_2 (tag : Int) (t : UInt8) (ht : tag = (t.toNat : Int)) (A : Option Addr) (c : Nat) (l : List UInt8) (w : World) (h : BS w (.slice A l.length c) l) (hd0 : decide ((l.length : Int) < 128) = false) (hd1 : decide ((l.length : Int) < 256) = false) (hd2 : decide ((l.length : Int) < 65536) = true) :
    Calls Tryd.prog 61 #[.int .i64 tag, .slice A l.length c] w fun e w' => ∃ v, e = .returned v ∧ OB 5 w' w.heap.size v (elem t l) ∧ Ext w w' := by
  obtain ⟨i0, hi, hz0, hz1, hz2⟩ := info_parts u8info
  have htb : t.toNat < 256 := t.toNat_lt
  have b0 : 0 ≤ tag := by omega
  have b1 : tag ≤ 255 := by omega
  have HT := Lib.hid ht; clear ht htb
  have hlo : 256 ≤ l.length := by simp at hd1; omega
  have hhi : l.length < 65536 := by simp at hd2; omega
  have hi1 : (l.length : Int) ≤ 65535 := by omega
  have HLO := Lib.hid hlo; clear hlo
  have HHI := Lib.hid hhi; clear hhi
  have HOB := Lib.hid (OB.lit w 5 w.heap.size [.int .u8 tag] [t] (by rw [HT.out]; rfl) 1 rfl (by simp [maxLen]) (Nat.le_refl _) (z := w.heap.size) rfl)
  go_enter Tryd.func61, Tryd.ntmps61
  go_wp2_with (first
    | (at_builtin; refine wpList_append_bs _ rfl (.tmp 28) (.tmp 35) 38 rfl w.heap.size 5 i0 (.int .u8 0) Tryd.underlying38 hi hz0 hz1 hz2 rfl _ [t] rfl (HOB.out.ext ((Ext.refl _).alloc _)) _ (encLen l.length) rfl (BS.new' _ 5 _ _ ?ha _ ?hb ?hc ?hz) ?hd ?he ?_; rotate_right; intro v3 w3 hown3 hg3 hat3)
    | (at_builtin; refine wpList_append_bs _ rfl (.tmp 52) (.tmp 53) 38 rfl w.heap.size 5 i0 (.int .u8 0) Tryd.underlying38 hi hz0 hz1 hz2 rfl v3 ([t] ++ encLen l.length) rfl hown3 _ l rfl (h.ext (((Ext.refl w).alloc _ |>.alloc _).grown hg3 ?hr)) ?hf ?hg ?_; rotate_right; intro v4 w4 hown4 hg4 hat4))
  case ha => exact (bv_encLen2 l.length (by have := HLO.out; have := HHI.out; omega) HHI.out).symm
  case hb => rw [← bv_length, bv_encLen2 l.length (by have := HLO.out; have := HHI.out; omega) HHI.out]; rfl
  case hc => have := encLen_le l.length; unfold maxLen; omega
  case hz => simp
  case hd => have := encLen_le l.length; simp; omega
  case he => simp; omega
  case hr => intro j hj; exact OB.lt (HOB.out.ext ((Ext.refl _).alloc (.cells #[] 0))) j hj
  case hf => have := encLen_le l.length; have := HHI.out; simp; omega
  case hg => have := hg3.size; simp at this; omega
  go_ret
  refine ⟨_, rfl, ?_, (((Ext.refl w).alloc _ |>.alloc _).grown hg3 (fun j hj => OB.lt HOB.out j hj)).grown hg4 (fun j hj => OB.lt hown3 j hj)⟩
  have he : elem t l = [t] ++ encLen l.length ++ l := by unfold elem; rw [if_pos (by have := HHI.out; omega)]; simp
  rw [he]; exact hown4

set_option maxRecDepth 100000 in
theorem Make_3 (tag : Int) (t : UInt8) (ht : tag = (t.toNat : Int)) (A : Option Addr) (c : Nat) (l : List UInt8) (w : World) (h : BS w (.slice A l.length c) l) (hd0 : decide ((l.length : Int) < 128) = false) (hd1 : decide ((l.length : Int) < 256) = false) (hd2 : decide ((l.length : Int) < 65536) = false) (hd3 : decide ((l.length : Int) < 16777216) = true) :
    Calls Tryd.prog 61 #[.int .i64 tag, .slice A l.length c] w fun e w' => ∃ v, e = .returned v ∧ OB 5 w' w.heap.size v (elem t l) ∧ Ext w w' := by
  obtain ⟨i0, hi, hz0, hz1, hz2⟩ := info_parts u8info
  have htb : t.toNat < 256 := t.toNat_lt
  have b0 : 0 ≤ tag := by omega
  have b1 : tag ≤ 255 := by omega
  have HT := Lib.hid ht; clear ht htb
  have hlo : 65536 ≤ l.length := by simp at hd2; omega
  have hhi : l.length < 16777216 := by simp at hd3; omega
  have hi1 : (l.length : Int) ≤ 16777215 := by omega
  have HLO := Lib.hid hlo; clear hlo
  have HHI := Lib.hid hhi; clear hhi
  have HOB := Lib.hid (OB.lit w 5 w.heap.size [.int .u8 tag] [t] (by rw [HT.out]; rfl) 1 rfl (by simp [maxLen]) (Nat.le_refl _) (z := w.heap.size) rfl)
  go_enter Tryd.func61, Tryd.ntmps61
  go_wp2_with (first
    | (at_builtin; refine wpList_append_bs _ rfl (.tmp 39) (.tmp 50) 38 rfl w.heap.size 5 i0 (.int .u8 0) Tryd.underlying38 hi hz0 hz1 hz2 rfl _ [t] rfl (HOB.out.ext ((Ext.refl _).alloc _)) _ (encLen l.length) rfl (BS.new' _ 5 _ _ ?ha _ ?hb ?hc ?hz) ?hd ?he ?_; rotate_right; intro v3 w3 hown3 hg3 hat3)
    | (at_builtin; refine wpList_append_bs _ rfl (.tmp 52) (.tmp 53) 38 rfl w.heap.size 5 i0 (.int .u8 0) Tryd.underlying38 hi hz0 hz1 hz2 rfl v3 ([t] ++ encLen l.length) rfl hown3 _ l rfl (h.ext (((Ext.refl w).alloc _ |>.alloc _).grown hg3 ?hr)) ?hf ?hg ?_; rotate_right; intro v4 w4 hown4 hg4 hat4))
  case ha => exact (bv_encLen3 l.length (by have := HLO.out; have := HHI.out; omega) HHI.out).symm
  case hb => rw [← bv_length, bv_encLen3 l.length (by have := HLO.out; have := HHI.out; omega) HHI.out]; rfl
  case hc => have := encLen_le l.length; unfold maxLen; omega
  case hz => simp
  case hd => have := encLen_le l.length; simp; omega
  case he => simp; omega
  case hr => intro j hj; exact OB.lt (HOB.out.ext ((Ext.refl _).alloc (.cells #[] 0))) j hj
  case hf => have := encLen_le l.length; have := HHI.out; simp; omega
  case hg => have := hg3.size; simp at this; omega
  go_ret
  refine ⟨_, rfl, ?_, (((Ext.refl w).alloc _ |>.alloc _).grown hg3 (fun j hj => OB.lt HOB.out j hj)).grown hg4 (fun j hj => OB.lt hown3 j hj)⟩
  have he : elem t l = [t] ++ encLen l.length ++ l := by unfold elem; rw [if_pos (by have := HHI.out; omega)]; simp
  rw [he]; exact hown4

set_option maxRecDepth 100000 in
theorem Make_4 (tag : Int) (t : UInt8) (ht : tag = (t.toNat : Int)) (A : Option Addr) (c : Nat) (l : List UInt8) (w : World) (hd0 : decide ((l.length : Int) < 128) = false) (hd1 : decide ((l.length : Int) < 256) = false) (hd2 : decide ((l.length : Int) < 65536) = false) (hd3 : decide ((l.length : Int) < 16777216) = false) :
    Calls Tryd.prog 61 #[.int .i64 tag, .slice A l.length c] w fun e w' => ∃ v, e = .returned v ∧ OB 5 w' w.heap.size v (elem t l) ∧ Ext w w' := by
  have htb : t.toNat < 256 := t.toNat_lt
  have b0 : 0 ≤ tag := by omega
  have b1 : tag ≤ 255 := by omega
  have HT := Lib.hid ht; clear ht htb
  have he : elem t l = [] := by unfold elem; rw [if_neg (by simp at hd3; omega)]
  have HE := Lib.hid he; clear he
  go_enter Tryd.func61, Tryd.ntmps61
  go_wp2
  go_ret
  exact ⟨_, rfl, by rw [HE.out]; exact OB.nil _ _ _, (Ext.refl w).alloc _⟩

theorem Make_at (tag : Int) (t : UInt8) (ht : tag = (t.toNat : Int)) (A : Option Addr) (c : Nat) (l : List UInt8) (w : World) (h : BS w (.slice A l.length c) l) :
    Calls Tryd.prog 61 #[.int .i64 tag, .slice A l.length c] w fun e w' => ∃ A c, e = .returned (.slice A (elem t l).length c) ∧ OB 5 w' w.heap.size (.slice A (elem t l).length c) (elem t l) ∧ Ext w w' := by
  by_cases h0 : (l.length : Int) < 128
  · exact (Make_0 tag t ht A c l w h (decide_eq_true h0)).mono fun _ _ h => OB.ret h
  by_cases h1 : (l.length : Int) < 256
  · exact (Make_1 tag t ht A c l w h (decide_eq_false h0) (decide_eq_true h1)).mono fun _ _ h => OB.ret h
  by_cases h2 : (l.length : Int) < 65536
  · exact (Make_2 tag t ht A c l w h (decide_eq_false h0) (decide_eq_false h1) (decide_eq_true h2)).mono fun _ _ h => OB.ret h
  by_cases h3 : (l.length : Int) < 16777216
  · exact (Make_3 tag t ht A c l w h (decide_eq_false h0) (decide_eq_false h1) (decide_eq_false h2) (decide_eq_true h3)).mono fun _ _ h => OB.ret h
  · exact (Make_4 tag t ht A c l w (decide_eq_false h0) (decide_eq_false h1) (decide_eq_false h2) (decide_eq_false h3)).mono fun _ _ h => OB.ret h
#print axioms Make_at
end Go.Proofs.YtgclchdccgkjaaaDoor
namespace Go.Proofs.YtgclchdccgkjaaaDoor
open Go Go.RowKit

end Go.Proofs.YtgclchdccgkjaaaDoor
namespace Go.Proofs.YtgclchdccgkjaaaDoor
open Go Go.RowKit

set_option maxRecDepth 100000 in
theorem RString_at (l : List UInt8) (w : World) (hl : l.length ≤ maxLen) :
    Calls Tryd.prog 43 #[.string ⟨l.toArray⟩] w fun e w' => ∃ A c, e = .returned (.slice A (encString l).length c) ∧ OB 5 w' w.heap.size (.slice A (encString l).length c) (encString l) ∧ Ext w w' := by
  obtain ⟨c1, w1, hrun, hb1, hx1, hz1⟩ := run_bytes (P := Tryd.prog) w 9 38 5 l Tryd.underlying9 Tryd.underlying38 Tryd.underlying5 hl
  have HZ := Lib.hid hz1; clear hz1
  go_enter Tryd.func43, Tryd.ntmps43
  go_wp2_with (go_at_call 61; refine (Make_at 27 27 rfl _ _ l _ hb1).mono ?_; rintro e w2 ⟨A2, c2, rfl, hb2, hx2⟩)
  go_ret
  exact ⟨_, _, rfl, hb2.up hx1, hx1.trans hx2⟩

set_option maxRecDepth 100000 in
theorem Rwrapped_yes (tag n : Int) (A : Option Addr) (c : Nat) (l : List UInt8) (w : World) (h : BS w (.slice A l.length c) l) (ht0 : 0 ≤ tag) (ht1 : tag ≤ 200) (hn0 : 0 ≤ n) (hn1 : n ≤ 30) (hl : l ≠ []) :
    Calls Tryd.prog 62 #[.int .i64 tag, .int .i64 n, .slice A l.length c] w fun e w' => ∃ A c, e = .returned (.slice A (encWrap tag n l).length c) ∧ OB 5 w' w.heap.size (.slice A (encWrap tag n l).length c) (encWrap tag n l) ∧ Ext w w' := by
  have he : encWrap tag n l = elem (UInt8.ofNat (tag + n).toNat) l := by unfold encWrap; rw [if_pos ⟨hn0, hn1, hl⟩]
  rw [he]
  have hl' : 0 < l.length := List.length_pos_iff.2 hl
  have ht : tag + n = ((UInt8.ofNat (tag + n).toNat).toNat : Int) := by simp only [UInt8.toNat_ofNat']; omega
  have HT := Lib.hid ht; clear ht
  have h3 : ((l.length : Int) == 0) = false := by simp; exact hl
  have HE := Lib.hid he; clear he
  have HL := Lib.hid hl; clear hl
  go_enter Tryd.func62, Tryd.ntmps62
  go_wp2_with (go_at_call 61; refine (Make_at (tag + n) (UInt8.ofNat (tag + n).toNat) HT.out _ _ l _ h).mono ?_; rintro e w2 ⟨A2, c2, rfl, hb2, hx2⟩)
  go_ret
  exact ⟨_, _, rfl, hb2, hx2⟩

set_option maxRecDepth 100000 in
theorem Rwrapped_no (tag n : Int) (A : Option Addr) (c : Nat) (l : List UInt8) (w : World) (h : n < 0 ∨ 30 < n ∨ l = []) :
    Calls Tryd.prog 62 #[.int .i64 tag, .int .i64 n, .slice A l.length c] w fun e w' => e = .returned (.slice none 0 0) ∧ w = w' := by
  have hh : n < 0 ∨ (¬ n < 0 ∧ 30 < n) ∨ (¬ n < 0 ∧ ¬ 30 < n ∧ l = []) := by
    by_cases h1 : n < 0
    · exact .inl h1
    · by_cases h2 : 30 < n
      · exact .inr (.inl ⟨h1, h2⟩)
      · exact .inr (.inr ⟨h1, h2, by rcases h with h | h | h <;> first | exact h | omega⟩)
  rcases hh with h1 | ⟨h1, h2⟩ | ⟨h1, h2, rfl⟩
  all_goals
    clear h
    go_enter Tryd.func62, Tryd.ntmps62
    go_wp2
    go_ret
    exact ⟨rfl, rfl⟩

theorem Rwrapped_at (tag n : Int) (A : Option Addr) (c : Nat) (l : List UInt8) (w : World) (h : BS w (.slice A l.length c) l) (ht0 : 0 ≤ tag) (ht1 : tag ≤ 200) :
    Calls Tryd.prog 62 #[.int .i64 tag, .int .i64 n, .slice A l.length c] w fun e w' => ∃ A c, e = .returned (.slice A (encWrap tag n l).length c) ∧ OB 5 w' w.heap.size (.slice A (encWrap tag n l).length c) (encWrap tag n l) ∧ Ext w w' := by
  by_cases hh : 0 ≤ n ∧ n ≤ 30 ∧ l ≠ []
  · exact Rwrapped_yes tag n A c l w h ht0 ht1 hh.1 hh.2.1 hh.2.2
  · refine (Rwrapped_no tag n A c l w (by
      by_cases hl : l = []
      · exact .inr (.inr hl)
      · have : ¬ (0 ≤ n ∧ n ≤ 30) := fun h => hh ⟨h.1, h.2, hl⟩
        omega)).mono ?_
    rintro e w' ⟨rfl, rfl⟩
    have e : encWrap tag n l = [] := by unfold encWrap; rw [if_neg hh]
    rw [e]
    exact ⟨none, 0, rfl, OB.nil _ _ _, Ext.refl _⟩

set_option maxRecDepth 100000 in
theorem RTagged_at (n : Int) (A : Option Addr) (c : Nat) (l : List UInt8) (w : World) (h : BS w (.slice A l.length c) l) :
    Calls Tryd.prog 45 #[.int .i64 n, .slice A l.length c] w fun e w' => ∃ A c, e = .returned (.slice A (encWrap 160 n l).length c) ∧ OB 5 w' w.heap.size (.slice A (encWrap 160 n l).length c) (encWrap 160 n l) ∧ Ext w w' := by
  go_enter Tryd.func45, Tryd.ntmps45
  go_wp2_with (go_at_call 62; refine (Rwrapped_at 160 n A c l _ h (by omega) (by omega)).mono ?_; rintro e w2 ⟨A2, c2, rfl, hb2, hx2⟩)
  go_ret
  exact ⟨_, _, rfl, hb2, hx2⟩

set_option maxRecDepth 100000 in
theorem RSequence_at (pv : Value) (ls : List (List UInt8)) (w : World) (hB : BSS w pv ls) (htot : ls.flatten.length ≤ 70368744177664) :
    Calls Tryd.prog 44 #[pv] w fun e w' => ∃ A c, e = .returned (.slice A (encSeq ls).length c) ∧ OB 5 w' w.heap.size (.slice A (encSeq ls).length c) (encSeq ls) ∧ Ext w w' := by
  obtain ⟨i0, hi, hz0, hz1, hz2⟩ := info_parts u8info
  obtain ⟨A, c, rfl, hc1, hc2, _, hcell⟩ := hB.open_
  unfold maxLen at hc2
  have HT := Lib.hid htot; clear htot
  go_enter Tryd.func44, Tryd.ntmps44
  go_wp2
  go_loopw [3, 4] (fun b i wr => ∃ k : Nat, k ≤ ls.length ∧ i = .int .i64 k ∧ OB 5 wr w.heap.size b ((ls.take k).flatten) ∧ Ext w wr) (fun _ i _ => ls.length - (intOf i).toNat)
  case atStart => exact ⟨0, Nat.zero_le _, rfl, OB.nil _ _ _, Ext.refl _⟩
  case round =>
    obtain ⟨k, hk, rfl, hb, hx⟩ := hrel
    by_cases hlt : k < ls.length
    · obtain ⟨ad, B, d, rfl, hc, hbk⟩ := hcell k hlt
      have hc' := hx.cell hc
      have hbk' := hbk.ext hx
      clear hcell hc hbk
      have HF : Hid ((ls.take k).flatten.length + ls[k].length ≤ 70368744177664) := by
        have h1 := HT.out
        have hfl := sumLen_le ls (k + 1)
        have hfs := sumLen_succ ls k hlt
        unfold sumLen at hfl hfs
        show _ ≤ _
        omega
      go_wp2_with (at_builtin; refine wpList_append_bs _ rfl (.tmp 11) (.tmp 15) 38 rfl w.heap.size 5 i0 (.int .u8 0) Tryd.underlying38 hi hz0 hz1 hz2 rfl _ _ rfl hb _ ls[k] rfl hbk' ?hl ?hm ?_; rotate_right; intro v4 w4 hown4 hg4 hat4)
      case hl => have := HF.out; omega
      case hm => exact hx.size
      go_roundw
      case rel => exact ⟨k + 1, by omega, by go_num, by rw [flatten_take_succ ls k hlt]; exact hown4, hx.grown hg4 (fun j hj => OB.lt hb j hj)⟩
      case measure => simp [intOf]; omega
    · have e : (ls.take k).flatten = ls.flatten := by rw [List.take_of_length_le (by omega)]
      rw [e] at hb
      obtain ⟨L, hL⟩ : ∃ L, L = ls.flatten := ⟨_, rfl⟩
      rw [← hL] at hb
      obtain ⟨A5, c5, rfl⟩ := hb.shape
      have HL := Lib.hid hL
      clear e hL
      go_wp2_with (go_at_call 61; refine (Make_at 48 48 rfl _ _ L _ hb.bs).mono ?_; rintro e w2 ⟨A2, c2, rfl, hb2, hx2⟩)
      go_ret
      have e : encSeq ls = elem 48 L := by unfold encSeq; rw [HL.out]
      rw [e]
      exact ⟨_, _, rfl, hb2.up hx, hx.trans hx2⟩
#print axioms RSequence_at
end Go.Proofs.YtgclchdccgkjaaaDoor
