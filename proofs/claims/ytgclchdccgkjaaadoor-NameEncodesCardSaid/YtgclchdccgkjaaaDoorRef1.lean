/- The reference's writers. -/
import Derived.Test.YtgclchdccgkjaaaDoorDer4
namespace Go.Proofs.YtgclchdccgkjaaaDoor
open Go Go.RowKit

set_option maxRecDepth 100000 in
theorem Make_0 (tag : Int) (t : UInt8) (ht : tag = (t.toNat : Int)) (A : Option Addr) (c : Nat) (l : List UInt8) (w : World) (h : BS w (.slice A l.length c) l) (hd0 : decide ((l.length : Int) < 128) = true) :
    Calls Tryd.prog 61 #[.int .i64 tag, .slice A l.length c] w fun e w' => ∃ v, e = .returned v ∧ OB 5 w' w.heap.size v (elem t l) ∧ Ext w w' := by
  obtain ⟨i0, hi, hz0, hz1, hz2⟩ := info_parts u8info
  have htb : t.toNat < 256 := t.toNat_lt
  have b0 : 0 ≤ tag := by omega
  have b1 : tag ≤ 255 := by omega
  have HT := Lib.hid ht; clear ht htb
  have hlo : 0 ≤ l.length := by omega
  have hhi : l.length < 128 := by simp at hd0; omega
  have hi1 : (l.length : Int) ≤ 127 := by omega
  have HLO := Lib.hid hlo; clear hlo
  have HHI := Lib.hid hhi; clear hhi
  have HOB := Lib.hid (OB.lit w 5 w.heap.size [.int .u8 tag] [t] (by rw [HT.out]; rfl) 1 rfl (by simp [maxLen]) (Nat.le_refl _) (z := w.heap.size) rfl)
  go_enter Tryd.func61, Tryd.ntmps61
  go_wp2_with (first
    | (at_builtin; refine wpList_append_bs _ rfl (.tmp 14) (.tmp 17) 38 rfl w.heap.size 5 i0 (.int .u8 0) Tryd.underlying38 hi hz0 hz1 hz2 rfl _ [t] rfl (HOB.out.ext ((Ext.refl _).alloc _)) _ (encLen l.length) rfl (BS.new' _ 5 _ _ ?ha _ ?hb ?hc ?hz) ?hd ?he ?_; rotate_right; intro v3 w3 hown3 hg3 hat3)
    | (at_builtin; refine wpList_append_bs _ rfl (.tmp 52) (.tmp 53) 38 rfl w.heap.size 5 i0 (.int .u8 0) Tryd.underlying38 hi hz0 hz1 hz2 rfl v3 ([t] ++ encLen l.length) rfl hown3 _ l rfl (h.ext (((Ext.refl w).alloc _ |>.alloc _).grown hg3 ?hr)) ?hf ?hg ?_; rotate_right; intro v4 w4 hown4 hg4 hat4))
  case ha => exact (bv_encLen0 l.length (by have := HLO.out; have := HHI.out; omega) HHI.out).symm
  case hb => rw [← bv_length, bv_encLen0 l.length (by have := HLO.out; have := HHI.out; omega) HHI.out]; rfl
  case hc => have := encLen_le l.length; unfold maxLen; omega
  case hz => simp
  case hd => have := encLen_le l.length; simp; omega
  case he => simp; omega
  case hr => intro j hj; exact OB.lt (HOB.out.ext ((Ext.refl _).alloc (.cells #[] 0))) j hj
  case hf => have := encLen_le l.length; have := HHI.out; simp; omega
  case hg => have := hg3.size; simp at this; omega
  go_ret
  refine ⟨_, rfl, ?_, (((Ext.refl w).alloc _ |>.alloc _).grown hg3 (fun j hj => OB.lt HOB.out j hj)).grown hg4 (fun j hj => OB.lt hown3 j hj)⟩
  have he : elem t l = [t] ++ encLen l.length ++ l := by unfold elem; rw [if_pos (by have := HHI.out; omega)]; simp
  rw [he]; exact hown4

set_option maxRecDepth 100000 in
theorem Make_1 (tag : Int) (t : UInt8) (ht : tag = (t.toNat : Int)) (A : Option Addr) (c : Nat) (l : List UInt8) (w : World) (h : BS w (.slice A l.length c) l) (hd0 : decide ((l.length : Int) < 128) = false) (hd1 : decide ((l.length : Int) < 256) = true) :
    Calls Tryd.prog 61 #[.int .i64 tag, .slice A l.length c] w fun e w' => ∃ v, e = .returned v ∧ OB 5 w' w.heap.size v (elem t l) ∧ Ext w w' := by
  obtain ⟨i0, hi, hz0, hz1, hz2⟩ := info_parts u8info
  have htb : t.toNat < 256 := t.toNat_lt
  have b0 : 0 ≤ tag := by omega
  have b1 : tag ≤ 255 := by omega
  have HT := Lib.hid ht; clear ht htb
  have hlo : 128 ≤ l.length := by simp at hd0; omega
  have hhi : l.length < 256 := by simp at hd1; omega
  have hi1 : (l.length : Int) ≤ 255 := by omega
  have HLO := Lib.hid hlo; clear hlo
  have HHI := Lib.hid hhi; clear hhi
  have HOB := Lib.hid (OB.lit w 5 w.heap.size [.int .u8 tag] [t] (by rw [HT.out]; rfl) 1 rfl (by simp [maxLen]) (Nat.le_refl _) (z := w.heap.size) rfl)
  go_enter Tryd.func61, Tryd.ntmps61
  go_wp2_with (first
    | (at_builtin; refine wpList_append_bs _ rfl (.tmp 21) (.tmp 24) 38 rfl w.heap.size 5 i0 (.int .u8 0) Tryd.underlying38 hi hz0 hz1 hz2 rfl _ [t] rfl (HOB.out.ext ((Ext.refl _).alloc _)) _ (encLen l.length) rfl (BS.new' _ 5 _ _ ?ha _ ?hb ?hc ?hz) ?hd ?he ?_; rotate_right; intro v3 w3 hown3 hg3 hat3)
    | (at_builtin; refine wpList_append_bs _ rfl (.tmp 52) (.tmp 53) 38 rfl w.heap.size 5 i0 (.int .u8 0) Tryd.underlying38 hi hz0 hz1 hz2 rfl v3 ([t] ++ encLen l.length) rfl hown3 _ l rfl (h.ext (((Ext.refl w).alloc _ |>.alloc _).grown hg3 ?hr)) ?hf ?hg ?_; rotate_right; intro v4 w4 hown4 hg4 hat4))
  case ha => exact (bv_encLen1 l.length (by have := HLO.out; have := HHI.out; omega) HHI.out).symm
  case hb => rw [← bv_length, bv_encLen1 l.length (by have := HLO.out; have := HHI.out; omega) HHI.out]; rfl
  case hc => have := encLen_le l.length; unfold maxLen; omega
  case hz => simp
  case hd => have := encLen_le l.length; simp; omega
  case he => simp; omega
  case hr => intro j hj; exact OB.lt (HOB.out.ext ((Ext.refl _).alloc (.cells #[] 0))) j hj
  case hf => have := encLen_le l.length; have := HHI.out; simp; omega
  case hg => have := hg3.size; simp at this; omega
  go_ret
  refine ⟨_, rfl, ?_, (((Ext.refl w).alloc _ |>.alloc _).grown hg3 (fun j hj => OB.lt HOB.out j hj)).grown hg4 (fun j hj => OB.lt hown3 j hj)⟩
  have he : elem t l = [t] ++ encLen l.length ++ l := by unfold elem; rw [if_pos (by have := HHI.out; omega)]; simp
  rw [he]; exact hown4

set_option maxRecDepth 100000 in
theorem Make_2 (tag : Int) (t : UInt8) (ht : tag = (t.toNat : Int)) (A : Option Addr) (c : Nat) (l : List UInt8) (w : World) (h : BS w (.slice A l.length c) l) (hd0 : decide ((l.length : Int) < 128) = false) (hd1 : decide ((l.length : Int) < 256) = false) (hd2 : decide ((l.length : Int) < 65536) = true) :
    Calls Tryd.prog 61 #[.int .i64 tag, .slice A l.length c] w fun e w' => ∃ v, e = .returned v ∧ OB 5 w' w.heap.size v (elem t l) ∧ Ext w w' := by
  obtain ⟨i0, hi, hz0, hz1, hz2⟩ := info_parts u8info
  have htb : t.toNat < 256 := t.toNat_lt
  have b0 : 0 ≤ tag := by omega
  have b1 : tag ≤ 255 := by omega
  have HT := Lib.hid ht; clear ht htb
  have hlo : 256 ≤ l.length := by simp at hd1; omega
  have hhi : l.length < 65536 := by simp at hd2; omega
  have hi1 : (l.length : Int) ≤ 65535 := by omega
  have HLO := Lib.hid hlo; clear hlo
  have HHI := Lib.hid hhi; clear hhi
  have HOB := Lib.hid (OB.lit w 5 w.heap.size [.int .u8 tag] [t] (by rw [HT.out]; rfl) 1 rfl (by simp [maxLen]) (Nat.le_refl _) (z := w.heap.size) rfl)
  go_enter Tryd.func61, Tryd.ntmps61
  go_wp2_with (first
    | (at_builtin; refine wpList_append_bs _ rfl (.tmp 28) (.tmp 35) 38 rfl w.heap.size 5 i0 (.int .u8 0) Tryd.underlying38 hi hz0 hz1 hz2 rfl _ [t] rfl (HOB.out.ext ((Ext.refl _).alloc _)) _ (encLen l.length) rfl (BS.new' _ 5 _ _ ?ha _ ?hb ?hc ?hz) ?hd ?he ?_; rotate_right; intro v3 w3 hown3 hg3 hat3)
    | (at_builtin; refine wpList_append_bs _ rfl (.tmp 52) (.tmp 53) 38 rfl w.heap.size 5 i0 (.int .u8 0) Tryd.underlying38 hi hz0 hz1 hz2 rfl v3 ([t] ++ encLen l.length) rfl hown3 _ l rfl (h.ext (((Ext.refl w).alloc _ |>.alloc _).grown hg3 ?hr)) ?hf ?hg ?_; rotate_right; intro v4 w4 hown4 hg4 hat4))
  case ha => exact (bv_encLen2 l.length (by have := HLO.out; have := HHI.out; omega) HHI.out).symm
  case hb => rw [← bv_length, bv_encLen2 l.length (by have := HLO.out; have := HHI.out; omega) HHI.out]; rfl
  case hc => have := encLen_le l.length; unfold maxLen; omega
  case hz => simp
  case hd => have := encLen_le l.length; simp; omega
  case he => simp; omega
  case hr => intro j hj; exact OB.lt (HOB.out.ext ((Ext.refl _).alloc (.cells #[] 0))) j hj
  case hf => have := encLen_le l.length; have := HHI.out; simp; omega
  case hg => have := hg3.size; simp at this; omega
  go_ret
  refine ⟨_, rfl, ?_, (((Ext.refl w).alloc _ |>.alloc _).grown hg3 (fun j hj => OB.lt HOB.out j hj)).grown hg4 (fun j hj => OB.lt hown3 j hj)⟩
  have he : elem t l = [t] ++ encLen l.length ++ l := by unfold elem; rw [if_pos (by have := HHI.out; omega)]; simp
  rw [he]; exact hown4

set_option maxRecDepth 100000 in
theorem Make_3 (tag : Int) (t : UInt8) (ht : tag = (t.toNat : Int)) (A : Option Addr) (c : Nat) (l : List UInt8) (w : World) (h : BS w (.slice A l.length c) l) (hd0 : decide ((l.length : Int) < 128) = false) (hd1 : decide ((l.length : Int) < 256) = false) (hd2 : decide ((l.length : Int) < 65536) = false) (hd3 : decide ((l.length : Int) < 16777216) = true) :
    Calls Tryd.prog 61 #[.int .i64 tag, .slice A l.length c] w fun e w' => ∃ v, e = .returned v ∧ OB 5 w' w.heap.size v (elem t l) ∧ Ext w w' := by
  obtain ⟨i0, hi, hz0, hz1, hz2⟩ := info_parts u8info
  have htb : t.toNat < 256 := t.toNat_lt
  have b0 : 0 ≤ tag := by omega
  have b1 : tag ≤ 255 := by omega
  have HT := Lib.hid ht; clear ht htb
  have hlo : 65536 ≤ l.length := by simp at hd2; omega
  have hhi : l.length < 16777216 := by simp at hd3; omega
  have hi1 : (l.length : Int) ≤ 16777215 := by omega
  have HLO := Lib.hid hlo; clear hlo
  have HHI := Lib.hid hhi; clear hhi
  have HOB := Lib.hid (OB.lit w 5 w.heap.size [.int .u8 tag] [t] (by rw [HT.out]; rfl) 1 rfl (by simp [maxLen]) (Nat.le_refl _) (z := w.heap.size) rfl)
  go_enter Tryd.func61, Tryd.ntmps61
  go_wp2_with (first
    | (at_builtin; refine wpList_append_bs _ rfl (.tmp 39) (.tmp 50) 38 rfl w.heap.size 5 i0 (.int .u8 0) Tryd.underlying38 hi hz0 hz1 hz2 rfl _ [t] rfl (HOB.out.ext ((Ext.refl _).alloc _)) _ (encLen l.length) rfl (BS.new' _ 5 _ _ ?ha _ ?hb ?hc ?hz) ?hd ?he ?_; rotate_right; intro v3 w3 hown3 hg3 hat3)
    | (at_builtin; refine wpList_append_bs _ rfl (.tmp 52) (.tmp 53) 38 rfl w.heap.size 5 i0 (.int .u8 0) Tryd.underlying38 hi hz0 hz1 hz2 rfl v3 ([t] ++ encLen l.length) rfl hown3 _ l rfl (h.ext (((Ext.refl w).alloc _ |>.alloc _).grown hg3 ?hr)) ?hf ?hg ?_; rotate_right; intro v4 w4 hown4 hg4 hat4))
  case ha => exact (bv_encLen3 l.length (by have := HLO.out; have := HHI.out; omega) HHI.out).symm
  case hb => rw [← bv_length, bv_encLen3 l.length (by have := HLO.out; have := HHI.out; omega) HHI.out]; rfl
  case hc => have := encLen_le l.length; unfold maxLen; omega
  case hz => simp
  case hd => have := encLen_le l.length; simp; omega
  case he => simp; omega
  case hr => intro j hj; exact OB.lt (HOB.out.ext ((Ext.refl _).alloc (.cells #[] 0))) j hj
  case hf => have := encLen_le l.length; have := HHI.out; simp; omega
  case hg => have := hg3.size; simp at this; omega
  go_ret
  refine ⟨_, rfl, ?_, (((Ext.refl w).alloc _ |>.alloc _).grown hg3 (fun j hj => OB.lt HOB.out j hj)).grown hg4 (fun j hj => OB.lt hown3 j hj)⟩
  have he : elem t l = [t] ++ encLen l.length ++ l := by unfold elem; rw [if_pos (by have := HHI.out; omega)]; simp
  rw [he]; exact hown4

set_option maxRecDepth 100000 in
theorem Make_4 (tag : Int) (t : UInt8) (ht : tag = (t.toNat : Int)) (A : Option Addr) (c : Nat) (l : List UInt8) (w : World) (hd0 : decide ((l.length : Int) < 128) = false) (hd1 : decide ((l.length : Int) < 256) = false) (hd2 : decide ((l.length : Int) < 65536) = false) (hd3 : decide ((l.length : Int) < 16777216) = false) :
    Calls Tryd.prog 61 #[.int .i64 tag, .slice A l.length c] w fun e w' => ∃ v, e = .returned v ∧ OB 5 w' w.heap.size v (elem t l) ∧ Ext w w' := by
  have htb : t.toNat < 256 := t.toNat_lt
  have b0 : 0 ≤ tag := by omega
  have b1 : tag ≤ 255 := by omega
  have HT := Lib.hid ht; clear ht htb
  have he : elem t l = [] := by unfold elem; rw [if_neg (by simp at hd3; omega)]
  have HE := Lib.hid he; clear he
  go_enter Tryd.func61, Tryd.ntmps61
  go_wp2
  go_ret
  exact ⟨_, rfl, by rw [HE.out]; exact OB.nil _ _ _, (Ext.refl w).alloc _⟩

theorem Make_at (tag : Int) (t : UInt8) (ht : tag = (t.toNat : Int)) (A : Option Addr) (c : Nat) (l : List UInt8) (w : World) (h : BS w (.slice A l.length c) l) :
    Calls Tryd.prog 61 #[.int .i64 tag, .slice A l.length c] w fun e w' => ∃ A c, e = .returned (.slice A (elem t l).length c) ∧ OB 5 w' w.heap.size (.slice A (elem t l).length c) (elem t l) ∧ Ext w w' := by
  by_cases h0 : (l.length : Int) < 128
  · exact (Make_0 tag t ht A c l w h (decide_eq_true h0)).mono fun _ _ h => OB.ret h
  by_cases h1 : (l.length : Int) < 256
  · exact (Make_1 tag t ht A c l w h (decide_eq_false h0) (decide_eq_true h1)).mono fun _ _ h => OB.ret h
  by_cases h2 : (l.length : Int) < 65536
  · exact (Make_2 tag t ht A c l w h (decide_eq_false h0) (decide_eq_false h1) (decide_eq_true h2)).mono fun _ _ h => OB.ret h
  by_cases h3 : (l.length : Int) < 16777216
  · exact (Make_3 tag t ht A c l w h (decide_eq_false h0) (decide_eq_false h1) (decide_eq_false h2) (decide_eq_true h3)).mono fun _ _ h => OB.ret h
  · exact (Make_4 tag t ht A c l w (decide_eq_false h0) (decide_eq_false h1) (decide_eq_false h2) (decide_eq_false h3)).mono fun _ _ h => OB.ret h
#print axioms Make_at
end Go.Proofs.YtgclchdccgkjaaaDoor
