/- Texts laid together (wip/tools/automerge.py): Pure3, Der5. -/
import Derived.Test.YtigjecmhhjjenaaDoorMg5
import Derived.Test.YtigjecmhhjjenaaDoorMg6
import Derived.Lib.SliceRun
import Derived.Deep.QuietTactic
import Derived.BigQuiet
namespace Go.Proofs.YtigjecmhhjjenaaDoor

/-- The number in bytes, the highest first. -/
def beNat (l : List UInt8) : Nat := l.foldl (fun a b => a * 256 + b.toNat) 0
theorem beNat_snoc (l : List UInt8) (b : UInt8) : beNat (l ++ [b]) = beNat l * 256 + b.toNat := by simp [beNat]
theorem beNat_take_succ (l : List UInt8) (k : Nat) (h : k < l.length) : beNat (l.take (k + 1)) = beNat (l.take k) * 256 + l[k].toNat := by
  rw [List.take_succ_eq_append_getElem h, beNat_snoc]
theorem beNat_take_lt (l : List UInt8) : ∀ k, k ≤ l.length → beNat (l.take k) < 256 ^ k
  | 0, _ => by simp [beNat]
  | k + 1, h => by
    have ih := beNat_take_lt l k (by omega)
    rw [beNat_take_succ l k (by omega), Nat.pow_succ]
    have : l[k].toNat < 256 := l[k].toNat_lt
    omega
theorem beNat_lt (l : List UInt8) : beNat l < 256 ^ l.length := by
  have := beNat_take_lt l l.length (Nat.le_refl _)
  rwa [List.take_length] at this
/-- The least number of n length bytes. -/
def leastF (n : Nat) : Nat := if n = 1 then 128 else if n = 2 then 256 else if n = 3 then 65536 else 0
/-- Contents of a size from an offset on: begin, end, error. -/
def finF (n size begin_ : Nat) : Nat × Nat × Nat := if n - begin_ < size then (0, 0, 4) else (begin_, begin_ + size, 0)
/-- What 'measure' hands back. -/
def measureF (l : List UInt8) : Nat × Nat × Nat :=
  if l.length < 2 then (0, 0, 4)
  else
    let s := (l[1]?.getD 0).toNat
    if s < 128 then finF l.length s 2
    else if s - 128 < 1 ∨ 3 < s - 128 then (0, 0, 6)
    else if l.length < 2 + (s - 128) then (0, 0, 4)
    else
      let m := beNat ((l.take (2 + (s - 128))).drop 2)
      if m < leastF (s - 128) then (0, 0, 6) else finF l.length m (2 + (s - 128))
/-- What 'take' hands back: the contents, the error, and how many bytes are passed. -/
def takeF (tag : UInt8) (m : List UInt8) : List UInt8 × Nat × Nat :=
  if m = [] then ([], 4, 0)
  else if m[0]?.getD 0 ≠ tag then ([], 6, 0)
  else
    let r := measureF m
    if r.2.2 ≠ 0 then ([], r.2.2, 0) else ((m.take r.2.1).drop r.1, 0, r.2.1)
theorem finF_ok (n size b0 b e : Nat) (hb : b0 ≤ n) (h : finF n size b0 = (b, e, 0)) : b = b0 ∧ e = b0 + size ∧ e ≤ n := by
  unfold finF at h
  split at h
  · simp at h
  · simp only [Prod.mk.injEq] at h
    omega
theorem measureF_ok (l : List UInt8) (b e : Nat) (h : measureF l = (b, e, 0)) : 2 ≤ b ∧ b ≤ e ∧ e ≤ l.length := by
  unfold measureF at h
  simp only at h
  split at h
  · simp at h
  split at h
  · have := finF_ok _ _ _ _ _ (by omega) h; omega
  split at h
  · simp at h
  split at h
  · simp at h
  split at h
  · simp at h
  · have := finF_ok _ _ _ _ _ (by omega) h; omega
theorem measureF_err (l : List UInt8) : (measureF l).2.2 = 0 ∨ (measureF l).2.2 = 4 ∨ (measureF l).2.2 = 6 := by
  have hf : ∀ n s b, (finF n s b).2.2 = 0 ∨ (finF n s b).2.2 = 4 ∨ (finF n s b).2.2 = 6 := by
    intro n s b; unfold finF; split <;> simp
  unfold measureF
  simp only
  split
  · simp
  split
  · exact hf _ _ _
  split
  · simp
  split
  · simp
  split
  · simp
  · exact hf _ _ _
theorem takeF_err (tag : UInt8) (m cont : List UInt8) (er used : Nat) (h : takeF tag m = (cont, er, used)) (he : er ≠ 0) : used = 0 := by
  unfold takeF at h
  simp only at h
  split at h
  · simp at h; omega
  split at h
  · simp at h; omega
  split at h
  · simp at h; omega
  · simp at h; omega
theorem takeF_used (tag : UInt8) (m cont : List UInt8) (er used : Nat) (h : takeF tag m = (cont, er, used)) : used ≤ m.length := by
  unfold takeF at h
  simp only at h
  split at h
  · simp at h; omega
  split at h
  · simp at h; omega
  split at h
  · simp at h; omega
  · rename_i h3
    have h4 := measureF_ok m (measureF m).1 (measureF m).2.1 (by
      have : (measureF m).2.2 = 0 := by simpa using h3
      rw [← this])
    simp at h; omega
theorem takeF_cont (tag : UInt8) (m cont : List UInt8) (er used : Nat) (h : takeF tag m = (cont, er, used)) : cont.length ≤ m.length := by
  unfold takeF at h
  simp only at h
  split at h
  · simp at h; rw [h.1]; simp
  split at h
  · simp at h; rw [h.1]; simp
  split at h
  · simp at h; rw [h.1]; simp
  · simp at h; rw [← h.1]; simp; omega
end Go.Proofs.YtigjecmhhjjenaaDoor
namespace Go.Proofs.YtigjecmhhjjenaaDoor
open Go Go.RowKit

set_option maxRecDepth 100000 in
theorem Clone_at (A : Option Addr) (c : Nat) (l : List UInt8) (w : World) (h : BS w (.slice A l.length c) l) (hl : l.length ≤ 140737488355328) :
    Calls Tryd.prog 61 #[.slice A l.length c] w fun e w' => ∃ A c, e = .returned (.slice A l.length c) ∧ OB 5 w' w.heap.size (.slice A l.length c) l ∧ Ext w w' := by
  obtain ⟨i0, hi, hz0, hz1, hz2⟩ := info_parts u8info
  rcases A with _ | ad
  · have h0 : l = [] := by
      obtain ⟨A', c', he, _, _, hc⟩ := h.open_
      injection he with e1 _ _
      subst e1
      rcases Nat.eq_zero_or_pos l.length with h0 | h0
      · exact List.eq_nil_of_length_eq_zero h0
      · obtain ⟨ad, ha, _⟩ := hc h0; cases ha
    subst h0
    have qT : ∀ (w : World), (binOp .eql 50 (.slice none 0 c) (.slice none 0 0)).run Tryd.prog w = .ok (.bool true) w := fun w => Lib.run_eql_slice_nil w _ _ none 0 c 0 0 Tryd.underlying50
    go_enter Tryd.func61, Tryd.ntmps61
    go_wp2
    go_ret
    exact ⟨none, 0, rfl, OB.nil _ _ _, Ext.refl _⟩
  · have qT : ∀ (w : World), (binOp .eql 50 (.slice (some ad) l.length c) (.slice none 0 0)).run Tryd.prog w = .ok (.bool false) w := fun w => Lib.run_eql_slice_nil w _ _ (some ad) l.length c 0 0 Tryd.underlying50
    have HO := Lib.hid (OB.lit w 5 w.heap.size [] [] rfl 0 rfl (by simp [maxLen]) (Nat.le_refl _) (z := w.heap.size) rfl)
    have HL := Lib.hid hl; clear hl
    go_enter Tryd.func61, Tryd.ntmps61
    go_wp2_with (at_builtin; refine wpList_append_bs _ rfl (.tmp 5) (.tmp 6) 50 rfl w.heap.size 5 i0 (.int .u8 0) Tryd.underlying50 hi hz0 hz1 hz2 rfl _ [] rfl HO.out _ l rfl (h.ext ((Ext.refl w).alloc _)) ?hd ?he ?_; rotate_right; intro v3 w3 hown3 hg3 hat3)
    case hd => have := HL.out; simp; omega
    case he => simp
    go_ret
    have hb : OB 5 w3 w.heap.size v3 l := by simpa using hown3
    obtain ⟨A3, c3, rfl⟩ := hb.shape
    exact ⟨_, _, rfl, hb, ((Ext.refl w).alloc _).grown hg3 (fun j hj => OB.lt HO.out j hj)⟩

set_option maxRecDepth 100000 in
theorem inner_at (A : Option Addr) (c : Nat) (l : List UInt8) (w : World) (h : BS w (.slice A l.length c) l) :
    Calls Tryd.prog 60 #[.slice A l.length c] w fun e w' => e = .returned (.pointer (some ⟨w.heap.size, 0, none⟩)) ∧ RD 65 w' w.heap.size l 0 ∧ Ext w w' := by
  have HR := Lib.hid (RD.new 65 w A c l h)
  go_enter Tryd.func60, Tryd.ntmps60
  go_wp2
  go_ret
  exact ⟨rfl, HR.out, (Ext.refl w).alloc _⟩

set_option maxRecDepth 100000 in
theorem New_at (A : Option Addr) (c : Nat) (l : List UInt8) (w : World) (h : BS w (.slice A l.length c) l) (hl : l.length ≤ 140737488355328) :
    Calls Tryd.prog 32 #[.slice A l.length c] w fun e w' => ∃ g, e = .returned (.pointer (some ⟨g, 0, none⟩)) ∧ w.heap.size ≤ g ∧ RD 65 w' g l 0 ∧ Ext w w' := by
  go_enter Tryd.func32, Tryd.ntmps32
  go_wp2_with (first
    | (go_at_call 61; refine (Clone_at A c l _ h hl).mono ?_; rintro e w1 ⟨A1, c1, rfl, hb1, hx1⟩)
    | (go_at_call 60; refine (inner_at A1 c1 l _ hb1.bs).mono ?_; rintro e w2 ⟨rfl, hr2, hx2⟩))
  go_ret
  exact ⟨_, rfl, hx1.size, hr2, hx1.trans hx2⟩
end Go.Proofs.YtigjecmhhjjenaaDoor
