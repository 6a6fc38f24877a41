/- Texts laid together (wip/tools/automerge.py): Lg9, LgSp, Lg10, LgPure13. -/
import Derived.Test.YtnjmndofcpnmeaaGreatDoorTx24
import Derived.Test.YtnjmndofcpnmeaaGreatDoorTx8
import Derived.Test.YtnjmndofcpnmeaaGreatDoorTx5
import Derived.Test.YtnjmndofcpnmeaaGreatDoorTx2
import Derived.Lib.CountLaws
import Derived.Lib.SplitLaws
import Derived.Test.YtnjmndofcpnmeaaGreatDoorTx11
namespace Go.Proofs.YtnjmndofcpnmeaaGreatDoor
open Go Go.RowKit
set_option linter.unusedVariables false

set_option maxRecDepth 100000 in
set_option maxHeartbeats 1000000 in
theorem C5_at (s : ByteArray) (hs : s.size ≤ 3000) (gF gE : Nat) (hne : gF ≠ gE) (f : FV) (W : World) (hE : EnvA W) (hF : FBx W gF f) (hEb : EBx W gE) :
    Calls Tryz.prog 47 #[.string s, .pointer (some ⟨gF, 0, none⟩), .pointer (some ⟨gE, 0, none⟩)] W fun e W' =>
      (∃ k b A c, okA k b = true ∧ txtA k b = s.data.toList ∧ e = .returned (.bool true) ∧ Trn gF gE W W' ∧ EBx W' gE ∧ FBx W' gF { f with fk := k, FA := A, fb := b, fc := c } ∧ BS W' (.slice A b.length c) b) ∨
      ((∀ k b, okA k b = true → txtA k b ≠ s.data.toList) ∧ e = .returned (.bool false) ∧ Trn gF gE W W') := by
  obtain ⟨xe, heb⟩ := hEb
  have H1 := Lib.hid (AParse_at s hs W hE)
  have HF := Lib.hid hF; have HEB := Lib.hid heb; have HNE := Lib.hid hne
  clear hE hF heb hne
  go_enter Tryz.func47, Tryz.ntmps47
  go_wp2_with fail
  refine H1.out.mono ?_
  rintro en w2 ⟨⟨k, b, A, c, h1, rfl, h2⟩ | ⟨h1, rfl⟩, hx⟩
  · unfold adv
    have hf2 : RW w2 gF 41 (fcs f) := HF.out.rw.ext hx
    have he2 : RW w2 gE 25 #[.int .i64 xe] := HEB.out.ext hx
    have hg2 : W.grownBy w2 (some gF) := hx.but _
    obtain ⟨u2, c2⟩ := hf2.get 3 (by simp [fcs])
    have s2 := hf2.soft 3
    have hf3 := hf2.set 3 (.int .i64 k)
    have hg3 := grown_set hg2 3 (.int .i64 k)
    have he3 : RW (w2.setCell ⟨gF, 3, none⟩ (.int .i64 k)) gE 25 #[.int .i64 xe] := heap_far (grown_set (grown_refl _ _) 3 _) he2 (fun e => HNE.out e.symm)
    obtain ⟨w3, e3⟩ : ∃ W3, w2.setCell ⟨gF, 3, none⟩ (.int .i64 k) = W3 := ⟨_, rfl⟩
    rw [e3] at hf3 hg3 he3
    obtain ⟨u3, c3⟩ := hf3.get 4 (by simp [fcs])
    have s3 := hf3.soft 4
    have hf4 := hf3.set 4 (.slice A b.length c)
    have hg4 := grown_set hg3 4 (.slice A b.length c)
    have he4 : RW (w3.setCell ⟨gF, 4, none⟩ (.slice A b.length c)) gE 25 #[.int .i64 xe] := heap_far (grown_set (grown_refl _ _) 4 _) he3 (fun e => HNE.out e.symm)
    obtain ⟨w4, e4⟩ : ∃ W3, w3.setCell ⟨gF, 4, none⟩ (.slice A b.length c) = W3 := ⟨_, rfl⟩
    rw [e4] at hf4 hg4 he4
    obtain ⟨u4, c4⟩ := he4.get 0 (by show 0 < 1; decide)
    have s4 := he4.soft 0
    have he5 := he4.set 0 (.int .i64 0)
    have hf5 := heap_far (grown_set (grown_refl w4 (some gE)) 0 (.int .i64 0)) hf4 HNE.out
    have ht5 : Trn gF gE W (w4.setCell ⟨gE, 0, none⟩ (.int .i64 0)) := ⟨_, hg4, grown_set (grown_refl _ _) 0 _⟩
    obtain ⟨w5, e5⟩ : ∃ W3, w4.setCell ⟨gE, 0, none⟩ (.int .i64 0) = W3 := ⟨_, rfl⟩
    rw [e5] at hf5 he5 ht5
    have c5 : w5.cell? ⟨gE, 0, none⟩ = some (.int .i64 0) := by rw [cell_of_row _ _ 0 _ _ (0, 0) he5]; rfl
    have HT := Lib.hid ht5; have HE9 := Lib.hid he5; have HF9 := Lib.hid hf5
    have hbs : BS w5 (.slice A b.length c) b := by
      have hb1 : BS w4 (.slice A b.length c) b := by
        rw [← e4, ← e3]
        exact h2.but (fbx_noU8 hf2) (grown_set (grown_set (grown_refl _ _) 3 _) 4 _)
      rw [← e5]
      exact hb1.but (NoU8.of he4 fun x hx n e => by subst e; simp at hx) (grown_set (grown_refl _ _) 0 _)
    have HBS := Lib.hid hbs; have HA := Lib.hid h1
    clear hf2 he2 hf3 he3 hf4 he4 hf5 he5 hg2 hg3 hg4 ht5 hbs h1 h2 hx
    go_wp2_with fail
    go_ret
    obtain ⟨k1, k2⟩ := prsA_some HA.out
    exact .inl ⟨k, b, A, c, k1, k2, rfl, HT.out, ⟨_, HE9.out⟩, HF9.out, HBS.out⟩
  · unfold adv
    have hf2 : RW w2 gF 41 (fcs f) := HF.out.rw.ext hx
    have he2 : RW w2 gE 25 #[.int .i64 xe] := HEB.out.ext hx
    have hg2 : W.grownBy w2 (some gF) := hx.but _
    obtain ⟨u2, c2⟩ := hf2.get 3 (by simp [fcs])
    have s2 := hf2.soft 3
    have hf3 := hf2.set 3 (.int .i64 0)
    have hg3 := grown_set hg2 3 (.int .i64 0)
    have he3 : RW (w2.setCell ⟨gF, 3, none⟩ (.int .i64 0)) gE 25 #[.int .i64 xe] := heap_far (grown_set (grown_refl _ _) 3 _) he2 (fun e => HNE.out e.symm)
    obtain ⟨w3, e3⟩ : ∃ W3, w2.setCell ⟨gF, 3, none⟩ (.int .i64 0) = W3 := ⟨_, rfl⟩
    rw [e3] at hf3 hg3 he3
    obtain ⟨u3, c3⟩ := hf3.get 4 (by simp [fcs])
    have s3 := hf3.soft 4
    have hf4 := hf3.set 4 (.slice none 0 0)
    have hg4 := grown_set hg3 4 (.slice none 0 0)
    have he4 : RW (w3.setCell ⟨gF, 4, none⟩ (.slice none 0 0)) gE 25 #[.int .i64 xe] := heap_far (grown_set (grown_refl _ _) 4 _) he3 (fun e => HNE.out e.symm)
    obtain ⟨w4, e4⟩ : ∃ W3, w3.setCell ⟨gF, 4, none⟩ (.slice none 0 0) = W3 := ⟨_, rfl⟩
    rw [e4] at hf4 hg4 he4
    obtain ⟨u4, c4⟩ := he4.get 0 (by show 0 < 1; decide)
    have s4 := he4.soft 0
    have he5 := he4.set 0 (.int .i64 6)
    have hf5 := heap_far (grown_set (grown_refl w4 (some gE)) 0 (.int .i64 6)) hf4 HNE.out
    have ht5 : Trn gF gE W (w4.setCell ⟨gE, 0, none⟩ (.int .i64 6)) := ⟨_, hg4, grown_set (grown_refl _ _) 0 _⟩
    obtain ⟨w5, e5⟩ : ∃ W3, w4.setCell ⟨gE, 0, none⟩ (.int .i64 6) = W3 := ⟨_, rfl⟩
    rw [e5] at hf5 he5 ht5
    have c5 : w5.cell? ⟨gE, 0, none⟩ = some (.int .i64 6) := by rw [cell_of_row _ _ 0 _ _ (0, 0) he5]; rfl
    have HT := Lib.hid ht5; have HE9 := Lib.hid he5; have HF9 := Lib.hid hf5
    have HA := Lib.hid h1
    clear hf2 he2 hf3 he3 hf4 he4 hf5 he5 hg2 hg3 hg4 ht5 h1 hx
    go_wp2_with fail
    go_ret
    exact .inr ⟨fun k b ho e => (by have := HA.out; rw [← e, prsA_txt ho] at this; cases this), rfl, HT.out⟩
set_option maxRecDepth 100000 in
set_option maxHeartbeats 1000000 in
theorem C8_at (s : ByteArray) (hs : s.size ≤ 3000) (gF gE : Nat) (hne : gF ≠ gE) (f : FV) (W : World) (hF : FBx W gF f) (hEb : EBx W gE) :
    Calls Tryz.prog 51 #[.string s, .pointer (some ⟨gF, 0, none⟩), .pointer (some ⟨gE, 0, none⟩)] W fun e W' =>
      (∃ x : W32, nmB x = true ∧ textF x = s.data.toList ∧ e = .returned (.bool true) ∧ Trn gF gE W W' ∧ EBx W' gE ∧ FBx W' gF { f with fl := x }) ∨
      ((∀ x : W32, nmB x = true → textF x ≠ s.data.toList) ∧ e = .returned (.bool false) ∧ Trn gF gE W W') := by
  obtain ⟨xe, heb⟩ := hEb
  have H1 := Lib.hid (FParse_at s hs W)
  have HF := Lib.hid hF; have HEB := Lib.hid heb; have HNE := Lib.hid hne
  clear hF heb hne
  go_enter Tryz.func51, Tryz.ntmps51
  go_wp2_with fail
  refine H1.out.mono ?_
  rintro en w2 ⟨⟨x, h1, h2, rfl⟩ | ⟨h1, rfl⟩, hx⟩
  · have hf2 : RW w2 gF 41 (fcs f) := HF.out.rw.ext hx
    have he2 : RW w2 gE 25 #[.int .i64 xe] := HEB.out.ext hx
    have hg2 : W.grownBy w2 (some gF) := hx.but _
    obtain ⟨u2, c2⟩ := hf2.get 11 (by simp [fcs])
    have s2 := hf2.soft 11
    have hf3 := hf2.set 11 (.int .u32 (x.toNat : Int))
    have hg3 := grown_set hg2 11 (.int .u32 (x.toNat : Int))
    have he3 : RW (w2.setCell ⟨gF, 11, none⟩ (.int .u32 (x.toNat : Int))) gE 25 #[.int .i64 xe] := heap_far (grown_set (grown_refl _ _) 11 _) he2 (fun e => HNE.out e.symm)
    obtain ⟨w3, e3⟩ : ∃ W3, w2.setCell ⟨gF, 11, none⟩ (.int .u32 (x.toNat : Int)) = W3 := ⟨_, rfl⟩
    rw [e3] at hf3 hg3 he3
    obtain ⟨u3, c3⟩ := he3.get 0 (by show 0 < 1; decide)
    have s3 := he3.soft 0
    have he4 := he3.set 0 (.int .i64 0)
    have hf4 := heap_far (grown_set (grown_refl w3 (some gE)) 0 (.int .i64 0)) hf3 HNE.out
    have ht4 : Trn gF gE W (w3.setCell ⟨gE, 0, none⟩ (.int .i64 0)) := ⟨_, hg3, grown_set (grown_refl _ _) 0 _⟩
    obtain ⟨w4, e4⟩ : ∃ W3, w3.setCell ⟨gE, 0, none⟩ (.int .i64 0) = W3 := ⟨_, rfl⟩
    rw [e4] at hf4 he4 ht4
    have c4 : w4.cell? ⟨gE, 0, none⟩ = some (.int .i64 0) := by rw [cell_of_row _ _ 0 _ _ (0, 0) he4]; rfl
    have HT := Lib.hid ht4; have HE9 := Lib.hid he4; have HF9 := Lib.hid hf4
    have HA := Lib.hid h1; have HB := Lib.hid h2
    clear hf2 he2 hf3 he3 hf4 he4 hg2 hg3 ht4 h1 h2 hx
    go_wp2_with fail
    go_ret
    exact .inl ⟨x, HA.out, HB.out, rfl, HT.out, ⟨_, HE9.out⟩, HF9.out⟩
  · have hf2 : RW w2 gF 41 (fcs f) := HF.out.rw.ext hx
    have he2 : RW w2 gE 25 #[.int .i64 xe] := HEB.out.ext hx
    have hg2 : W.grownBy w2 (some gF) := hx.but _
    obtain ⟨u2, c2⟩ := hf2.get 11 (by simp [fcs])
    have s2 := hf2.soft 11
    have hf3 := hf2.set 11 (.int .u32 0)
    have hg3 := grown_set hg2 11 (.int .u32 0)
    have he3 : RW (w2.setCell ⟨gF, 11, none⟩ (.int .u32 0)) gE 25 #[.int .i64 xe] := heap_far (grown_set (grown_refl _ _) 11 _) he2 (fun e => HNE.out e.symm)
    obtain ⟨w3, e3⟩ : ∃ W3, w2.setCell ⟨gF, 11, none⟩ (.int .u32 0) = W3 := ⟨_, rfl⟩
    rw [e3] at hf3 hg3 he3
    obtain ⟨u3, c3⟩ := he3.get 0 (by show 0 < 1; decide)
    have s3 := he3.soft 0
    have he4 := he3.set 0 (.int .i64 6)
    have hf4 := heap_far (grown_set (grown_refl w3 (some gE)) 0 (.int .i64 6)) hf3 HNE.out
    have ht4 : Trn gF gE W (w3.setCell ⟨gE, 0, none⟩ (.int .i64 6)) := ⟨_, hg3, grown_set (grown_refl _ _) 0 _⟩
    obtain ⟨w4, e4⟩ : ∃ W3, w3.setCell ⟨gE, 0, none⟩ (.int .i64 6) = W3 := ⟨_, rfl⟩
    rw [e4] at hf4 he4 ht4
    have c4 : w4.cell? ⟨gE, 0, none⟩ = some (.int .i64 6) := by rw [cell_of_row _ _ 0 _ _ (0, 0) he4]; rfl
    have HT := Lib.hid ht4; have HE9 := Lib.hid he4; have HF9 := Lib.hid hf4
    have HA := Lib.hid h1
    clear hf2 he2 hf3 he3 hf4 he4 hg2 hg3 ht4 h1 hx
    go_wp2_with fail
    go_ret
    exact .inr ⟨HA.out, rfl, HT.out⟩
end Go.Proofs.YtnjmndofcpnmeaaGreatDoor
namespace Go.Proofs.YtnjmndofcpnmeaaGreatDoor
open Go Go.Lib
set_option linter.unusedVariables false

theorem splitK_splb (x : UInt8) : ∀ (n : Nat) (l : List UInt8), l.length ≤ n → splitK [x] 0 (count l [x]) l = splb x [] l := by
  intro n
  induction n with
  | zero =>
    intro l hl
    have : l = [] := List.eq_nil_of_length_eq_zero (by omega)
    subst this
    rfl
  | succ n ih =>
    intro l hl
    by_cases hx : x ∈ l
    · obtain ⟨a, b, rfl, ha⟩ := List.eq_append_cons_of_mem hx
      have hi := index_hit x a b ha
      rw [count_hit (by simp) hi, Nat.add_comm, splitK, if_neg (by rw [hi, beq_iff_eq]; omega), hi, splb_hit x a [] b (fun c hc e => ha (e ▸ hc))]
      have hd : (a ++ x :: b).drop (a.length + 1) = b := by
        rw [List.drop_append]
        simp
      rw [show ((a.length : Int)).toNat = a.length from rfl]
      simp only [List.length_singleton, Nat.add_zero, List.nil_append]
      rw [hd, ih b (by simp at hl; omega)]
      simp
    · have hi := index_miss x l hx
      rw [count_miss hi, splb_acc x l [] (fun c hc e => hx (e ▸ hc))]
      rfl
theorem splitB_splb (x : UInt8) (s : ByteArray) : (splitB ⟨#[x]⟩ 0 (countB s ⟨#[x]⟩) s).map (·.data.toList) = splb x [] s.data.toList := by
  rw [splitB_data]
  exact splitK_splb x _ _ (Nat.le_refl _)
end Go.Proofs.YtnjmndofcpnmeaaGreatDoor
namespace Go.Proofs.YtnjmndofcpnmeaaGreatDoor
open Go Go.RowKit
set_option linter.unusedVariables false

def fv0 : FV := ⟨0, 0, 0, 0, none, [], 0, none, [], 0, ⟨#[]⟩, none, [], 0, ⟨#[]⟩, 0, 0, 0#32⟩
/-- The state of a Parse in which k words are read. -/
structure PSt (w W : World) (k : Nat) (f : FV) : Prop where
  ex : Ext w W
  r : FBx W w.heap.size fv0
  fb : FBx W (w.heap.size + 1) f
  eb : EBx W (w.heap.size + 1 + 1)
  mem : f.In W
  sz : f.Sz
  nc : ∀ ad, f.CA = some ad → w.heap.size + 3 ≤ ad.block
  ns : ∀ ad, f.SA = some ad → w.heap.size + 3 ≤ ad.block
  zc : k ≤ 2 → f.cp = [] ∧ f.cr = ⟨#[]⟩
  zs : k ≤ 3 → f.sp = [] ∧ f.sr = ⟨#[]⟩
theorem PSt.lt {w W : World} {k : Nat} {f : FV} (h : PSt w W k f) : w.heap.size + 3 ≤ W.heap.size := by obtain ⟨x, h⟩ := h.eb; exact (Array.getElem?_eq_some_iff.1 h).1
/-- What is read agrees with a fact. -/
structure Agr (k : Nat) (F : Fct) (f : FV) : Prop where
  a0 : 0 < k → f.t = F.t ∧ f.mi = F.mi
  a1 : 1 < k → f.kd = F.kd
  a2 : 2 < k → dat f.cp = F.cp ∧ f.cr.data.toList = F.cr
  a3 : 3 < k → dat f.sp = F.sp ∧ f.sr.data.toList = F.sr
  a4 : 4 < k → f.fk = F.fk ∧ f.fb = F.fb
  a5 : 5 < k → f.co = F.co
  a6 : 6 < k → f.pr = F.pr
  a7 : 7 < k → f.fl = F.fl
theorem Agr.zero (F : Fct) (f : FV) : Agr 0 F f := by constructor <;> intro h <;> omega
theorem Agr.eight {F : Fct} {f : FV} (h : Agr 8 F f) : f.fct = F := by
  cases F
  obtain ⟨h0, h1, h2, h3, h4, h5, h6, h7⟩ := h
  have k0 := h0 (by omega); have k1 := h1 (by omega); have k2 := h2 (by omega); have k3 := h3 (by omega); have k4 := h4 (by omega); have k5 := h5 (by omega); have k6 := h6 (by omega); have k7 := h7 (by omega)
  simp only at k0 k1 k2 k3 k4 k5 k6 k7
  unfold FV.fct
  rw [k0.1, k0.2, k1, k2.1, k2.2, k3.1, k3.2, k4.1, k4.2, k5, k6, k7]
/-- The memory of what is read is left alone while the fact and the error turn. -/
theorem In_trn {w W W' : World} {k : Nat} {f : FV} (h : PSt w W k f) (ht : Trn (w.heap.size + 1) (w.heap.size + 1 + 1) W W') : f.In W' := by
  obtain ⟨W1, a, b⟩ := ht
  obtain ⟨x, he⟩ := h.eb
  have he1 : RW W1 (w.heap.size + 1 + 1) _ _ := heap_far a he (by omega)
  have hn1 := fbx_noU8 h.fb
  have hn2 : NoU8 W1 (w.heap.size + 1 + 1) := NoU8.of he1 fun x hx n e => by subst e; simp at hx
  exact ⟨(h.mem.fb.but hn1 a).but hn2 b, (h.mem.cp.far (fun ad ha => by have := h.nc ad ha; omega) a).far (fun ad ha => by have := h.nc ad ha; omega) b, (h.mem.sp.far (fun ad ha => by have := h.ns ad ha; omega) a).far (fun ad ha => by have := h.ns ad ha; omega) b⟩
theorem Eb_trn {w W W' : World} {k : Nat} {f : FV} (h : PSt w W k f) (hg : W.grownBy W' (some (w.heap.size + 1))) : EBx W' (w.heap.size + 1 + 1) := by
  obtain ⟨x, he⟩ := h.eb
  exact ⟨x, heap_far hg he (by omega)⟩
theorem R_trn {w W W' : World} {k : Nat} {f : FV} (h : PSt w W k f) (ht : Trn (w.heap.size + 1) (w.heap.size + 1 + 1) W W') : FBx W' w.heap.size fv0 := ht.heap h.r (by omega) (by omega)
theorem X_trn {w W W' : World} {k : Nat} {f : FV} (h : PSt w W k f) (ht : Trn (w.heap.size + 1) (w.heap.size + 1 + 1) W W') : Ext w W' := ht.ext h.ex (by omega) (by omega)
def fnK (k : Nat) : Nat := match k with | 0 => 39 | 1 => 42 | 2 => 44 | 3 => 46 | 4 => 47 | 5 => 49 | 6 => 50 | _ => 51
def capK (n k : Nat) : Array Value := if k = 4 ∨ k = 7 then #[.pointer (some ⟨n + 1, 0, none⟩), .pointer (some ⟨n + 1 + 1, 0, none⟩)] else #[.pointer (some ⟨n + 1, 0, none⟩)]
def StepP (w W : World) (k : Nat) (s : List UInt8) (f : FV) (e : Ending) (W' : World) : Prop := ∃ b, e = .returned (.bool b) ∧ Trn (w.heap.size + 1) (w.heap.size + 1 + 1) W W' ∧
  ((b = true ∧ ∃ f', PSt w W' (k + 1) f' ∧ ∀ F : Fct, F.Ok → F.wrd[k]? = some s → Agr k F f → Agr (k + 1) F f') ∨ (b = false ∧ ∀ F : Fct, F.Ok → F.wrd[k]? ≠ some s))
theorem word_eq {F : Fct} {k : Nat} {x s : List UInt8} (h : F.wrd[k]? = some s) (hx : F.wrd[k]? = some x) : x = s := by rw [hx] at h; injection h
theorem step0 (s : ByteArray) (hs : s.size ≤ 3000) (w W : World) (f : FV) (hP : PSt w W 0 f) (hE : EnvA w) :
    Calls Tryz.prog 39 (#[.string s, .pointer (some ⟨w.heap.size + 1, 0, none⟩)]) W (StepP w W 0 s.data.toList f) := by
  have hW := hE.ext hP.ex
  have hEx : ∀ W', W.grownBy W' (some (w.heap.size + 1)) → Env W' := fun W' hg => (hE.env).ext (X_trn hP (Trn.one hg))
  refine (C1_at s hs (w.heap.size + 1) f W hW.env hP.fb hEx).mono ?_
  rintro e W' ⟨t, mi, b, rfl, hg, hr, hq⟩
  have ht : Trn (w.heap.size + 1) (w.heap.size + 1 + 1) W W' := Trn.one hg
  have hv : ∀ F : Fct, F.Ok → F.wrd[0]? = some s.data.toList → t = F.t ∧ mi = F.mi ∧ b = true := fun F hF hw => hq F.t F.mi hF.t hF.mi (word_eq hw rfl)
  refine ⟨b, rfl, ht, ?_⟩
  cases b with
  | true => exact .inl ⟨rfl, _, ⟨X_trn hP ht, R_trn hP ht, hr, Eb_trn hP hg, ⟨(In_trn hP ht).fb, (In_trn hP ht).cp, (In_trn hP ht).sp⟩, ⟨hP.sz.fb, hP.sz.cp, hP.sz.cps, hP.sz.cr, hP.sz.sp, hP.sz.sps, hP.sz.sr⟩, hP.nc, hP.ns, fun h => hP.zc (by omega), fun h => hP.zs (by omega)⟩, fun F hF hw ha => ⟨fun _ => ⟨(hv F hF hw).1, (hv F hF hw).2.1⟩, fun h => absurd h (by omega), fun h => absurd h (by omega), fun h => absurd h (by omega), fun h => absurd h (by omega), fun h => absurd h (by omega), fun h => absurd h (by omega), fun h => absurd h (by omega)⟩⟩
  | false => exact .inr ⟨rfl, fun F hF hw => absurd (hv F hF hw).2.2 (by decide)⟩
theorem step1 (s : ByteArray) (hs : s.size ≤ 3000) (w W : World) (f : FV) (hP : PSt w W 1 f) (hE : EnvA w) :
    Calls Tryz.prog 42 (#[.string s, .pointer (some ⟨w.heap.size + 1, 0, none⟩)]) W (StepP w W 1 s.data.toList f) := by
  have hW := hE.ext hP.ex
  refine (C2_at s (w.heap.size + 1) f W hP.fb).mono ?_
  rintro e W' ⟨k, b, rfl, hg, hr, hq⟩
  have ht : Trn (w.heap.size + 1) (w.heap.size + 1 + 1) W W' := Trn.one hg
  have hv : ∀ F : Fct, F.Ok → F.wrd[1]? = some s.data.toList → k = F.kd ∧ b = true := fun F hF hw => hq F.kd hF.kd (word_eq hw rfl)
  refine ⟨b, rfl, ht, ?_⟩
  cases b with
  | true => exact .inl ⟨rfl, _, ⟨X_trn hP ht, R_trn hP ht, hr, Eb_trn hP hg, ⟨(In_trn hP ht).fb, (In_trn hP ht).cp, (In_trn hP ht).sp⟩, ⟨hP.sz.fb, hP.sz.cp, hP.sz.cps, hP.sz.cr, hP.sz.sp, hP.sz.sps, hP.sz.sr⟩, hP.nc, hP.ns, fun h => hP.zc (by omega), fun h => hP.zs (by omega)⟩, fun F hF hw ha => ⟨fun _ => ha.a0 (by omega), fun _ => (hv F hF hw).1, fun h => absurd h (by omega), fun h => absurd h (by omega), fun h => absurd h (by omega), fun h => absurd h (by omega), fun h => absurd h (by omega), fun h => absurd h (by omega)⟩⟩
  | false => exact .inr ⟨rfl, fun F hF hw => absurd (hv F hF hw).2 (by decide)⟩
theorem step2 (s : ByteArray) (hs : s.size ≤ 3000) (w W : World) (f : FV) (hP : PSt w W 2 f) (hE : EnvA w) :
    Calls Tryz.prog 44 (#[.string s, .pointer (some ⟨w.heap.size + 1, 0, none⟩)]) W (StepP w W 2 s.data.toList f) := by
  have hW := hE.ext hP.ex
  refine (C3_at s hs (w.heap.size + 1) f W hP.fb).mono ?_
  rintro e W' (⟨h1, rfl, rfl⟩ | ⟨A, c, ps, r, h1, h2, rfl, hg, hr, h5, h6, h7, h8, h9⟩ | ⟨h1, rfl, hg⟩)
  · have ht : Trn (w.heap.size + 1) (w.heap.size + 1 + 1) W' W' := Trn.one (grown_refl _ _)
    refine ⟨true, rfl, ht, .inl ⟨rfl, f, ⟨X_trn hP ht, R_trn hP ht, hP.fb, hP.eb, hP.mem, ⟨hP.sz.fb, hP.sz.cp, hP.sz.cps, hP.sz.cr, hP.sz.sp, hP.sz.sps, hP.sz.sr⟩, hP.nc, hP.ns, fun h => absurd h (by omega), fun h => hP.zs (by omega)⟩, fun F hF hw ha => ?_⟩⟩
    have e0 : prsW F.cp F.cr = prsW [] [] := by rw [word_eq hw rfl, h1]; rfl
    obtain ⟨e1, e2⟩ := prsW_inj hF.cl (by decide) e0
    obtain ⟨z1, z2⟩ := hP.zc (by omega)
    have hh : dat f.cp = F.cp ∧ f.cr.data.toList = F.cr := by rw [z1, z2, e1, e2]; exact ⟨rfl, rfl⟩
    exact ⟨fun _ => ha.a0 (by omega), fun _ => ha.a1 (by omega), fun _ => hh, fun h => absurd h (by omega), fun h => absurd h (by omega), fun h => absurd h (by omega), fun h => absurd h (by omega), fun h => absurd h (by omega)⟩
  · have ht : Trn (w.heap.size + 1) (w.heap.size + 1 + 1) W W' := Trn.one hg
    refine ⟨true, rfl, ht, .inl ⟨rfl, _, ⟨X_trn hP ht, R_trn hP ht, hr, Eb_trn hP hg, ⟨(In_trn hP ht).fb, h5, (In_trn hP ht).sp⟩, ⟨hP.sz.fb, h9, h7, h8, hP.sz.sp, hP.sz.sps, hP.sz.sr⟩, fun ad ha => Nat.le_trans hP.lt (h6 ad ha), hP.ns, fun h => absurd h (by omega), fun h => hP.zs (by omega)⟩, fun F hF hw ha => ?_⟩⟩
    obtain ⟨e1, e2⟩ := prsW_inj hF.cl h1 ((word_eq hw rfl).trans h2.symm)
    exact ⟨fun _ => ha.a0 (by omega), fun _ => ha.a1 (by omega), fun _ => ⟨e1.symm, e2.symm⟩, fun h => absurd h (by omega), fun h => absurd h (by omega), fun h => absurd h (by omega), fun h => absurd h (by omega), fun h => absurd h (by omega)⟩
  · have ht : Trn (w.heap.size + 1) (w.heap.size + 1 + 1) W W' := Trn.one hg
    exact ⟨false, rfl, ht, .inr ⟨rfl, fun F hF hw => h1 F.cp F.cr hF.cl (word_eq hw rfl)⟩⟩
theorem step3 (s : ByteArray) (hs : s.size ≤ 3000) (w W : World) (f : FV) (hP : PSt w W 3 f) (hE : EnvA w) :
    Calls Tryz.prog 46 (#[.string s, .pointer (some ⟨w.heap.size + 1, 0, none⟩)]) W (StepP w W 3 s.data.toList f) := by
  have hW := hE.ext hP.ex
  refine (C4_at s hs (w.heap.size + 1) f W hP.fb).mono ?_
  rintro e W' (⟨h1, rfl, rfl⟩ | ⟨A, c, ps, r, h1, h2, rfl, hg, hr, h5, h6, h7, h8, h9⟩ | ⟨h1, rfl, hg⟩)
  · have ht : Trn (w.heap.size + 1) (w.heap.size + 1 + 1) W' W' := Trn.one (grown_refl _ _)
    refine ⟨true, rfl, ht, .inl ⟨rfl, f, ⟨X_trn hP ht, R_trn hP ht, hP.fb, hP.eb, hP.mem, ⟨hP.sz.fb, hP.sz.cp, hP.sz.cps, hP.sz.cr, hP.sz.sp, hP.sz.sps, hP.sz.sr⟩, hP.nc, hP.ns, fun h => absurd h (by omega), fun h => absurd h (by omega)⟩, fun F hF hw ha => ?_⟩⟩
    have e0 : prsW F.sp F.sr = prsW [] [] := by rw [word_eq hw rfl, h1]; rfl
    obtain ⟨e1, e2⟩ := prsW_inj hF.sv (by decide) e0
    obtain ⟨z1, z2⟩ := hP.zs (by omega)
    have hh : dat f.sp = F.sp ∧ f.sr.data.toList = F.sr := by rw [z1, z2, e1, e2]; exact ⟨rfl, rfl⟩
    exact ⟨fun _ => ha.a0 (by omega), fun _ => ha.a1 (by omega), fun _ => ha.a2 (by omega), fun _ => hh, fun h => absurd h (by omega), fun h => absurd h (by omega), fun h => absurd h (by omega), fun h => absurd h (by omega)⟩
  · have ht : Trn (w.heap.size + 1) (w.heap.size + 1 + 1) W W' := Trn.one hg
    refine ⟨true, rfl, ht, .inl ⟨rfl, _, ⟨X_trn hP ht, R_trn hP ht, hr, Eb_trn hP hg, ⟨(In_trn hP ht).fb, (In_trn hP ht).cp, h5⟩, ⟨hP.sz.fb, hP.sz.cp, hP.sz.cps, hP.sz.cr, h9, h7, h8⟩, hP.nc, fun ad ha => Nat.le_trans hP.lt (h6 ad ha), fun h => absurd h (by omega), fun h => absurd h (by omega)⟩, fun F hF hw ha => ?_⟩⟩
    obtain ⟨e1, e2⟩ := prsW_inj hF.sv h1 ((word_eq hw rfl).trans h2.symm)
    exact ⟨fun _ => ha.a0 (by omega), fun _ => ha.a1 (by omega), fun _ => ha.a2 (by omega), fun _ => ⟨e1.symm, e2.symm⟩, fun h => absurd h (by omega), fun h => absurd h (by omega), fun h => absurd h (by omega), fun h => absurd h (by omega)⟩
  · have ht : Trn (w.heap.size + 1) (w.heap.size + 1 + 1) W W' := Trn.one hg
    exact ⟨false, rfl, ht, .inr ⟨rfl, fun F hF hw => h1 F.sp F.sr hF.sv (word_eq hw rfl)⟩⟩
theorem step4 (s : ByteArray) (hs : s.size ≤ 3000) (w W : World) (f : FV) (hP : PSt w W 4 f) (hE : EnvA w) :
    Calls Tryz.prog 47 (#[.string s, .pointer (some ⟨w.heap.size + 1, 0, none⟩), .pointer (some ⟨w.heap.size + 1 + 1, 0, none⟩)]) W (StepP w W 4 s.data.toList f) := by
  have hW := hE.ext hP.ex
  refine (C5_at s hs (w.heap.size + 1) (w.heap.size + 1 + 1) (by omega) f W hW hP.fb hP.eb).mono ?_
  rintro e W' (⟨k, b, A, c, h1, h2, rfl, ht, heb, hr, h5⟩ | ⟨h1, rfl, ht⟩)
  · have hb : b.length ≤ 1000 := by rcases okA_kinds h1 with ⟨_, h⟩ | ⟨_, h⟩ | ⟨_, h, _⟩ <;> omega
    refine ⟨true, rfl, ht, .inl ⟨rfl, _, ⟨X_trn hP ht, R_trn hP ht, hr, heb, ⟨h5, (In_trn hP ht).cp, (In_trn hP ht).sp⟩, ⟨hb, hP.sz.cp, hP.sz.cps, hP.sz.cr, hP.sz.sp, hP.sz.sps, hP.sz.sr⟩, hP.nc, hP.ns, fun h => absurd h (by omega), fun h => absurd h (by omega)⟩, fun F hF hw ha => ?_⟩⟩
    obtain ⟨e1, e2⟩ := txtA_inj hF.fr h1 ((word_eq hw rfl).trans h2.symm)
    exact ⟨fun _ => ha.a0 (by omega), fun _ => ha.a1 (by omega), fun _ => ha.a2 (by omega), fun _ => ha.a3 (by omega), fun _ => ⟨e1.symm, e2.symm⟩, fun h => absurd h (by omega), fun h => absurd h (by omega), fun h => absurd h (by omega)⟩
  · exact ⟨false, rfl, ht, .inr ⟨rfl, fun F hF hw => h1 F.fk F.fb hF.fr (word_eq hw rfl)⟩⟩
theorem step5 (s : ByteArray) (hs : s.size ≤ 3000) (w W : World) (f : FV) (hP : PSt w W 5 f) (hE : EnvA w) :
    Calls Tryz.prog 49 (#[.string s, .pointer (some ⟨w.heap.size + 1, 0, none⟩)]) W (StepP w W 5 s.data.toList f) := by
  have hW := hE.ext hP.ex
  refine (C6_at s hs (w.heap.size + 1) f W hW.env hP.fb).mono ?_
  rintro e W' ⟨v, b, rfl, hg, hr, hq⟩
  have ht : Trn (w.heap.size + 1) (w.heap.size + 1 + 1) W W' := Trn.one hg
  have hv : ∀ F : Fct, F.Ok → F.wrd[5]? = some s.data.toList → v = F.co ∧ b = true := fun F hF hw => hq F.co ⟨hF.co.1, by have := hF.co.2; omega⟩ (word_eq hw rfl)
  refine ⟨b, rfl, ht, ?_⟩
  cases b with
  | true => exact .inl ⟨rfl, _, ⟨X_trn hP ht, R_trn hP ht, hr, Eb_trn hP hg, ⟨(In_trn hP ht).fb, (In_trn hP ht).cp, (In_trn hP ht).sp⟩, ⟨hP.sz.fb, hP.sz.cp, hP.sz.cps, hP.sz.cr, hP.sz.sp, hP.sz.sps, hP.sz.sr⟩, hP.nc, hP.ns, fun h => absurd h (by omega), fun h => absurd h (by omega)⟩, fun F hF hw ha => ⟨fun _ => ha.a0 (by omega), fun _ => ha.a1 (by omega), fun _ => ha.a2 (by omega), fun _ => ha.a3 (by omega), fun _ => ha.a4 (by omega), fun _ => (hv F hF hw).1, fun h => absurd h (by omega), fun h => absurd h (by omega)⟩⟩
  | false => exact .inr ⟨rfl, fun F hF hw => absurd (hv F hF hw).2 (by decide)⟩
theorem step6 (s : ByteArray) (hs : s.size ≤ 3000) (w W : World) (f : FV) (hP : PSt w W 6 f) (hE : EnvA w) :
    Calls Tryz.prog 50 (#[.string s, .pointer (some ⟨w.heap.size + 1, 0, none⟩)]) W (StepP w W 6 s.data.toList f) := by
  have hW := hE.ext hP.ex
  refine (C7_at s hs (w.heap.size + 1) f W hW.env hP.fb).mono ?_
  rintro e W' ⟨v, b, rfl, hg, hr, hq⟩
  have ht : Trn (w.heap.size + 1) (w.heap.size + 1 + 1) W W' := Trn.one hg
  have hv : ∀ F : Fct, F.Ok → F.wrd[6]? = some s.data.toList → v = F.pr ∧ b = true := fun F hF hw => hq F.pr ⟨hF.pr.1, by have := hF.pr.2; omega⟩ (word_eq hw rfl)
  refine ⟨b, rfl, ht, ?_⟩
  cases b with
  | true => exact .inl ⟨rfl, _, ⟨X_trn hP ht, R_trn hP ht, hr, Eb_trn hP hg, ⟨(In_trn hP ht).fb, (In_trn hP ht).cp, (In_trn hP ht).sp⟩, ⟨hP.sz.fb, hP.sz.cp, hP.sz.cps, hP.sz.cr, hP.sz.sp, hP.sz.sps, hP.sz.sr⟩, hP.nc, hP.ns, fun h => absurd h (by omega), fun h => absurd h (by omega)⟩, fun F hF hw ha => ⟨fun _ => ha.a0 (by omega), fun _ => ha.a1 (by omega), fun _ => ha.a2 (by omega), fun _ => ha.a3 (by omega), fun _ => ha.a4 (by omega), fun _ => ha.a5 (by omega), fun _ => (hv F hF hw).1, fun h => absurd h (by omega)⟩⟩
  | false => exact .inr ⟨rfl, fun F hF hw => absurd (hv F hF hw).2 (by decide)⟩
theorem step7 (s : ByteArray) (hs : s.size ≤ 3000) (w W : World) (f : FV) (hP : PSt w W 7 f) (hE : EnvA w) :
    Calls Tryz.prog 51 (#[.string s, .pointer (some ⟨w.heap.size + 1, 0, none⟩), .pointer (some ⟨w.heap.size + 1 + 1, 0, none⟩)]) W (StepP w W 7 s.data.toList f) := by
  have hW := hE.ext hP.ex
  refine (C8_at s hs (w.heap.size + 1) (w.heap.size + 1 + 1) (by omega) f W hP.fb hP.eb).mono ?_
  rintro e W' (⟨x, h1, h2, rfl, ht, heb, hr⟩ | ⟨h1, rfl, ht⟩)
  · refine ⟨true, rfl, ht, .inl ⟨rfl, _, ⟨X_trn hP ht, R_trn hP ht, hr, heb, ⟨(In_trn hP ht).fb, (In_trn hP ht).cp, (In_trn hP ht).sp⟩, ⟨hP.sz.fb, hP.sz.cp, hP.sz.cps, hP.sz.cr, hP.sz.sp, hP.sz.sps, hP.sz.sr⟩, hP.nc, hP.ns, fun h => absurd h (by omega), fun h => absurd h (by omega)⟩, fun F hF hw ha => ?_⟩⟩
    have e1 := textF_inj (tk_nm hF.fl) h1 ((word_eq hw rfl).trans h2.symm)
    exact ⟨fun _ => ha.a0 (by omega), fun _ => ha.a1 (by omega), fun _ => ha.a2 (by omega), fun _ => ha.a3 (by omega), fun _ => ha.a4 (by omega), fun _ => ha.a5 (by omega), fun _ => ha.a6 (by omega), fun _ => e1.symm⟩
  · exact ⟨false, rfl, ht, .inr ⟨rfl, fun F hF hw => h1 F.fl (tk_nm hF.fl) (word_eq hw rfl)⟩⟩
/-- The closures, as one. -/
theorem cl_at (k : Nat) (hk : k < 8) (s : ByteArray) (hs : s.size ≤ 3000) (w W : World) (f : FV) (hP : PSt w W k f) (hE : EnvA w) :
    Calls Tryz.prog (fnK k) (#[.string s] ++ capK w.heap.size k) W (StepP w W k s.data.toList f) := by
  rcases (show k = 0 ∨ k = 1 ∨ k = 2 ∨ k = 3 ∨ k = 4 ∨ k = 5 ∨ k = 6 ∨ k = 7 by omega) with rfl | rfl | rfl | rfl | rfl | rfl | rfl | rfl
  · exact step0 s hs w W f hP hE
  · exact step1 s hs w W f hP hE
  · exact step2 s hs w W f hP hE
  · exact step3 s hs w W f hP hE
  · exact step4 s hs w W f hP hE
  · exact step5 s hs w W f hP hE
  · exact step6 s hs w W f hP hE
  · exact step7 s hs w W f hP hE
theorem fnK_enters (k : Nat) (hk : k < 8) (args : Array Value) (W : World) : (callFunc (fnK k) args).run Tryz.prog W = .ok (.enter (fnK k) args) W := by
  rcases (show k = 0 ∨ k = 1 ∨ k = 2 ∨ k = 3 ∨ k = 4 ∨ k = 5 ∨ k = 6 ∨ k = 7 by omega) with rfl | rfl | rfl | rfl | rfl | rfl | rfl | rfl
  · exact Go.Proofs.enters_of Tryz.func39 (by kernel_rfl) rfl args W
  · exact Go.Proofs.enters_of Tryz.func42 (by kernel_rfl) rfl args W
  · exact Go.Proofs.enters_of Tryz.func44 (by kernel_rfl) rfl args W
  · exact Go.Proofs.enters_of Tryz.func46 (by kernel_rfl) rfl args W
  · exact Go.Proofs.enters_of Tryz.func47 (by kernel_rfl) rfl args W
  · exact Go.Proofs.enters_of Tryz.func49 (by kernel_rfl) rfl args W
  · exact Go.Proofs.enters_of Tryz.func50 (by kernel_rfl) rfl args W
  · exact Go.Proofs.enters_of Tryz.func51 (by kernel_rfl) rfl args W
end Go.Proofs.YtnjmndofcpnmeaaGreatDoor
namespace Go.Proofs.YtnjmndofcpnmeaaGreatDoor
open Go Go.Lib
set_option linter.unusedVariables false

theorem kindW_len (k : Int) : (kindW k).length ≤ 7 := by
  unfold kindW
  split
  · decide
  · split <;> decide
theorem itoa_len13 {x : Int} (h0 : 0 ≤ x) (h1 : x ≤ 1099511627776) : (itoa x).length ≤ 13 := by
  rw [itoa_nn h0]
  exact decD_len x.toNat 12 (by omega)
theorem itoa_len6 {x : Int} (h0 : 0 ≤ x) (h1 : x ≤ 999999) : (itoa x).length ≤ 6 := by
  rw [itoa_nn h0]
  exact decD_len x.toNat 5 (by omega)
theorem timW_len {t m : Int} (h : 0 ≤ t ∧ t ≤ 1099511627776) (k : 0 ≤ m ∧ m ≤ 999999) : (timW t m).length ≤ 20 := by
  have h1 := itoa_len13 h.1 h.2
  have h2 := itoa_len6 k.1 k.2
  unfold timW
  rw [List.length_append, List.length_cons, List.length_append, List.length_replicate]
  omega
theorem prsW_len {p : List (List UInt8)} {r : List UInt8} (h : prsB p r = true) : (prsW p r).length ≤ 293 := by
  unfold prsW
  split
  · decide
  · next hn =>
    unfold prsB at h
    rw [Bool.or_eq_true] at h
    obtain ⟨h1, h2, h3, h4⟩ := nameB_parts (h.resolve_left hn)
    have h5 := partsT_len p h1
    have h6 := realmB_len h4
    unfold textN
    rw [List.length_append, List.length_cons]
    omega
theorem txtA_len {k : Int} {b : List UInt8} (h : okA k b = true) : (txtA k b).length ≤ 41 := by
  rcases okA_kinds h with ⟨rfl, hl⟩ | ⟨rfl, hl⟩ | ⟨rfl, hl, hv⟩
  · obtain ⟨x, y, z, t, rfl⟩ := list4 hl
    show (txt4 [x, y, z, t]).length ≤ 41
    rw [txt4_eq]
    have d : ∀ c : UInt8, (decDigits c.toNat).length ≤ 3 := fun c => decD_len _ 2 (by have := c.toNat_lt; omega)
    have := d x; have := d y; have := d z; have := d t
    simp only [List.length_append, List.length_cons]
    omega
  · exact (txt6_len hl).2
  · show (txtH b).length ≤ 41
    unfold txtH
    rw [List.length_append]
    have : ([104, 111, 115, 116, 47] : List UInt8).length = 5 := rfl
    omega
theorem textF_len (f : W32) : (textF f).length ≤ 416 := by
  unfold textF
  split
  · decide
  · unfold joinF
    refine Nat.le_trans (join_len _ fun l hl => ?_) ?_
    · obtain ⟨b, hb, rfl⟩ := List.mem_map.1 hl
      unfold nmL at hb
      obtain ⟨k, hk, rfl⟩ := List.mem_map.1 hb
      have := nmS_len k
      rwa [Array.length_toList]
    · have h2 := bitsF_len f
      unfold nmL
      simp only [List.length_map]
      omega
theorem join_lens : ∀ (ws : List (List UInt8)) (x : UInt8), (join ws [x]).length ≤ (ws.map fun w => w.length + 1).sum
  | [], x => by rw [join_nil]; exact Nat.zero_le _
  | [y], x => by rw [join_one]; simp
  | y :: z :: r, x => by
    have h := join_lens (z :: r) x
    rw [join_cons]
    rw [join_cons] at h
    unfold joinTail at h ⊢
    rw [List.map_cons, List.flatten_cons, List.length_append, List.length_append, List.length_append]
    rw [List.length_append] at h
    rw [List.map_cons, List.sum_cons]
    simp only [List.length_singleton]
    omega
theorem txt_len {f : Fct} (h : f.Ok) : f.txt.length ≤ 1200 := by
  have h0 := join_lens f.wrd 32
  have h1 := timW_len h.t h.mi
  have h2 := kindW_len f.kd
  have h3 := prsW_len h.cl
  have h4 := prsW_len h.sv
  have h5 := txtA_len h.fr
  have h6 := itoa_len13 h.co.1 (by have := h.co.2; omega)
  have h7 := itoa_len13 h.pr.1 (by have := h.pr.2; omega)
  have h8 := textF_len f.fl
  unfold Fct.txt
  refine Nat.le_trans h0 ?_
  unfold Fct.wrd
  simp only [List.map_cons, List.map_nil, List.sum_cons, List.sum_nil]
  omega
end Go.Proofs.YtnjmndofcpnmeaaGreatDoor
