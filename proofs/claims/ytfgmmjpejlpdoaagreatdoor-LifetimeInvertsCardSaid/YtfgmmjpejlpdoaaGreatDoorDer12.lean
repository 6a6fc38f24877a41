/- The methods of Reader. -/
import Derived.Test.YtfgmmjpejlpdoaaGreatDoorDer11
namespace Go.Proofs.YtfgmmjpejlpdoaaGreatDoor
open Go Go.RowKit

set_option maxRecDepth 100000 in
theorem RdTime_at (g : Nat) (l : List UInt8) (k : Nat) (m : List UInt8) (hm : l.drop k = m) (v : Int) (er used : Nat) (hr : readTimeF m = (v, er, used)) (w : World) (h : RD 94 w g l k) :
    Calls Tryz.prog 52 #[.pointer (some ⟨g, 0, none⟩)] w fun e w' => e = .returned (.tuple #[.int .i64 v, .int .i64 (er : Int)]) ∧ RD 94 w' g l (k + used) ∧ w.grownBy w' (some g) := by
  have hrd := read_time_at g l k 24 24 rfl m hm (takeF 24 m).1 (takeF 24 m).2.1 (takeF 24 m).2.2 rfl _ _ w (timeClo_says _ _) h
  have HRD := Lib.hid hrd; have HR := Lib.hid hr
  clear hrd hr hm
  go_enter Tryz.func52, Tryz.ntmps52
  go_wp2_with fail
  refine HRD.out.mono ?_
  have hr := HR.out
  unfold readTimeF readF at hr
  rintro e w1 ⟨hg, ⟨her, rfl, hr1⟩ | ⟨her, hok, rfl, hr1⟩ | ⟨her, hok, v', rfl, hv, hr1⟩⟩
  · rw [if_pos her] at hr
    simp only [Prod.mk.injEq] at hr
    obtain ⟨rfl, rfl, rfl⟩ := hr
    go_wp2_with fail
    go_ret2
    exact ⟨rfl, hr1, hg⟩
  · rw [if_neg (by omega), if_neg (by rw [hok]; simp)] at hr
    simp only [Prod.mk.injEq] at hr
    obtain ⟨rfl, rfl, rfl⟩ := hr
    go_wp2_with fail
    go_ret2
    exact ⟨rfl, hr1, hg⟩
  · rw [if_neg (by omega), if_pos hok] at hr
    simp only [Prod.mk.injEq] at hr
    obtain ⟨rfl, rfl, rfl⟩ := hr
    subst hv
    go_wp2_with fail
    go_ret2
    exact ⟨rfl, hr1, hg⟩

/-- What a method that hands back a reader of contents leaves. -/
def InPost (w : World) (g : Nat) (l : List UInt8) (k : Nat) (v : Option (List UInt8)) (er used : Nat) (p : Value) (w' : World) : Prop :=
  w.grownBy w' (some g) ∧ RD 94 w' g l (k + used) ∧ ((v = none ∧ er ≠ 0 ∧ p = .pointer none) ∨ ∃ x g', v = some x ∧ er = 0 ∧ p = .pointer (some ⟨g', 0, none⟩) ∧ w.heap.size ≤ g' ∧ RD 94 w' g' x 0)

set_option maxRecDepth 100000 in
theorem RdSequence_at (g : Nat) (l : List UInt8) (k : Nat) (m : List UInt8) (hm : l.drop k = m) (v : Option (List UInt8)) (er used : Nat) (hr : readInF 48 m = (v, er, used)) (w : World) (h : RD 94 w g l k) :
    Calls Tryz.prog 50 #[.pointer (some ⟨g, 0, none⟩)] w fun e w' => ∃ p, e = .returned (.tuple #[p, .int .i64 (er : Int)]) ∧ InPost w g l k v er used p w' := by
  have hrd := read_reader_at g l k 48 48 rfl m hm (takeF 48 m).1 (takeF 48 m).2.1 (takeF 48 m).2.2 rfl _ _ w (contained_says _ _) h
  have HRD := Lib.hid hrd; have HR := Lib.hid hr
  clear hrd hr hm
  go_enter Tryz.func50, Tryz.ntmps50
  go_wp2_with fail
  refine HRD.out.mono ?_
  have hr := HR.out
  unfold readInF readF at hr
  rintro e w1 ⟨hg, ⟨her, rfl, hr1⟩ | ⟨her, hok, rfl, hr1⟩ | ⟨her, hok, v', rfl, ⟨g', rfl, hB', hv⟩, hr1⟩⟩
  · rw [if_pos her] at hr
    simp only [Prod.mk.injEq] at hr
    obtain ⟨rfl, rfl, rfl⟩ := hr
    go_wp2_with fail
    go_ret2
    exact ⟨_, rfl, hg, hr1, .inl ⟨rfl, her, rfl⟩⟩
  · cases hok
  · rw [if_neg (by omega), if_pos rfl] at hr
    simp only [Prod.mk.injEq] at hr
    obtain ⟨rfl, rfl, rfl⟩ := hr
    go_wp2_with fail
    go_ret2
    exact ⟨_, rfl, hg, hr1, .inr ⟨_, g', rfl, rfl, rfl, hB', hv⟩⟩

set_option maxRecDepth 100000 in
theorem Left_at (g : Nat) (l : List UInt8) (k : Nat) (w : World) (h : RD 94 w g l k) :
    Calls Tryz.prog 53 #[.pointer (some ⟨g, 0, none⟩)] w fun e w' => e = .returned (.int .i64 ((l.length - k : Nat) : Int)) ∧ Ext w w' := by
  obtain ⟨Ax, cx, hbx, k0, k1, k2, kf⟩ := h.cells
  have hk := h.le
  obtain ⟨m, hm⟩ : ∃ m, m = l.drop k := ⟨_, rfl⟩
  have hml : l.length - k = m.length := by rw [hm]; simp
  rw [hml]
  have HM := Lib.hid hm; clear hm hml
  go_enter Tryz.func53, Tryz.ntmps53
  go_wp2_with (go_at_call 78; refine (rest_at g l k m HM.out.symm _ h).mono ?_; rintro e w1 ⟨A1, c1, rfl, hb1, hx1⟩)
  go_ret
  exact ⟨rfl, hx1⟩

set_option maxRecDepth 100000 in
theorem End_at (g : Nat) (l : List UInt8) (k : Nat) (w : World) (h : RD 94 w g l k) :
    Calls Tryz.prog 28 #[.pointer (some ⟨g, 0, none⟩)] w fun e w' => e = .returned (.int .i64 (if k < l.length then 5 else 0)) ∧ Ext w w' := by
  obtain ⟨Ax, cx, hbx, k0, k1, k2, kf⟩ := h.cells
  have hk := h.le
  obtain ⟨n, hn⟩ : ∃ n, n = l.length - k := ⟨_, rfl⟩
  have HL := Lib.hid (Left_at g l k)
  by_cases hlt : k < l.length
  · have h0 : (0 : Int) < n := by omega
    rw [if_pos hlt]
    have HN := Lib.hid hn; clear hn hlt
    go_enter Tryz.func28, Tryz.ntmps28
    go_wp2_with (go_at_call 53; refine (HL.out _ h).mono ?_; rintro e w1 ⟨rfl, hx1⟩; rw [← HN.out])
    go_ret
    exact ⟨rfl, hx1⟩
  · have h0 : ¬ (0 : Int) < n := by omega
    rw [if_neg hlt]
    have HN := Lib.hid hn; clear hn hlt
    go_enter Tryz.func28, Tryz.ntmps28
    go_wp2_with (go_at_call 53; refine (HL.out _ h).mono ?_; rintro e w1 ⟨rfl, hx1⟩; rw [← HN.out])
    go_ret
    exact ⟨rfl, hx1⟩
end Go.Proofs.YtfgmmjpejlpdoaaGreatDoor
