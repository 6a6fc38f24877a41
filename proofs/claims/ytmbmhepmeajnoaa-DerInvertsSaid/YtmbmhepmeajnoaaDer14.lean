/- Records: triple, Key, Sealed. -/
import Derived.Test.YtmbmhepmeajnoaaDer13
namespace Go.Proofs.Ytmbmhepmeajnoaa
open Go Go.RowKit

set_option maxHeartbeats 4000000 in
set_option maxRecDepth 100000 in
theorem triple_at (p v : Int) (A : Option Addr) (c : Nat) (l : List UInt8) (w : World) (h : BS w (.slice A l.length c) l) :
    Calls Try.prog 64 #[.int .i64 p, .int .i64 v, .slice A l.length c] w fun e w' => ∃ A c, e = .returned (.slice A (tripleF p v l).length c) ∧ OB 5 w' w.heap.size (.slice A (tripleF p v l).length c) (tripleF p v l) ∧ Ext w w' := by
  have HI := Lib.hid (fun w1 => Integer_at p w1)
  have HJ := Lib.hid (fun w1 => Integer_at v w1)
  obtain ⟨P, hP⟩ : ∃ P, P = encInt p := ⟨_, rfl⟩
  obtain ⟨V, hV⟩ : ∃ V, V = encInt v := ⟨_, rfl⟩
  obtain ⟨O, hO⟩ : ∃ O, O = encOctets l := ⟨_, rfl⟩
  have HO := Lib.hid (fun w1 h => Octets_at A c l w1 h)
  rw [← hP] at HI
  rw [← hV] at HJ
  rw [← hO] at HO
  have e : tripleF p v l = fieldsF [P, V, O] := by rw [hP, hV, hO]; rfl
  rw [e]
  clear e hP hV hO
  go_enter Try.func64, Try.ntmps64
  go_wp2_with fail
  refine (HI.out _).mono ?_
  rintro e w1 ⟨A1, c1, rfl, hb1, hx1⟩
  go_wp2_with fail
  refine (HJ.out _).mono ?_
  rintro e w2 ⟨A2, c2, rfl, hb2, hx2⟩
  go_wp2_with fail
  refine (HO.out _ (h.ext (hx1.trans hx2))).mono ?_
  rintro e w3 ⟨A3, c3, rfl, hb3, hx3⟩
  go_wp2_with fail
  refine (fields_at _ [P, V, O] (by simp) _ (BSS.new3 w3 24 _ _ _ P V O (hb1.bs.ext (hx2.trans hx3)) (hb2.bs.ext hx3) hb3.bs rfl)).mono ?_
  rintro e w4 ⟨A4, c4, rfl, hb4, hx4⟩
  go_wp2_with fail
  go_ret
  have hx13 := hx1.trans (hx2.trans hx3)
  exact ⟨_, _, rfl, hb4.up (hx13.alloc _), (hx13.alloc _).trans hx4⟩

set_option maxRecDepth 100000 in
theorem Key_at (p v : Int) (A : Option Addr) (c : Nat) (l : List UInt8) (w : World) (h : BS w (.slice A l.length c) l) :
    Calls Try.prog 34 #[.agg #[.int .i64 p, .int .i64 v, .slice A l.length c]] w fun e w' => ∃ A c, e = .returned (.slice A (tripleF p v l).length c) ∧ OB 5 w' w.heap.size (.slice A (tripleF p v l).length c) (tripleF p v l) ∧ Ext w w' := by
  go_enter Try.func34, Try.ntmps34
  go_wp2_with (go_at_call 64; refine (triple_at p v A c l _ (h.ext ((Ext.refl w).alloc _))).mono ?_; rintro e w4 ⟨A4, c4, rfl, hb4, hx4⟩)
  go_ret
  exact ⟨_, _, rfl, hb4.up ((Ext.refl w).alloc _), ((Ext.refl w).alloc _).trans hx4⟩

set_option maxRecDepth 100000 in
theorem Sealed_at (p v : Int) (A : Option Addr) (c : Nat) (l : List UInt8) (w : World) (h : BS w (.slice A l.length c) l) :
    Calls Try.prog 36 #[.agg #[.int .i64 p, .int .i64 v, .slice A l.length c]] w fun e w' => ∃ A c, e = .returned (.slice A (tripleF p v l).length c) ∧ OB 5 w' w.heap.size (.slice A (tripleF p v l).length c) (tripleF p v l) ∧ Ext w w' := by
  go_enter Try.func36, Try.ntmps36
  go_wp2_with (go_at_call 64; refine (triple_at p v A c l _ (h.ext ((Ext.refl w).alloc _))).mono ?_; rintro e w4 ⟨A4, c4, rfl, hb4, hx4⟩)
  go_ret
  exact ⟨_, _, rfl, hb4.up ((Ext.refl w).alloc _), ((Ext.refl w).alloc _).trans hx4⟩
end Go.Proofs.Ytmbmhepmeajnoaa
