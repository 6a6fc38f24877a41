/- The reference's records: Three. -/
import Derived.Test.YtmbmhepmeajnoaaRef3
import Derived.Test.YtmbmhepmeajnoaaDer13
import Derived.Deep.Cut
namespace Go.Proofs.Ytmbmhepmeajnoaa
open Go Go.RowKit

set_option maxHeartbeats 4000000 in
set_option maxRecDepth 100000 in
theorem Three_at (p v : Int) (A : Option Addr) (c : Nat) (l : List UInt8) (hl : l.length ≤ 1000) (w : World) (h : BS w (.slice A l.length c) l) :
    Calls Try.prog 35 #[.int .i64 p, .int .i64 v, .slice A l.length c] w fun e w' => ∃ A c, e = .returned (.slice A (threeF p v l).length c) ∧ OB 5 w' w.heap.size (.slice A (threeF p v l).length c) (threeF p v l) ∧ Ext w w' := by
  have HI := Lib.hid (fun w1 => RInteger_at p w1)
  have HJ := Lib.hid (fun w1 => RInteger_at v w1)
  have hp13 := encInt_le p
  have hv13 := encInt_le v
  obtain ⟨P, hP⟩ : ∃ P, P = encInt p := ⟨_, rfl⟩
  obtain ⟨V, hV⟩ : ∃ V, V = encInt v := ⟨_, rfl⟩
  obtain ⟨O, hO⟩ : ∃ O, O = encOctets l := ⟨_, rfl⟩
  have hol : O.length ≤ 1005 := by rw [hO]; have := elem_le 4 l; unfold encOctets; omega
  have HO := Lib.hid (fun w1 h => ROctets_at A c l w1 h)
  rw [← hP] at HI hp13
  rw [← hV] at HJ hv13
  rw [← hO] at HO
  have e : threeF p v l = if P = [] ∨ V = [] then [] else encSeq [encWrap 160 0 P, encWrap 160 1 V, encWrap 160 2 O] := by rw [hP, hV, hO]; rfl
  obtain ⟨R, hR⟩ : ∃ R, R = threeF p v l := ⟨_, rfl⟩
  rw [← hR] at e ⊢
  have HE := Lib.hid e
  have HT : Hid ([encWrap 160 0 P, encWrap 160 1 V, encWrap 160 2 O].flatten.length ≤ 70368744177664) := by
    have h0 := encTag_le 0 P; have h1 := encTag_le 1 V; have h2 := encTag_le 2 O
    have e0 : encTag 0 P = encWrap 160 0 P := rfl
    have e1 : encTag 1 V = encWrap 160 1 V := rfl
    have e2 : encTag 2 O = encWrap 160 2 O := rfl
    rw [e0] at h0; rw [e1] at h1; rw [e2] at h2
    show _ ≤ _
    simp only [List.flatten_cons, List.flatten_nil, List.length_append, List.length_nil]
    omega
  clear e hR hP hV hO hl hp13 hv13 hol
  by_cases hp0 : P = []
  · have hb : ((P.length : Int) == 0) = true := by rw [hp0]; rfl
    have e : R = [] := by rw [HE.out, if_pos (.inl hp0)]
    subst e
    clear hp0 HE HT HO
    go_enter Try.func35, Try.ntmps35
    go_wp2_with fail
    refine (HI.out _).mono ?_
    rintro e w1 ⟨A1, c1, rfl, hb1, hx1⟩
    go_wp2_with fail
    go_ret
    exact ⟨none, 0, rfl, OB.nil _ _ _, hx1⟩
  have hbp : ((P.length : Int) == 0) = false := by
    rw [beq_eq_false_iff_ne]; have := List.length_pos_iff.2 hp0; omega
  by_cases hv0 : V = []
  · have hb : ((V.length : Int) == 0) = true := by rw [hv0]; rfl
    have e : R = [] := by rw [HE.out, if_pos (.inr hv0)]
    subst e
    clear hp0 hv0 HE HT HO
    go_enter Try.func35, Try.ntmps35
    go_wp2_with fail
    refine (HI.out _).mono ?_
    rintro e w1 ⟨A1, c1, rfl, hb1, hx1⟩
    go_wp2_with fail
    refine (HJ.out _).mono ?_
    rintro e w2 ⟨A2, c2, rfl, hb2, hx2⟩
    go_wp2_with fail
    go_ret
    exact ⟨none, 0, rfl, OB.nil _ _ _, hx1.trans hx2⟩
  have hbv : ((V.length : Int) == 0) = false := by
    rw [beq_eq_false_iff_ne]; have := List.length_pos_iff.2 hv0; omega
  have e : R = encSeq [encWrap 160 0 P, encWrap 160 1 V, encWrap 160 2 O] := by rw [HE.out, if_neg (by intro h; rcases h with h | h <;> contradiction)]
  subst e
  clear hp0 hv0 HE
  go_enter Try.func35, Try.ntmps35
  go_wp2_with fail
  refine (HI.out _).mono ?_
  rintro e w1 ⟨A1, c1, rfl, hb1, hx1⟩
  go_wp2_with fail
  refine (HJ.out _).mono ?_
  rintro e w2 ⟨A2, c2, rfl, hb2, hx2⟩
  go_upto_region 3 with fail
  have hxa := hx1.trans hx2
  clear hb1 hb2 hx1 hx2
  go_wp2_with fail
  refine (HI.out _).mono ?_
  rintro e w3 ⟨A3, c3, rfl, hb3, hx3⟩
  go_wp2_with fail
  refine (RTagged_at 0 A3 c3 P _ hb3.bs).mono ?_
  rintro e w4 ⟨A4, c4, rfl, hb4, hx4⟩
  go_wp2_with fail
  refine (HJ.out _).mono ?_
  rintro e w5 ⟨A5, c5, rfl, hb5, hx5⟩
  go_wp2_with fail
  refine (RTagged_at 1 A5 c5 V _ hb5.bs).mono ?_
  rintro e w6 ⟨A6, c6, rfl, hb6, hx6⟩
  go_wp2_with fail
  refine (HO.out _ (h.ext (hxa.trans (hx3.trans (hx4.trans (hx5.trans hx6)))))).mono ?_
  rintro e w7 ⟨A7, c7, rfl, hb7, hx7⟩
  go_wp2_with fail
  refine (RTagged_at 2 A7 c7 O _ hb7.bs).mono ?_
  rintro e w8 ⟨A8, c8, rfl, hb8, hx8⟩
  go_wp2_with fail
  refine (RSequence_at _ [encWrap 160 0 P, encWrap 160 1 V, encWrap 160 2 O] _ (BSS.new3 w8 24 _ _ _ _ _ _ (hb4.bs.ext (hx5.trans (hx6.trans (hx7.trans hx8)))) (hb6.bs.ext (hx7.trans hx8)) hb8.bs rfl) HT.out).mono ?_
  rintro e w9 ⟨A9, c9, rfl, hb9, hx9⟩
  go_wp2_with fail
  go_ret
  have hx38 := hxa.trans (hx3.trans (hx4.trans (hx5.trans (hx6.trans (hx7.trans hx8)))))
  exact ⟨_, _, rfl, hb9.up (hx38.alloc _), (hx38.alloc _).trans hx9⟩
end Go.Proofs.Ytmbmhepmeajnoaa
