/- LifetimeInverts: the law. (wip/tools/genltinv.py printed this.) -/
import Derived.Test.YtfgmmjpejlpdoaaGreatDoorLtK2
import Derived.Test.YtfgmmjpejlpdoaaGreatDoorLtP1
import Derived.Test.YtfgmmjpejlpdoaaGreatDoorLtE1
import Derived.Test.YtfgmmjpejlpdoaaGreatDoorLtInv
namespace Go.Proofs.YtfgmmjpejlpdoaaGreatDoor.lifetimeInverts
open Go Go.RowKit
set_option linter.unusedVariables false

theorem Encode_yes (a s e r : Int) (hv : validB a s e r = true) (w : World) :
    Calls Tryz.prog 8 #[.agg #[.int .i64 a, .int .i64 s, .int .i64 e, .int .i64 r]] w fun en w' => ∃ A c, en = .returned (.tuple #[.slice A (encTimes a s e r).length c, .int .i64 0]) ∧ OB 5 w' w.heap.size (.slice A (encTimes a s e r).length c) (encTimes a s e r) ∧ Ext w w' := by
  by_cases hr : r = 0
  · exact Encode_zero a s e r hv hr w
  · exact Encode_full a s e r hv hr w
theorem str_of {L : List UInt8} {A : Option Addr} {c : Nat} {w w' : World} (h : BS w (.slice A L.length c) L) (hx : Ext w w') : (convert 24 9 (.slice A L.length c)).run Tryz.prog w' = .ok (.string ⟨L.toArray⟩) w' :=
  run_str _ _ _ 5 _ _ Tryz.underlying24 Tryz.underlying5 Tryz.underlying9 (h.ext hx)
theorem encTimes_len (a s e r : Int) : (encTimes a s e r).length ≤ 1000 := by
  have l1 : ∀ t, (encTime t).length ≤ 100 := fun t => by
    unfold encTime
    split
    · have := elem_le 24 (beBytes t 6); rw [beBytes_length] at this; omega
    · simp
  have lw : ∀ (n : Nat) (t : Int), (encTag n (encTime t)).length ≤ 105 := fun n t => by
    unfold encTag encWrap
    split
    · have := elem_le (UInt8.ofNat (160 + (n : Int)).toNat) (encTime t); have := l1 t; omega
    · simp
  have ll : (lastE r).length ≤ 105 := by
    unfold lastE
    split
    · simp
    · exact lw _ _
  have := lw 0 a; have := lw 1 s; have := lw 2 e
  rw [encTimes_eq]
  have h := elem_le 48 (encTag 0 (encTime a) ++ (encTag 1 (encTime s) ++ (encTag 2 (encTime e) ++ lastE r)))
  simp only [List.length_append] at h
  omega
theorem textT_len (a s e r : Int) (hv : validB a s e r = true) : (⟨(textT a s e r).toArray⟩ : ByteArray).size ≤ 1000 := by
  obtain ⟨v1, v2, v3, v4, v5, v6, _⟩ := validB_bd hv
  have l1 := Lib.itoa_length_le a (by omega) (by omega)
  have l2 := Lib.itoa_length_le s (by omega) (by omega)
  have l3 := Lib.itoa_length_le e (by omega) (by omega)
  have l4 := Lib.itoa_length_le r (by omega) (by omega)
  show (textT a s e r).toArray.size ≤ 1000
  rw [List.size_toArray, textT_eq]
  simp only [List.length_append, List.length_cons]
  omega

/-- What is read of a string, as one knows it. -/
def PK (l : List UInt8) (a s e r er : Int) : Prop := (er = 0 ∧ validB a s e r = true ∧ textT a s e r = l) ∨ er = 6
theorem PRes.know (l : List UInt8) : ∃ a s e r er, PK l a s e r er ∧ ∀ en, PRes l en → en = .returned (.tuple #[.agg #[.int .i64 a, .int .i64 s, .int .i64 e, .int .i64 r], .int .i64 er]) := by
  by_cases h : ∃ a s e r, validB a s e r = true ∧ textT a s e r = l
  · obtain ⟨a, s, e, r, hv, ht⟩ := h
    exact ⟨a, s, e, r, 0, .inl ⟨rfl, hv, ht⟩, fun en hen => hen.uniq (.inl ⟨a, s, e, r, hv, ht, rfl⟩)⟩
  · exact ⟨0, 0, 0, 0, 6, .inr rfl, fun en hen => hen.uniq (.inr ⟨fun a s e r hv ht => h ⟨a, s, e, r, hv, ht⟩, rfl⟩)⟩

set_option maxRecDepth 100000 in
set_option maxHeartbeats 8000000 in
theorem law_walk (a s e r : Int) (str : ByteArray) (A0 : Option Addr) (c0 : Nat) (b : List UInt8) (w : World) (hB : BS w (.slice A0 b.length c0) b) (hp : Env w) :
    Calls Tryz.prog 3 #[.agg #[.int .i64 a, .int .i64 s, .int .i64 e, .int .i64 r], .string str, .slice A0 b.length c0] w fun en w' => en = .returned (.bool true) ∧ Ext w w' := by
  have HE := Lib.hid hp; clear hp
  have HB := Lib.hid hB; clear hB
  have HT0 := Lib.hid (show TB (w.alloc (.cells #[.int .i64 a, .int .i64 s, .int .i64 e, .int .i64 r] 23)) w.heap.size a s e r from heap_alloc_new w _)
  have HX0 := Lib.hid ((Ext.refl w).alloc (.cells #[.int .i64 a, .int .i64 s, .int .i64 e, .int .i64 r] 23))
  by_cases hl : str.size ≤ 100 ∧ b.length ≤ 100
  · obtain ⟨hl1, hl2⟩ := hl
    have hgt : ¬ ((100 : Int) < (str.size : Int)) := by omega
    have hgt8 : decide (100 < str.size) = false := decide_eq_false (by omega)
    have hgb : ¬ ((100 : Int) < (b.length : Int)) := by omega
    have hgb8 : decide (100 < b.length) = false := decide_eq_false (by omega)
    obtain ⟨a1, s1, e1, r1, er1, hknow, hdet⟩ := PRes.know str.data.toList
    have H1 := Lib.hid (fun (W : World) (hE : Env W) => (Parse_at str (by omega) W hE).mono (R' := fun en w' => en = .returned (.tuple #[.agg #[.int .i64 a1, .int .i64 s1, .int .i64 e1, .int .i64 r1], .int .i64 er1]) ∧ Ext W w') (fun en w' h => ⟨hdet en h.1, h.2⟩))
    have HK := Lib.hid hknow
    obtain ⟨⟨a2, s2, e2, r2⟩, er2, hD⟩ : ∃ T er, timesDec b = (T, er) := ⟨_, _, rfl⟩
    have H2 := Lib.hid (fun (W : World) (hb : BS W (.slice A0 b.length c0) b) => Decode_at A0 c0 b (by omega) a2 s2 e2 r2 er2 hD W hb)
    have HD := Lib.hid hD
    clear hdet hknow hD
    obtain ⟨q0, q1, q2, q3⟩ := HT0.out.cells
    -- the rest, behind the first part
    cases hv : validB a s e r with
    | false =>
      have HV := Lib.hid hv; clear hv
      go_enter Tryz.func3, Tryz.ntmps3
      go_wp2_with fail
      refine (Valid_at a s e r _).mono ?_
      rw [HV.out]
      rintro _ u1 ⟨rfl, hx1⟩
      have HX := Lib.hid (HX0.out.trans hx1); clear hx1
      go_wp2_with fail
      refine (H1.out _ (HE.out.ext HX.out)).mono ?_
      rintro _ y1 ⟨rfl, hy1⟩
      have hTy : TB (y1.alloc (.cells #[.int .i64 a1, .int .i64 s1, .int .i64 e1, .int .i64 r1] 23)) y1.heap.size a1 s1 e1 r1 := heap_alloc_new y1 _
      obtain ⟨k0, k1, k2, k3⟩ := hTy.cells
      have HY1 := Lib.hid ((HX.out.trans hy1).alloc (.cells #[.int .i64 a1, .int .i64 s1, .int .i64 e1, .int .i64 r1] 23)); clear hy1 hTy
      rcases HK.out with ⟨rfl, hv1, ht1⟩ | rfl
      · have htb : (textT a1 s1 e1 r1 == str.toList) = true := by rw [ByteArray.toList_eq, ht1]; exact beq_self_eq_true _
        have HV1 := Lib.hid hv1; clear hv1 ht1
        go_wp2_with fail
        refine (Text_at a1 s1 e1 r1 HV1.out _ (HE.out.ext HY1.out).pow).mono ?_
        rintro _ y2 ⟨rfl, hy2⟩
        have HY2 := Lib.hid (HY1.out.trans hy2); clear hy2
        clear k0 k1 k2 k3
        go_wp2_with fail
        refine (H2.out _ (HB.out.ext HY2.out)).mono ?_
        rintro _ z1 ⟨rfl, hy1⟩
        have hTz : TB (z1.alloc (.cells #[.int .i64 a2, .int .i64 s2, .int .i64 e2, .int .i64 r2] 23)) z1.heap.size a2 s2 e2 r2 := heap_alloc_new z1 _
        obtain ⟨k0, k1, k2, k3⟩ := hTz.cells
        have HZ1 := Lib.hid ((HY2.out.trans hy1).alloc (.cells #[.int .i64 a2, .int .i64 s2, .int .i64 e2, .int .i64 r2] 23)); clear hy1 hTz
        by_cases hr2 : er2 = 0
        · subst hr2
          obtain ⟨hv2, hen⟩ := timesDec_inv b a2 s2 e2 r2 HD.out
          have HV2 := Lib.hid hv2; have HEN := Lib.hid hen; clear hv2 hen
          go_wp2_with fail
          refine (Encode_yes a2 s2 e2 r2 HV2.out _).mono ?_
          rw [HEN.out]
          rintro _ z2 ⟨A6, c6, rfl, hb6, hy2⟩
          have HZ2 := Lib.hid (HZ1.out.trans hy2)
          have hs1 := str_of hb6.bs (Ext.refl z2)
          have hs2 := str_of HB.out (HZ1.out.trans hy2)
          clear hy2 hb6
          go_wp2_with fail
          clear hs1 hs2
          refine (known_at _ (HE.out.ext HZ2.out).pow).mono ?_
          rintro _ z3 ⟨rfl, hy3⟩
          have HZ3 := Lib.hid (HZ2.out.trans hy3); clear hy3
          go_wp2_with fail
          go_ret
          exact ⟨rfl, HZ3.out⟩
        · have hne : ((er2 : Int) == 0) = false := by rw [beq_eq_false_iff_ne]; omega
          clear hr2
          go_wp2_with fail
          refine (known_at _ (HE.out.ext HZ1.out).pow).mono ?_
          rintro _ z3 ⟨rfl, hy3⟩
          have HZ3 := Lib.hid (HZ1.out.trans hy3); clear hy3
          go_wp2_with fail
          go_ret
          exact ⟨rfl, HZ3.out⟩
      · clear k0 k1 k2 k3
        go_wp2_with fail
        refine (H2.out _ (HB.out.ext HY1.out)).mono ?_
        rintro _ z1 ⟨rfl, hy1⟩
        have hTz : TB (z1.alloc (.cells #[.int .i64 a2, .int .i64 s2, .int .i64 e2, .int .i64 r2] 23)) z1.heap.size a2 s2 e2 r2 := heap_alloc_new z1 _
        obtain ⟨k0, k1, k2, k3⟩ := hTz.cells
        have HZ1 := Lib.hid ((HY1.out.trans hy1).alloc (.cells #[.int .i64 a2, .int .i64 s2, .int .i64 e2, .int .i64 r2] 23)); clear hy1 hTz
        by_cases hr2 : er2 = 0
        · subst hr2
          obtain ⟨hv2, hen⟩ := timesDec_inv b a2 s2 e2 r2 HD.out
          have HV2 := Lib.hid hv2; have HEN := Lib.hid hen; clear hv2 hen
          go_wp2_with fail
          refine (Encode_yes a2 s2 e2 r2 HV2.out _).mono ?_
          rw [HEN.out]
          rintro _ z2 ⟨A6, c6, rfl, hb6, hy2⟩
          have HZ2 := Lib.hid (HZ1.out.trans hy2)
          have hs1 := str_of hb6.bs (Ext.refl z2)
          have hs2 := str_of HB.out (HZ1.out.trans hy2)
          clear hy2 hb6
          go_wp2_with fail
          clear hs1 hs2
          refine (known_at _ (HE.out.ext HZ2.out).pow).mono ?_
          rintro _ z3 ⟨rfl, hy3⟩
          have HZ3 := Lib.hid (HZ2.out.trans hy3); clear hy3
          go_wp2_with fail
          go_ret
          exact ⟨rfl, HZ3.out⟩
        · have hne : ((er2 : Int) == 0) = false := by rw [beq_eq_false_iff_ne]; omega
          clear hr2
          go_wp2_with fail
          refine (known_at _ (HE.out.ext HZ1.out).pow).mono ?_
          rintro _ z3 ⟨rfl, hy3⟩
          have HZ3 := Lib.hid (HZ1.out.trans hy3); clear hy3
          go_wp2_with fail
          go_ret
          exact ⟨rfl, HZ3.out⟩
    | true =>
      have HV := Lib.hid hv; clear hv
      have HTL := Lib.hid (textT_len a s e r HV.out)
      have H4 := Lib.hid (fun (W : World) (hE : Env W) => (Parse_at ⟨(textT a s e r).toArray⟩ HTL.out W hE).mono (R' := fun en w' => en = .returned (.tuple #[.agg #[.int .i64 a, .int .i64 s, .int .i64 e, .int .i64 r], .int .i64 0]) ∧ Ext W w') (fun en w' h => ⟨h.1.uniq (.inl ⟨a, s, e, r, HV.out, by simp, rfl⟩), h.2⟩))
      go_enter Tryz.func3, Tryz.ntmps3
      go_wp2_with fail
      refine (Valid_at a s e r _).mono ?_
      rw [HV.out]
      rintro _ v1 ⟨rfl, hx1⟩
      have HT1 := Lib.hid (HT0.out.ext hx1); have HX1 := Lib.hid (HX0.out.trans hx1); clear hx1
      obtain ⟨q0, q1, q2, q3⟩ := HT1.out.cells
      go_wp2_with fail
      refine (Text_at a s e r HV.out _ (HE.out.ext HX1.out).pow).mono ?_
      rintro _ v2 ⟨rfl, hx2⟩
      have HT2 := Lib.hid (HT1.out.ext hx2); have HX2 := Lib.hid (HX1.out.trans hx2); clear hx2
      go_wp2_with fail
      refine (H4.out v2 (HE.out.ext HX2.out)).mono ?_
      rintro _ v3 ⟨rfl, hx3⟩
      have hTp : TB (v3.alloc (.cells #[.int .i64 a, .int .i64 s, .int .i64 e, .int .i64 r] 23)) v3.heap.size a s e r := heap_alloc_new v3 _
      have HTp := Lib.hid hTp
      have HT3 := Lib.hid ((HT2.out.ext hx3).ext ((Ext.refl v3).alloc (.cells #[.int .i64 a, .int .i64 s, .int .i64 e, .int .i64 r] 23))); have HX3 := Lib.hid ((HX2.out.trans hx3).alloc (.cells #[.int .i64 a, .int .i64 s, .int .i64 e, .int .i64 r] 23)); clear hx3 hTp
      obtain ⟨q0, q1, q2, q3⟩ := HT3.out.cells
      go_wp2_with fail
      refine (Encode_yes a s e r HV.out _).mono ?_
      rintro _ v4 ⟨A4, c4, rfl, hb4, hx4⟩
      have HT4 := Lib.hid (HT3.out.ext hx4); have HX4 := Lib.hid (HX3.out.trans hx4); have HTp4 := Lib.hid (HTp.out.ext hx4); have HB4 := Lib.hid hb4.bs; clear hx4 hb4
      have H5 := Lib.hid (Decode_at A4 c4 (encTimes a s e r) (by have := encTimes_len a s e r; omega) a s e r 0 (timesDec_enc a s e r HV.out) v4 HB4.out)
      go_wp2_with fail
      refine H5.out.mono ?_
      rintro _ v5 ⟨rfl, hx5⟩
      have hTd : TB (v5.alloc (.cells #[.int .i64 a, .int .i64 s, .int .i64 e, .int .i64 r] 23)) v5.heap.size a s e r := heap_alloc_new v5 _
      obtain ⟨d0, d1, d2, d3⟩ := hTd.cells
      obtain ⟨k0, k1, k2, k3⟩ := (HTp4.out.ext (hx5.alloc (.cells #[.int .i64 a, .int .i64 s, .int .i64 e, .int .i64 r] 23))).cells
      obtain ⟨q0, q1, q2, q3⟩ := (HT4.out.ext (hx5.alloc (.cells #[.int .i64 a, .int .i64 s, .int .i64 e, .int .i64 r] 23))).cells
      have HX := Lib.hid ((HX4.out.trans hx5).alloc (.cells #[.int .i64 a, .int .i64 s, .int .i64 e, .int .i64 r] 23))
      clear hx5 hTd
      go_wp2_with fail
      refine (H1.out _ (HE.out.ext HX.out)).mono ?_
      rintro _ y1 ⟨rfl, hy1⟩
      have hTy : TB (y1.alloc (.cells #[.int .i64 a1, .int .i64 s1, .int .i64 e1, .int .i64 r1] 23)) y1.heap.size a1 s1 e1 r1 := heap_alloc_new y1 _
      obtain ⟨k0, k1, k2, k3⟩ := hTy.cells
      have HY1 := Lib.hid ((HX.out.trans hy1).alloc (.cells #[.int .i64 a1, .int .i64 s1, .int .i64 e1, .int .i64 r1] 23)); clear hy1 hTy
      rcases HK.out with ⟨rfl, hv1, ht1⟩ | rfl
      · have htb : (textT a1 s1 e1 r1 == str.toList) = true := by rw [ByteArray.toList_eq, ht1]; exact beq_self_eq_true _
        have HV1 := Lib.hid hv1; clear hv1 ht1
        go_wp2_with fail
        refine (Text_at a1 s1 e1 r1 HV1.out _ (HE.out.ext HY1.out).pow).mono ?_
        rintro _ y2 ⟨rfl, hy2⟩
        have HY2 := Lib.hid (HY1.out.trans hy2); clear hy2
        clear k0 k1 k2 k3
        go_wp2_with fail
        refine (H2.out _ (HB.out.ext HY2.out)).mono ?_
        rintro _ z1 ⟨rfl, hy1⟩
        have hTz : TB (z1.alloc (.cells #[.int .i64 a2, .int .i64 s2, .int .i64 e2, .int .i64 r2] 23)) z1.heap.size a2 s2 e2 r2 := heap_alloc_new z1 _
        obtain ⟨k0, k1, k2, k3⟩ := hTz.cells
        have HZ1 := Lib.hid ((HY2.out.trans hy1).alloc (.cells #[.int .i64 a2, .int .i64 s2, .int .i64 e2, .int .i64 r2] 23)); clear hy1 hTz
        by_cases hr2 : er2 = 0
        · subst hr2
          obtain ⟨hv2, hen⟩ := timesDec_inv b a2 s2 e2 r2 HD.out
          have HV2 := Lib.hid hv2; have HEN := Lib.hid hen; clear hv2 hen
          go_wp2_with fail
          refine (Encode_yes a2 s2 e2 r2 HV2.out _).mono ?_
          rw [HEN.out]
          rintro _ z2 ⟨A6, c6, rfl, hb6, hy2⟩
          have HZ2 := Lib.hid (HZ1.out.trans hy2)
          have hs1 := str_of hb6.bs (Ext.refl z2)
          have hs2 := str_of HB.out (HZ1.out.trans hy2)
          clear hy2 hb6
          go_wp2_with fail
          clear hs1 hs2
          refine (known_at _ (HE.out.ext HZ2.out).pow).mono ?_
          rintro _ z3 ⟨rfl, hy3⟩
          have HZ3 := Lib.hid (HZ2.out.trans hy3); clear hy3
          go_wp2_with fail
          go_ret
          exact ⟨rfl, HZ3.out⟩
        · have hne : ((er2 : Int) == 0) = false := by rw [beq_eq_false_iff_ne]; omega
          clear hr2
          go_wp2_with fail
          refine (known_at _ (HE.out.ext HZ1.out).pow).mono ?_
          rintro _ z3 ⟨rfl, hy3⟩
          have HZ3 := Lib.hid (HZ1.out.trans hy3); clear hy3
          go_wp2_with fail
          go_ret
          exact ⟨rfl, HZ3.out⟩
      · clear k0 k1 k2 k3
        go_wp2_with fail
        refine (H2.out _ (HB.out.ext HY1.out)).mono ?_
        rintro _ z1 ⟨rfl, hy1⟩
        have hTz : TB (z1.alloc (.cells #[.int .i64 a2, .int .i64 s2, .int .i64 e2, .int .i64 r2] 23)) z1.heap.size a2 s2 e2 r2 := heap_alloc_new z1 _
        obtain ⟨k0, k1, k2, k3⟩ := hTz.cells
        have HZ1 := Lib.hid ((HY1.out.trans hy1).alloc (.cells #[.int .i64 a2, .int .i64 s2, .int .i64 e2, .int .i64 r2] 23)); clear hy1 hTz
        by_cases hr2 : er2 = 0
        · subst hr2
          obtain ⟨hv2, hen⟩ := timesDec_inv b a2 s2 e2 r2 HD.out
          have HV2 := Lib.hid hv2; have HEN := Lib.hid hen; clear hv2 hen
          go_wp2_with fail
          refine (Encode_yes a2 s2 e2 r2 HV2.out _).mono ?_
          rw [HEN.out]
          rintro _ z2 ⟨A6, c6, rfl, hb6, hy2⟩
          have HZ2 := Lib.hid (HZ1.out.trans hy2)
          have hs1 := str_of hb6.bs (Ext.refl z2)
          have hs2 := str_of HB.out (HZ1.out.trans hy2)
          clear hy2 hb6
          go_wp2_with fail
          clear hs1 hs2
          refine (known_at _ (HE.out.ext HZ2.out).pow).mono ?_
          rintro _ z3 ⟨rfl, hy3⟩
          have HZ3 := Lib.hid (HZ2.out.trans hy3); clear hy3
          go_wp2_with fail
          go_ret
          exact ⟨rfl, HZ3.out⟩
        · have hne : ((er2 : Int) == 0) = false := by rw [beq_eq_false_iff_ne]; omega
          clear hr2
          go_wp2_with fail
          refine (known_at _ (HE.out.ext HZ1.out).pow).mono ?_
          rintro _ z3 ⟨rfl, hy3⟩
          have HZ3 := Lib.hid (HZ1.out.trans hy3); clear hy3
          go_wp2_with fail
          go_ret
          exact ⟨rfl, HZ3.out⟩
  · have hno : str.size ≤ 100 → decide (100 < b.length) = true := fun h => decide_eq_true (by omega)
    by_cases hl1 : str.size ≤ 100
    · have hgt8 : decide (100 < str.size) = false := decide_eq_false (by omega)
      have hgt : ¬ ((100 : Int) < (str.size : Int)) := by omega
      have hgb8 := hno hl1
      have hgb : (100 : Int) < (b.length : Int) := by omega
      clear hno hl hl1
      go_enter Tryz.func3, Tryz.ntmps3
      go_wp2_with fail
      refine (known_at _ (HE.out.ext HX0.out).pow).mono ?_
      rintro _ w5 ⟨rfl, hx5⟩
      have HX5 := Lib.hid (HX0.out.trans hx5); clear hx5
      go_wp2_with fail
      go_ret
      exact ⟨rfl, HX5.out⟩
    · have hgt8 : decide (100 < str.size) = true := decide_eq_true (by omega)
      have hgt : (100 : Int) < (str.size : Int) := by omega
      clear hno hl hl1
      go_enter Tryz.func3, Tryz.ntmps3
      go_wp2_with fail
      refine (known_at _ (HE.out.ext HX0.out).pow).mono ?_
      rintro _ w5 ⟨rfl, hx5⟩
      have HX5 := Lib.hid (HX0.out.trans hx5); clear hx5
      go_wp2_with fail
      go_ret
      exact ⟨rfl, HX5.out⟩
end Go.Proofs.YtfgmmjpejlpdoaaGreatDoor.lifetimeInverts
