/- Names: the law's examples. -/
import Derived.Test.YtgclchdccgkjaaaDoorNm21
import Derived.Test.YtgclchdccgkjaaaDoorMg39
import Derived.Test.YtgclchdccgkjaaaDoorMg41
namespace Go.Proofs.YtgclchdccgkjaaaDoor
open Go Go.RowKit
set_option linter.unusedVariables false

theorem parts1 (w : World) (b : ByteArray) : RS (w.alloc (.cells #[.string b] 9)) (.slice (some ⟨w.heap.size, 0, none⟩) 1 1) (sv [b]) := RS.new w 9 [.string b] (by simp [maxLen])
theorem parts2 (w : World) (a b : ByteArray) : RS (w.alloc (.cells #[.string a, .string b] 9)) (.slice (some ⟨w.heap.size, 0, none⟩) 2 2) (sv [a, b]) := RS.new w 9 [.string a, .string b] (by simp [maxLen])
theorem k1 (w : World) : Calls Tryd.prog 34 #[.string ⟨#[97, 47, 98, 64, 88, 46, 89]⟩, .string ⟨#[88, 46, 89]⟩, .slice (some ⟨w.heap.size, 0, none⟩) 2 2] (w.alloc (.cells #[.string ⟨#[97]⟩, .string ⟨#[98]⟩] 9)) fun e w' => e = .returned (.bool true) ∧ Ext (w.alloc (.cells #[.string ⟨#[97]⟩, .string ⟨#[98]⟩] 9)) w' :=
  parses_yes ⟨#[97, 47, 98, 64, 88, 46, 89]⟩ ⟨#[88, 46, 89]⟩ _ 2 [⟨#[97]⟩, ⟨#[98]⟩] (by decide) _ (parts2 w _ _) (by kernel_rfl) (by kernel_rfl)
theorem k2 (w : World) : Calls Tryd.prog 34 #[.string ⟨#[97, 92, 47, 98, 64, 88]⟩, .string ⟨#[88]⟩, .slice (some ⟨w.heap.size, 0, none⟩) 1 1] (w.alloc (.cells #[.string ⟨#[97, 47, 98]⟩] 9)) fun e w' => e = .returned (.bool true) ∧ Ext (w.alloc (.cells #[.string ⟨#[97, 47, 98]⟩] 9)) w' :=
  parses_yes ⟨#[97, 92, 47, 98, 64, 88]⟩ ⟨#[88]⟩ _ 1 [⟨#[97, 47, 98]⟩] (by decide) _ (parts1 w _) (by kernel_rfl) (by kernel_rfl)
theorem k3 (w : World) : Calls Tryd.prog 34 #[.string ⟨#[97, 64, 120]⟩, .string ⟨#[]⟩, .slice none 0 0] w fun e w' => e = .returned (.bool true) ∧ Ext w w' :=
  parses_no ⟨#[97, 64, 120]⟩ (by decide) w (scan_bad (p := [[97]]) (r := [120]) (by kernel_rfl) (by kernel_rfl))
theorem k4 (w : World) : Calls Tryd.prog 34 #[.string ⟨#[97, 47, 47, 98, 64, 88]⟩, .string ⟨#[]⟩, .slice none 0 0] w fun e w' => e = .returned (.bool true) ∧ Ext w w' :=
  parses_no ⟨#[97, 47, 47, 98, 64, 88]⟩ (by decide) w (scan_bad (p := [[97], [], [98]]) (r := [88]) (by kernel_rfl) (by kernel_rfl))
theorem k5 (w : World) : Calls Tryd.prog 34 #[.string ⟨#[97]⟩, .string ⟨#[]⟩, .slice none 0 0] w fun e w' => e = .returned (.bool true) ∧ Ext w w' :=
  parses_no ⟨#[97]⟩ (by decide) w (scan_none (by kernel_rfl))
theorem k6 (w : World) : Calls Tryd.prog 25 #[.string ⟨#[66]⟩, .string ⟨#[65]⟩] w fun e w' => (∃ A c, e = .returned (.tuple #[.agg #[.slice A 2 c, .string ⟨#[65]⟩], .int .i64 0]) ∧ RS w' (.slice A 2 c) (sv [krb, ⟨#[66]⟩])) ∧ Ext w w' := by
  refine (TG_at ⟨#[66]⟩ ⟨#[65]⟩ (by decide) (by decide) w).mono ?_
  rintro e w' ⟨h, hx⟩
  rcases h with ⟨_, h⟩ | ⟨hf, _⟩
  · exact ⟨h, hx⟩
  · rw [show (realmB (⟨#[66]⟩ : ByteArray).data.toList && realmB (⟨#[65]⟩ : ByteArray).data.toList) = true by kernel_rfl] at hf
    cases hf
theorem k7 (A : Option Addr) (c : Nat) (w : World) (h : RS w (.slice A 2 c) (sv [krb, ⟨#[66]⟩])) : Calls Tryd.prog 18 #[.agg #[.slice A 2 c, .string ⟨#[65]⟩]] w fun e w' => e = .returned (.tuple #[.string ⟨#[107, 114, 98, 116, 103, 116, 47, 66, 64, 65]⟩, .int .i64 0]) ∧ Ext w w' :=
  NText_yes A c [krb, ⟨#[66]⟩] ⟨#[65]⟩ w h (by kernel_rfl)
theorem k8 (A : Option Addr) (c : Nat) (w : World) (h : RS w (.slice A 2 c) (sv [krb, ⟨#[66]⟩])) : Calls Tryd.prog 26 #[.agg #[.slice A 2 c, .string ⟨#[65]⟩]] w fun e w' => e = .returned (.tuple #[.string ⟨#[66]⟩, .bool true]) ∧ Ext w w' :=
  Target_good A c krb ⟨#[66]⟩ ⟨#[65]⟩ (by decide) (by decide) w h (by kernel_rfl) rfl (by kernel_rfl)
theorem k9 (w : World) : Calls Tryd.prog 26 #[.agg #[.slice (some ⟨w.heap.size, 0, none⟩) 1 1, .string ⟨#[65]⟩]] (w.alloc (.cells #[.string ⟨#[97]⟩] 9)) fun e w' => e = .returned (.tuple #[.string ⟨#[]⟩, .bool false]) ∧ Ext (w.alloc (.cells #[.string ⟨#[97]⟩] 9)) w' :=
  Target_few _ 1 [⟨#[97]⟩] ⟨#[65]⟩ (by decide) (by decide) _ (parts1 w _) (by kernel_rfl)
theorem k10 (w : World) : Calls Tryd.prog 23 #[.agg #[.slice (some ⟨w.heap.size, 0, none⟩) 1 1, .string ⟨#[88]⟩]] (w.alloc (.cells #[.string ⟨#[97]⟩] 9)) fun e w' => ∃ A' c', e = .returned (.tuple #[.slice A' 14 c', .int .i64 0]) ∧ OB 5 w' (w.heap.size + 1) (.slice A' 14 c') [48, 12, 160, 5, 48, 3, 27, 1, 97, 161, 3, 27, 1, 88] ∧ Ext (w.alloc (.cells #[.string ⟨#[97]⟩] 9)) w' := by
  have h := NEncode_yes (some ⟨w.heap.size, 0, none⟩) 1 [⟨#[97]⟩] ⟨#[88]⟩ _ (parts1 w _) (by kernel_rfl)
  rw [show encName (dat [⟨#[97]⟩]) (⟨#[88]⟩ : ByteArray).data.toList = [48, 12, 160, 5, 48, 3, 27, 1, 97, 161, 3, 27, 1, 88] by kernel_rfl] at h
  refine Calls.mono h ?_
  rintro e w' ⟨A', c', rfl, hb, hx⟩
  exact ⟨A', c', rfl, by rw [World.size_alloc] at hb; exact hb, hx⟩
theorem seq_nil (cap : Array Value) (w : World) : (binOp .eql 47 (.func (.func 46) #[] cap) .nilFunc).run Tryd.prog w = .ok (.bool false) w := by kernel_rfl

/-- What the loop over the parents puts together. -/
def catS : List ByteArray → ByteArray
  | [] => ⟨#[]⟩
  | x :: r => x ++ ⟨#[59]⟩ ++ catS r
theorem catS_snoc : ∀ (ls : List ByteArray) (x : ByteArray), catS (ls ++ [x]) = catS ls ++ x ++ ⟨#[59]⟩
  | [], x => by simp [catS]; apply ByteArray.ext; simp
  | a :: r, x => by rw [List.cons_append, catS, catS_snoc r x, catS]; simp [ByteArray.append_assoc]
theorem parW_abc : parW (⟨#[65, 46, 66, 46, 67]⟩ : ByteArray).data.toList = [[66, 46, 67], [67]] := by kernel_rfl
def KnI (g : Nat) (w : World) (pre : List ByteArray) (W : World) : Prop := W.heap[g]? = some (.cells #[.string (catS pre)] 9 (0, 0)) ∧ pre.length ≤ 2 ∧ (catS pre).size ≤ 6 * pre.length ∧ w.heap.size ≤ g ∧ Ext w W
theorem KnI.stab {B0 g : Nat} {w : World} (h : w.heap.size ≤ B0) (pre : List ByteArray) : Stab B0 (KnI g w pre) := (Stab.heap _ _ _ _).and ((Stab.pure _).and ((Stab.pure _).and ((Stab.pure _).and (Stab.ext w h))))
attribute [local go_sem] Oper.semAt_some

set_option maxRecDepth 100000 in
set_option maxHeartbeats 4000000 in
theorem known_at (w : World) (hm : MaxN w) :
    Calls Tryd.prog 11 #[] w fun e w' => e = .returned (.bool true) ∧ Ext w w' := by
  have HM := Lib.hid hm; clear hm
  obtain ⟨S7, hS7⟩ : ∃ S, (⟨#[107, 114, 98, 116, 103, 116, 47, 66, 64, 65]⟩ : ByteArray) = S := ⟨_, rfl⟩
  obtain ⟨S8, hS8⟩ : ∃ S, (⟨#[66]⟩ : ByteArray) = S := ⟨_, rfl⟩
  obtain ⟨L10, hL10⟩ : ∃ L : List UInt8, [48, 12, 160, 5, 48, 3, 27, 1, 97, 161, 3, 27, 1, 88] = L := ⟨_, rfl⟩
  have K7 := Lib.hid (fun A c W h => hS7 ▸ k7 A c W h)
  have K8 := Lib.hid (fun A c W h => k8 A c W h)
  have K10 := Lib.hid (fun W => hL10 ▸ k10 W)
  have e7 : (S7.toList == [107, 114, 98, 116, 103, 116, 47, 66, 64, 65]) = true := by rw [← hS7, ByteArray.toList_eq]; rfl
  have e10 : (L10 == [48, 12, 160, 5, 48, 3, 27, 1, 97, 161, 3, 27, 1, 88]) = true := by rw [← hL10]; rfl
  clear hS7 hS8 hL10
  refine calls_of_marks Tryd.func11 rfl ?_
  simp only [Tryd.ntmps11, List.size_toArray, List.length_nil, Nat.reduceSub, Array.replicate_succ, Array.replicate_zero, List.push_toArray, List.append_toArray, List.nil_append, List.cons_append]
  go_wp2_with fail
  refine (k1 w).mono ?_
  rintro _ w1 ⟨rfl, hx1⟩
  have X1 := Lib.hid (((Ext.refl w).alloc _).trans hx1); clear hx1
  go_wp2_with fail
  refine (k2 w1).mono ?_
  rintro _ w2 ⟨rfl, hx2⟩
  have X2 := Lib.hid ((X1.out.alloc _).trans hx2); clear hx2
  go_wp2_with fail
  refine (k3 w2).mono ?_
  rintro _ w3 ⟨rfl, hx3⟩
  have X3 := Lib.hid (X2.out.trans hx3); clear hx3
  go_wp2_with fail
  refine (k4 w3).mono ?_
  rintro _ w4 ⟨rfl, hx4⟩
  have X4 := Lib.hid (X3.out.trans hx4); clear hx4
  go_wp2_with fail
  refine (k5 w4).mono ?_
  rintro _ w5 ⟨rfl, hx5⟩
  have X5 := Lib.hid (X4.out.trans hx5); clear hx5
  go_wp2_with fail
  refine (k6 w5).mono ?_
  rintro _ w6 ⟨⟨A6, c6, rfl, hr6⟩, hx6⟩
  obtain ⟨V6, hV6, hxV, hPB⟩ := let_p w6 (.slice A6 2 c6) ⟨#[65]⟩
  have X6 := Lib.hid ((X5.out.trans hx6).trans hxV); have R6 := Lib.hid (hr6.ext hxV); have B6 := Lib.hid hPB
  obtain ⟨q0, q1⟩ := hPB.cells
  clear hx6 hr6 hxV hPB
  go_wp2_with fail
  refine (K7.out _ _ _ R6.out).mono ?_
  rintro _ w7 ⟨rfl, hx7⟩
  have X7 := Lib.hid (X6.out.trans hx7); have R7 := Lib.hid (R6.out.ext hx7); have B7 := Lib.hid (B6.out.ext hx7); clear hx7 hV6 q0 q1
  obtain ⟨q0, q1⟩ := B7.out.cells
  go_wp2_with fail
  refine (K8.out _ _ _ R7.out).mono ?_
  rintro _ w8 ⟨rfl, hx8⟩
  have X8 := Lib.hid (X7.out.trans hx8); clear hx8 q0 q1
  go_wp2_with fail
  refine (k9 w8).mono ?_
  rintro _ w9 ⟨rfl, hx9⟩
  have X9 := Lib.hid ((X8.out.alloc _).trans hx9); clear hx9
  go_wp2_with fail
  refine (K10.out w9).mono ?_
  rintro _ wa ⟨A10, c10, rfl, hb10, hx10⟩
  have XA := Lib.hid ((X9.out.alloc _).trans hx10); clear hx10
  have hcv : (convert 38 9 (.slice A10 14 c10)).run Tryd.prog wa = .ok (.string ⟨L10.toArray⟩) wa := run_str _ _ _ 5 _ _ Tryd.underlying38 Tryd.underlying5 Tryd.underlying9 hb10.bs
  clear hb10
  go_wp2_with fail
  refine (Parents_at ⟨#[65, 46, 66, 46, 67]⟩ wa).mono ?_
  rintro _ wp ⟨rfl, hwp⟩
  have hq := seq_nil #[.pointer (some ⟨wa.heap.size, 0, none⟩)] wp
  have HWP := Lib.hid hwp; clear hwp
  clear hcv
  go_wp2_with fail
  have hxV : Ext wa (wp.alloc (.cells #[.string ⟨#[]⟩] 9)) := by rw [HWP.out]; exact ((Ext.refl _).alloc _).alloc _
  have hp0 : (wp.alloc (.cells #[.string ⟨#[]⟩] 9)).heap[wa.heap.size]? = some (.cells #[.string ⟨#[65, 46, 66, 46, 67]⟩] 9 (0, 0)) := by rw [HWP.out]; exact ((Ext.refl _).alloc _).heap (heap_alloc_new wa _)
  have ha0 := heap_alloc_new wp (.cells #[.string ⟨#[]⟩] 9)
  have hzp : wp.heap.size = wa.heap.size + 1 := by rw [HWP.out]; simp
  obtain ⟨V, hV⟩ : ∃ V, V = wp.alloc (.cells #[.string ⟨#[]⟩] 9) := ⟨_, rfl⟩
  have hzV : V.heap.size = wp.heap.size + 1 := by rw [hV]; simp
  rw [← hV] at hxV hp0 ha0 ⊢
  clear HWP hV hq
  have XV := Lib.hid (XA.out.trans hxV)
  have hwg : w.heap.size ≤ wp.heap.size := by have := XA.out.size; omega
  have HZ := Lib.hid hzp; have HZV := Lib.hid hzV; have HP0 := Lib.hid hp0; have HA0 := Lib.hid ha0
  clear hxV hp0 ha0 hzp hzV
  refine wpIn_wide.1 (wp_range (gf := 46) (lb := #[.pointer (some ⟨wa.heap.size, 0, none⟩)]) rfl (Go.Proofs.enters_of Tryd.func46 (by kernel_rfl) rfl)
    (parents_iter ⟨#[65, 46, 66, 46, 67]⟩ (by decide) wa.heap.size) (fun _ => rfl) (fun k hk => hk.elim) ⟨HP0.out, HM.out.ext XV.out⟩ (PaIt.stab _ _ _)
    (fun pre W => KnI wp.heap.size w pre W) (fun _ _ _ => False) (fun pre => KnI.stab XV.out.size _) (fun _ _ => Stab.pure _)
    (fun pre X Y r hr hg h => (KnI.stab (B0 := V.heap.size) XV.out.size pre).later (grown_of_ext (by cases r with | none => exact hg | some k => exact (hr k rfl).elim)) h)
    (fun cd pre X Y r hr hg h => h)
    ⟨HA0.out, by simp, by simp [catS]; rfl, hwg, XV.out⟩ ?_ ?_ ?_)
  · intro L pre x W hL hnL hzW hIW hitW hGW
    gi_wp2_with fail
    refine ⟨KeepsFrom.refl _ _, fun W2 hg2 hn2 hz2 => ?_⟩
    have hI2 := (KnI.stab (B0 := V.heap.size) (g := wp.heap.size) (w := w) XV.out.size pre) W W2 L hL hn2 hg2 hIW
    have hit2 := (PaIt.stab V.heap.size ⟨#[65, 46, 66, 46, 67]⟩ wa.heap.size) W W2 L hL hn2 hg2 hitW
    obtain ⟨⟨rest, hrest⟩, hxs⟩ := hGW
    rw [parW_abc] at hrest
    have hl2 : pre.length + 1 ≤ 2 := by
      have := congrArg List.length hrest
      rw [List.length_append, dat_length] at this
      simp at this
      omega
    have hx5 : x.size ≤ 5 := hxs
    obtain ⟨ca, hca⟩ : ∃ ca, catS pre = ca := ⟨_, rfl⟩
    have hc6 : ca.size ≤ 12 := by rw [← hca]; have := hI2.2.2.1; omega
    have hcs : ca.size ≤ 6 * pre.length := by rw [← hca]; exact hI2.2.2.1
    have k0 := (row1 hI2.1).1; have f0 := (row1 hI2.1).2
    rw [hca] at k0
    have hsn : catS (pre ++ [x]) = ca ++ x ++ ⟨#[59]⟩ := by rw [catS_snoc, hca]
    have hrow := row1_set (.string (ca ++ x ++ ⟨#[59]⟩)) hI2.1
    have hf1 := heap_far (grown_set1 W2 wp.heap.size (.string (ca ++ x ++ ⟨#[59]⟩))) hit2.1 (by have := HZ.out; omega)
    have hx2 := hI2.2.2.2.2.setCell (p := ⟨wp.heap.size, 0, none⟩) hwg (.string (ca ++ x ++ ⟨#[59]⟩))
    have HSN := Lib.hid hsn; have HROW := Lib.hid hrow; have HF1 := Lib.hid hf1; have HX2 := Lib.hid hx2; have HCS := Lib.hid hcs; have HL2 := Lib.hid hl2
    have HKO := Lib.hid ((KeepsOthers.setCell W2 ⟨wp.heap.size, 0, none⟩ (.string (ca ++ x ++ ⟨#[59]⟩))).from V.heap.size)
    clear hsn hrow hf1 hx2 hI2 hit2 hIW hitW hg2 hn2 hnL hrest hca hcs hxs
    gi_wp2_with fail
    refine ⟨HKO.out, ⟨HF1.out, HM.out.ext HX2.out⟩, ⟨by rw [HSN.out]; exact HROW.out, by rw [List.length_append, List.length_singleton]; exact HL2.out, ?_, hwg, HX2.out⟩⟩
    rw [HSN.out, ByteArray.size_append, ByteArray.size_append, List.length_append, List.length_singleton]
    have := HCS.out
    show ca.size + x.size + 1 ≤ _
    omega
  · intro D xs W hDw hS hIW hitW hD
    rw [parW_abc] at hS
    have hcat : (catS xs).data.toList = [66, 46, 67, 59, 67, 59] := by
      rcases xs with _ | ⟨a, _ | ⟨b, _ | ⟨c, r⟩⟩⟩
      · simp [dat] at hS
      · simp [dat] at hS
      · simp only [dat, List.map_cons, List.map_nil, List.cons.injEq, and_true] at hS
        simp only [catS, ByteArray.data_append, Array.toList_append, hS.1, hS.2]
        rfl
      · simp [dat] at hS
    have e1 : ((catS xs).toList == [66, 46, 67, 59, 67, 59]) = true := by rw [ByteArray.toList_eq, hcat]; rfl
    have k0 := (row1 hIW.1).1
    obtain ⟨ca, hca⟩ : ∃ ca, catS xs = ca := ⟨_, rfl⟩
    rw [hca] at k0 e1
    have HD := Lib.hid hD; have HX := Lib.hid hIW.2.2.2.2
    have HXP := Lib.hid (Ext.of_grown hIW.2.2.2.2 (grown_put hD (o' := .deferred none)) (show w.heap.size ≤ D by have := XV.out.size; omega))
    clear hcat hca hIW hitW hD hS
    go_wp2_with fail
    refine ⟨by simp, .inl ⟨_, _, rfl, run_takeDeferred HD.out, ?_⟩⟩
    exact ⟨.bool true, by simp [results, Tryd.results11, go_sem], rfl, HXP.out⟩
  · intro D c pre W _ _ h
    exact h.elim
end Go.Proofs.YtgclchdccgkjaaaDoor
