/- Texts laid together (wip/tools/automerge.py): Nm22, Nm23, Nm24. -/
import Derived.Test.YtgclchdccgkjaaaDoorMg33
import Derived.Test.YtgclchdccgkjaaaDoorMg6
namespace Go.Proofs.YtgclchdccgkjaaaDoor
open Go Go.RowKit
set_option linter.unusedVariables false

/-- What comes. -/
def parW (s : List UInt8) : List (List UInt8) := if realmB s = true then par s else []
/-- What the iterator finds: its box, the world's shape. -/
def PaIt (s : ByteArray) (g : Nat) (W : World) : Prop := W.heap[g]? = some (.cells #[.string s] 9 (0, 0)) ∧ MaxN W
def PaG (s : ByteArray) (pre : List ByteArray) (x : ByteArray) (_ : World) : Prop := (∃ rest, parW s.data.toList = dat pre ++ x.data.toList :: rest) ∧ x.size ≤ s.size
theorem Stab.cell {B : Nat} (p : Addr) (v : Value) : Stab B (fun W => W.cell? p = some v) := fun W W' l _ hn hg h => by
  have hlt := World.block_lt_of_cell? W p h
  refine (World.cell?_of_block (hg.block p.block hlt (fun e => ?_))).trans h
  injection e with e
  subst e
  have h' : W.cell? p = some v := h
  unfold World.cell? at h'
  cases ho : W.heap[p.block]? with
  | none => rw [ho] at h'; simp at h'
  | some o =>
    rw [ho] at h'
    cases o <;> simp at h'
    case cells cs t fr => exact hn _ _ _ ho
theorem PaIt.stab (B : Nat) (s : ByteArray) (g : Nat) : Stab B (PaIt s g) := (Stab.heap _ _ _ _).and (Stab.ex fun _ => Stab.cell _ _)
attribute [local go_sem] Oper.semAt_some
theorem PaIt.ext {s : ByteArray} {g : Nat} {W W' : World} (h : PaIt s g W) (hx : Ext W W') : PaIt s g W' := ⟨hx.heap h.1, h.2.ext hx⟩

set_option maxRecDepth 100000 in
set_option maxHeartbeats 2000000 in
theorem parents_iter (s : ByteArray) (hs : s.size ≤ 4294967280) (g : Nat) :
    Iter Tryd.prog 46 #[.pointer (some ⟨g, 0, none⟩)] (fun x : ByteArray => #[.string x]) (PaIt s g) (PaG s) (fun _ => False) (fun xs => dat xs = parW s.data.toList) (fun pre => ∃ rest, parW s.data.toList = dat pre ++ rest) := by
  intro lp J Jx W hJ hJx hY hit h0
  refine callsIn_of_wp Tryd.func46 rfl trivial ?_ rfl
  simp only [Tryd.ntmps46, List.size_toArray, List.length_cons, List.length_nil, Nat.reduceAdd, Nat.reduceSub, Array.replicate_succ, Array.replicate_zero, List.push_toArray, List.append_toArray, List.nil_append, List.cons_append]
  have k1 : W.cell? ⟨g, 0, none⟩ = some (.string s) := by rw [cell_of_row _ _ 0 _ _ (0, 0) hit.1]; rfl
  have HR := Lib.hid (Realm_at s hs W)
  have JE : ∀ pre A B, J pre A → Ext A B → J pre B := fun pre A B h hx => hJ pre A B none (by simp) (grown_none hx) h
  have HJE := Lib.hid JE; clear JE
  have HIT := Lib.hid hit; have H0 := Lib.hid h0; clear hit h0
  obtain ⟨rb, hrb⟩ : ∃ rb, realmB s.data.toList = rb := ⟨_, rfl⟩
  rw [hrb] at HR
  cases rb with
  | false =>
    have HW := Lib.hid (show parW s.data.toList = [] by unfold parW; rw [hrb]; rfl)
    clear hrb
    gi_wp2_with fail
    refine wide_call HR.out ?_
    rintro e w1 ⟨rfl, hx1⟩
    have HX1 := Lib.hid hx1; clear hx1
    gi_wp2_with fail
    first | go_end0 | refine bodyPost_ret (results_none rfl _ _ _) rfl ?_
    exact ⟨⟨_, rfl⟩, .inl ⟨[], by rw [HW.out]; rfl, HJE.out _ _ _ H0.out HX1.out, HIT.out.ext HX1.out⟩⟩
  | true =>
    have HW := Lib.hid (show parW s.data.toList = par s.data.toList by unfold parW; rw [hrb]; rfl)
    clear hrb
    gi_wp2_with fail
    refine wide_call HR.out ?_
    rintro e w1 ⟨rfl, hx1⟩
    have hit1 := HIT.out.ext hx1
    have k2 : w1.cell? ⟨g, 0, none⟩ = some (.string s) := by rw [cell_of_row _ _ 0 _ _ (0, 0) hit1.1]; rfl
    have HIT1 := Lib.hid hit1; have HJ1 := Lib.hid (HJE.out _ _ _ H0.out hx1); clear hx1 hit1 k1
    gi_wp2_with fail
    refine wide_call (Cut_dot s hs w1 HIT1.out.2) ?_
    rintro e w2 ⟨a0, r0, f0, rfl, hcp, hx2⟩
    have HIT2 := Lib.hid (HIT1.out.ext hx2); have HJ2 := Lib.hid (HJE.out _ _ _ HJ1.out hx2); clear hx2 k2
    have HC0 := Lib.hid hcp
    have HS0 := Lib.hid (show r0.size ≤ s.size by
      rcases hcp with ⟨_, _, h⟩ | ⟨_, _, h⟩
      · rw [h]; exact Nat.zero_le _
      · omega)
    clear hcp
    gi_wp2_with fail
    gi_loopw [4, 5] (fun vr vf wr => ∃ (pre : List ByteArray) (cur rest : ByteArray) (found : Bool), vr = .string rest ∧ vf = .bool found ∧ J pre wr ∧ PaIt s g wr ∧ parW s.data.toList = dat pre ++ par cur.data.toList ∧ CutP cur rest found ∧ cur.size ≤ s.size) (fun vr vf _ => match vr, vf with | .string b, .bool true => b.size + 1 | _, _ => 0)
    case atStart => exact ⟨[], s, r0, f0, rfl, rfl, HJ2.out, HIT2.out, by rw [HW.out]; rfl, HC0.out, Nat.le_refl _⟩
    case round =>
      obtain ⟨pre, cur, rest, found, rfl, rfl, hj, hi, he, hcp, hcs⟩ := hrel
      have HJ := Lib.hid hj; have HI := Lib.hid hi; have HE := Lib.hid he
      clear hj hi he
      rcases hcp with ⟨rfl, hp, hr⟩ | ⟨rfl, hp, hr⟩
      · have HP := Lib.hid hp; clear hp hr
        gi_wp2_with fail
        refine ⟨(fun _ h => by cases h), ?_⟩
        gi_wp2_with fail
        first | go_end0 | refine bodyPost_ret (results_none rfl _ _ _) rfl ?_
        exact ⟨⟨_, rfl⟩, .inl ⟨pre, by rw [HE.out, HP.out, List.append_nil], HJ.out, HI.out⟩⟩
      · have HN := Lib.hid (show parW s.data.toList = dat (pre ++ [rest]) ++ par rest.data.toList by rw [HE.out, hp]; simp [dat])
        have hrs : rest.size ≤ 4294967280 := by omega
        obtain ⟨fn, tmps, assign, body, hy, hR⟩ := hY pre rest wr HJ.out HI.out ⟨⟨par rest.data.toList, by rw [HE.out, hp]⟩, by omega⟩
        clear hp
        gi_wp2_with fail
        refine ⟨rfl, hR.mono ?_⟩
        rintro e W3 (⟨rfl, hJ3, hI3⟩ | ⟨rfl, hJx3⟩)
        · have HJ3 := Lib.hid hJ3; have HI3 := Lib.hid hI3; clear hJ3 hI3
          gi_wp2_with fail
          refine wide_call (Cut_dot rest hrs W3 HI3.out.2) ?_
          rintro e w4 ⟨a4, r4, f4, rfl, hcp4, hx4⟩
          have HC4 := Lib.hid hcp4; have HX4 := Lib.hid hx4; clear hcp4 hx4
          gi_wp2_with fail
          go_roundw
          case rel => exact ⟨pre ++ [rest], rest, r4, f4, rfl, rfl, HJE.out _ _ _ HJ3.out HX4.out, HI3.out.ext HX4.out, HN.out, HC4.out, by omega⟩
          case measure =>
            rcases HC4.out with ⟨rfl, _, _⟩ | ⟨rfl, _, h⟩
            · simp
            · simp; omega
        · gi_wp2_with fail
          first | go_end0 | refine bodyPost_ret (results_none rfl _ _ _) rfl ?_
          exact ⟨⟨_, rfl⟩, .inr ⟨pre ++ [rest], ⟨_, HN.out⟩, hJx3⟩⟩
theorem Parents_at (s : ByteArray) (w : World) :
    Calls Tryd.prog 27 #[.string s] w fun e w' => e = .returned (.func (.func 46) #[] #[.pointer (some ⟨w.heap.size, 0, none⟩)]) ∧ w' = w.alloc (.cells #[.string s] 9) := by
  have hmf : ∀ (fn : Fn) (first cap : Array Value) (w : World), (Instr.makeFunc fn first cap).run Tryd.prog w = .ok (.func fn first cap) w := fun _ _ _ _ => rfl
  go_enter Tryd.func27, Tryd.ntmps27
  go_wp2
  go_ret
  exact ⟨rfl, rfl⟩
end Go.Proofs.YtgclchdccgkjaaaDoor
namespace Go.Proofs.YtgclchdccgkjaaaDoor
open Go Go.RowKit
set_option linter.unusedVariables false

set_option maxRecDepth 100000 in
set_option maxHeartbeats 1000000 in
theorem RParents_at (s : ByteArray) (hs : s.size ≤ 1000) (w : World) :
    Calls Tryd.prog 28 #[.string s] w fun e w' => ∃ A c xs, e = .returned (.slice A xs.length c) ∧ RS w' (.slice A xs.length c) (sv xs) ∧ dat xs = par s.data.toList ∧ Ext w w' := by
  obtain ⟨i0, hi, hz0, hz1, hz2⟩ := info_parts sinfo'
  go_enter Tryd.func28, Tryd.ntmps28
  go_wp2_with fail
  go_loopw [3, 4] (fun v i wr => ∃ (k : Nat) (front : List ByteArray), k ≤ s.size ∧ i = .int .i64 k ∧ front.length ≤ k ∧ Hid (wr.ownsRow w.heap.size 9 1 v (sv front).length (sv front)) ∧ Hid (dat front ++ par (s.data.toList.drop k) = par s.data.toList) ∧ Hid (Ext w wr)) (fun _ i _ => s.size - (intOf i).toNat)
  case atStart => exact ⟨0, [], Nat.zero_le _, rfl, Nat.zero_le _, Lib.hid (World.ownsRow_nil _ _ _ _), Lib.hid rfl, Lib.hid (Ext.refl _)⟩
  case round =>
    obtain ⟨k, front, hk, rfl, hf, HO, HE, HX⟩ := hrel
    by_cases hlt : k < s.size
    · have hd := drop_byte s k hlt
      by_cases h46 : s[k].toNat = 46
      · have e0 : ((s[k].toNat : Int) == 46) = true := by rw [beq_iff_eq]; omega
        have HE2 := Lib.hid (show dat (front ++ [s.extract (k + 1) s.size]) ++ par (s.data.toList.drop (k + 1)) = par s.data.toList by
          rw [← HE.out, hd, par, if_pos h46]; unfold dat; rw [List.map_append, List.append_assoc, List.map_singleton, extract_drop s (k + 1)]; rfl)
        have HB := Lib.hid (show ((sv front).length + 1) * 16 ≤ 140737488355328 by rw [sv_length]; omega)
        have HM := Lib.hid HX.out.size
        clear hd h46
        go_wp2_with (at_builtin; refine wpList_append_rs _ rfl (.tmp 15) (.tmp 20) 22 rfl w.heap.size 9 i0 (.string ⟨#[]⟩) 16 Tryd.underlying22 hi hz0 hz1 hz2 rfl _ (sv front) rfl (ownsRow_ext8 HO.out ((Ext.refl wr).alloc _)) _ [.string (s.extract (k + 1) s.size)] rfl (RS.one _ _ _) (by simp [Value.oneCell']) ?hb (by omega) ?hm ?_; rotate_right; intro v4 w4 hown4 hg4 _)
        case hb => exact HB.out
        case hm => have := HM.out; simp; omega
        have HO4 := Lib.hid (show w4.ownsRow w.heap.size 9 1 v4 (sv (front ++ [s.extract (k + 1) s.size])).length (sv (front ++ [s.extract (k + 1) s.size])) by
          have e : sv front ++ [Value.string (s.extract (k + 1) s.size)] = sv (front ++ [s.extract (k + 1) s.size]) := by simp [sv]
          rw [← e]; exact hown4)
        have HX4 := Lib.hid ((HX.out.alloc _).grown hg4 (fun j hj => (World.ownsRow.lt HO.out j hj).1))
        clear hown4 hg4
        go_roundw
        case rel => exact ⟨k + 1, front ++ [s.extract (k + 1) s.size], by omega, by go_num, by rw [List.length_append, List.length_singleton]; omega, HO4, HE2, HX4⟩
        case measure => simp [intOf]; omega
      · have e0 : ((s[k].toNat : Int) == 46) = false := by rw [beq_eq_false_iff_ne]; omega
        have HE2 := Lib.hid (show dat front ++ par (s.data.toList.drop (k + 1)) = par s.data.toList by
          rw [← HE.out, hd, par, if_neg h46])
        clear hd h46
        go_wp2_with fail
        go_roundw
        case rel => exact ⟨k + 1, front, by omega, by go_num, by omega, HO, HE2, HX⟩
        case measure => simp [intOf]; omega
    · have HF := Lib.hid (show dat front = par s.data.toList by
        have := HE.out
        rwa [drop_end s k hlt, par, List.append_nil] at this)
      obtain ⟨A, c, hsh⟩ := rs_shape8 (RS.of_own HO.out)
      have HR := Lib.hid (RS.of_own HO.out)
      subst hsh
      go_wp2_with fail
      go_ret
      exact ⟨A, c, front, rfl, HR.out, HF.out, HX.out⟩

theorem own_none (w : World) (e : TypeId) : (w.alloc (.cells #[] e)).ownsRow w.heap.size e 1 (.slice (some ⟨w.heap.size, 0, none⟩) 0 0) 0 [] :=
  ⟨rfl, .inr ⟨w.heap.size, 0, #[], rfl, Nat.le_refl _, heap_alloc_new w _, Nat.le_refl _, by simp [maxLen], rfl, rfl⟩⟩
theorem rs_none {w : World} {n c : Nat} {xs : List Value} (h : RS w (.slice none n c) xs) : xs = [] := by
  obtain ⟨A', c', he, _, _, hc⟩ := h
  injection he with e1 _ _
  subst e1
  rcases Nat.eq_zero_or_pos xs.length with h0 | h0
  · exact List.eq_nil_of_length_eq_zero h0
  · obtain ⟨ad, ha, _⟩ := hc h0; cases ha
set_option maxRecDepth 100000 in
set_option maxHeartbeats 1000000 in
theorem SClone_at (A : Option Addr) (c : Nat) (ps : List ByteArray) (hn : ps.length ≤ 1000) (w : World) (h : RS w (.slice A ps.length c) (sv ps)) :
    Calls Tryd.prog 53 #[.slice A ps.length c] w fun e w' => ∃ A c, e = .returned (.slice A ps.length c) ∧ w'.ownsRow w.heap.size 9 1 (.slice A ps.length c) (sv ps).length (sv ps) ∧ Ext w w' := by
  obtain ⟨i0, hi, hz0, hz1, hz2⟩ := info_parts sinfo'
  rcases A with _ | ad
  · have h0 : ps = [] := by
      have := rs_none h
      unfold sv at this
      exact List.map_eq_nil_iff.1 this
    subst h0
    have qT : ∀ (w : World), (binOp .eql 22 (.slice none 0 c) (.slice none 0 0)).run Tryd.prog w = .ok (.bool true) w := fun w => Lib.run_eql_slice_nil w _ _ none 0 c 0 0 Tryd.underlying22
    go_enter Tryd.func53, Tryd.ntmps53
    go_wp2
    go_ret
    exact ⟨none, 0, rfl, World.ownsRow_nil _ _ _ _, Ext.refl _⟩
  · have qT : ∀ (w : World), (binOp .eql 22 (.slice (some ad) ps.length c) (.slice none 0 0)).run Tryd.prog w = .ok (.bool false) w := fun w => Lib.run_eql_slice_nil w _ _ (some ad) ps.length c 0 0 Tryd.underlying22
    have HO := Lib.hid (own_none w 9)
    have HL := Lib.hid hn; clear hn
    have HS1 := Lib.hid (show ∀ u ∈ sv ps, u.oneCell' = true from fun u hu => by
      simp only [sv, List.mem_map] at hu
      obtain ⟨b, _, rfl⟩ := hu
      rfl)
    have HH := Lib.hid h; clear h
    go_enter Tryd.func53, Tryd.ntmps53
    go_wp2_with (at_builtin; refine wpList_append_rs _ rfl (.tmp 5) (.tmp 6) 22 rfl w.heap.size 9 i0 (.string ⟨#[]⟩) 16 Tryd.underlying22 hi hz0 hz1 hz2 rfl _ [] rfl HO.out _ (sv ps) rfl (HH.out.ext ((Ext.refl w).alloc _)) HS1.out ?hb (by omega) ?hm ?_; rotate_right; intro v3 w3 hown3 hg3 _)
    case hb => have := HL.out; rw [sv_length]; simp; omega
    case hm => simp
    go_ret
    rw [List.nil_append] at hown3
    obtain ⟨A3, c3, rfl⟩ := rs_shape8 (RS.of_own hown3)
    exact ⟨_, _, rfl, hown3, ((Ext.refl w).alloc _).grown hg3 (fun j hj => (World.ownsRow.lt HO.out j hj).1)⟩
end Go.Proofs.YtgclchdccgkjaaaDoor
namespace Go.Proofs.YtgclchdccgkjaaaDoor
open Go Go.RowKit
set_option linter.unusedVariables false

set_option maxRecDepth 100000 in
set_option maxHeartbeats 1000000 in
theorem NCopy_at (A : Option Addr) (c : Nat) (ps : List ByteArray) (r : ByteArray) (hn : ps.length ≤ 1000) (w : World) (hR : RS w (.slice A ps.length c) (sv ps)) :
    Calls Tryd.prog 32 #[.agg #[.slice A ps.length c, .string r]] w fun e w' => ∃ A' c', e = .returned (.agg #[.slice A' ps.length c', .string r]) ∧ w'.ownsRow (w.heap.size + 2) 9 1 (.slice A' ps.length c') (sv ps).length (sv ps) ∧ Ext w w' := by
  have hT := heap_alloc_new w (.cells #[.slice A ps.length c, .string r] 24)
  have hU := heap_alloc_new (w.alloc (.cells #[.slice A ps.length c, .string r] 24)) (.cells #[.slice none 0 0, .string ⟨#[]⟩] 24)
  rw [World.size_alloc] at hU
  have x1 := (Ext.refl w).alloc (.cells #[.slice A ps.length c, .string r] 24)
  have x2 := (Ext.refl (w.alloc (.cells #[.slice A ps.length c, .string r] 24))).alloc (.cells #[.slice none 0 0, .string ⟨#[]⟩] 24)
  have hT2 := x2.heap hT
  have hx := x1.trans x2
  have hz : ((w.alloc (.cells #[.slice A ps.length c, .string r] 24)).alloc (.cells #[.slice none 0 0, .string ⟨#[]⟩] 24)).heap.size = w.heap.size + 2 := by simp
  obtain ⟨wb, hwb⟩ : ∃ wb, wb = (w.alloc (.cells #[.slice A ps.length c, .string r] 24)).alloc (.cells #[.slice none 0 0, .string ⟨#[]⟩] 24) := ⟨_, rfl⟩
  rw [← hwb] at hT2 hU hx hz
  have HT : Hid (PB wb w.heap.size (.slice A ps.length c) r) := Lib.hid hT2
  have HU : Hid (PB wb (w.heap.size + 1) (.slice none 0 0) ⟨#[]⟩) := Lib.hid hU
  have HXB := Lib.hid hx
  have HC := SClone_at A c ps hn wb (hR.ext hx)
  rw [hz] at HC
  have HCL := Lib.hid HC
  obtain ⟨q0, q1⟩ := HT.out.cells
  clear hT hT2 hU hx x1 x2 hR HC hz
  go_enter Tryd.func32, Tryd.ntmps32
  go_wp2_with fail
  rw [← hwb]
  clear hwb
  refine HCL.out.mono ?_
  rintro _ w1 ⟨A1, c1, rfl, how, hx1⟩
  have hT1 := HT.out.ext hx1; have hU1 := HU.out.ext hx1
  clear q0 q1
  obtain ⟨p0, p1⟩ := hT1.cells
  obtain ⟨v1, hv1⟩ : ∃ v1, Value.slice A1 ps.length c1 = v1 := ⟨_, rfl⟩
  have hT2 : PB (w1.setCell ⟨w.heap.size, 0, none⟩ v1) w.heap.size v1 r := by
    unfold PB at hT1 ⊢
    rw [heap_setCell_same w1 _ 0 _ _ _ hT1]; rfl
  have hU2 : PB (w1.setCell ⟨w.heap.size, 0, none⟩ v1) (w.heap.size + 1) (.slice none 0 0) ⟨#[]⟩ := heap_far (grown_set1 w1 w.heap.size v1) hU1 (by omega)
  have how2 := rs_set (u := v1) (i := 0) how (show w.heap.size < w.heap.size + 2 by omega)
  have hx2 := (HXB.out.trans hx1).setCell (p := ⟨w.heap.size, 0, none⟩) (Nat.le_refl _) v1
  have f0 : w1.frozen? ⟨w.heap.size, 0, none⟩ = false := frozen_of_row w1 _ 0 _ _ hT1
  obtain ⟨w2, hw2⟩ : ∃ w2, w1.setCell ⟨w.heap.size, 0, none⟩ v1 = w2 := ⟨_, rfl⟩
  rw [hw2] at hT2 hU2 how2 hx2
  rw [← hv1] at hw2 hT2
  obtain ⟨q0, q1⟩ := hT2.cells
  obtain ⟨z0, z1, y0, y1, WF, hWF, hxF, d0, d1⟩ := put_end (n := w.heap.size + 1) hU2 hx2 (.slice A1 ps.length c1) (.string r)
  have HWF := Lib.hid (show WF.ownsRow (w.heap.size + 2) 9 1 (.slice A1 ps.length c1) (sv ps).length (sv ps) from hWF ▸ rs_set (rs_set how2 (by omega)) (by omega))
  have HXF := Lib.hid hxF
  clear hxF how2 hx2 hU2 hT2 how hx1 hT1 hU1 hv1
  go_wp2_with fail
  refine bodyPost_ret (v := .agg #[.slice A1 ps.length c1, .string r]) (by simp [results, Tryd.results32, go_sem, d0, d1]; try rfl) rfl ?_
  exact ⟨_, _, rfl, HWF.out, HXF.out⟩
end Go.Proofs.YtgclchdccgkjaaaDoor
