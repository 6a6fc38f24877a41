/- Texts laid together (wip/tools/automerge.py): Gr12, Round, RoundT. -/
import Derived.Test.YtnjmndofcpnmeaaGreatDoorTx33
import Derived.Test.YtnjmndofcpnmeaaGreatDoorTx28
import Derived.Test.YtnjmndofcpnmeaaGreatDoorTx4
import Derived.Deep.Quiet
import Derived.OrdersIn
import Derived.Test.YtnjmndofcpnmeaaGreatDoorTx5
import Derived.TacticsIn
namespace Go.Proofs.YtnjmndofcpnmeaaGreatDoor
open Go Go.RowKit Go.Maps
set_option linter.unusedVariables false

/-- What the map of codes holds. -/
structure CD (D : DataW Unit) (l : List Fct) : Prop where
  map : IsMap D
  ints : ∀ kl, Maps.has D kl = true → ∃ z, kl = .int .i64 z
  has : ∀ z, Maps.has D (.int .i64 z) = true ↔ 0 < codF l z
  at_ : ∀ z, D.atKey (.int .i64 z) (.lit (.int .i64 0)) = .lit (.int .i64 (codF l z : Int))
theorem litI_ne {s t : Int} (h : s ≠ t) : (Lit.int .i64 s) ≠ .int .i64 t := fun e => h (by injection e)
theorem codF_snoc (l : List Fct) (f : Fct) (c : Int) : codF (l ++ [f]) c = codF l c + if f.co = c then 1 else 0 := by
  unfold codF
  rw [List.filter_append, List.length_append, List.filter_cons]
  by_cases h : f.co = c <;> simp [h]
theorem codF_le (l : List Fct) (c : Int) : codF l c ≤ l.length := List.length_filter_le _ _
theorem CD.start : CD (.map []) [] := ⟨isMap_empty, fun kl h => (by simp [Maps.has] at h), fun s => by simp [Maps.has, codF], fun s => by simp [codF, DataW.atKey]⟩
theorem CD.add {D : DataW Unit} {l : List Fct} (h : CD D l) (f : Fct) : CD (D.put (.int .i64 f.co) (.lit (.int .i64 ((codF l f.co + 1 : Nat) : Int)))) (l ++ [f]) := by
  refine ⟨h.map.put _ _, fun kl hk => ?_, fun t => ?_, fun t => ?_⟩
  · by_cases e : kl = .int .i64 f.co
    · exact ⟨_, e⟩
    · rw [has_put_other e] at hk
      exact h.ints kl hk
  · rw [codF_snoc]
    by_cases e : t = f.co
    · subst e
      rw [has_put_same h.map (by trivial), if_pos rfl]
      simp
    · rw [has_put_other (litI_ne e), if_neg (fun e' => e e'.symm), Nat.add_zero]
      exact h.has t
  · rw [codF_snoc]
    by_cases e : t = f.co
    · subst e
      rw [atKey_put_same h.map (by trivial), if_pos rfl]
    · rw [atKey_put_other (litI_ne e), if_neg (fun e' => e e'.symm), Nat.add_zero]
      exact h.at_ t
theorem lawInt : Keyed Tryz.prog 3 := int_keyed Tryz.underlying3
def CMap (w : World) (m n : Nat) (D : DataW Unit) : Prop := w.ownsMap Tryz.prog 3 (plainElem Tryz.prog 3) m n D
theorem CMap.ext {w w' : World} {m n : Nat} {D : DataW Unit} (h : CMap w m n D) (hx : Ext w w') : CMap w' m n D := World.ownsMap.kept h (hx.but none) (by simp)
set_option maxRecDepth 100000 in
set_option maxHeartbeats 800000 in
theorem Codes_at (A : Option Addr) (c : Nat) (xs : List FV) (w : World) (hF : FS w (.slice A xs.length c) xs) (hn : xs.length ≤ 1000) (hw : ∀ f ∈ xs, i64B f.co) :
    Calls Tryz.prog 22 #[.slice A xs.length c] w fun e w' => (∃ D : DataW Unit, e = .returned (.map (some w.heap.size)) ∧ CMap w' w.heap.size xs.length D ∧ CD D (xs.map FV.fct)) ∧ Ext w w' := by
  have hmm := @run_makeMap Tryz.prog
  have HF := Lib.hid hF; have HW := Lib.hid hw
  obtain ⟨_, c', he, hc1, hc2⟩ := hF.shape
  injection he with e1 _ e3
  subst e1; subst e3
  unfold maxLen at hc2
  obtain ⟨n, hn'⟩ : ∃ n, xs.length = n := ⟨_, rfl⟩
  have HN := Lib.hid hn'
  have HM0 := Lib.hid (show CMap (w.alloc (.map #[] 0)) w.heap.size 0 (.map []) from World.ownsMap_made _ _ _ _)
  have HX0 := Lib.hid ((Ext.refl w).alloc (.map #[] 0))
  clear hF hw
  rw [hn'] at hc1 hn ⊢
  clear hn'
  go_enter Tryz.func22, Tryz.ntmps22
  go_wp2_with fail
  go_loopw [5, 9] (fun _ i wr => ∃ (k : Nat) (D : DataW Unit), i = .int .i64 (k : Int) ∧ k ≤ n ∧ Hid (CMap wr w.heap.size k D) ∧ Hid (CD D ((xs.take k).map FV.fct)) ∧ Hid (Ext w wr)) (fun _ i _ => n - (intOf i).toNat)
  case atStart => exact ⟨0, .map [], rfl, by omega, HM0, Lib.hid CD.start, HX0⟩
  case round =>
    obtain ⟨k, D, rfl, hk, HM, HD, HX⟩ := hrel
    by_cases hlt : k < n
    · have hlx : k < xs.length := by rw [HN.out]; exact hlt
      have hF := HF.out.ext HX.out
      obtain ⟨hin, ad, rfl, u0, u1, u2, u3, u4, u5, u6, u7, u8, u9, u10, u11⟩ := hF.at_ k hlx
      have hco := HW.out xs[k] (List.getElem_mem hlx)
      have HD2 := Lib.hid (show CD (D.put (.int .i64 xs[k].co) (.lit (.int .i64 ((codF ((xs.take k).map FV.fct) xs[k].co + 1 : Nat) : Int)))) ((xs.take (k + 1)).map FV.fct) by
        rw [List.take_succ_eq_append_getElem hlx, List.map_append, List.map_cons, List.map_nil]
        exact HD.out.add xs[k].fct)
      have HAT := Lib.hid (HD.out.at_ xs[k].co)
      have hcl := codF_le ((xs.take k).map FV.fct) xs[k].co
      rw [List.length_map, List.length_take] at hcl
      generalize codF ((xs.take k).map FV.fct) xs[k].co = cn at *
      generalize xs[k] = f at *
      have hcn : (cn : Int) ≤ 1000 := by omega
      have hbx := FBx.new wr f
      have hxa := (Ext.refl wr).alloc (.cells #[.int .i64 f.t, .int .i64 f.mi, .int .i64 f.kd, .int .i64 f.fk, .slice f.FA f.fb.length f.fc, .slice f.CA f.cp.length f.cc, .string f.cr, .slice f.SA f.sp.length f.sc, .string f.sr, .int .i64 f.co, .int .i64 f.pr, .int .u32 (f.fl.toNat : Int)] 41)
      obtain ⟨Wa, ea⟩ : ∃ Wa, wr.alloc (.cells #[.int .i64 f.t, .int .i64 f.mi, .int .i64 f.kd, .int .i64 f.fk, .slice f.FA f.fb.length f.fc, .slice f.CA f.cp.length f.cc, .string f.cr, .slice f.SA f.sp.length f.sc, .string f.sr, .int .i64 f.co, .int .i64 f.pr, .int .u32 (f.fl.toNat : Int)] 41) = Wa := ⟨_, rfl⟩
      rw [ea] at hbx hxa
      obtain ⟨v0, v1, v2, v3, v4, v5, v6, v7, v8, v9, v10, v11⟩ := fv_cells hbx
      have HXA := Lib.hid (HX.out.trans hxa)
      have hown : CMap Wa w.heap.size k D := HM.out.ext hxa
      unfold CMap at hown
      have hkey := keyOf_int_mk (P := Tryz.prog) Tryz.underlying3 (WalkArith.wf_i64 hco)
      clear hbx hxa hin hF hlx hcl
      go_wp2_with (first
        | (at_lookup; refine wpList_lookup_own_int _ rfl _ _ 60 rfl 3 3 .i64 lawInt Tryz.underlying60 Tryz.underlying3 (zeroInt _) w.heap.size _ D rfl hown _ _ rfl hkey ?_; intro cv hat hwc; obtain rfl : cv = (cn : Int) := (by rw [HAT.out] at hat; injection hat with hat; injection hat with _ hat; exact hat.symm))
        | (at_mapUpdate; refine wpList_mapUpdate_own _ rfl _ _ _ 60 rfl 3 3 lawInt Tryz.underlying60 _ w.heap.size _ D rfl hown (by unfold maxLen; omega) _ _ _ rfl rfl hkey _ [] (plainElem_int Tryz.underlying3 (WalkArith.wf_i64 (by omega))) ?_; intro w3 hown1 hgrow1)
        | fail)
      have HM3 := Lib.hid (show CMap w3 w.heap.size (k + 1) (D.put (.int .i64 f.co) (.lit (.int .i64 ((cn + 1 : Nat) : Int)))) from hown1)
      have HX3 := Lib.hid (show Ext w w3 from Below.grown HXA.out hgrow1 HXA.out.size (fun j hj => by cases hj; exact Nat.le_refl _))
      clear hown hown1 hgrow1 u0 u1 u2 u3 u4 u5 u6 u7 u8 u9 u10 u11 v0 v1 v2 v3 v4 v5 v6 v7 v8 v9 v10 v11
      go_roundw
      case rel => exact ⟨k + 1, _, by go_num, by omega, HM3, HD2, HX3⟩
      case measure => simp [intOf]; omega
    · obtain rfl : k = n := by omega
      have hd := HD.out
      rw [List.take_of_length_le (by rw [HN.out]; exact Nat.le_refl _)] at hd
      have HDD := Lib.hid hd
      clear hd
      go_wp2_with fail
      go_ret
      exact ⟨⟨D, rfl, HM.out, HDD.out⟩, HX.out⟩
end Go.Proofs.YtnjmndofcpnmeaaGreatDoor
namespace Go.Proofs.YtnjmndofcpnmeaaGreatDoor
open Go Go.RowKit
set_option linter.unusedVariables false

section
variable {P : Program} {ops : Array Oper} {md : Region.Mode} {lr : Nat}

end
end Go.Proofs.YtnjmndofcpnmeaaGreatDoor
namespace Go.Proofs.YtnjmndofcpnmeaaGreatDoor
open Go Go.RowKit
set_option linter.unusedVariables false

section
variable {P : Program} {ops : Array Oper} {md : Region.Mode} {lr : Nat}

end
end Go.Proofs.YtnjmndofcpnmeaaGreatDoor
