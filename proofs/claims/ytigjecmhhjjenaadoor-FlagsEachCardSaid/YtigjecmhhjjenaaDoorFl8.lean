/- Flags: the first rule that applies. -/
import Derived.Test.YtigjecmhhjjenaaDoorFl7
import Derived.Laws.EntriesVeiled
namespace Go.Proofs.YtigjecmhhjjenaaDoor
open Go Go.RowKit
set_option linter.unusedVariables false

/-- A rule: its error, its closure, whether it applies. -/
structure RuleV where
  e : Int
  f : Nat
  cap : Array Value
  b : Bool
def firstF : List RuleV → Int
  | [] => 0
  | r :: rs => if r.b then r.e else firstF rs
theorem firstF_drop {rs : List RuleV} {k : Nat} (h : k < rs.length) : firstF (rs.drop k) = if rs[k].b then rs[k].e else firstF (rs.drop (k + 1)) := by
  rw [List.drop_eq_getElem_cons h]; rfl
set_option maxRecDepth 100000 in
set_option maxHeartbeats 1000000 in
theorem first_at (ad : Addr) (c : Nat) (rs : List RuleV) (hn : rs.length ≤ 100) (w : World) (hblt : ad.block < w.heap.size)
    (hc0 : ∀ (k : Nat) (h : k < rs.length), w.cell? (ad.add (k * 2)) = some (.int .i64 rs[k].e)) (hc1 : ∀ (k : Nat) (h : k < rs.length), w.cell? ⟨(ad.add (k * 2)).block, (ad.add (k * 2)).off + 1, none⟩ = some (.func (.func rs[k].f) #[] rs[k].cap))
    (heg : ∀ (k : Nat) (h : k < rs.length) (args : Array Value) (W : World), (callFunc rs[k].f args).run Tryd.prog W = .ok (.enter rs[k].f args) W)
    (hcl : ∀ (k : Nat) (h : k < rs.length) (W : World), Ext w W → Calls Tryd.prog rs[k].f rs[k].cap W fun e w' => e = .returned (.bool rs[k].b) ∧ Ext W w') :
    Calls Tryd.prog 43 #[.slice (some ad) rs.length c] w fun e w' => e = .returned (.int .i64 (firstF rs)) ∧ Ext w w' := by
  have HC0 := Lib.hid hc0; have HC1 := Lib.hid hc1; have HEG := Lib.hid heg; have HCL := Lib.hid hcl
  clear hc0 hc1 heg hcl
  go_enter Tryd.func43, Tryd.ntmps43
  go_wp2_with fail
  go_loopw [7] (fun i wr => ∃ k : Nat, k ≤ rs.length ∧ i = .int .i64 k ∧ Hid (firstF rs = firstF (rs.drop k)) ∧ Ext w wr) (fun i _ => rs.length - (intOf i).toNat)
  case atStart => exact ⟨0, Nat.zero_le _, rfl, Lib.hid rfl, Ext.refl _⟩
  case round =>
    obtain ⟨k, hk, rfl, HF, hx⟩ := hrel
    have HX := Lib.hid hx
    by_cases hlt : k < rs.length
    · have g0 := hx.cell (HC0.out k hlt)
      have g1 := hx.cell (HC1.out k hlt)
      have HE := Lib.hid (HEG.out k hlt); have HL := Lib.hid (HCL.out k hlt); have HD := Lib.hid (firstF_drop hlt)
      generalize rs[k] = r at g0 g1 HE HL HD
      have hlt2 : k + 1 ≤ rs.length := by omega
      have HLT := Lib.hid hlt
      clear hx
      have HA := Lib.hid (HX.out.alloc (.cells #[.int .i64 r.e, .func (.func r.f) #[] r.cap] 81))
      cases hb : r.b with
      | false =>
        rw [hb] at HD HL
        simp only [Bool.false_eq_true, if_false] at HD
        have HDF := Lib.hid (HF.out.trans HD.out)
        clear hb HD
        go_wp2_with fail
        rw [HE.out]
        refine (HL.out _ HA.out).mono ?_
        rintro _ w2 ⟨rfl, hx2⟩
        have HX2 := Lib.hid (HA.out.trans hx2)
        clear hx2
        go_wp2_with fail
        go_roundw
        case rel => exact ⟨k + 1, by omega, by go_num, HDF, HX2.out⟩
        case measure => simp [intOf]; omega
      | true =>
        rw [hb] at HD HL
        simp only [if_true] at HD
        have HDF := Lib.hid (HF.out.trans HD.out)
        have h1 := heap_alloc_new wr (.cells #[.int .i64 r.e, .func (.func r.f) #[] r.cap] 81)
        have H1 := Lib.hid h1
        clear hb HD h1
        go_wp2_with fail
        rw [HE.out]
        refine (HL.out _ HA.out).mono ?_
        rintro _ w2 ⟨rfl, hx2⟩
        have HX2 := Lib.hid (HA.out.trans hx2)
        have q0 : w2.cell? ⟨wr.heap.size, 0, none⟩ = some (.int .i64 r.e) := by rw [cell_of_row _ _ 0 _ _ (0, 0) (hx2.heap H1.out)]; rfl
        clear hx2
        go_wp2_with fail
        go_ret
        exact ⟨by rw [HDF.out]; rfl, HX2.out⟩
    · have : k = rs.length := by omega
      subst this
      have HZ := Lib.hid (show firstF rs = 0 by rw [HF.out, List.drop_length]; rfl)
      go_wp2_with fail
      go_ret
      exact ⟨by rw [HZ.out]; rfl, HX.out⟩
/-- The rules as they lie in a row. -/
def rowR : List RuleV → List Value
  | [] => []
  | r :: rs => .int .i64 r.e :: .func (.func r.f) #[] r.cap :: rowR rs
theorem rowR_get : ∀ (rs : List RuleV) (k : Nat) (h : k < rs.length), (rowR rs)[k * 2]? = some (.int .i64 rs[k].e) ∧ (rowR rs)[k * 2 + 1]? = some (.func (.func rs[k].f) #[] rs[k].cap)
  | r :: rs, 0, h => ⟨rfl, rfl⟩
  | r :: rs, k + 1, h => by
    have := rowR_get rs k (by simpa using h)
    rw [show (k + 1) * 2 = k * 2 + 1 + 1 by omega]
    exact this
theorem first_row (rs : List RuleV) (hn : rs.length ≤ 100) (W0 : World)
    (heg : ∀ r ∈ rs, ∀ (args : Array Value) (W : World), (callFunc r.f args).run Tryd.prog W = .ok (.enter r.f args) W)
    (hcl : ∀ r ∈ rs, ∀ W : World, Ext W0 W → Calls Tryd.prog r.f r.cap W fun e w' => e = .returned (.bool r.b) ∧ Ext W w') :
    Calls Tryd.prog 43 #[.slice (some ⟨W0.heap.size, 0, none⟩) rs.length rs.length] (W0.alloc (.cells (rowR rs).toArray 81)) fun e w' => e = .returned (.int .i64 (firstF rs)) ∧ Ext (W0.alloc (.cells (rowR rs).toArray 81)) w' := by
  have hg := heap_alloc_new W0 (.cells (rowR rs).toArray 81)
  refine first_at ⟨W0.heap.size, 0, none⟩ rs.length rs hn _ (by simp) (fun k h => ?_) (fun k h => ?_) (fun k h => heg _ (List.getElem_mem h)) (fun k h W hW => hcl _ (List.getElem_mem h) W (((Ext.refl W0).alloc _).trans hW))
  · have hadd : (⟨W0.heap.size, 0, none⟩ : Addr).add (k * 2) = ⟨W0.heap.size, k * 2, none⟩ := by unfold Addr.add; split <;> simp_all
    rw [hadd, cell_of_row _ _ (k * 2) _ _ (0, 0) hg]
    simpa using (rowR_get rs k h).1
  · have hadd : (⟨W0.heap.size, 0, none⟩ : Addr).add (k * 2) = ⟨W0.heap.size, k * 2, none⟩ := by unfold Addr.add; split <;> simp_all
    rw [hadd, cell_of_row _ _ (k * 2 + 1) _ _ (0, 0) hg]
    simpa using (rowR_get rs k h).2
end Go.Proofs.YtigjecmhhjjenaaDoor
