/- Texts laid together (wip/tools/automerge.py): Gr16, Nm19, Pure, Der1, Der2, Der3, Pure2, Der4, Nm13, Ref1, Ref2, Ref3, Nm14, Nm20, NmPar, Wm, Nm22, Nm23. -/
import Derived.Test.YtnjmndofcpnmeaaGreatDoorTx44
import Derived.Test.YtnjmndofcpnmeaaGreatDoorTx14
import Derived.Test.YtnjmndofcpnmeaaGreatDoorProg
import Derived.Test.YtnjmndofcpnmeaaGreatDoorTx0
import Derived.WalkLawsBesides
import Derived.WalkSpells
import Derived.Deep.LoopGhost
import Derived.Lib.Hide
import Derived.Test.YtnjmndofcpnmeaaGreatDoorTx1
import Derived.Test.YtnjmndofcpnmeaaGreatDoorTx2
import Derived.Test.YtnjmndofcpnmeaaGreatDoorTx6
import Derived.Test.YtnjmndofcpnmeaaGreatDoorTx9
import Derived.Lib.IndexMore
namespace Go.Proofs.YtnjmndofcpnmeaaGreatDoor
open Go Go.RowKit
set_option linter.unusedVariables false

def gE9 : Fct := { gE with t := 109 }
def l3E : List Fct := [gE, gE, gE9]
set_option maxRecDepth 100000 in
theorem gE_ok : gE.ok = true := by decide
set_option maxRecDepth 100000 in
theorem gE9_ok : gE9.ok = true := by decide
theorem l3_arg (win lim : Int) (h0 : 0 ≤ win) (h1 : win ≤ 1099511627776) (h2 : 1 ≤ lim) : argB l3E win lim := by
  refine ⟨h0, h1, h2, fun i hi => ?_⟩
  have hi' : i < 3 := hi
  rcases (show i = 0 ∨ i = 1 ∨ i = 2 by omega) with rfl | rfl | rfl
  · exact ⟨gE_ok, fun h => absurd h (by decide)⟩
  · exact ⟨gE_ok, fun _ => by decide⟩
  · exact ⟨gE9_ok, fun _ => by decide⟩
set_option maxRecDepth 100000 in
theorem l3_a : almF l3E 5 2 false = [1] ∧ cntF l3E 5 false 1 = 2 ∧ begF l3E 5 false 1 = 103 ∧ (atF l3E 1).t = 103 := by decide
set_option maxRecDepth 100000 in
theorem l3_b : almF l3E 5 3 false = [] := by decide
set_option maxRecDepth 100000 in
theorem l3_c : almF l3E 6 3 false = [2] ∧ cntF l3E 6 false 2 = 3 ∧ begF l3E 6 false 2 = 103 ∧ (atF l3E 2).t = 109 := by decide
end Go.Proofs.YtnjmndofcpnmeaaGreatDoor
namespace Go.Proofs.YtnjmndofcpnmeaaGreatDoor
open Go Go.RowKit
set_option linter.unusedVariables false

end Go.Proofs.YtnjmndofcpnmeaaGreatDoor
namespace Go.Proofs.YtnjmndofcpnmeaaGreatDoor

def encLen (n : Nat) : List UInt8 :=
  if n < 128 then [UInt8.ofNat n] else if n < 256 then [0x81, UInt8.ofNat n] else if n < 65536 then [0x82, UInt8.ofNat (n / 256), UInt8.ofNat n]
  else [0x83, UInt8.ofNat (n / 65536), UInt8.ofNat (n / 256), UInt8.ofNat n]
def elem (t : UInt8) (l : List UInt8) : List UInt8 := if l.length < 16777216 then t :: (encLen l.length ++ l) else []
end Go.Proofs.YtnjmndofcpnmeaaGreatDoor
namespace Go.Proofs.YtnjmndofcpnmeaaGreatDoor
open Go Go.RowKit

end Go.Proofs.YtnjmndofcpnmeaaGreatDoor
namespace Go.Proofs.YtnjmndofcpnmeaaGreatDoor
open Go Go.RowKit

end Go.Proofs.YtnjmndofcpnmeaaGreatDoor
namespace Go.Proofs.YtnjmndofcpnmeaaGreatDoor
open Go Go.RowKit

end Go.Proofs.YtnjmndofcpnmeaaGreatDoor
namespace Go.Proofs.YtnjmndofcpnmeaaGreatDoor
end Go.Proofs.YtnjmndofcpnmeaaGreatDoor
namespace Go.Proofs.YtnjmndofcpnmeaaGreatDoor
open Go Go.RowKit

end Go.Proofs.YtnjmndofcpnmeaaGreatDoor
namespace Go.Proofs.YtnjmndofcpnmeaaGreatDoor
open Go Go.RowKit
set_option linter.unusedVariables false

end Go.Proofs.YtnjmndofcpnmeaaGreatDoor
namespace Go.Proofs.YtnjmndofcpnmeaaGreatDoor
open Go Go.RowKit

end Go.Proofs.YtnjmndofcpnmeaaGreatDoor
namespace Go.Proofs.YtnjmndofcpnmeaaGreatDoor
open Go Go.RowKit

end Go.Proofs.YtnjmndofcpnmeaaGreatDoor
namespace Go.Proofs.YtnjmndofcpnmeaaGreatDoor
open Go Go.RowKit

end Go.Proofs.YtnjmndofcpnmeaaGreatDoor
namespace Go.Proofs.YtnjmndofcpnmeaaGreatDoor
open Go Go.RowKit
set_option linter.unusedVariables false

end Go.Proofs.YtnjmndofcpnmeaaGreatDoor
namespace Go.Proofs.YtnjmndofcpnmeaaGreatDoor
open Go Go.RowKit
set_option linter.unusedVariables false

end Go.Proofs.YtnjmndofcpnmeaaGreatDoor
namespace Go.Proofs.YtnjmndofcpnmeaaGreatDoor
set_option linter.unusedVariables false

end Go.Proofs.YtnjmndofcpnmeaaGreatDoor
namespace Go.Proofs.YtnjmndofcpnmeaaGreatDoor
open Go Go.RowKit
set_option linter.unusedVariables false

end Go.Proofs.YtnjmndofcpnmeaaGreatDoor
namespace Go.Proofs.YtnjmndofcpnmeaaGreatDoor
open Go Go.RowKit
set_option linter.unusedVariables false

theorem Stab.cell {B : Nat} (p : Addr) (v : Value) : Stab B (fun W => W.cell? p = some v) := fun W W' l _ hn hg h => by
  have hlt := World.block_lt_of_cell? W p h
  refine (World.cell?_of_block (hg.block p.block hlt (fun e => ?_))).trans h
  injection e with e
  subst e
  have h' : W.cell? p = some v := h
  unfold World.cell? at h'
  cases ho : W.heap[p.block]? with
  | none => rw [ho] at h'; simp at h'
  | some o =>
    rw [ho] at h'
    cases o <;> simp at h'
    case cells cs t fr => exact hn _ _ _ ho
attribute [local go_sem] Oper.semAt_some
end Go.Proofs.YtnjmndofcpnmeaaGreatDoor
namespace Go.Proofs.YtnjmndofcpnmeaaGreatDoor
open Go Go.RowKit
set_option linter.unusedVariables false

theorem own_none (w : World) (e : TypeId) : (w.alloc (.cells #[] e)).ownsRow w.heap.size e 1 (.slice (some ⟨w.heap.size, 0, none⟩) 0 0) 0 [] :=
  ⟨rfl, .inr ⟨w.heap.size, 0, #[], rfl, Nat.le_refl _, heap_alloc_new w _, Nat.le_refl _, by simp [maxLen], rfl, rfl⟩⟩
theorem rs_none {w : World} {n c : Nat} {xs : List Value} (h : RS w (.slice none n c) xs) : xs = [] := by
  obtain ⟨A', c', he, _, _, hc⟩ := h
  injection he with e1 _ _
  subst e1
  rcases Nat.eq_zero_or_pos xs.length with h0 | h0
  · exact List.eq_nil_of_length_eq_zero h0
  · obtain ⟨ad, ha, _⟩ := hc h0; cases ha
set_option maxRecDepth 100000 in
set_option maxHeartbeats 1000000 in
theorem SClone_at (A : Option Addr) (c : Nat) (ps : List ByteArray) (hn : ps.length ≤ 1000) (w : World) (h : RS w (.slice A ps.length c) (sv ps)) :
    Calls Tryz.prog 124 #[.slice A ps.length c] w fun e w' => ∃ A c, e = .returned (.slice A ps.length c) ∧ w'.ownsRow w.heap.size 9 1 (.slice A ps.length c) (sv ps).length (sv ps) ∧ Ext w w' := by
  obtain ⟨i0, hi, hz0, hz1, hz2⟩ := info_parts sinfo'
  rcases A with _ | ad
  · have h0 : ps = [] := by
      have := rs_none h
      unfold sv at this
      exact List.map_eq_nil_iff.1 this
    subst h0
    have qT : ∀ (w : World), (binOp .eql 35 (.slice none 0 c) (.slice none 0 0)).run Tryz.prog w = .ok (.bool true) w := fun w => Lib.run_eql_slice_nil w _ _ none 0 c 0 0 Tryz.underlying35
    go_enter Tryz.func124, Tryz.ntmps124
    go_wp2
    go_ret
    exact ⟨none, 0, rfl, World.ownsRow_nil _ _ _ _, Ext.refl _⟩
  · have qT : ∀ (w : World), (binOp .eql 35 (.slice (some ad) ps.length c) (.slice none 0 0)).run Tryz.prog w = .ok (.bool false) w := fun w => Lib.run_eql_slice_nil w _ _ (some ad) ps.length c 0 0 Tryz.underlying35
    have HO := Lib.hid (own_none w 9)
    have HL := Lib.hid hn; clear hn
    have HS1 := Lib.hid (show ∀ u ∈ sv ps, u.oneCell' = true from fun u hu => by
      simp only [sv, List.mem_map] at hu
      obtain ⟨b, _, rfl⟩ := hu
      rfl)
    have HH := Lib.hid h; clear h
    go_enter Tryz.func124, Tryz.ntmps124
    go_wp2_with (at_builtin; refine wpList_append_rs _ rfl (.tmp 5) (.tmp 6) 35 rfl w.heap.size 9 i0 (.string ⟨#[]⟩) 16 Tryz.underlying35 hi hz0 hz1 hz2 rfl _ [] rfl HO.out _ (sv ps) rfl (HH.out.ext ((Ext.refl w).alloc _)) HS1.out ?hb (by omega) ?hm ?_; rotate_right; intro v3 w3 hown3 hg3 _)
    case hb => have := HL.out; rw [sv_length]; simp; omega
    case hm => simp
    go_ret
    rw [List.nil_append] at hown3
    obtain ⟨A3, c3, rfl⟩ := rs_shape8 (RS.of_own hown3)
    exact ⟨_, _, rfl, hown3, ((Ext.refl w).alloc _).grown hg3 (fun j hj => (World.ownsRow.lt HO.out j hj).1)⟩
end Go.Proofs.YtnjmndofcpnmeaaGreatDoor
