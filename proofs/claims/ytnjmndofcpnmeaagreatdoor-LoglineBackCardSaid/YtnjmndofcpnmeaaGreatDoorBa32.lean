/- Texts laid together (wip/tools/automerge.py): AdL1, AdK1, AdR1, AdR2, LawAdNe, AdR3. -/
import Derived.Test.YtnjmndofcpnmeaaGreatDoorBa23
import Derived.Test.YtnjmndofcpnmeaaGreatDoorBa31
import Derived.Test.YtnjmndofcpnmeaaGreatDoorBa21
import Derived.Lib.SlBytesConst
import Derived.Test.YtnjmndofcpnmeaaGreatDoorBa15
import Derived.Test.YtnjmndofcpnmeaaGreatDoorBa4
namespace Go.Proofs.YtnjmndofcpnmeaaGreatDoor
open Go Go.RowKit
set_option linter.unusedVariables false

end Go.Proofs.YtnjmndofcpnmeaaGreatDoor
namespace Go.Proofs.YtnjmndofcpnmeaaGreatDoor
open Go Go.RowKit
set_option linter.unusedVariables false

end Go.Proofs.YtnjmndofcpnmeaaGreatDoor
namespace Go.Proofs.YtnjmndofcpnmeaaGreatDoor
open Go Go.RowKit
set_option linter.unusedVariables false

theorem RAEqual_at (k k' : Int) (a b : List UInt8) (A B : Option Addr) (c d : Nat) (w : World) (ha : BS w (.slice A a.length c) a) (hb : BS w (.slice B b.length d) b) :
    Calls Tryz.prog 37 #[adv k A a.length c, adv k' B b.length d] w fun e w' => e = .returned (.bool (k == k' && a == b)) ∧ Ext w w' := by
  have h0 := AB.new w k A a.length c
  have x0 := (Ext.refl w).alloc (.cells #[.int .i64 k, .slice A a.length c] 34)
  obtain ⟨W1, e1⟩ : ∃ W, w.alloc (.cells #[.int .i64 k, .slice A a.length c] 34) = W := ⟨_, rfl⟩
  rw [e1] at h0 x0
  have h1 := AB.new W1 k' B b.length d
  have x1 := (Ext.refl W1).alloc (.cells #[.int .i64 k', .slice B b.length d] 34)
  obtain ⟨W2, e2⟩ : ∃ W, W1.alloc (.cells #[.int .i64 k', .slice B b.length d] 34) = W := ⟨_, rfl⟩
  rw [e2] at h1 x1
  obtain ⟨c0, c1⟩ := (h0.ext x1).cells
  obtain ⟨d0, d1⟩ := h1.cells
  have hcv := run_str (P := Tryz.prog) W2 32 9 5 (.slice A a.length c) a Tryz.underlying32 Tryz.underlying5 Tryz.underlying9 (ha.ext (x0.trans x1))
  have hcw := run_str (P := Tryz.prog) W2 32 9 5 (.slice B b.length d) b Tryz.underlying32 Tryz.underlying5 Tryz.underlying9 (hb.ext (x0.trans x1))
  have HX := Lib.hid (x0.trans x1)
  clear h0 h1 x0 x1 ha hb
  unfold adv
  by_cases hk : k = k'
  · have hq : (k == k') = true := by rw [hk]; exact beq_self_eq_true _
    rw [hq, Bool.true_and]
    clear hk
    go_enter Tryz.func37, Tryz.ntmps37
    go_wp2_with fail
    go_ret
    refine ⟨?_, HX.out⟩
    simp
  · have hq : (k == k') = false := by rw [beq_eq_false_iff_ne]; exact hk
    rw [hq, Bool.false_and]
    clear hk hcv hcw
    go_enter Tryz.func37, Tryz.ntmps37
    go_wp2_with fail
    go_ret
    exact ⟨rfl, HX.out⟩
end Go.Proofs.YtnjmndofcpnmeaaGreatDoor
namespace Go.Proofs.YtnjmndofcpnmeaaGreatDoor
open Go Go.RowKit
set_option linter.unusedVariables false

end Go.Proofs.YtnjmndofcpnmeaaGreatDoor
namespace Go.Proofs.YtnjmndofcpnmeaaGreatDoor
open Go Go.RowKit
set_option linter.unusedVariables false

end Go.Proofs.YtnjmndofcpnmeaaGreatDoor
namespace Go.Proofs.YtnjmndofcpnmeaaGreatDoor
open Go Go.RowKit
set_option linter.unusedVariables false

/-- Eight words, as an array. -/
def c8 (G : List Nat) : Array Value := #[.int .i64 (G.getD 0 0 : Nat), .int .i64 (G.getD 1 0 : Nat), .int .i64 (G.getD 2 0 : Nat), .int .i64 (G.getD 3 0 : Nat), .int .i64 (G.getD 4 0 : Nat), .int .i64 (G.getD 5 0 : Nat), .int .i64 (G.getD 6 0 : Nat), .int .i64 (G.getD 7 0 : Nat)]
end Go.Proofs.YtnjmndofcpnmeaaGreatDoor
