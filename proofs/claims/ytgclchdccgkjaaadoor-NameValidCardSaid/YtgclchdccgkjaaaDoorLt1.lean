/- Lifetimes: the tests of the program. -/
import Derived.Test.YtgclchdccgkjaaaDoorProg
import Derived.Test.YtgclchdccgkjaaaDoorMem
import Derived.Test.YtgclchdccgkjaaaDoorPl
import Derived.WalkLawsBesides
import Derived.WalkSpells
import Derived.Deep.LoopGhost
import Derived.Lib.Hide
import Derived.StillTailTactics
import Derived.BigQuiet
namespace Go.Proofs.YtgclchdccgkjaaaDoor
open Go Go.RowKit

/-- Reads and quiet calls before a tail: the draw under its own name. -/
theorem still_tail {P : Program} {id : Nat} {Q : Exit → Act → World → Prop} {a : Act} {w : World} {l : List Oper} (n : Nat) (hm : P.follows .mixedOrders = true) (hB : Region.lexTailB .any l.toArray n = true)
    (h : wpStill P l.toArray w.drew (fun a' => wpList P l.toArray Q (l.drop n) a' w.drew) (l.take n) a) : (Code.region id l.toArray true).wp P Q a w := wp_region_still_tail n hm hB h

/-- Bools as values. -/
def blv (bs : List Bool) : List Value := bs.map Value.bool
theorem blv_length (bs : List Bool) : (blv bs).length = bs.length := by simp [blv]
theorem blv_get (bs : List Bool) (j : Nat) (h : j < bs.length) : (blv bs)[j]? = some (.bool bs[j]) := by simp [blv, h]

set_option maxRecDepth 100000 in
theorem index_bools (A : Option Addr) (c : Nat) (bs : List Bool) (w : World) (h : RS w (.slice A bs.length c) (blv bs)) :
    Calls Tryd.prog 76 #[.slice A bs.length c, .bool false] w fun e w' => ∃ r : Int, e = .returned (.int .i64 r) ∧ (decide (0 ≤ r) = !(bs.all id)) ∧ w = w' := by
  obtain ⟨A', c', he, h1, h2, h3⟩ := h
  rw [blv_length] at h1 h3 he
  injection he with e1 _ e3
  subst e1; subst e3
  unfold maxLen at h2
  have H3 := Lib.hid h3; clear h3
  go_enter Tryd.func76, Tryd.ntmps76
  go_wp2
  go_loop [5, 8] (fun _ i => ∃ k : Nat, k ≤ bs.length ∧ i = .int .i64 k ∧ ∀ j (hj : j < bs.length), j < k → bs[j] = true) (fun _ i => bs.length - (intOf i).toNat)
  case atStart => exact ⟨0, Nat.zero_le _, rfl, fun j _ hj => absurd hj (Nat.not_lt_zero _)⟩
  case round =>
    obtain ⟨k, hk, rfl, hall⟩ := hrel
    have HA := Lib.hid hall; clear hall
    by_cases hlt : k < bs.length
    · obtain ⟨ad, rfl, hb, hc⟩ := H3.out (by omega)
      have hck := hc k _ (blv_get bs k hlt)
      have HB := Lib.hid hb; clear hb hc
      cases hbk : bs[k]
      · rw [hbk] at hck
        have HK := Lib.hid hbk; clear hbk
        go_wp2
        go_ret
        refine ⟨k, rfl, ?_, rfl⟩
        have h0 : bs.all id = false := by
          rw [List.all_eq_false]
          exact ⟨bs[k], List.getElem_mem hlt, by simp [HK.out]⟩
        rw [h0]
        simp
      · rw [hbk] at hck
        have HK := Lib.hid hbk; clear hbk
        go_wp2
        go_round
        case rel => exact ⟨k + 1, by omega, by go_num, fun j hj hj2 => by
          rcases Nat.lt_or_ge j k with h5 | h5
          · exact HA.out j hj h5
          · obtain rfl : j = k := by omega
            exact HK.out⟩
        case measure => simp [intOf]; omega
    · obtain rfl : k = bs.length := by omega
      go_wp2
      go_ret
      refine ⟨-1, rfl, ?_, rfl⟩
      have h0 : bs.all id = true := by
        rw [List.all_eq_true]
        intro b hb
        obtain ⟨j, hj, rfl⟩ := List.getElem_of_mem hb
        exact HA.out j hj hj
      rw [h0]
      decide

set_option maxRecDepth 100000 in
theorem contains_bools (A : Option Addr) (c : Nat) (bs : List Bool) (w : World) (h : RS w (.slice A bs.length c) (blv bs)) :
    Calls Tryd.prog 57 #[.slice A bs.length c, .bool false] w fun e w' => e = .returned (.bool (!(bs.all id))) ∧ w = w' := by
  obtain ⟨v, hv⟩ : ∃ v, v = bs.all id := ⟨_, rfl⟩
  have hidx := index_bools A c bs w h
  rw [← hv] at hidx ⊢
  have HI := Lib.hid hidx; clear hidx hv h
  go_enter Tryd.func57, Tryd.ntmps57
  go_wp2_with fail
  refine HI.out.mono ?_
  rintro e w' ⟨r, rfl, hr, rfl⟩
  go_wp2_with fail
  go_ret
  exact ⟨rfl, rfl⟩

end Go.Proofs.YtgclchdccgkjaaaDoor
