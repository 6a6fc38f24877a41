/- Lifetimes: the tests of the program. -/
import Derived.Test.YtfgmmjpejlpdoaaGreatDoorProg
import Derived.Test.YtfgmmjpejlpdoaaGreatDoorMem
import Derived.Test.YtfgmmjpejlpdoaaGreatDoorPureAll
import Derived.WalkLawsBesides
import Derived.WalkSpells
import Derived.Deep.LoopGhost
import Derived.Lib.Hide
import Derived.StillTailTactics
import Derived.BigQuiet
namespace Go.Proofs.YtfgmmjpejlpdoaaGreatDoor
open Go Go.RowKit

/-- Reads and quiet calls before a tail: the draw under its own name. -/
theorem still_tail {P : Program} {id : Nat} {Q : Exit → Act → World → Prop} {a : Act} {w : World} {l : List Oper} (n : Nat) (hm : P.follows .mixedOrders = true) (hB : Region.lexTailB .any l.toArray n = true)
    (h : wpStill P l.toArray w.drew (fun a' => wpList P l.toArray Q (l.drop n) a' w.drew) (l.take n) a) : (Code.region id l.toArray true).wp P Q a w := wp_region_still_tail n hm hB h

/-- Bools as values. -/
def blv (bs : List Bool) : List Value := bs.map Value.bool
theorem blv_length (bs : List Bool) : (blv bs).length = bs.length := by simp [blv]
theorem blv_get (bs : List Bool) (j : Nat) (h : j < bs.length) : (blv bs)[j]? = some (.bool bs[j]) := by simp [blv, h]

set_option maxRecDepth 100000 in
theorem index_bools (A : Option Addr) (c : Nat) (bs : List Bool) (w : World) (h : RS w (.slice A bs.length c) (blv bs)) :
    Calls Tryz.prog 59 #[.slice A bs.length c, .bool false] w fun e w' => ∃ r : Int, e = .returned (.int .i64 r) ∧ (decide (0 ≤ r) = !(bs.all id)) ∧ w = w' := by
  obtain ⟨A', c', he, h1, h2, h3⟩ := h
  rw [blv_length] at h1 h3 he
  injection he with e1 _ e3
  subst e1; subst e3
  unfold maxLen at h2
  have H3 := Lib.hid h3; clear h3
  go_enter Tryz.func59, Tryz.ntmps59
  go_wp2
  go_loop [5, 8] (fun _ i => ∃ k : Nat, k ≤ bs.length ∧ i = .int .i64 k ∧ ∀ j (hj : j < bs.length), j < k → bs[j] = true) (fun _ i => bs.length - (intOf i).toNat)
  case atStart => exact ⟨0, Nat.zero_le _, rfl, fun j _ hj => absurd hj (Nat.not_lt_zero _)⟩
  case round =>
    obtain ⟨k, hk, rfl, hall⟩ := hrel
    have HA := Lib.hid hall; clear hall
    by_cases hlt : k < bs.length
    · obtain ⟨ad, rfl, hb, hc⟩ := H3.out (by omega)
      have hck := hc k _ (blv_get bs k hlt)
      have HB := Lib.hid hb; clear hb hc
      cases hbk : bs[k]
      · rw [hbk] at hck
        have HK := Lib.hid hbk; clear hbk
        go_wp2
        go_ret
        refine ⟨k, rfl, ?_, rfl⟩
        have h0 : bs.all id = false := by
          rw [List.all_eq_false]
          exact ⟨bs[k], List.getElem_mem hlt, by simp [HK.out]⟩
        rw [h0]
        simp
      · rw [hbk] at hck
        have HK := Lib.hid hbk; clear hbk
        go_wp2
        go_round
        case rel => exact ⟨k + 1, by omega, by go_num, fun j hj hj2 => by
          rcases Nat.lt_or_ge j k with h5 | h5
          · exact HA.out j hj h5
          · obtain rfl : j = k := by omega
            exact HK.out⟩
        case measure => simp [intOf]; omega
    · obtain rfl : k = bs.length := by omega
      go_wp2
      go_ret
      refine ⟨-1, rfl, ?_, rfl⟩
      have h0 : bs.all id = true := by
        rw [List.all_eq_true]
        intro b hb
        obtain ⟨j, hj, rfl⟩ := List.getElem_of_mem hb
        exact HA.out j hj hj
      rw [h0]
      decide

set_option maxRecDepth 100000 in
theorem contains_bools (A : Option Addr) (c : Nat) (bs : List Bool) (w : World) (h : RS w (.slice A bs.length c) (blv bs)) :
    Calls Tryz.prog 34 #[.slice A bs.length c, .bool false] w fun e w' => e = .returned (.bool (!(bs.all id))) ∧ w = w' := by
  obtain ⟨v, hv⟩ : ∃ v, v = bs.all id := ⟨_, rfl⟩
  have hidx := index_bools A c bs w h
  rw [← hv] at hidx ⊢
  have HI := Lib.hid hidx; clear hidx hv h
  go_enter Tryz.func34, Tryz.ntmps34
  go_wp2_with fail
  refine HI.out.mono ?_
  rintro e w' ⟨r, rfl, hr, rfl⟩
  go_wp2_with fail
  go_ret
  exact ⟨rfl, rfl⟩

/-- all: the result by name. -/
theorem all_bools (A : Option Addr) (c : Nat) (bs : List Bool) (r : Bool) (hr : bs.all id = r) (w : World) (h : RS w (.slice A bs.length c) (blv bs)) :
    Calls Tryz.prog 16 #[.slice A bs.length c] w fun e w' => e = .returned (.bool r) ∧ w = w' := by
  have hidx := contains_bools A c bs w h
  rw [hr] at hidx
  have HI := Lib.hid hidx; clear hidx hr h
  go_enter Tryz.func16, Tryz.ntmps16
  go_wp2_with fail
  refine HI.out.mono ?_
  rintro e w' ⟨rfl, rfl⟩
  go_wp2_with fail
  go_ret
  exact ⟨by simp, rfl⟩
/-- all, of conditions that were just laid. -/
theorem all_lit (bs : List Bool) (r : Bool) (hr : bs.all id = r) (w W : World) (n z : Nat) (hn : n = bs.length) (hz : z = w.heap.size) (hl : bs.length ≤ 100) (hW : Ext (w.alloc (.cells (blv bs).toArray 4)) W) :
    Calls Tryz.prog 16 #[.slice (some ⟨z, 0, none⟩) n n] W fun e w' => e = .returned (.bool r) ∧ W = w' := by
  subst hn; subst hz
  have h := RS.new w 4 (blv bs) (by rw [blv_length]; unfold maxLen; omega)
  rw [blv_length] at h
  exact all_bools _ _ bs r hr _ (h.ext hW)

theorem within_at (v a b : Int) (w : World) :
    Calls Tryz.prog 18 #[.int .i64 v, .int .i64 a, .int .i64 b] w fun e w' => e = .returned (.bool (decide (a ≤ v ∧ v ≤ b))) ∧ w' = w := by
  by_cases h1 : a ≤ v
  · by_cases h2 : v ≤ b
    · go_enter Tryz.func18, Tryz.ntmps18
      go_wp2
      go_ret
      exact ⟨by simp [h1, h2], rfl⟩
    · have h2' : b < v := by omega
      go_enter Tryz.func18, Tryz.ntmps18
      go_wp2
      go_ret
      exact ⟨by simp; omega, rfl⟩
  · have h1' : v < a := by omega
    go_enter Tryz.func18, Tryz.ntmps18
    go_wp2
    go_ret
    exact ⟨by simp; omega, rfl⟩
/-- within, the result by name. -/
theorem within_is (v a b : Int) (r : Bool) (hr : decide (a ≤ v ∧ v ≤ b) = r) (w : World) :
    Calls Tryz.prog 18 #[.int .i64 v, .int .i64 a, .int .i64 b] w fun e w' => e = .returned (.bool r) ∧ w' = w := hr ▸ within_at v a b w
theorem moment_at (v : Int) (w : World) : Calls Tryz.prog 17 #[.int .i64 v] w fun e w' => e = .returned (.bool (momB v)) ∧ w' = w := by
  go_enter Tryz.func17, Tryz.ntmps17
  go_wp2_with fail
  refine (within_is v 0 1099511627776 (momB v) rfl _).mono ?_
  rintro e w' ⟨rfl, rfl⟩
  go_wp2_with fail
  go_ret
  exact ⟨rfl, rfl⟩
theorem skewed_at (v : Int) (w : World) : Calls Tryz.prog 31 #[.int .i64 v] w fun e w' => e = .returned (.bool (skwB v)) ∧ w' = w := by
  go_enter Tryz.func31, Tryz.ntmps31
  go_wp2_with fail
  refine (within_is v 0 86400 (skwB v) rfl _).mono ?_
  rintro e w' ⟨rfl, rfl⟩
  go_wp2_with fail
  go_ret
  exact ⟨rfl, rfl⟩

set_option maxRecDepth 100000 in
set_option maxHeartbeats 4000000 in
theorem Valid_at (a s e r : Int) (w : World) :
    Calls Tryz.prog 5 #[.agg #[.int .i64 a, .int .i64 s, .int .i64 e, .int .i64 r]] w fun en w' => en = .returned (.bool (validB a s e r)) ∧ Ext w w' := by
  by_cases h0 : r = 0
  · subst h0
    have hv : [momB a, decide (a ≤ s), decide (s < e), momB e, true].all id = validB a s e 0 := by
      unfold momB validB
      simp only [List.all_cons, List.all_nil, id, Bool.and_true]
      rw [Bool.eq_iff_iff]
      simp only [Bool.and_eq_true, decide_eq_true_eq]
      constructor <;> intro h <;> simp at h ⊢ <;> omega
    have HV := Lib.hid hv; clear hv
    go_enter Tryz.func5, Tryz.ntmps5
    go_wp2_with fail
    refine still_tail 26 (by kernel_rfl) (by kernel_rfl) ?_
    simp only [List.take_succ_cons, List.take_zero, List.drop_succ_cons, List.drop_zero]
    repeat still_step
    still_call (moment_at a _)
    repeat still_step
    still_call (moment_at e _)
    repeat still_step
    refine wpStill_nil ?_
    go_wp2_with fail
    refine (all_lit [momB a, decide (a ≤ s), decide (s < e), momB e, true] _ HV.out (w.alloc (.cells #[.int .i64 a, .int .i64 s, .int .i64 e, .int .i64 0] 23)) _ 5 _ rfl (by simp) (by simp) (Ext.drew _)).mono ?_
    rintro en w1 ⟨rfl, rfl⟩
    go_wp2_with fail
    go_ret
    exact ⟨rfl, (((Ext.refl w).alloc _).alloc _).drew'⟩
  · have h0b : (r == 0) = false := by simpa using h0
    have hv : [momB a, decide (a ≤ s), decide (s < e), momB e, wiB r e 1099511627776].all id = validB a s e r := by
      unfold momB validB wiB
      simp only [List.all_cons, List.all_nil, id, Bool.and_true]
      rw [Bool.eq_iff_iff]
      simp only [Bool.and_eq_true, decide_eq_true_eq]
      constructor <;> intro h <;> omega
    have HV := Lib.hid hv; clear hv h0
    go_enter Tryz.func5, Tryz.ntmps5
    go_wp2_with fail
    refine still_tail 26 (by kernel_rfl) (by kernel_rfl) ?_
    simp only [List.take_succ_cons, List.take_zero, List.drop_succ_cons, List.drop_zero]
    repeat still_step
    still_call (moment_at a _)
    repeat still_step
    still_call (moment_at e _)
    repeat still_step
    still_call (within_is r e 1099511627776 (wiB r e 1099511627776) rfl _)
    repeat still_step
    refine wpStill_nil ?_
    go_wp2_with fail
    refine (all_lit [momB a, decide (a ≤ s), decide (s < e), momB e, wiB r e 1099511627776] _ HV.out (w.alloc (.cells #[.int .i64 a, .int .i64 s, .int .i64 e, .int .i64 r] 23)) _ 5 _ rfl (by simp) (by simp) (Ext.drew _)).mono ?_
    rintro en w1 ⟨rfl, rfl⟩
    go_wp2_with fail
    go_ret
    exact ⟨rfl, (((Ext.refl w).alloc _).alloc _).drew'⟩

set_option maxRecDepth 100000 in
theorem Usable_at (a s e r now skew : Int) (w : World) :
    Calls Tryz.prog 15 #[.agg #[.int .i64 a, .int .i64 s, .int .i64 e, .int .i64 r], .int .i64 now, .int .i64 skew] w fun en w' => en = .returned (.int .i64 (usableF a s e r now skew)) ∧ Ext w w' := by
  obtain ⟨u, hu⟩ : ∃ u, usableF a s e r now skew = u := ⟨_, rfl⟩
  rw [hu]
  obtain ⟨b, hb⟩ : ∃ b, [validB a s e r, momB now, skwB skew].all id = b := ⟨_, rfl⟩
  have HB := Lib.hid hb
  have hbeg : ∀ (b' : Bool), b = b' → True := fun _ _ => trivial
  unfold usableF at hu
  cases b with
  | false =>
    have h1 : ¬ (validB a s e r = true ∧ momB now = true ∧ skwB skew = true) := by
      intro ⟨h1, h2, h3⟩
      simp [h1, h2, h3] at hb
    rw [if_neg h1] at hu
    subst hu
    clear hb h1 hbeg
    go_enter Tryz.func15, Tryz.ntmps15
    go_wp2_with fail
    refine (Valid_at a s e r _).mono ?_
    rintro en w1 ⟨rfl, hx1⟩
    go_wp2_with fail
    refine (moment_at now _).mono ?_
    rintro en w2 ⟨rfl, rfl⟩
    go_wp2_with fail
    refine (skewed_at skew _).mono ?_
    rintro en w3 ⟨rfl, rfl⟩
    go_wp2_with fail
    refine (all_lit [validB a s e r, momB now, skwB skew] _ HB.out _ _ 3 _ rfl rfl (by simp) (Ext.refl _)).mono ?_
    rintro en w4 ⟨rfl, rfl⟩
    go_wp2_with fail
    go_ret
    exact ⟨rfl, (((Ext.refl w).alloc _).trans hx1).alloc _⟩
  | true =>
    have h1 : validB a s e r = true ∧ momB now = true ∧ skwB skew = true := by
      simp at hb
      exact hb
    rw [if_pos h1] at hu
    obtain ⟨v1, v2, v3, v4, v5, v6, _⟩ := validB_bd h1.1
    obtain ⟨n1, n2⟩ := momB_bd h1.2.1
    obtain ⟨k1, k2⟩ := skwB_bd h1.2.2
    have HU := Lib.hid hu
    clear hb h1 hu hbeg
    rcases (show now < s - skew ∨ (¬ now < s - skew ∧ e + skew < now) ∨ (¬ now < s - skew ∧ ¬ e + skew < now) by omega) with h | ⟨h, h'⟩ | ⟨h, h'⟩
    all_goals
      go_enter Tryz.func15, Tryz.ntmps15
      go_wp2_with fail
      refine (Valid_at a s e r _).mono ?_
      rintro en w1 ⟨rfl, hx1⟩
      have hg := hx1.heap (heap_alloc_new w (.cells #[.int .i64 a, .int .i64 s, .int .i64 e, .int .i64 r] 23))
      have q1 : w1.cell? ⟨w.heap.size, 1, none⟩ = some (.int .i64 s) := by rw [cell_of_row _ _ 1 _ _ (0, 0) hg]; rfl
      have q2 : w1.cell? ⟨w.heap.size, 2, none⟩ = some (.int .i64 e) := by rw [cell_of_row _ _ 2 _ _ (0, 0) hg]; rfl
      go_wp2_with fail
      refine (moment_at now _).mono ?_
      rintro en w2 ⟨rfl, rfl⟩
      go_wp2_with fail
      refine (skewed_at skew _).mono ?_
      rintro en w3 ⟨rfl, rfl⟩
      go_wp2_with fail
      refine (all_lit [validB a s e r, momB now, skwB skew] _ HB.out _ _ 3 _ rfl rfl (by simp) (Ext.refl _)).mono ?_
      rintro en w4 ⟨rfl, rfl⟩
      have q1' := ((Ext.refl w3).alloc (.cells (blv [validB a s e r, momB now, skwB skew]).toArray 4)).cell q1
      have q2' := ((Ext.refl w3).alloc (.cells (blv [validB a s e r, momB now, skwB skew]).toArray 4)).cell q2
      go_wp2_with fail
      go_ret
      refine ⟨?_, (((Ext.refl w).alloc _).trans hx1).alloc _⟩
      have hu := HU.out
      first
        | rw [if_pos (by omega)] at hu
        | rw [if_neg (by omega), if_pos (by omega)] at hu
        | rw [if_neg (by omega), if_neg (by omega)] at hu
      rw [← hu]
      try rfl
end Go.Proofs.YtfgmmjpejlpdoaaGreatDoor
