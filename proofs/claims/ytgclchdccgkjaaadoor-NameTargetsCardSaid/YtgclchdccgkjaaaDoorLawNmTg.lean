/- NameTargets: the law. (wip/tools/gennmlaw.py printed this.) -/
import Derived.Test.YtgclchdccgkjaaaDoorLawNmTa
import Derived.Test.YtgclchdccgkjaaaDoorLawNmTb
import Derived.Test.YtgclchdccgkjaaaDoorLawNmTc
import Derived.Test.YtgclchdccgkjaaaDoorLawNmTd
import Derived.Test.YtgclchdccgkjaaaDoorLawNmTe
namespace Go.Proofs.YtgclchdccgkjaaaDoor.nameTargets
open Go Go.RowKit
set_option linter.unusedVariables false

set_option maxRecDepth 100000 in
set_option maxHeartbeats 4000000 in
theorem walk_big (A : Option Addr) (c : Nat) (ps : List ByteArray) (r : ByteArray) (to fr : ByteArray) (w : World) (hR : RS w (.slice A ps.length c) (sv ps)) (hm : MaxN w) (h : bigB ps r = true ∨ 60 < to.size ∨ 60 < fr.size) :
    Calls Tryd.prog 6 #[.agg #[.slice A ps.length c, .string r], .string to, .string fr] w fun e w' => e = .returned (.bool true) ∧ Ext w w' := by
  have HM := Lib.hid hm; clear hm
  have hT := heap_alloc_new w (.cells #[.slice A ps.length c, .string r] 24)
  have hX := (Ext.refl w).alloc (.cells #[.slice A ps.length c, .string r] 24)
  obtain ⟨wb, hwb⟩ : ∃ wb, wb = w.alloc (.cells #[.slice A ps.length c, .string r] 24) := ⟨_, rfl⟩
  rw [← hwb] at hT hX
  have HT : Hid (PB wb w.heap.size (.slice A ps.length c) r) := Lib.hid hT
  have HX := Lib.hid hX
  have HRS := Lib.hid (hR.ext hX)
  obtain ⟨q0, q1⟩ := HT.out.cells
  have HBG := big_at A c ps r wb HRS.out
  obtain ⟨g1, hg1⟩ : ∃ g1, bigB ps r = g1 := ⟨_, rfl⟩
  rw [hg1] at HBG h
  have HB := Lib.hid HBG
  clear HBG hg1 hT hX hR
  cases g1 with
  | true =>
    clear h
    go_enter Tryd.func6, Tryd.ntmps6
    go_wp2_with fail
    rw [← hwb]
    clear hwb
    refine HB.out.mono ?_
    rintro _ w1 ⟨rfl, hx1⟩
    have HX1 := Lib.hid (HX.out.trans hx1); clear hx1
    go_wp2_with fail
    refine (known_at _ (HM.out.ext (HX1.out))).mono ?_
    rintro _ wk ⟨rfl, hxk⟩
    go_wp2_with fail
    go_ret
    exact ⟨rfl, (HX1.out).trans hxk⟩
  | false =>
    by_cases ht : 60 < to.size
    · have ht2 : (60 : Int) < (to.size : Int) := by omega
      clear h ht
      go_enter Tryd.func6, Tryd.ntmps6
      go_wp2_with fail
      rw [← hwb]
      clear hwb
      refine HB.out.mono ?_
      rintro _ w1 ⟨rfl, hx1⟩
      have HX1 := Lib.hid (HX.out.trans hx1); clear hx1
      go_wp2_with fail
      refine (known_at _ (HM.out.ext (HX1.out))).mono ?_
      rintro _ wk ⟨rfl, hxk⟩
      go_wp2_with fail
      go_ret
      exact ⟨rfl, (HX1.out).trans hxk⟩
    · have hf2 : (60 : Int) < (fr.size : Int) := by rcases h with h | h | h <;> first | (cases h; done) | omega
      have ht2 : (to.size : Int) ≤ 60 := by omega
      clear h ht
      go_enter Tryd.func6, Tryd.ntmps6
      go_wp2_with fail
      rw [← hwb]
      clear hwb
      refine HB.out.mono ?_
      rintro _ w1 ⟨rfl, hx1⟩
      have HX1 := Lib.hid (HX.out.trans hx1); clear hx1
      go_wp2_with fail
      refine (known_at _ (HM.out.ext (HX1.out))).mono ?_
      rintro _ wk ⟨rfl, hxk⟩
      go_wp2_with fail
      go_ret
      exact ⟨rfl, (HX1.out).trans hxk⟩

theorem law_walk (A : Option Addr) (c : Nat) (ps : List ByteArray) (r : ByteArray) (to fr : ByteArray) (w : World) (hR : RS w (.slice A ps.length c) (sv ps)) (hm : MaxN w) :
    Calls Tryd.prog 6 #[.agg #[.slice A ps.length c, .string r], .string to, .string fr] w fun e w' => e = .returned (.bool true) ∧ Ext w w' := by
  by_cases h : bigB ps r = true ∨ 60 < to.size ∨ 60 < fr.size
  · exact walk_big A c ps r to fr w hR hm h
  · have h1 : bigB ps r = false := by
      cases hb : bigB ps r with
      | true => exact absurd (.inl hb) h
      | false => rfl
    have h2 : to.size ≤ 60 := Nat.le_of_not_lt (fun e => h (.inr (.inl e)))
    have h3 : fr.size ≤ 60 := Nat.le_of_not_lt (fun e => h (.inr (.inr e)))
    cases hv : nameB (dat ps) r.data.toList with
    | false => exact walk_F A c ps r to fr w hR hm h1 h2 h3 hv
    | true =>
      by_cases hl : ps.length = 2
      · obtain ⟨p, q, rfl⟩ : ∃ p q, ps = [p, q] := by
          rcases ps with _ | ⟨p, _ | ⟨q, _ | ⟨x, rest⟩⟩⟩
          · simp at hl
          · simp at hl
          · exact ⟨p, q, rfl⟩
          · simp at hl
        by_cases hk : p.data.toList = krb.data.toList
        · cases hq : realmB q.data.toList with
          | false => exact walk_B A c p q r to fr w hR hm h1 h2 h3 hv hk hq
          | true => exact walk_G A c p q r to fr w hR hm h1 h2 h3 hv hk hq
        · exact walk_O A c p q r to fr w hR hm h1 h2 h3 hv hk
      · exact walk_L A c ps r to fr w hR hm h1 h2 h3 hv hl
end Go.Proofs.YtgclchdccgkjaaaDoor.nameTargets
