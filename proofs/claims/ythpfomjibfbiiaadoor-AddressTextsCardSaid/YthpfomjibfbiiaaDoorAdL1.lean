/- Address: small functions of the law. -/
import Derived.Test.YthpfomjibfbiiaaDoorAd7
import Derived.Test.YthpfomjibfbiiaaDoorAd9
import Derived.Test.YthpfomjibfbiiaaDoorAdK0
namespace Go.Proofs.YthpfomjibfbiiaaDoor
open Go Go.RowKit
set_option linter.unusedVariables false

theorem numA_at (v : Int) (w : World) : Calls Tryd.prog 11 #[.int .i64 v] w fun e w' => e = .returned (.int .i64 v) ∧ w = w' := by
  go_enter Tryd.func11, Tryd.ntmps11
  go_wp2
  go_ret
  exact ⟨rfl, rfl⟩
theorem ltext_at (k : Int) (b : List UInt8) (A : Option Addr) (c : Nat) (s : ByteArray) (w : World) (hb : BS w (.slice A b.length c) b) (hE : EnvA w) (hok : okA k b = true) (ht : txtA k b = s.data.toList) :
    Calls Tryd.prog 23 #[.int .i64 k, .slice A b.length c, .string s] w fun e w' => e = .returned (.bool true) ∧ Ext w w' := by
  have h := AText_at k b A c w hb hE true hok
  simp only [if_true] at h
  obtain ⟨T, hT⟩ : ∃ T, txtA k b = T := ⟨_, rfl⟩
  rw [hT] at h ht
  have q : (T == s.toList) = true := by rw [ByteArray.toList_eq, ht]; exact beq_self_eq_true _
  have HT := Lib.hid h
  unfold adv at HT
  clear h hb hE hok hT ht
  go_enter Tryd.func23, Tryd.ntmps23
  go_wp2_with fail
  refine HT.out.mono ?_
  rintro _ w1 ⟨rfl, hx⟩
  have HX := Lib.hid hx
  clear hx
  go_wp2_with fail
  refine (numA_at _ _).mono ?_
  rintro _ w2 ⟨rfl, rfl⟩
  go_wp2_with fail
  go_ret
  exact ⟨rfl, HX.out⟩
theorem PAr_no {l : List UInt8} {e : Ending} {w : World} (h : PAr l e w) (hn : prsA l = none) : e = .returned (.tuple #[adv 0 none 0 0, .int .i64 6]) := by
  rcases h with ⟨k, b, A, c, hp, _⟩ | ⟨_, h⟩
  · rw [hn] at hp; cases hp
  · exact h
theorem PAr_yes {l : List UInt8} {e : Ending} {w : World} {k : Int} {b : List UInt8} (h : PAr l e w) (hn : prsA l = some (k, b)) : ∃ A c, e = .returned (.tuple #[adv k A b.length c, .int .i64 0]) ∧ BS w (.slice A b.length c) b := by
  rcases h with ⟨k', b', A, c, hp, he, hb⟩ | ⟨hp, _⟩
  · rw [hn] at hp
    injection hp with hp
    injection hp with h1 h2
    subst h1; subst h2
    exact ⟨A, c, he, hb⟩
  · rw [hn] at hp; cases hp
/-- A box for an address that was handed back. -/
theorem boxA (w : World) (k : Int) (A : Option Addr) (n c : Nat) : ∃ Y Z, w.alloc (.cells #[.int .i64 0, .slice none 0 0] 25) = Y ∧ (Y.setCell ⟨w.heap.size, 0, none⟩ (.int .i64 k)).setCell ⟨w.heap.size, 1, none⟩ (.slice A n c) = Z ∧ AB Y w.heap.size 0 none 0 0 ∧ AB Z w.heap.size k A n c ∧ Ext w Z := by
  have h0 := AB.new w 0 none 0 0
  exact ⟨_, _, rfl, rfl, h0, h0.set k A n c, ((Ext.refl w).alloc _).set2 (Nat.le_refl _) _ _⟩
set_option maxRecDepth 100000 in
theorem refuses_at (s : ByteArray) (hs : s.size ≤ 1000) (w : World) (hE : EnvA w) (hn : prsA s.data.toList = none) :
    Calls Tryd.prog 24 #[.string s] w fun e w' => e = .returned (.bool true) ∧ Ext w w' := by
  have HP := Lib.hid (AParse_at s hs w hE)
  have HN := Lib.hid hn
  clear hs hE hn
  go_enter Tryd.func24, Tryd.ntmps24
  go_wp2_with fail
  refine HP.out.mono ?_
  rintro e w1 ⟨hp, hx⟩
  have he := PAr_no hp HN.out
  subst he
  have h0 := AB.new w1 0 none 0 0
  have f0 := h0.soft 0; have f1 := h0.soft 1
  obtain ⟨b0, b1⟩ := h0.cells
  have HX := Lib.hid (hx.trans ((Ext.refl w1).alloc (.cells #[.int .i64 0, .slice none 0 0] 25)))
  have HB := Lib.hid h0
  unfold adv
  clear hp hx h0
  go_wp2_with fail
  refine (numA_at _ _).mono ?_
  rintro _ w2 ⟨rfl, hw2⟩
  have HX2 := Lib.hid (show Ext w w2 from hw2 ▸ HX.out)
  obtain ⟨d0, d1⟩ := (show AB w2 w1.heap.size 0 none 0 0 from hw2 ▸ HB.out).cells
  clear hw2 b0 b1 f0 f1
  go_wp2_with fail
  go_ret
  exact ⟨rfl, HX2.out⟩
set_option maxRecDepth 100000 in
set_option maxHeartbeats 1000000 in
theorem withinA_at (s : ByteArray) (hs : s.size ≤ 1000) (want : Bool) (w : World) (hE : EnvA w) (k : Int) (b : List UInt8) (hp : prsA s.data.toList = some (k, b)) (hn : netP 2 [10, 0, 0, 255] 24 k b = (want, 0)) :
    Calls Tryd.prog 25 #[.string s, .bool want] w fun e w' => e = .returned (.bool true) ∧ Ext w w' := by
  have HP := Lib.hid (AParse_at s hs w hE)
  have HN := Lib.hid hp; have HW := Lib.hid hn; have HE := Lib.hid hE
  have hq : (want == want) = true := beq_self_eq_true _
  clear hs hE hn hp
  go_enter Tryd.func25, Tryd.ntmps25
  go_wp2_with fail
  refine HP.out.mono ?_
  rintro e w1 ⟨hp, hx⟩
  obtain ⟨A, c, he, hb⟩ := PAr_yes hp HN.out
  subst he
  obtain ⟨Y, Z, hY, hZ, h0, hz, hxz⟩ := boxA w1 k A b.length c
  have f0 := h0.soft 0; have f1 := h0.soft 1
  obtain ⟨b0, b1⟩ := h0.cells
  have hl := OB.lit Z 5 0 [.int .u8 10, .int .u8 0, .int .u8 0, .int .u8 255] [10, 0, 0, 255] rfl 4 rfl (by simp [maxLen]) (by omega)
  have xl := (Ext.refl Z).alloc (.cells #[.int .u8 10, .int .u8 0, .int .u8 0, .int .u8 255] 5)
  obtain ⟨d0, d1⟩ := (hz.ext xl).cells
  have HNW := Lib.hid (Network_at 2 [10, 0, 0, 255] (some ⟨Z.heap.size, 0, none⟩) 4 24 k b A c (Z.alloc (.cells #[.int .u8 10, .int .u8 0, .int .u8 0, .int .u8 255] 5)) hl.bs (hb.ext (hxz.trans xl)) (HE.out.ext ((hx.trans hxz).trans xl)))
  rw [HW.out] at HNW
  have HX := Lib.hid ((hx.trans hxz).trans xl)
  unfold adv at HNW ⊢
  clear hp hx h0 hz hl xl hxz hb
  go_wp2_with fail
  refine HNW.out.mono ?_
  rintro _ w2 ⟨rfl, hx2⟩
  have HX2 := Lib.hid (HX.out.trans hx2)
  clear hx2 hY hZ f0 f1 b0 b1 d0 d1
  go_wp2_with fail
  refine (numA_at _ _).mono ?_
  rintro _ w3 ⟨rfl, rfl⟩
  go_wp2_with fail
  refine (numA_at _ _).mono ?_
  rintro _ w3 ⟨rfl, rfl⟩
  go_wp2_with fail
  go_ret
  exact ⟨rfl, HX2.out⟩
end Go.Proofs.YthpfomjibfbiiaaDoor
