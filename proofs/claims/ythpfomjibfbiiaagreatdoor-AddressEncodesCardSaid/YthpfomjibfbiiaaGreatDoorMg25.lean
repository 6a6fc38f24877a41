/- Texts laid together (wip/tools/automerge.py): AdK0, AdL1. -/
import Derived.Test.YthpfomjibfbiiaaGreatDoorMg7
import Derived.Test.YthpfomjibfbiiaaGreatDoorAd8
import Derived.KernelRfl
import Derived.Test.YthpfomjibfbiiaaGreatDoorAd7
import Derived.Test.YthpfomjibfbiiaaGreatDoorAd9
namespace Go.Proofs.YthpfomjibfbiiaaGreatDoor
open Go.Lib

theorem d0 : decDigits 0 = [48] := by rw [dec_lo _ (by decide)]; rfl
theorem d1 : decDigits 1 = [49] := by rw [dec_lo _ (by decide)]; rfl
theorem d10 : decDigits 10 = [49, 48] := by rw [dec_hi _ (by decide), show 10 / 10 = 1 from rfl, d1]; rfl
theorem d25 : decDigits 25 = [50, 53] := by rw [dec_hi _ (by decide), dec_lo _ (by decide)]; rfl
theorem d255 : decDigits 255 = [50, 53, 53] := by rw [dec_hi _ (by decide), show 255 / 10 = 25 from rfl, d25]; rfl
theorem x0 : hexD 0 = [48] := by rw [hexD_lo (by decide)]; rfl
theorem x1 : hexD 1 = [49] := by rw [hexD_lo (by decide)]; rfl
theorem xf : hexD 15 = [102] := by rw [hexD_lo (by decide)]; rfl
theorem xfe : hexD 254 = [102, 101] := by rw [hexD_hi (by decide), show 254 / 16 = 15 from rfl, xf]; rfl
theorem xfe8 : hexD 4072 = [102, 101, 56] := by rw [hexD_hi (by decide), show 4072 / 16 = 254 from rfl, xfe]; rfl
theorem xfe80 : hexD 65152 = [102, 101, 56, 48] := by rw [hexD_hi (by decide), show 65152 / 16 = 4072 from rfl, xfe8]; rfl
def six : List UInt8 := [254, 128, 0, 0, 0, 0, 0, 0, 0, 0, 0, 0, 0, 0, 0, 1]
def zer : List UInt8 := [0, 0, 0, 0, 0, 0, 0, 0, 0, 0, 0, 0, 0, 0, 0, 0]
def one : List UInt8 := [0, 0, 0, 0, 0, 0, 0, 0, 0, 0, 0, 0, 0, 0, 0, 1]
theorem t255 : txtA 2 [10, 0, 0, 255] = [49, 48, 46, 48, 46, 48, 46, 50, 53, 53] := by
  show txt4 _ = _
  rw [txt4_eq]
  show decDigits 10 ++ 46 :: (decDigits 0 ++ 46 :: (decDigits 0 ++ 46 :: decDigits 255)) = _
  rw [d10, d0, d255]; rfl
theorem t1 : txtA 2 [10, 0, 0, 1] = [49, 48, 46, 48, 46, 48, 46, 49] := by
  show txt4 _ = _
  rw [txt4_eq]
  show decDigits 10 ++ 46 :: (decDigits 0 ++ 46 :: (decDigits 0 ++ 46 :: decDigits 1)) = _
  rw [d10, d0, d1]; rfl
theorem t10 : txtA 2 [10, 0, 1, 0] = [49, 48, 46, 48, 46, 49, 46, 48] := by
  show txt4 _ = _
  rw [txt4_eq]
  show decDigits 10 ++ 46 :: (decDigits 0 ++ 46 :: (decDigits 1 ++ 46 :: decDigits 0)) = _
  rw [d10, d0, d1]; rfl
theorem tsix : txtA 24 six = [91, 102, 101, 56, 48, 58, 58, 49, 93] := by
  show txt6w (wds six) (bst 0 (wds six) 0 0).1 (bst 0 (wds six) 0 0).2 = _
  rw [show wds six = [65152, 0, 0, 0, 0, 0, 0, 1] by decide, show bst 0 [65152, 0, 0, 0, 0, 0, 0, 1] 0 0 = (1, 6) by decide]
  show [91] ++ (hjoin [65152] ++ ([58, 58] ++ (hjoin [1] ++ [93]))) = _
  rw [hjoin_one, hjoin_one, xfe80, x1]; rfl
theorem tzer : txtA 24 zer = [91, 58, 58, 93] := by
  show txt6w (wds zer) (bst 0 (wds zer) 0 0).1 (bst 0 (wds zer) 0 0).2 = _
  rw [show wds zer = [0, 0, 0, 0, 0, 0, 0, 0] by decide, show bst 0 [0, 0, 0, 0, 0, 0, 0, 0] 0 0 = (0, 8) by decide]
  rfl
theorem tone : txtA 24 one = [91, 58, 58, 49, 93] := by
  show txt6w (wds one) (bst 0 (wds one) 0 0).1 (bst 0 (wds one) 0 0).2 = _
  rw [show wds one = [0, 0, 0, 0, 0, 0, 0, 1] by decide, show bst 0 [0, 0, 0, 0, 0, 0, 0, 1] 0 0 = (0, 7) by decide]
  show [91] ++ (hjoin [] ++ ([58, 58] ++ (hjoin [1] ++ [93]))) = _
  rw [hjoin_one, x1]; rfl
theorem th : txtA 20 [97, 58, 98] = [104, 111, 115, 116, 47, 97, 58, 98] := rfl
theorem ta : txtA 20 [97] = [104, 111, 115, 116, 47, 97] := rfl
theorem p255 : prsA [49, 48, 46, 48, 46, 48, 46, 50, 53, 53] = some (2, [10, 0, 0, 255]) := by rw [← t255]; exact prsA_txt (by decide)
theorem p1 : prsA [49, 48, 46, 48, 46, 48, 46, 49] = some (2, [10, 0, 0, 1]) := by rw [← t1]; exact prsA_txt (by decide)
theorem p10 : prsA [49, 48, 46, 48, 46, 49, 46, 48] = some (2, [10, 0, 1, 0]) := by rw [← t10]; exact prsA_txt (by decide)
theorem pa : prsA [104, 111, 115, 116, 47, 97] = some (20, [97]) := by rw [← ta]; exact prsA_txt (by decide)
theorem n256 : prsA [49, 48, 46, 48, 46, 48, 46, 50, 53, 54] = none := by
  have h : cnd [49, 48, 46, 48, 46, 48, 46, 50, 53, 54] = (2, []) := by kernel_rfl
  unfold prsA; rw [h]; rfl
theorem n010 : prsA [48, 49, 48, 46, 48, 46, 48, 46, 49] = none := by
  have h : cnd [48, 49, 48, 46, 48, 46, 48, 46, 49] = (2, [10, 0, 0, 1]) := by kernel_rfl
  unfold prsA; rw [h]
  simp only
  rw [t1, if_neg (by decide)]
theorem nFE : prsA [91, 70, 69, 56, 48, 58, 58, 49, 93] = none := by
  have h : cnd [91, 70, 69, 56, 48, 58, 58, 49, 93] = (24, six) := by kernel_rfl
  unfold prsA; rw [h]
  simp only
  rw [tsix, if_neg (by decide)]
theorem n00 : prsA [91, 48, 58, 48, 58, 58, 49, 93] = none := by
  have h : cnd [91, 48, 58, 48, 58, 58, 49, 93] = (24, one) := by kernel_rfl
  unfold prsA; rw [h]
  simp only
  rw [tone, if_neg (by decide)]
theorem nhost : prsA [104, 111, 115, 116, 47] = none := by
  have h : cnd [104, 111, 115, 116, 47] = (20, []) := by kernel_rfl
  unfold prsA; rw [h]; rfl
end Go.Proofs.YthpfomjibfbiiaaGreatDoor
namespace Go.Proofs.YthpfomjibfbiiaaGreatDoor
open Go Go.RowKit
set_option linter.unusedVariables false

theorem numA_at (v : Int) (w : World) : Calls Tryz.prog 16 #[.int .i64 v] w fun e w' => e = .returned (.int .i64 v) ∧ w = w' := by
  go_enter Tryz.func16, Tryz.ntmps16
  go_wp2
  go_ret
  exact ⟨rfl, rfl⟩
theorem ltext_at (k : Int) (b : List UInt8) (A : Option Addr) (c : Nat) (s : ByteArray) (w : World) (hb : BS w (.slice A b.length c) b) (hE : EnvA w) (hok : okA k b = true) (ht : txtA k b = s.data.toList) :
    Calls Tryz.prog 28 #[.int .i64 k, .slice A b.length c, .string s] w fun e w' => e = .returned (.bool true) ∧ Ext w w' := by
  have h := AText_at k b A c w hb hE true hok
  simp only [if_true] at h
  obtain ⟨T, hT⟩ : ∃ T, txtA k b = T := ⟨_, rfl⟩
  rw [hT] at h ht
  have q : (T == s.toList) = true := by rw [ByteArray.toList_eq, ht]; exact beq_self_eq_true _
  have HT := Lib.hid h
  unfold adv at HT
  clear h hb hE hok hT ht
  go_enter Tryz.func28, Tryz.ntmps28
  go_wp2_with fail
  refine HT.out.mono ?_
  rintro _ w1 ⟨rfl, hx⟩
  have HX := Lib.hid hx
  clear hx
  go_wp2_with fail
  refine (numA_at _ _).mono ?_
  rintro _ w2 ⟨rfl, rfl⟩
  go_wp2_with fail
  go_ret
  exact ⟨rfl, HX.out⟩
theorem PAr_no {l : List UInt8} {e : Ending} {w : World} (h : PAr l e w) (hn : prsA l = none) : e = .returned (.tuple #[adv 0 none 0 0, .int .i64 6]) := by
  rcases h with ⟨k, b, A, c, hp, _⟩ | ⟨_, h⟩
  · rw [hn] at hp; cases hp
  · exact h
theorem PAr_yes {l : List UInt8} {e : Ending} {w : World} {k : Int} {b : List UInt8} (h : PAr l e w) (hn : prsA l = some (k, b)) : ∃ A c, e = .returned (.tuple #[adv k A b.length c, .int .i64 0]) ∧ BS w (.slice A b.length c) b := by
  rcases h with ⟨k', b', A, c, hp, he, hb⟩ | ⟨hp, _⟩
  · rw [hn] at hp
    injection hp with hp
    injection hp with h1 h2
    subst h1; subst h2
    exact ⟨A, c, he, hb⟩
  · rw [hn] at hp; cases hp
/-- A box for an address that was handed back. -/
theorem boxA (w : World) (k : Int) (A : Option Addr) (n c : Nat) : ∃ Y Z, w.alloc (.cells #[.int .i64 0, .slice none 0 0] 25) = Y ∧ (Y.setCell ⟨w.heap.size, 0, none⟩ (.int .i64 k)).setCell ⟨w.heap.size, 1, none⟩ (.slice A n c) = Z ∧ AB Y w.heap.size 0 none 0 0 ∧ AB Z w.heap.size k A n c ∧ Ext w Z := by
  have h0 := AB.new w 0 none 0 0
  exact ⟨_, _, rfl, rfl, h0, h0.set k A n c, ((Ext.refl w).alloc _).set2 (Nat.le_refl _) _ _⟩
set_option maxRecDepth 100000 in
theorem refuses_at (s : ByteArray) (hs : s.size ≤ 1000) (w : World) (hE : EnvA w) (hn : prsA s.data.toList = none) :
    Calls Tryz.prog 29 #[.string s] w fun e w' => e = .returned (.bool true) ∧ Ext w w' := by
  have HP := Lib.hid (AParse_at s hs w hE)
  have HN := Lib.hid hn
  clear hs hE hn
  go_enter Tryz.func29, Tryz.ntmps29
  go_wp2_with fail
  refine HP.out.mono ?_
  rintro e w1 ⟨hp, hx⟩
  have he := PAr_no hp HN.out
  subst he
  have h0 := AB.new w1 0 none 0 0
  have f0 := h0.soft 0; have f1 := h0.soft 1
  obtain ⟨b0, b1⟩ := h0.cells
  have HX := Lib.hid (hx.trans ((Ext.refl w1).alloc (.cells #[.int .i64 0, .slice none 0 0] 25)))
  have HB := Lib.hid h0
  unfold adv
  clear hp hx h0
  go_wp2_with fail
  refine (numA_at _ _).mono ?_
  rintro _ w2 ⟨rfl, hw2⟩
  have HX2 := Lib.hid (show Ext w w2 from hw2 ▸ HX.out)
  obtain ⟨d0, d1⟩ := (show AB w2 w1.heap.size 0 none 0 0 from hw2 ▸ HB.out).cells
  clear hw2 b0 b1 f0 f1
  go_wp2_with fail
  go_ret
  exact ⟨rfl, HX2.out⟩
set_option maxRecDepth 100000 in
set_option maxHeartbeats 1000000 in
theorem withinA_at (s : ByteArray) (hs : s.size ≤ 1000) (want : Bool) (w : World) (hE : EnvA w) (k : Int) (b : List UInt8) (hp : prsA s.data.toList = some (k, b)) (hn : netP 2 [10, 0, 0, 255] 24 k b = (want, 0)) :
    Calls Tryz.prog 30 #[.string s, .bool want] w fun e w' => e = .returned (.bool true) ∧ Ext w w' := by
  have HP := Lib.hid (AParse_at s hs w hE)
  have HN := Lib.hid hp; have HW := Lib.hid hn; have HE := Lib.hid hE
  have hq : (want == want) = true := beq_self_eq_true _
  clear hs hE hn hp
  go_enter Tryz.func30, Tryz.ntmps30
  go_wp2_with fail
  refine HP.out.mono ?_
  rintro e w1 ⟨hp, hx⟩
  obtain ⟨A, c, he, hb⟩ := PAr_yes hp HN.out
  subst he
  obtain ⟨Y, Z, hY, hZ, h0, hz, hxz⟩ := boxA w1 k A b.length c
  have f0 := h0.soft 0; have f1 := h0.soft 1
  obtain ⟨b0, b1⟩ := h0.cells
  have hl := OB.lit Z 5 0 [.int .u8 10, .int .u8 0, .int .u8 0, .int .u8 255] [10, 0, 0, 255] rfl 4 rfl (by simp [maxLen]) (by omega)
  have xl := (Ext.refl Z).alloc (.cells #[.int .u8 10, .int .u8 0, .int .u8 0, .int .u8 255] 5)
  obtain ⟨d0, d1⟩ := (hz.ext xl).cells
  have HNW := Lib.hid (Network_at 2 [10, 0, 0, 255] (some ⟨Z.heap.size, 0, none⟩) 4 24 k b A c (Z.alloc (.cells #[.int .u8 10, .int .u8 0, .int .u8 0, .int .u8 255] 5)) hl.bs (hb.ext (hxz.trans xl)) (HE.out.ext ((hx.trans hxz).trans xl)))
  rw [HW.out] at HNW
  have HX := Lib.hid ((hx.trans hxz).trans xl)
  unfold adv at HNW ⊢
  clear hp hx h0 hz hl xl hxz hb
  go_wp2_with fail
  refine HNW.out.mono ?_
  rintro _ w2 ⟨rfl, hx2⟩
  have HX2 := Lib.hid (HX.out.trans hx2)
  clear hx2 hY hZ f0 f1 b0 b1 d0 d1
  go_wp2_with fail
  refine (numA_at _ _).mono ?_
  rintro _ w3 ⟨rfl, rfl⟩
  go_wp2_with fail
  refine (numA_at _ _).mono ?_
  rintro _ w3 ⟨rfl, rfl⟩
  go_wp2_with fail
  go_ret
  exact ⟨rfl, HX2.out⟩
end Go.Proofs.YthpfomjibfbiiaaGreatDoor
