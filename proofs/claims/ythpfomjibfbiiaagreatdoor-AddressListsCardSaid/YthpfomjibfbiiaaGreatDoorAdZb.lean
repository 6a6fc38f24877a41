/- Texts laid together (wip/tools/merge.py): AdK0, AdL1, AdK1. -/
import Derived.Test.YthpfomjibfbiiaaGreatDoorAdPure2
import Derived.Test.YthpfomjibfbiiaaGreatDoorAd8
import Derived.KernelRfl
import Derived.Test.YthpfomjibfbiiaaGreatDoorAd7
import Derived.Test.YthpfomjibfbiiaaGreatDoorAd9
import Derived.Test.YthpfomjibfbiiaaGreatDoorApZ
import Derived.Lib.SlBytesConst
namespace Go.Proofs.YthpfomjibfbiiaaGreatDoor
open Go.Lib

theorem d0 : decDigits 0 = [48] := by rw [dec_lo _ (by decide)]; rfl
theorem d1 : decDigits 1 = [49] := by rw [dec_lo _ (by decide)]; rfl
theorem d10 : decDigits 10 = [49, 48] := by rw [dec_hi _ (by decide), show 10 / 10 = 1 from rfl, d1]; rfl
theorem d25 : decDigits 25 = [50, 53] := by rw [dec_hi _ (by decide), dec_lo _ (by decide)]; rfl
theorem d255 : decDigits 255 = [50, 53, 53] := by rw [dec_hi _ (by decide), show 255 / 10 = 25 from rfl, d25]; rfl
theorem x0 : hexD 0 = [48] := by rw [hexD_lo (by decide)]; rfl
theorem x1 : hexD 1 = [49] := by rw [hexD_lo (by decide)]; rfl
theorem xf : hexD 15 = [102] := by rw [hexD_lo (by decide)]; rfl
theorem xfe : hexD 254 = [102, 101] := by rw [hexD_hi (by decide), show 254 / 16 = 15 from rfl, xf]; rfl
theorem xfe8 : hexD 4072 = [102, 101, 56] := by rw [hexD_hi (by decide), show 4072 / 16 = 254 from rfl, xfe]; rfl
theorem xfe80 : hexD 65152 = [102, 101, 56, 48] := by rw [hexD_hi (by decide), show 65152 / 16 = 4072 from rfl, xfe8]; rfl
def six : List UInt8 := [254, 128, 0, 0, 0, 0, 0, 0, 0, 0, 0, 0, 0, 0, 0, 1]
def zer : List UInt8 := [0, 0, 0, 0, 0, 0, 0, 0, 0, 0, 0, 0, 0, 0, 0, 0]
def one : List UInt8 := [0, 0, 0, 0, 0, 0, 0, 0, 0, 0, 0, 0, 0, 0, 0, 1]
theorem t255 : txtA 2 [10, 0, 0, 255] = [49, 48, 46, 48, 46, 48, 46, 50, 53, 53] := by
  show txt4 _ = _
  rw [txt4_eq]
  show decDigits 10 ++ 46 :: (decDigits 0 ++ 46 :: (decDigits 0 ++ 46 :: decDigits 255)) = _
  rw [d10, d0, d255]; rfl
theorem t1 : txtA 2 [10, 0, 0, 1] = [49, 48, 46, 48, 46, 48, 46, 49] := by
  show txt4 _ = _
  rw [txt4_eq]
  show decDigits 10 ++ 46 :: (decDigits 0 ++ 46 :: (decDigits 0 ++ 46 :: decDigits 1)) = _
  rw [d10, d0, d1]; rfl
theorem t10 : txtA 2 [10, 0, 1, 0] = [49, 48, 46, 48, 46, 49, 46, 48] := by
  show txt4 _ = _
  rw [txt4_eq]
  show decDigits 10 ++ 46 :: (decDigits 0 ++ 46 :: (decDigits 1 ++ 46 :: decDigits 0)) = _
  rw [d10, d0, d1]; rfl
theorem tsix : txtA 24 six = [91, 102, 101, 56, 48, 58, 58, 49, 93] := by
  show txt6w (wds six) (bst 0 (wds six) 0 0).1 (bst 0 (wds six) 0 0).2 = _
  rw [show wds six = [65152, 0, 0, 0, 0, 0, 0, 1] by decide, show bst 0 [65152, 0, 0, 0, 0, 0, 0, 1] 0 0 = (1, 6) by decide]
  show [91] ++ (hjoin [65152] ++ ([58, 58] ++ (hjoin [1] ++ [93]))) = _
  rw [hjoin_one, hjoin_one, xfe80, x1]; rfl
theorem tzer : txtA 24 zer = [91, 58, 58, 93] := by
  show txt6w (wds zer) (bst 0 (wds zer) 0 0).1 (bst 0 (wds zer) 0 0).2 = _
  rw [show wds zer = [0, 0, 0, 0, 0, 0, 0, 0] by decide, show bst 0 [0, 0, 0, 0, 0, 0, 0, 0] 0 0 = (0, 8) by decide]
  rfl
theorem tone : txtA 24 one = [91, 58, 58, 49, 93] := by
  show txt6w (wds one) (bst 0 (wds one) 0 0).1 (bst 0 (wds one) 0 0).2 = _
  rw [show wds one = [0, 0, 0, 0, 0, 0, 0, 1] by decide, show bst 0 [0, 0, 0, 0, 0, 0, 0, 1] 0 0 = (0, 7) by decide]
  show [91] ++ (hjoin [] ++ ([58, 58] ++ (hjoin [1] ++ [93]))) = _
  rw [hjoin_one, x1]; rfl
theorem th : txtA 20 [97, 58, 98] = [104, 111, 115, 116, 47, 97, 58, 98] := rfl
theorem ta : txtA 20 [97] = [104, 111, 115, 116, 47, 97] := rfl
theorem p255 : prsA [49, 48, 46, 48, 46, 48, 46, 50, 53, 53] = some (2, [10, 0, 0, 255]) := by rw [← t255]; exact prsA_txt (by decide)
theorem p1 : prsA [49, 48, 46, 48, 46, 48, 46, 49] = some (2, [10, 0, 0, 1]) := by rw [← t1]; exact prsA_txt (by decide)
theorem p10 : prsA [49, 48, 46, 48, 46, 49, 46, 48] = some (2, [10, 0, 1, 0]) := by rw [← t10]; exact prsA_txt (by decide)
theorem pa : prsA [104, 111, 115, 116, 47, 97] = some (20, [97]) := by rw [← ta]; exact prsA_txt (by decide)
theorem n256 : prsA [49, 48, 46, 48, 46, 48, 46, 50, 53, 54] = none := by
  have h : cnd [49, 48, 46, 48, 46, 48, 46, 50, 53, 54] = (2, []) := by kernel_rfl
  unfold prsA; rw [h]; rfl
theorem n010 : prsA [48, 49, 48, 46, 48, 46, 48, 46, 49] = none := by
  have h : cnd [48, 49, 48, 46, 48, 46, 48, 46, 49] = (2, [10, 0, 0, 1]) := by kernel_rfl
  unfold prsA; rw [h]
  simp only
  rw [t1, if_neg (by decide)]
theorem nFE : prsA [91, 70, 69, 56, 48, 58, 58, 49, 93] = none := by
  have h : cnd [91, 70, 69, 56, 48, 58, 58, 49, 93] = (24, six) := by kernel_rfl
  unfold prsA; rw [h]
  simp only
  rw [tsix, if_neg (by decide)]
theorem n00 : prsA [91, 48, 58, 48, 58, 58, 49, 93] = none := by
  have h : cnd [91, 48, 58, 48, 58, 58, 49, 93] = (24, one) := by kernel_rfl
  unfold prsA; rw [h]
  simp only
  rw [tone, if_neg (by decide)]
theorem nhost : prsA [104, 111, 115, 116, 47] = none := by
  have h : cnd [104, 111, 115, 116, 47] = (20, []) := by kernel_rfl
  unfold prsA; rw [h]; rfl
end Go.Proofs.YthpfomjibfbiiaaGreatDoor
namespace Go.Proofs.YthpfomjibfbiiaaGreatDoor
open Go Go.RowKit
set_option linter.unusedVariables false

theorem numA_at (v : Int) (w : World) : Calls Tryz.prog 16 #[.int .i64 v] w fun e w' => e = .returned (.int .i64 v) ∧ w = w' := by
  go_enter Tryz.func16, Tryz.ntmps16
  go_wp2
  go_ret
  exact ⟨rfl, rfl⟩
theorem ltext_at (k : Int) (b : List UInt8) (A : Option Addr) (c : Nat) (s : ByteArray) (w : World) (hb : BS w (.slice A b.length c) b) (hE : EnvA w) (hok : okA k b = true) (ht : txtA k b = s.data.toList) :
    Calls Tryz.prog 28 #[.int .i64 k, .slice A b.length c, .string s] w fun e w' => e = .returned (.bool true) ∧ Ext w w' := by
  have h := AText_at k b A c w hb hE true hok
  simp only [if_true] at h
  obtain ⟨T, hT⟩ : ∃ T, txtA k b = T := ⟨_, rfl⟩
  rw [hT] at h ht
  have q : (T == s.toList) = true := by rw [ByteArray.toList_eq, ht]; exact beq_self_eq_true _
  have HT := Lib.hid h
  unfold adv at HT
  clear h hb hE hok hT ht
  go_enter Tryz.func28, Tryz.ntmps28
  go_wp2_with fail
  refine HT.out.mono ?_
  rintro _ w1 ⟨rfl, hx⟩
  have HX := Lib.hid hx
  clear hx
  go_wp2_with fail
  refine (numA_at _ _).mono ?_
  rintro _ w2 ⟨rfl, rfl⟩
  go_wp2_with fail
  go_ret
  exact ⟨rfl, HX.out⟩
theorem PAr_no {l : List UInt8} {e : Ending} {w : World} (h : PAr l e w) (hn : prsA l = none) : e = .returned (.tuple #[adv 0 none 0 0, .int .i64 6]) := by
  rcases h with ⟨k, b, A, c, hp, _⟩ | ⟨_, h⟩
  · rw [hn] at hp; cases hp
  · exact h
theorem PAr_yes {l : List UInt8} {e : Ending} {w : World} {k : Int} {b : List UInt8} (h : PAr l e w) (hn : prsA l = some (k, b)) : ∃ A c, e = .returned (.tuple #[adv k A b.length c, .int .i64 0]) ∧ BS w (.slice A b.length c) b := by
  rcases h with ⟨k', b', A, c, hp, he, hb⟩ | ⟨hp, _⟩
  · rw [hn] at hp
    injection hp with hp
    injection hp with h1 h2
    subst h1; subst h2
    exact ⟨A, c, he, hb⟩
  · rw [hn] at hp; cases hp
/-- A box for an address that was handed back. -/
theorem boxA (w : World) (k : Int) (A : Option Addr) (n c : Nat) : ∃ Y Z, w.alloc (.cells #[.int .i64 0, .slice none 0 0] 25) = Y ∧ (Y.setCell ⟨w.heap.size, 0, none⟩ (.int .i64 k)).setCell ⟨w.heap.size, 1, none⟩ (.slice A n c) = Z ∧ AB Y w.heap.size 0 none 0 0 ∧ AB Z w.heap.size k A n c ∧ Ext w Z := by
  have h0 := AB.new w 0 none 0 0
  exact ⟨_, _, rfl, rfl, h0, h0.set k A n c, ((Ext.refl w).alloc _).set2 (Nat.le_refl _) _ _⟩
set_option maxRecDepth 100000 in
theorem refuses_at (s : ByteArray) (hs : s.size ≤ 1000) (w : World) (hE : EnvA w) (hn : prsA s.data.toList = none) :
    Calls Tryz.prog 29 #[.string s] w fun e w' => e = .returned (.bool true) ∧ Ext w w' := by
  have HP := Lib.hid (AParse_at s hs w hE)
  have HN := Lib.hid hn
  clear hs hE hn
  go_enter Tryz.func29, Tryz.ntmps29
  go_wp2_with fail
  refine HP.out.mono ?_
  rintro e w1 ⟨hp, hx⟩
  have he := PAr_no hp HN.out
  subst he
  have h0 := AB.new w1 0 none 0 0
  have f0 := h0.soft 0; have f1 := h0.soft 1
  obtain ⟨b0, b1⟩ := h0.cells
  have HX := Lib.hid (hx.trans ((Ext.refl w1).alloc (.cells #[.int .i64 0, .slice none 0 0] 25)))
  have HB := Lib.hid h0
  unfold adv
  clear hp hx h0
  go_wp2_with fail
  refine (numA_at _ _).mono ?_
  rintro _ w2 ⟨rfl, hw2⟩
  have HX2 := Lib.hid (show Ext w w2 from hw2 ▸ HX.out)
  obtain ⟨d0, d1⟩ := (show AB w2 w1.heap.size 0 none 0 0 from hw2 ▸ HB.out).cells
  clear hw2 b0 b1 f0 f1
  go_wp2_with fail
  go_ret
  exact ⟨rfl, HX2.out⟩
set_option maxRecDepth 100000 in
set_option maxHeartbeats 1000000 in
theorem withinA_at (s : ByteArray) (hs : s.size ≤ 1000) (want : Bool) (w : World) (hE : EnvA w) (k : Int) (b : List UInt8) (hp : prsA s.data.toList = some (k, b)) (hn : netP 2 [10, 0, 0, 255] 24 k b = (want, 0)) :
    Calls Tryz.prog 30 #[.string s, .bool want] w fun e w' => e = .returned (.bool true) ∧ Ext w w' := by
  have HP := Lib.hid (AParse_at s hs w hE)
  have HN := Lib.hid hp; have HW := Lib.hid hn; have HE := Lib.hid hE
  have hq : (want == want) = true := beq_self_eq_true _
  clear hs hE hn hp
  go_enter Tryz.func30, Tryz.ntmps30
  go_wp2_with fail
  refine HP.out.mono ?_
  rintro e w1 ⟨hp, hx⟩
  obtain ⟨A, c, he, hb⟩ := PAr_yes hp HN.out
  subst he
  obtain ⟨Y, Z, hY, hZ, h0, hz, hxz⟩ := boxA w1 k A b.length c
  have f0 := h0.soft 0; have f1 := h0.soft 1
  obtain ⟨b0, b1⟩ := h0.cells
  have hl := OB.lit Z 5 0 [.int .u8 10, .int .u8 0, .int .u8 0, .int .u8 255] [10, 0, 0, 255] rfl 4 rfl (by simp [maxLen]) (by omega)
  have xl := (Ext.refl Z).alloc (.cells #[.int .u8 10, .int .u8 0, .int .u8 0, .int .u8 255] 5)
  obtain ⟨d0, d1⟩ := (hz.ext xl).cells
  have HNW := Lib.hid (Network_at 2 [10, 0, 0, 255] (some ⟨Z.heap.size, 0, none⟩) 4 24 k b A c (Z.alloc (.cells #[.int .u8 10, .int .u8 0, .int .u8 0, .int .u8 255] 5)) hl.bs (hb.ext (hxz.trans xl)) (HE.out.ext ((hx.trans hxz).trans xl)))
  rw [HW.out] at HNW
  have HX := Lib.hid ((hx.trans hxz).trans xl)
  unfold adv at HNW ⊢
  clear hp hx h0 hz hl xl hxz hb
  go_wp2_with fail
  refine HNW.out.mono ?_
  rintro _ w2 ⟨rfl, hx2⟩
  have HX2 := Lib.hid (HX.out.trans hx2)
  clear hx2 hY hZ f0 f1 b0 b1 d0 d1
  go_wp2_with fail
  refine (numA_at _ _).mono ?_
  rintro _ w3 ⟨rfl, rfl⟩
  go_wp2_with fail
  refine (numA_at _ _).mono ?_
  rintro _ w3 ⟨rfl, rfl⟩
  go_wp2_with fail
  go_ret
  exact ⟨rfl, HX2.out⟩
end Go.Proofs.YthpfomjibfbiiaaGreatDoor
namespace Go.Proofs.YthpfomjibfbiiaaGreatDoor
open Go Go.RowKit
set_option linter.unusedVariables false

theorem kT1 (A : Option Addr) (c : Nat) (W : World) (hb : BS W (.slice A 4 c) [10, 0, 0, 255]) (hE : EnvA W) : Calls Tryz.prog 28 #[.int .i64 2, .slice A 4 c, .string ⟨#[49, 48, 46, 48, 46, 48, 46, 50, 53, 53]⟩] W fun e w' => e = .returned (.bool true) ∧ Ext W w' :=
  ltext_at 2 [10, 0, 0, 255] A c _ W hb hE (by decide) t255
theorem kT2 (A : Option Addr) (c : Nat) (W : World) (hb : BS W (.slice A 16 c) six) (hE : EnvA W) : Calls Tryz.prog 28 #[.int .i64 24, .slice A 16 c, .string ⟨#[91, 102, 101, 56, 48, 58, 58, 49, 93]⟩] W fun e w' => e = .returned (.bool true) ∧ Ext W w' :=
  ltext_at 24 six A c _ W hb hE (by decide) tsix
theorem kT3 (A : Option Addr) (c : Nat) (W : World) (hb : BS W (.slice A 16 c) zer) (hE : EnvA W) : Calls Tryz.prog 28 #[.int .i64 24, .slice A 16 c, .string ⟨#[91, 58, 58, 93]⟩] W fun e w' => e = .returned (.bool true) ∧ Ext W w' :=
  ltext_at 24 zer A c _ W hb hE (by decide) tzer
theorem kT4 (A : Option Addr) (c : Nat) (W : World) (hb : BS W (.slice A 3 c) [97, 58, 98]) (hE : EnvA W) : Calls Tryz.prog 28 #[.int .i64 20, .slice A 3 c, .string ⟨#[104, 111, 115, 116, 47, 97, 58, 98]⟩] W fun e w' => e = .returned (.bool true) ∧ Ext W w' :=
  ltext_at 20 [97, 58, 98] A c _ W hb hE (by decide) th
theorem kR1 (W : World) (hE : EnvA W) : Calls Tryz.prog 29 #[.string ⟨#[49, 48, 46, 48, 46, 48, 46, 50, 53, 54]⟩] W fun e w' => e = .returned (.bool true) ∧ Ext W w' := refuses_at _ (by decide) W hE n256
theorem kR2 (W : World) (hE : EnvA W) : Calls Tryz.prog 29 #[.string ⟨#[48, 49, 48, 46, 48, 46, 48, 46, 49]⟩] W fun e w' => e = .returned (.bool true) ∧ Ext W w' := refuses_at _ (by decide) W hE n010
theorem kR3 (W : World) (hE : EnvA W) : Calls Tryz.prog 29 #[.string ⟨#[91, 70, 69, 56, 48, 58, 58, 49, 93]⟩] W fun e w' => e = .returned (.bool true) ∧ Ext W w' := refuses_at _ (by decide) W hE nFE
theorem kR4 (W : World) (hE : EnvA W) : Calls Tryz.prog 29 #[.string ⟨#[91, 48, 58, 48, 58, 58, 49, 93]⟩] W fun e w' => e = .returned (.bool true) ∧ Ext W w' := refuses_at _ (by decide) W hE n00
theorem kR5 (W : World) (hE : EnvA W) : Calls Tryz.prog 29 #[.string ⟨#[104, 111, 115, 116, 47]⟩] W fun e w' => e = .returned (.bool true) ∧ Ext W w' := refuses_at _ (by decide) W hE nhost
theorem kP (W : World) (hE : EnvA W) : Calls Tryz.prog 25 #[.string ⟨#[49, 48, 46, 48, 46, 48, 46, 50, 53, 53]⟩] W fun e w' => (∃ A c, e = .returned (.tuple #[.agg #[.int .i64 2, .slice A 4 c], .int .i64 0]) ∧ BS w' (.slice A 4 c) [10, 0, 0, 255]) ∧ Ext W w' :=
  (AParse_at _ (by decide) W hE).mono fun e w' h => ⟨PAr_yes h.1 p255, h.2⟩
theorem kN (A : Option Addr) (c : Nat) (W : World) (hb : BS W (.slice A 4 c) [10, 0, 0, 255]) (hE : EnvA W) : Calls Tryz.prog 27 #[.agg #[.int .i64 2, .slice A 4 c], .int .i64 33, .agg #[.int .i64 2, .slice A 4 c]] W fun e w' => e = .returned (.tuple #[.bool false, .int .i64 3]) ∧ Ext W w' := by
  have h := Network_at 2 [10, 0, 0, 255] A c 33 2 [10, 0, 0, 255] A c W hb hb hE
  have e : netP 2 [10, 0, 0, 255] 33 2 [10, 0, 0, 255] = (false, 3) := by decide
  rw [e] at h
  exact h
theorem kW1 (W : World) (hE : EnvA W) : Calls Tryz.prog 30 #[.string ⟨#[49, 48, 46, 48, 46, 48, 46, 49]⟩, .bool true] W fun e w' => e = .returned (.bool true) ∧ Ext W w' := withinA_at _ (by decide) true W hE 2 [10, 0, 0, 1] p1 (by decide)
theorem kW2 (W : World) (hE : EnvA W) : Calls Tryz.prog 30 #[.string ⟨#[49, 48, 46, 48, 46, 49, 46, 48]⟩, .bool false] W fun e w' => e = .returned (.bool true) ∧ Ext W w' := withinA_at _ (by decide) false W hE 2 [10, 0, 1, 0] p10 (by decide)
theorem kW3 (W : World) (hE : EnvA W) : Calls Tryz.prog 30 #[.string ⟨#[104, 111, 115, 116, 47, 97]⟩, .bool false] W fun e w' => e = .returned (.bool true) ∧ Ext W w' := withinA_at _ (by decide) false W hE 20 [97] pa (by decide)
theorem BS.mark (w : World) (e : TypeId) (l : List UInt8) (fr : Nat × Nat) (hl : l.length ≤ maxLen) : BS (w.alloc (.cells (bv l).toArray e fr)) (.slice (some ⟨w.heap.size, 0, none⟩) l.length l.length) l := by
  refine ⟨some ⟨w.heap.size, 0, none⟩, l.length, by simp, by simp, hl, fun _ => ⟨⟨w.heap.size, 0, none⟩, rfl, by simp, fun j u hu => ?_⟩⟩
  have hg : (w.alloc (.cells (bv l).toArray e fr)).heap[w.heap.size]? = some (.cells (bv l).toArray e fr) := heap_alloc_new w _
  have hadd : (⟨w.heap.size, 0, none⟩ : Addr).add j = ⟨w.heap.size, j, none⟩ := by unfold Addr.add; split <;> simp_all
  rw [hadd, cell_of_row _ _ j _ e fr hg]
  simpa using hu
theorem mk16 (w : World) : (Instr.makeSlice 23 (.int .i64 16) (.int .i64 16)).run Tryz.prog w = .ok (.slice (some ⟨w.heap.size, 0, none⟩) 16 16) (w.alloc (.cells #[.int .u8 0, .int .u8 0, .int .u8 0, .int .u8 0, .int .u8 0, .int .u8 0, .int .u8 0, .int .u8 0, .int .u8 0, .int .u8 0, .int .u8 0, .int .u8 0, .int .u8 0, .int .u8 0, .int .u8 0, .int .u8 0] 5)) := by kernel_rfl
set_option maxRecDepth 100000 in
set_option maxHeartbeats 2000000 in
theorem AKnown_at (w : World) (hE : EnvA w) : Calls Tryz.prog 7 #[] w fun e w' => e = .returned (.bool true) ∧ Ext w w' := by
  obtain ⟨i0, hi, hz0, hz1, hz2⟩ := info_parts u8inf
  have HE := Lib.hid hE
  clear hE
  have HX0 := Lib.hid ((Ext.refl w).alloc (.cells #[.int .u8 254, .int .u8 128] 5))
  have HL0 := Lib.hid (OB.lit w 5 w.heap.size [.int .u8 254, .int .u8 128] [254, 128] rfl 2 rfl (by simp [maxLen]) (Nat.le_refl _))
  go_enter Tryz.func7, Tryz.ntmps7
  go_wp2_with (first
    | (at_builtin; refine wpList_append_zeros _ rfl (.tmp 6) (.const (.int .i64 12)) 23 3 9 rfl w.heap.size 5 i0 Tryz.underlying23 Tryz.underlying3 Tryz.underlying9 hi hz0 hz1 hz2 _ [254, 128] rfl HL0.out 12 rfl (by omega) (by decide) ?hm ?_; rotate_right; intro v4 w4 hown4 hg4; have HO4 := Lib.hid hown4; have HG4 := Lib.hid hg4; have HL4 := Lib.hid (OB.lit w4 5 0 [.int .u8 0, .int .u8 1] [0, 1] rfl 2 rfl (by simp [maxLen]) (by omega)); have HX4 := Lib.hid ((Ext.refl w4).alloc (.cells #[.int .u8 0, .int .u8 1] 5)); clear hown4 hg4)
    | (at_builtin; refine wpList_append_bs _ rfl (.tmp 7) (.tmp 8) 23 rfl w.heap.size 5 i0 (.int .u8 0) Tryz.underlying23 hi hz0 hz1 hz2 rfl _ ([254, 128] ++ List.replicate 12 0) rfl (HO4.out.ext HX4.out) _ [0, 1] rfl HL4.out.bs (by decide) ?hm2 ?_; rotate_right; intro v5 w5 hown5 hg5 _; have HO5 := Lib.hid hown5; have HG5 := Lib.hid hg5; clear hown5 hg5))
  case hm => simp
  case hm2 => have := HG4.out.size; simp at this ⊢; omega
  obtain ⟨A5, c5, hv5⟩ : ∃ A c, v5 = .slice A 16 c := HO5.out.shape
  subst hv5
  have HS := Lib.hid (show BS w5 (.slice A5 16 c5) six from HO5.out.bs)
  have HX5 := Lib.hid (((HX0.out.grown HG4.out (fun j hj => OB.lt HL0.out j hj)).trans HX4.out).grown HG5.out (fun j hj => OB.lt HO4.out j hj))
  have HL5 := Lib.hid (OB.lit w5 5 0 [.int .u8 10, .int .u8 0, .int .u8 0, .int .u8 255] [10, 0, 0, 255] rfl 4 rfl (by simp [maxLen]) (by omega))
  have HXa := Lib.hid ((Ext.refl w5).alloc (.cells #[.int .u8 10, .int .u8 0, .int .u8 0, .int .u8 255] 5))
  clear HO5 HG5 HO4 HG4 HL4 HX4 HL0 HX0
  refine (kT1 _ 4 _ HL5.out.bs (HE.out.ext (HX5.out.trans HXa.out))).mono ?_
  rintro _ w6 ⟨rfl, hx⟩
  have HX6 := Lib.hid ((HX5.out.trans HXa.out).trans hx)
  have HS6 := Lib.hid (HS.out.ext (HXa.out.trans hx))
  clear hx HX5 HXa HS HL5
  go_wp2_with fail
  refine (kT2 A5 c5 _ HS6.out (HE.out.ext HX6.out)).mono ?_
  rintro _ w7 ⟨rfl, hx⟩
  have HX7 := Lib.hid (HX6.out.trans hx)
  clear hx HX6 HS6
  have hmk := mk16
  have HL7 := Lib.hid (OB.lit w7 5 0 [.int .u8 0, .int .u8 0, .int .u8 0, .int .u8 0, .int .u8 0, .int .u8 0, .int .u8 0, .int .u8 0, .int .u8 0, .int .u8 0, .int .u8 0, .int .u8 0, .int .u8 0, .int .u8 0, .int .u8 0, .int .u8 0] zer rfl 16 rfl (by simp [maxLen, zer]) (by omega))
  have HXb := Lib.hid ((Ext.refl w7).alloc (.cells #[.int .u8 0, .int .u8 0, .int .u8 0, .int .u8 0, .int .u8 0, .int .u8 0, .int .u8 0, .int .u8 0, .int .u8 0, .int .u8 0, .int .u8 0, .int .u8 0, .int .u8 0, .int .u8 0, .int .u8 0, .int .u8 0] 5))
  go_wp2_with fail
  refine (kT3 _ 16 _ HL7.out.bs (HE.out.ext (HX7.out.trans HXb.out))).mono ?_
  rintro _ w8 ⟨rfl, hx⟩
  have HX8 := Lib.hid ((HX7.out.trans HXb.out).trans hx)
  clear hx HX7 HXb HL7 hmk
  have hcv := Lib.run_convert_bytes_const (P := Tryz.prog) w8 23 5 #[.int .u8 97, .int .u8 58, .int .u8 98] 3 3 Tryz.underlying23 Tryz.underlying5
  have HL8 := Lib.hid (show BS (w8.alloc (.cells #[.int .u8 97, .int .u8 58, .int .u8 98] 5 (3, 3 + 1))) (.slice (some ⟨w8.heap.size, 0, none⟩) 3 3) [97, 58, 98] from BS.mark w8 5 [97, 58, 98] (3, 3 + 1) (by simp [maxLen]))
  have HXc := Lib.hid ((Ext.refl w8).alloc (.cells #[.int .u8 97, .int .u8 58, .int .u8 98] 5 (3, 3 + 1)))
  go_wp2_with fail
  refine (kT4 _ 3 _ HL8.out (HE.out.ext (HX8.out.trans HXc.out))).mono ?_
  rintro _ w9 ⟨rfl, hx⟩
  have HX9 := Lib.hid ((HX8.out.trans HXc.out).trans hx)
  clear hx HX8 HXc HL8 hcv
  go_wp2_with fail
  refine (kR1 _ (HE.out.ext HX9.out)).mono ?_
  rintro _ w10 ⟨rfl, hx⟩
  have HX10 := Lib.hid (HX9.out.trans hx)
  clear hx HX9
  go_wp2_with fail
  refine (kR2 _ (HE.out.ext HX10.out)).mono ?_
  rintro _ w11 ⟨rfl, hx⟩
  have HX11 := Lib.hid (HX10.out.trans hx)
  clear hx HX10
  go_wp2_with fail
  refine (kR3 _ (HE.out.ext HX11.out)).mono ?_
  rintro _ w12 ⟨rfl, hx⟩
  have HX12 := Lib.hid (HX11.out.trans hx)
  clear hx HX11
  go_wp2_with fail
  refine (kR4 _ (HE.out.ext HX12.out)).mono ?_
  rintro _ w13 ⟨rfl, hx⟩
  have HX13 := Lib.hid (HX12.out.trans hx)
  clear hx HX12
  go_wp2_with fail
  refine (kR5 _ (HE.out.ext HX13.out)).mono ?_
  rintro _ w14 ⟨rfl, hx⟩
  have HX14 := Lib.hid (HX13.out.trans hx)
  clear hx HX13
  go_wp2_with fail
  refine (kP _ (HE.out.ext HX14.out)).mono ?_
  rintro _ w15 ⟨⟨A, c, rfl, hb⟩, hx⟩
  obtain ⟨Y, Z, hY, hZ, h0, hz, hxz⟩ := boxA w15 2 A 4 c
  have f0 := h0.soft 0; have f1 := h0.soft 1
  obtain ⟨b0, b1⟩ := h0.cells
  obtain ⟨d0, d1⟩ := hz.cells
  have HX15 := Lib.hid ((HX14.out.trans hx).trans hxz)
  have HNN := Lib.hid (kN A c Z (hb.ext hxz) (HE.out.ext ((HX14.out.trans hx).trans hxz)))
  clear hx hb h0 hz hxz HX14
  go_wp2_with fail
  refine HNN.out.mono ?_
  rintro _ w16 ⟨rfl, hx⟩
  have HX16 := Lib.hid (HX15.out.trans hx)
  clear hx HX15 hY hZ f0 f1 b0 b1 d0 d1
  go_wp2_with fail
  refine (numA_at _ _).mono ?_
  rintro _ w17 ⟨rfl, rfl⟩
  go_wp2_with fail
  refine (numA_at _ _).mono ?_
  rintro _ w17 ⟨rfl, rfl⟩
  go_wp2_with fail
  refine (kW1 _ (HE.out.ext HX16.out)).mono ?_
  rintro _ w17 ⟨rfl, hx⟩
  have HX17 := Lib.hid (HX16.out.trans hx)
  clear hx HX16
  go_wp2_with fail
  refine (kW2 _ (HE.out.ext HX17.out)).mono ?_
  rintro _ w18 ⟨rfl, hx⟩
  have HX18 := Lib.hid (HX17.out.trans hx)
  clear hx HX17
  go_wp2_with fail
  refine (kW3 _ (HE.out.ext HX18.out)).mono ?_
  rintro _ w19 ⟨rfl, hx⟩
  have HX19 := Lib.hid (HX18.out.trans hx)
  clear hx HX18
  go_wp2_with fail
  go_ret
  exact ⟨rfl, HX19.out⟩
end Go.Proofs.YthpfomjibfbiiaaGreatDoor
