/- Address: the examples of the chapter. No program. -/
import Derived.Test.YthpfomjibfbiiaaDoorAdPure2
import Derived.Test.YthpfomjibfbiiaaDoorAd8
import Derived.KernelRfl
namespace Go.Proofs.YthpfomjibfbiiaaDoor
open Go.Lib

theorem d0 : decDigits 0 = [48] := by rw [dec_lo _ (by decide)]; rfl
theorem d1 : decDigits 1 = [49] := by rw [dec_lo _ (by decide)]; rfl
theorem d10 : decDigits 10 = [49, 48] := by rw [dec_hi _ (by decide), show 10 / 10 = 1 from rfl, d1]; rfl
theorem d25 : decDigits 25 = [50, 53] := by rw [dec_hi _ (by decide), dec_lo _ (by decide)]; rfl
theorem d255 : decDigits 255 = [50, 53, 53] := by rw [dec_hi _ (by decide), show 255 / 10 = 25 from rfl, d25]; rfl
theorem x0 : hexD 0 = [48] := by rw [hexD_lo (by decide)]; rfl
theorem x1 : hexD 1 = [49] := by rw [hexD_lo (by decide)]; rfl
theorem xf : hexD 15 = [102] := by rw [hexD_lo (by decide)]; rfl
theorem xfe : hexD 254 = [102, 101] := by rw [hexD_hi (by decide), show 254 / 16 = 15 from rfl, xf]; rfl
theorem xfe8 : hexD 4072 = [102, 101, 56] := by rw [hexD_hi (by decide), show 4072 / 16 = 254 from rfl, xfe]; rfl
theorem xfe80 : hexD 65152 = [102, 101, 56, 48] := by rw [hexD_hi (by decide), show 65152 / 16 = 4072 from rfl, xfe8]; rfl
def six : List UInt8 := [254, 128, 0, 0, 0, 0, 0, 0, 0, 0, 0, 0, 0, 0, 0, 1]
def zer : List UInt8 := [0, 0, 0, 0, 0, 0, 0, 0, 0, 0, 0, 0, 0, 0, 0, 0]
def one : List UInt8 := [0, 0, 0, 0, 0, 0, 0, 0, 0, 0, 0, 0, 0, 0, 0, 1]
theorem t255 : txtA 2 [10, 0, 0, 255] = [49, 48, 46, 48, 46, 48, 46, 50, 53, 53] := by
  show txt4 _ = _
  rw [txt4_eq]
  show decDigits 10 ++ 46 :: (decDigits 0 ++ 46 :: (decDigits 0 ++ 46 :: decDigits 255)) = _
  rw [d10, d0, d255]; rfl
theorem t1 : txtA 2 [10, 0, 0, 1] = [49, 48, 46, 48, 46, 48, 46, 49] := by
  show txt4 _ = _
  rw [txt4_eq]
  show decDigits 10 ++ 46 :: (decDigits 0 ++ 46 :: (decDigits 0 ++ 46 :: decDigits 1)) = _
  rw [d10, d0, d1]; rfl
theorem t10 : txtA 2 [10, 0, 1, 0] = [49, 48, 46, 48, 46, 49, 46, 48] := by
  show txt4 _ = _
  rw [txt4_eq]
  show decDigits 10 ++ 46 :: (decDigits 0 ++ 46 :: (decDigits 1 ++ 46 :: decDigits 0)) = _
  rw [d10, d0, d1]; rfl
theorem tsix : txtA 24 six = [91, 102, 101, 56, 48, 58, 58, 49, 93] := by
  show txt6w (wds six) (bst 0 (wds six) 0 0).1 (bst 0 (wds six) 0 0).2 = _
  rw [show wds six = [65152, 0, 0, 0, 0, 0, 0, 1] by decide, show bst 0 [65152, 0, 0, 0, 0, 0, 0, 1] 0 0 = (1, 6) by decide]
  show [91] ++ (hjoin [65152] ++ ([58, 58] ++ (hjoin [1] ++ [93]))) = _
  rw [hjoin_one, hjoin_one, xfe80, x1]; rfl
theorem tzer : txtA 24 zer = [91, 58, 58, 93] := by
  show txt6w (wds zer) (bst 0 (wds zer) 0 0).1 (bst 0 (wds zer) 0 0).2 = _
  rw [show wds zer = [0, 0, 0, 0, 0, 0, 0, 0] by decide, show bst 0 [0, 0, 0, 0, 0, 0, 0, 0] 0 0 = (0, 8) by decide]
  rfl
theorem tone : txtA 24 one = [91, 58, 58, 49, 93] := by
  show txt6w (wds one) (bst 0 (wds one) 0 0).1 (bst 0 (wds one) 0 0).2 = _
  rw [show wds one = [0, 0, 0, 0, 0, 0, 0, 1] by decide, show bst 0 [0, 0, 0, 0, 0, 0, 0, 1] 0 0 = (0, 7) by decide]
  show [91] ++ (hjoin [] ++ ([58, 58] ++ (hjoin [1] ++ [93]))) = _
  rw [hjoin_one, x1]; rfl
theorem th : txtA 20 [97, 58, 98] = [104, 111, 115, 116, 47, 97, 58, 98] := rfl
theorem ta : txtA 20 [97] = [104, 111, 115, 116, 47, 97] := rfl
theorem p255 : prsA [49, 48, 46, 48, 46, 48, 46, 50, 53, 53] = some (2, [10, 0, 0, 255]) := by rw [← t255]; exact prsA_txt (by decide)
theorem p1 : prsA [49, 48, 46, 48, 46, 48, 46, 49] = some (2, [10, 0, 0, 1]) := by rw [← t1]; exact prsA_txt (by decide)
theorem p10 : prsA [49, 48, 46, 48, 46, 49, 46, 48] = some (2, [10, 0, 1, 0]) := by rw [← t10]; exact prsA_txt (by decide)
theorem pa : prsA [104, 111, 115, 116, 47, 97] = some (20, [97]) := by rw [← ta]; exact prsA_txt (by decide)
theorem n256 : prsA [49, 48, 46, 48, 46, 48, 46, 50, 53, 54] = none := by
  have h : cnd [49, 48, 46, 48, 46, 48, 46, 50, 53, 54] = (2, []) := by kernel_rfl
  unfold prsA; rw [h]; rfl
theorem n010 : prsA [48, 49, 48, 46, 48, 46, 48, 46, 49] = none := by
  have h : cnd [48, 49, 48, 46, 48, 46, 48, 46, 49] = (2, [10, 0, 0, 1]) := by kernel_rfl
  unfold prsA; rw [h]
  simp only
  rw [t1, if_neg (by decide)]
theorem nFE : prsA [91, 70, 69, 56, 48, 58, 58, 49, 93] = none := by
  have h : cnd [91, 70, 69, 56, 48, 58, 58, 49, 93] = (24, six) := by kernel_rfl
  unfold prsA; rw [h]
  simp only
  rw [tsix, if_neg (by decide)]
theorem n00 : prsA [91, 48, 58, 48, 58, 58, 49, 93] = none := by
  have h : cnd [91, 48, 58, 48, 58, 58, 49, 93] = (24, one) := by kernel_rfl
  unfold prsA; rw [h]
  simp only
  rw [tone, if_neg (by decide)]
theorem nhost : prsA [104, 111, 115, 116, 47] = none := by
  have h : cnd [104, 111, 115, 116, 47] = (20, []) := by kernel_rfl
  unfold prsA; rw [h]; rfl
end Go.Proofs.YthpfomjibfbiiaaDoor
