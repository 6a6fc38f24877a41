/- Flags: sets of bits as words. No program. -/
import Derived.Laws.BitsAllLaws
import Derived.Laws.BitsLemmas
import Derived.IntWalk
namespace Go.Proofs.YtigjecmhhjjenaaDoor
open Go
set_option linter.unusedVariables false

abbrev W32 := BitVec 32
/-- The operations under names of their own: the walk takes 'toNat' of BitVec's own apart. -/
def andW (x y : W32) : W32 := x &&& y
def orW (x y : W32) : W32 := x ||| y
def andNotW (x y : W32) : W32 := x &&& ~~~y
theorem u32_and (x y : W32) : bits .and .u32 (x.toNat : Int) (y.toNat : Int) = ((andW x y).toNat : Int) := by
  unfold andW
  show IntKind.u32.wrap ((BitVec.ofInt 32 (x.toNat : Int) &&& BitVec.ofInt 32 (y.toNat : Int)).toNat : Int) = _
  rw [BitVec.ofInt_natCast, BitVec.ofInt_natCast, BitVec.ofNat_toNat, BitVec.ofNat_toNat, BitVec.setWidth_eq, BitVec.setWidth_eq]
  have := (x &&& y).isLt
  exact IntWalk.u32_in _ (by omega)
theorem u32_or (x y : W32) : bits .or .u32 (x.toNat : Int) (y.toNat : Int) = ((orW x y).toNat : Int) := by
  unfold orW
  show IntKind.u32.wrap ((BitVec.ofInt 32 (x.toNat : Int) ||| BitVec.ofInt 32 (y.toNat : Int)).toNat : Int) = _
  rw [BitVec.ofInt_natCast, BitVec.ofInt_natCast, BitVec.ofNat_toNat, BitVec.ofNat_toNat, BitVec.setWidth_eq, BitVec.setWidth_eq]
  have := (x ||| y).isLt
  exact IntWalk.u32_in _ (by omega)
theorem u32_andNot (x y : W32) : bits .andNot .u32 (x.toNat : Int) (y.toNat : Int) = ((andNotW x y).toNat : Int) := by
  unfold andNotW
  show IntKind.u32.wrap ((BitVec.ofInt 32 (x.toNat : Int) &&& ~~~(BitVec.ofInt 32 (y.toNat : Int))).toNat : Int) = _
  rw [BitVec.ofInt_natCast, BitVec.ofInt_natCast, BitVec.ofNat_toNat, BitVec.ofNat_toNat, BitVec.setWidth_eq, BitVec.setWidth_eq]
  have := (x &&& ~~~y).isLt
  exact IntWalk.u32_in _ (by omega)
/-- f contains all of g. -/
def hasB (f g : W32) : Bool := andW f g == g
theorem u32_beq (x y : W32) : ((x.toNat : Int) == (y.toNat : Int)) = (x == y) := by
  rw [Bool.eq_iff_iff, beq_iff_eq, beq_iff_eq]
  constructor
  · intro h; exact BitVec.eq_of_toNat_eq (by omega)
  · rintro rfl; rfl
theorem u32_of (f : Int) (h0 : 0 ≤ f) (h1 : f ≤ 4294967295) : ∃ x : W32, f = (x.toNat : Int) := ⟨BitVec.ofNat 32 f.toNat, by rw [BitVec.toNat_ofNat]; omega⟩
/-- All sets together. -/
def unionF (xs : List W32) : W32 := xs.foldl orW 0#32
theorem unionF_snoc (xs : List W32) (x : W32) : unionF (xs ++ [x]) = orW (unionF xs) x := by simp [unionF]
def tkM : W32 := 4095#32
def opM : W32 := 2031807#32
def tkB (f : W32) : Bool := hasB tkM f
def optB (f : W32) : Bool := hasB opM f
def nmB (f : W32) : Bool := hasB (orW tkM opM) f
end Go.Proofs.YtigjecmhhjjenaaDoor
