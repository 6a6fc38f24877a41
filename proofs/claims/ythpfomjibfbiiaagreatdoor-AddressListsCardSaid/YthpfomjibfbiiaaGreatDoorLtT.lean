/- Lifetimes: Text. -/
import Derived.Test.YthpfomjibfbiiaaGreatDoorLt2
import Derived.Test.YthpfomjibfbiiaaGreatDoorLt3
import Derived.Test.YthpfomjibfbiiaaGreatDoorShelf
import Derived.WalkSmall
import Derived.Lib.ItoaLen
import Derived.Test.YthpfomjibfbiiaaGreatDoorOv
namespace Go.Proofs.YthpfomjibfbiiaaGreatDoor
open Go Go.RowKit

theorem ext_grow {w w' : World} (h : Ext w w') (k : Nat) (os : Array Obj) : Ext w (Go.Sort.grow (w'.drewN k) os) :=
  ⟨h.os, h.tape, h.output, Nat.le_trans h.size (by simp [Go.Sort.grow, World.drewN]), fun j hj => by
    have h1 : j < w'.heap.size := Nat.lt_of_lt_of_le hj h.size
    rw [← h.block j hj]
    show ((w'.drewN k).heap ++ os)[j]? = _
    rw [Array.getElem?_append_left (by simpa [World.drewN] using h1)]
    rfl⟩

/-- The table that the library's numerals read. -/
def Pow (w : World) : Prop := Lib.TabIs Tryz.prog w "internal/strconv.uint64pow10" .u64 Lib.pow10Tab
theorem gPow : (Tryz.prog.globalNamed "internal/strconv.uint64pow10").isSome = true := by kernel_rfl
theorem Pow.ext {w w' : World} (h : Pow w) (hx : Ext w w') : Pow w' := by
  obtain ⟨g, hg⟩ := Option.isSome_iff_exists.1 gPow
  unfold Pow Lib.TabIs at h ⊢
  have hlt : g < w.heap.size := by
    unfold World.var? at h
    simp only [hg, Option.bind_some] at h
    by_cases hh : g < w.heap.size
    · exact hh
    · rw [Array.getElem?_eq_none (by omega)] at h
      cases h
  exact var?_below hx hg hlt h

theorem ownsRow_ext {w w' : World} {B : Nat} {e : TypeId} {v : Value} {n : Nat} {xs : List Value} (h : w.ownsRow B e 1 v n xs) (he : Ext w w') : w'.ownsRow B e 1 v n xs :=
  h.kept (he.but none) (by cases hv : v.ownBlock <;> simp)
/-- Strings as values. -/
def stv (ls : List (List UInt8)) : List Value := ls.map fun l => .string ⟨l.toArray⟩
theorem stv_length (ls : List (List UInt8)) : (stv ls).length = ls.length := by simp [stv]
theorem strinfo : (Tryz.prog.info? 9).map (fun i => (i.zero, i.size, i.bytes)) = some (some (.string ⟨#[]⟩), 1, 16) := by kernel_rfl

/-- The words of times, their string. -/
def wordsT (a s e r : Int) : List (List UInt8) := [Lib.itoa a, Lib.itoa s, Lib.itoa e, Lib.itoa r]
def textT (a s e r : Int) : List UInt8 := Lib.join (wordsT a s e r) [32]

end Go.Proofs.YthpfomjibfbiiaaGreatDoor
