/- Addresses that came in, and the table that the rows of Address list. -/
import Derived.Test.YthpfomjibfbiiaaGreatDoorRowE
import Derived.Test.YthpfomjibfbiiaaGreatDoorRow
import Derived.Test.YthpfomjibfbiiaaGreatDoorRow2
import Derived.Test.YthpfomjibfbiiaaGreatDoorAd2
namespace Go.Proofs.YthpfomjibfbiiaaGreatDoor
open Go Go.RowKit Go.WideShapes Go.ChangeShapes Go.ChangeAt Go.Deep
set_option linter.unusedVariables false

def debTab : List Int := [0, 1, 56, 2, 57, 49, 28, 3, 61, 58, 42, 50, 38, 29, 17, 4, 62, 47, 59, 36, 45, 43, 51, 22, 53, 39, 33, 30, 24, 18, 12, 5, 63, 55, 48, 27, 60, 41, 37, 16, 46, 35, 44, 21, 52, 32, 23, 11, 54, 26, 40, 15, 34, 20, 31, 10, 25, 14, 19, 9, 13, 8, 7, 6]
theorem deb_at {r : List (String × DataW Unit)} {W : World} (h : laidMet Tryz.prog (("math/bits.deBruijn64tab", (Rows.laid_math_bits_deBruijn64tab : DataW Unit)) :: r) W) : DeB W := by
  have e : (Rows.laid_math_bits_deBruijn64tab : DataW Unit) = Lib.tabData .u8 debTab := by kernel_rfl
  rw [e] at h
  have hg : Tryz.prog.globalNamed "math/bits.deBruijn64tab" = some 7 := by kernel_rfl
  have hgt : ((Tryz.prog.globals[7]?).map (·.type)) = some 202 := by kernel_rfl
  have ht := Lib.tabIs_of_head hg hgt Tryz.underlying202 Tryz.underlying5 (by kernel_rfl) (by kernel_rfl) h
  exact ht.cell hg 15 (by decide)
/-- An address by value. -/
theorem adr_of_trod {H : Type} {enc : TypeId × Value → H} {P : Program} {r : Reach} {base : Nat} {t ti tb e : TypeId} {f0 f1 : Field} (hs : P.underlying t = some (.struct #[f0, f1])) (hone : oneCellFields P #[f0, f1] = true) (hC : P.cellsOf t = 2)
    (h0 : f0.type = ti) (h1 : f1.type = tb) (hi : P.underlying ti = some (.int .i64)) (hb : P.underlying tb = some (.slice e)) (he : P.underlying e = some (.int .u8)) (hc : P.cellsOf e = 1) {W : World} {v : Value} {d : DataW H} {qs : List MemPlace}
    (hv : Value.okWide P W r base t v) (h : DataW.Trod enc P W 0 (fun _ => true) true t v d qs) : ∃ (k : Int) (A : Option Addr) (c : Nat) (b : List UInt8), v = .agg #[.int .i64 k, .slice A b.length c] ∧ BS W (.slice A b.length c) b := by
  subst h0; subst h1
  obtain ⟨v0, v1, y0, y1, n, rfl, _, _, g0, g1⟩ := Go.Joins.open_agg2 hs hone hC hv h
  obtain ⟨z, hz, _⟩ := DataW.trod_int hi g0
  simp only [List.cons.injEq, and_true] at hz
  subst hz
  obtain ⟨A, c, b, rfl, hbs⟩ := bs_of_field hb he hc g1
  exact ⟨z, A, c, b, rfl, hbs⟩
end Go.Proofs.YthpfomjibfbiiaaGreatDoor
