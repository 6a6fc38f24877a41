/- Structs of integers that came in. No program. -/
import Derived.Test.YtfgmmjpejlpdoaaGreatDoorRow
import Derived.Deep.Fields
import Derived.Lib.SmallJoins
namespace Go.Proofs.YtfgmmjpejlpdoaaGreatDoor
open Go Go.RowKit Go.WideShapes Go.ChangeShapes Go.Deep

theorem ints2_of_trod {H : Type} {enc : TypeId × Value → H} {P : Program} {r : Reach} {base : Nat} {t ti : TypeId} {f0 f1 : Field} (hs : P.underlying t = some (.struct #[f0, f1])) (hone : oneCellFields P #[f0, f1] = true) (hC : P.cellsOf t = 2)
    (h0 : f0.type = ti) (h1 : f1.type = ti) (hi : P.underlying ti = some (.int .i64)) {W : World} {v : Value} {d : DataW H} {ps : List MemPlace}
    (hv : Value.okWide P W r base t v) (h : DataW.Trod enc P W 0 (fun _ => true) true t v d ps) : ∃ p q : Int, v = .agg #[.int .i64 p, .int .i64 q] := by
  subst h0
  obtain ⟨v0, v1, y0, y1, n, rfl, _, _, g0, g1⟩ := Go.Joins.open_agg2 hs hone hC hv h
  obtain ⟨p, hp, _⟩ := DataW.trod_int hi g0
  rw [h1] at g1
  obtain ⟨q, hq, _⟩ := DataW.trod_int hi g1
  simp only [List.cons.injEq, and_true] at hp hq
  subst hp; subst hq
  exact ⟨p, q, rfl⟩
theorem ints3_of_trod {H : Type} {enc : TypeId × Value → H} {P : Program} {r : Reach} {base : Nat} {t ti : TypeId} {f0 f1 f2 : Field} (hs : P.underlying t = some (.struct #[f0, f1, f2])) (hone : oneCellFields P #[f0, f1, f2] = true) (hC : P.cellsOf t = 3)
    (h0 : f0.type = ti) (h1 : f1.type = ti) (h2 : f2.type = ti) (hi : P.underlying ti = some (.int .i64)) {W : World} {v : Value} {d : DataW H} {ps : List MemPlace}
    (hv : Value.okWide P W r base t v) (h : DataW.Trod enc P W 0 (fun _ => true) true t v d ps) : ∃ p q s : Int, v = .agg #[.int .i64 p, .int .i64 q, .int .i64 s] := by
  subst h0
  obtain ⟨v0, v1, v2, y0, y1, y2, n, rfl, _, _, g0, g1, g2⟩ := Go.Joins.open_agg3 hs hone hC hv h
  obtain ⟨p, hp, _⟩ := DataW.trod_int hi g0
  rw [h1] at g1
  rw [h2] at g2
  obtain ⟨q, hq, _⟩ := DataW.trod_int hi g1
  obtain ⟨s, hs', _⟩ := DataW.trod_int hi g2
  simp only [List.cons.injEq, and_true] at hp hq hs'
  subst hp; subst hq; subst hs'
  exact ⟨p, q, s, rfl⟩
theorem ints4_of_trod {H : Type} {enc : TypeId × Value → H} {P : Program} {r : Reach} {base : Nat} {t ti : TypeId} {f0 f1 f2 f3 : Field} (hs : P.underlying t = some (.struct #[f0, f1, f2, f3])) (hone : oneCellFields P #[f0, f1, f2, f3] = true) (hC : P.cellsOf t = 4)
    (h0 : f0.type = ti) (h1 : f1.type = ti) (h2 : f2.type = ti) (h3 : f3.type = ti) (hi : P.underlying ti = some (.int .i64)) {W : World} {v : Value} {d : DataW H} {ps : List MemPlace}
    (hv : Value.okWide P W r base t v) (h : DataW.Trod enc P W 0 (fun _ => true) true t v d ps) : ∃ p q s u : Int, v = .agg #[.int .i64 p, .int .i64 q, .int .i64 s, .int .i64 u] := by
  subst h0
  obtain ⟨v0, v1, v2, v3, y0, y1, y2, y3, n, rfl, _, _, g0, g1, g2, g3⟩ := Go.Joins.open_agg4 hs hone hC hv h
  obtain ⟨p, hp, _⟩ := DataW.trod_int hi g0
  rw [h1] at g1
  rw [h2] at g2
  rw [h3] at g3
  obtain ⟨q, hq, _⟩ := DataW.trod_int hi g1
  obtain ⟨s, hs', _⟩ := DataW.trod_int hi g2
  obtain ⟨u, hu, _⟩ := DataW.trod_int hi g3
  simp only [List.cons.injEq, and_true] at hp hq hs' hu
  subst hp; subst hq; subst hs'; subst hu
  exact ⟨p, q, s, u, rfl⟩
end Go.Proofs.YtfgmmjpejlpdoaaGreatDoor
