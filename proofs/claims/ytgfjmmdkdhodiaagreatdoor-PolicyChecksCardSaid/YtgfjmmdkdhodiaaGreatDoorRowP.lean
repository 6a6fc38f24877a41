/- Policies, names and three bytes that came in, for rows. -/
import Derived.Test.YtgfjmmdkdhodiaaGreatDoorMg2
import Derived.Test.YtgfjmmdkdhodiaaGreatDoorPo8
import Derived.Deep.Strs
import Derived.Deep.Fields
import Derived.Lib.SmallJoins
namespace Go.Proofs.YtgfjmmdkdhodiaaGreatDoor
open Go Go.RowKit Go.WideShapes Go.ChangeShapes Go.ChangeAt Go.Deep
set_option linter.unusedVariables false

theorem okWide_array {P : Program} {W : World} {r : Reach} {base : Nat} {t e : TypeId} {n : Nat} {v : Value} (ht : P.underlying t = some (.array n e)) (h : Value.okWide P W r base t v) : ∃ cs, v = .agg cs ∧ cs.size = P.cellsOf t := by
  simp only [Value.okWide, ht] at h
  obtain ⟨cs, h1, h2, _⟩ := h
  exact ⟨cs, h1, h2⟩
section
variable {H : Type} {enc : TypeId × Value → H} {P : Program} {W : World} {fs : Array Field} {cs : List Value} {xs : List (DataW H × List MemPlace)} {n : Nat}
theorem fieldcell (hone : oneCellFields P fs = true) (hlen : xs.length = fs.size)
    (hg : ∀ (i : Nat) (f : Field), fs[i]? = some f → DataW.trod enc P W 0 (fun _ => true) true n f.type ((cs.drop f.offset).take (P.cellsOf f.type)) = xs[i]?) {i : Nat} {f : Field} {t : TypeId} (hf : fs[i]? = some f) (ht : f.type = t) {c : Value} (hc : cs[i]? = some c) :
    ∃ y, DataW.trod enc P W 0 (fun _ => true) true n t [c] = some y := by
  obtain ⟨o, k⟩ := hone_of hone i f hf
  have h := hg i f hf
  have hlt : i < fs.size := (Array.getElem?_eq_some_iff.1 hf).1
  have hx : xs[i]? = some (xs[i]'(by omega)) := List.getElem?_eq_getElem (by omega)
  have hd : (cs.drop i).take 1 = [c] := by
    obtain ⟨hl, he⟩ := List.getElem?_eq_some_iff.1 hc
    rw [List.drop_eq_getElem_cons hl, he]; rfl
  rw [o, k, ht, hd, hx] at h
  exact ⟨_, h⟩
theorem field_int {ti : TypeId} (hi : P.underlying ti = some (.int .i64)) (hone : oneCellFields P fs = true) (hlen : xs.length = fs.size)
    (hg : ∀ (i : Nat) (f : Field), fs[i]? = some f → DataW.trod enc P W 0 (fun _ => true) true n f.type ((cs.drop f.offset).take (P.cellsOf f.type)) = xs[i]?) {i : Nat} {f : Field} (hf : fs[i]? = some f) (ht : f.type = ti) {c : Value} (hc : cs[i]? = some c) :
    ∃ z : Int, c = .int .i64 z := by
  obtain ⟨y, hy⟩ := fieldcell hone hlen hg hf ht hc
  obtain ⟨z, hz, _⟩ := DataW.trod_int hi hy
  simp only [List.cons.injEq, and_true] at hz
  exact ⟨z, hz⟩
theorem field_str {ti : TypeId} (hi : P.underlying ti = some .string) (hone : oneCellFields P fs = true) (hlen : xs.length = fs.size)
    (hg : ∀ (i : Nat) (f : Field), fs[i]? = some f → DataW.trod enc P W 0 (fun _ => true) true n f.type ((cs.drop f.offset).take (P.cellsOf f.type)) = xs[i]?) {i : Nat} {f : Field} (hf : fs[i]? = some f) (ht : f.type = ti) {c : Value} (hc : cs[i]? = some c) :
    ∃ s : ByteArray, c = .string s ∧ s.size ≤ maxLen := by
  obtain ⟨y, hy⟩ := fieldcell hone hlen hg hf ht hc
  obtain ⟨s, hz, _, hs⟩ := DataW.trod_string hi hy
  simp only [List.cons.injEq, and_true] at hz
  exact ⟨s, hz, hs⟩
end
theorem array10 {α : Type} {cs : Array α} (h : cs.size = 10) : ∃ c0 c1 c2 c3 c4 c5 c6 c7 c8 c9, cs = #[c0, c1, c2, c3, c4, c5, c6, c7, c8, c9] := by
  obtain ⟨l⟩ := cs
  match l, h with
  | [a, b, c, d, e, f, g, h', i, j], _ => exact ⟨a, b, c, d, e, f, g, h', i, j, rfl⟩
theorem array3 {α : Type} {cs : Array α} (h : cs.size = 3) : ∃ c0 c1 c2, cs = #[c0, c1, c2] := by
  obtain ⟨l⟩ := cs
  match l, h with
  | [a, b, c], _ => exact ⟨a, b, c, rfl⟩
/-- A policy by value. -/
theorem pol_of_trod {H : Type} {enc : TypeId × Value → H} {P : Program} {r : Reach} {base : Nat} {t ts ti : TypeId} {f0 f1 f2 f3 f4 f5 f6 f7 f8 f9 : Field} (hs : P.underlying t = some (.struct #[f0, f1, f2, f3, f4, f5, f6, f7, f8, f9])) (hone : oneCellFields P #[f0, f1, f2, f3, f4, f5, f6, f7, f8, f9] = true) (hC : P.cellsOf t = 10)
    (h0 : f0.type = ts) (h1 : f1.type = ti) (h2 : f2.type = ti) (h3 : f3.type = ti) (h4 : f4.type = ti) (h5 : f5.type = ti) (h6 : f6.type = ti) (h7 : f7.type = ti) (h8 : f8.type = ti) (h9 : f9.type = ti) (hts : P.underlying ts = some .string) (hti : P.underlying ti = some (.int .i64)) {W : World} {v : Value} {d : DataW H} {qs : List MemPlace}
    (hv : Value.okWide P W r base t v) (h : DataW.Trod enc P W 0 (fun _ => true) true t v d qs) : ∃ p : Pol, v = p.v ∧ p.nm.size ≤ maxLen := by
  obtain ⟨cs, rfl, hsz⟩ := okWide_struct hs hv
  obtain ⟨c0, c1, c2, c3, c4, c5, c6, c7, c8, c9, rfl⟩ := array10 (hsz.trans hC)
  obtain ⟨fuel, hf⟩ := h
  obtain ⟨xs, n, _, _, hl, hlen, hg⟩ := DataW.trod_struct hs hf
  obtain ⟨s, rfl, hss⟩ := field_str hts hone hlen hg (i := 0) rfl h0 rfl
  obtain ⟨z1, rfl⟩ := field_int hti hone hlen hg (i := 1) rfl h1 rfl
  obtain ⟨z2, rfl⟩ := field_int hti hone hlen hg (i := 2) rfl h2 rfl
  obtain ⟨z3, rfl⟩ := field_int hti hone hlen hg (i := 3) rfl h3 rfl
  obtain ⟨z4, rfl⟩ := field_int hti hone hlen hg (i := 4) rfl h4 rfl
  obtain ⟨z5, rfl⟩ := field_int hti hone hlen hg (i := 5) rfl h5 rfl
  obtain ⟨z6, rfl⟩ := field_int hti hone hlen hg (i := 6) rfl h6 rfl
  obtain ⟨z7, rfl⟩ := field_int hti hone hlen hg (i := 7) rfl h7 rfl
  obtain ⟨z8, rfl⟩ := field_int hti hone hlen hg (i := 8) rfl h8 rfl
  obtain ⟨z9, rfl⟩ := field_int hti hone hlen hg (i := 9) rfl h9 rfl
  exact ⟨⟨s, z1, z2, z3, z4, z5, z6, z7, z8, z9⟩, rfl, hss⟩
/-- Three bytes by value. -/
theorem by3_of_trod {H : Type} {enc : TypeId × Value → H} {P : Program} {r : Reach} {base : Nat} {t e : TypeId} (hs : P.underlying t = some (.array 3 e)) (hC : P.cellsOf t = 3) (hce : P.cellsOf e = 1) (he : P.underlying e = some (.int .u8)) {W : World} {v : Value} {d : DataW H} {qs : List MemPlace}
    (hv : Value.okWide P W r base t v) (h : DataW.Trod enc P W 0 (fun _ => true) true t v d qs) : ∃ x y z : Int, v = .agg #[.int .u8 x, .int .u8 y, .int .u8 z] ∧ (0 ≤ x ∧ x ≤ 255) ∧ (0 ≤ y ∧ y ≤ 255) ∧ (0 ≤ z ∧ z ≤ 255) := by
  obtain ⟨cs, rfl, hsz⟩ := okWide_array hs hv
  obtain ⟨c0, c1, c2, rfl⟩ := array3 (hsz.trans hC)
  obtain ⟨fuel, hf⟩ := h
  obtain ⟨xs, n, _, _, hl, hlen, hg⟩ := DataW.trod_array hs hf
  have key : ∀ i c, i < 3 → ((Value.agg #[c0, c1, c2]).cells.toList)[i]? = some c → ∃ x : Int, c = .int .u8 x ∧ (0 ≤ x ∧ x ≤ 255) := by
    intro i c hi hc
    have h1 := hg i hi
    have hx : xs[i]? = some (xs[i]'(by omega)) := List.getElem?_eq_getElem (by omega)
    obtain ⟨hl', he'⟩ := List.getElem?_eq_some_iff.1 hc
    rw [hce, Nat.mul_one, List.drop_eq_getElem_cons hl', he', hx] at h1
    obtain ⟨z, hz, _, hw⟩ := DataW.trod_int he h1
    simp only [List.take_succ_cons, List.take_zero, List.cons.injEq, and_true] at hz
    exact ⟨z, hz, u8_bd hw⟩
  obtain ⟨x, rfl, hx⟩ := key 0 c0 (by omega) rfl
  obtain ⟨y, rfl, hy⟩ := key 1 c1 (by omega) rfl
  obtain ⟨z, rfl, hz⟩ := key 2 c2 (by omega) rfl
  exact ⟨x, y, z, rfl, hx, hy, hz⟩
/-- A struct of strings and a string. -/
theorem prinP_of_trod {H : Type} {enc : TypeId × Value → H} {P : Program} {r : Reach} {base : Nat} {t ts te tt : TypeId} {f0 f1 : Field} (hs : P.underlying t = some (.struct #[f0, f1])) (hone : oneCellFields P #[f0, f1] = true) (hC : P.cellsOf t = 2)
    (h0 : f0.type = ts) (h1 : f1.type = tt) (hts : P.underlying ts = some (.slice te)) (hte : P.underlying te = some .string) (hce : P.cellsOf te = 1) (htt : P.underlying tt = some .string) {W : World} {v : Value} {d : DataW H} {qs : List MemPlace}
    (hv : Value.okWide P W r base t v) (h : DataW.Trod enc P W 0 (fun _ => true) true t v d qs) : ∃ (A : Option Addr) (c : Nat) (ps : List ByteArray) (s : ByteArray), v = .agg #[.slice A ps.length c, .string s] ∧ RS W (.slice A ps.length c) (svP ps) := by
  subst h0; subst h1
  obtain ⟨v0, v1, y0, y1, n, rfl, _, _, g0, g1⟩ := Go.Joins.open_agg2 hs hone hC hv h
  obtain ⟨s, hs1, _, _⟩ := DataW.trod_string htt g1
  simp only [List.cons.injEq, and_true] at hs1
  subst hs1
  rcases Go.Deep.open_strs hts hte hce g0 with ⟨hcs, _⟩ | ⟨a, len, cap, m, Sx, hcs, _, hl, hm, hmm, _, hcell⟩
  · simp only [List.cons.injEq, and_true] at hcs
    subst hcs
    exact ⟨none, 0, [], s, rfl, RS.nil W⟩
  · simp only [List.cons.injEq, and_true] at hcs
    subst hcs
    simp only [if_true] at hmm
    have hlen : ((List.range len).map Sx).length = len := by simp
    refine ⟨some a, cap, (List.range len).map Sx, s, by rw [hlen], ?_⟩
    rw [hlen]
    refine ⟨some a, cap, by rw [svP_length, hlen], by rw [svP_length, hlen]; exact hl, hm, fun hp => ⟨a, rfl, ?_, fun j u hu => ?_⟩⟩
    · rw [svP_length, hlen] at hp
      have := World.block_lt_of_cell? W (a.add 0) (hcell 0 (by omega)).1
      rwa [block_of_add] at this
    · have hj : j < len := by
        have := (List.getElem?_eq_some_iff.1 hu).1
        rwa [svP_length, hlen] at this
      rw [(hcell j (by omega)).1]
      rw [svP_get _ j (by rw [hlen]; exact hj)] at hu
      rw [← hu]
      simp
theorem byte_of {x : Int} (h : 0 ≤ x ∧ x ≤ 255) : ∃ c : UInt8, x = (c.toNat : Int) := by
  refine ⟨UInt8.ofNat x.toNat, ?_⟩
  rw [UInt8.toNat_ofNat']
  omega
end Go.Proofs.YtgfjmmdkdhodiaaGreatDoor
