/- Texts laid together (wip/tools/automerge.py): Row, Ds, Row2, AdPure. -/
import Derived.Test.YthpfomjibfbiiaaGreatDoorMg1
import Derived.ProofKit
import Derived.OpenShut
import Derived.ChangeSame
import Derived.Carry
import Derived.Deep.Matrix
import Derived.Test.YthpfomjibfbiiaaGreatDoorMg2
import Derived.Deep.Slices
import Derived.Deep.Fields
import Derived.Lib.SmallJoins
import Derived.Lib.Join
namespace Go.Proofs.YthpfomjibfbiiaaGreatDoor
open Go Go.RowKit Go.WideShapes Go.ChangeShapes

section
variable {H : Type} {enc : TypeId × Value → H} {P : Program}
theorem post_of_below {f : Func} {s : ChangeSpec} {apart fresh handsOn again : Bool} {W W' : World} {args : Array Value} {v : Value} {ds gs : List (DataW H)} {before pa pv : List MemPlace}
    (hW : DataW.Whole enc P f.params.toList s.vars apart W args.toList ds gs before)
    (hres : ∀ (b : Nat) (sp : Nat → Bool) (hd : Bool), DataW.TrodAll enc P W' b sp hd f.resultTypes.toList (v.resultList f.resultTypes.size) (s.fn H (ds ++ gs)).results [])
    (hargs : ∀ sp : Nat → Bool, (∀ p ∈ before, sp p.block = true) → DataW.TrodAll enc P W' 0 sp true f.params.toList args.toList (s.fn H (ds ++ gs)).args pa)
    (hvars : ∀ sp : Nat → Bool, (∀ p ∈ before, sp p.block = true) → DataW.TrodVars enc P W' sp s.vars (s.fn H (ds ++ gs)).vars pv)
    (hps : before = pa ++ pv) (hb : Below W.heap.size W W')
    (hok : ∀ (j : Nat) (t : TypeId) (r : Value), f.resultTypes[j]? = some t → (v.resultList f.resultTypes.size)[j]? = some r → Value.okWide P W' .any 0 t r) :
    s.post enc P f apart fresh handsOn again W args v W' := by
  have hlt : ∀ p ∈ before, p.block < W.heap.size := fun p hp => hW.lt p hp
  have hold : ∀ p ∈ before, (fun b => decide (b < W.heap.size)) p.block = true := fun p hp => by simpa using hlt p hp
  refine ⟨ds, gs, before, [], pa, pv, hW, hres _ _ _, hargs _ hold, hvars _ hold, World.keptBut_mono (fun p hp => ⟨hp, ?_⟩) (hb.frame (· ∈ before)), fun _ => ?_⟩
  · rw [hps, List.mem_append] at hp
    exact Or.inr hp
  · obtain ⟨_, _, _, _, _, hz, hn⟩ := hW
    refine ⟨hok, _, _, ([] ++ pa) ++ pv, ⟨[] ++ pa, pv, trodAll_append (hargs _ (fun _ _ => rfl)) (hres _ _ _), hvars _ (fun _ _ => rfl), rfl, ?_, ?_⟩, ?_⟩
    · intro b off hp
      have hin : MemPlace.cell b off ∈ before := by rw [hps]; simpa using hp
      rw [hb.frozen (hlt _ hin)]
      exact hz b off hin
    · intro ha
      have := hn ha
      rw [hps] at this
      simpa using this
    · intro p hp _
      rw [hps]
      simpa using hp

/-- An argument reads as it did. -/
theorem trod_stays {t : TypeId} (hl : laidOutB P = true) (hr : P.readableRec t = true) (hrow : t < P.types.size) {W W' : World} {v : Value} {d : DataW H} {ps : List MemPlace}
    (h : DataW.Trod enc P W 0 (fun _ => true) true t v d ps) (hb : Ext W W') (hlt : ∀ x ∈ ps, x.block < W.heap.size) (sp : Nat → Bool) (hsp : ∀ p ∈ ps, sp p.block = true) :
    DataW.Trod enc P W' 0 sp true t v d ps :=
  WideElems.Trod_stays hl hr hrow h (fun x hx => Below.same hb (hlt x hx)) hsp

/-- A []byte that came in. -/
theorem bs_of_trod {t e : TypeId} {r : Reach} {base : Nat} (ht : P.underlying t = some (.slice e)) (he : P.underlying e = some (.int .u8)) (hc : P.cellsOf e = 1) {W : World} {v : Value} {d : DataW H} {ps : List MemPlace}
    (hv : Value.okWide P W r base t v) (h : DataW.Trod enc P W 0 (fun _ => true) true t v d ps) : ∃ A c l, v = .slice A l.length c ∧ BS W (.slice A l.length c) l := by
  obtain ⟨a0, len, cap, rfl⟩ := okWide_slice ht hv
  obtain ⟨fuel, hf⟩ := h
  rcases open_ints ht he hc hf with ⟨hcs, _⟩ | ⟨a, len', cap', zs, hcs, _, hl, hm, hz, _, hcell, hwf⟩
  · simp only [Value.cells, List.cons.injEq, and_true, Value.slice.injEq] at hcs
    obtain ⟨rfl, rfl, rfl⟩ := hcs
    exact ⟨none, 0, [], rfl, BS.nil W⟩
  · simp only [Value.cells, List.cons.injEq, and_true, Value.slice.injEq] at hcs
    obtain ⟨rfl, rfl, rfl⟩ := hcs
    simp only [if_true] at hz
    have hlen : ((zs.take len).map fun z => UInt8.ofNat z.toNat).length = len := by simp; omega
    refine ⟨some a, cap, (zs.take len).map fun z => UInt8.ofNat z.toNat, by rw [hlen], ?_⟩
    rw [hlen]
    refine ⟨some a, cap, by rw [bv_length, hlen], by rw [bv_length, hlen]; exact hl, hm, fun hp => ⟨a, rfl, ?_, fun j u hu => ?_⟩⟩
    · simp only [bv_length, hlen] at hp
      have := World.block_lt_of_cell? W (a.add 0) (hcell 0 (by omega))
      rwa [block_of_add] at this
    · have hj : j < len := by
        have := (List.getElem?_eq_some_iff.1 hu).1
        rwa [bv_length, hlen] at this
      rw [hcell j (by omega)]
      rw [bv_get _ j (by rw [hlen]; exact hj)] at hu
      rw [← hu]
      have hmem : zs.getD j 0 ∈ zs := by
        rw [List.getD_eq_getElem?_getD, List.getElem?_eq_getElem (by omega)]
        exact List.getElem_mem _
      have hw := hwf _ hmem
      simp only [Lit.wf, IntKind.min, IntKind.max, IntKind.signed, IntKind.bits, Bool.and_eq_true] at hw
      simp only [List.getElem_map, List.getElem_take, UInt8.toNat_ofNat', Option.some.injEq, Value.int.injEq, true_and]
      rw [List.getD_eq_getElem?_getD, List.getElem?_eq_getElem (by omega)] at hw ⊢
      simp only [Option.getD_some] at hw ⊢
      simp at hw
      omega

/-- A [][]byte that came in. -/
theorem bss_of_trod {t e q : TypeId} {r : Reach} {base : Nat} (ht : P.underlying t = some (.slice e)) (he : P.underlying e = some (.slice q)) (hq : P.underlying q = some (.int .u8)) (ce : P.cellsOf e = 1) (cq : P.cellsOf q = 1) {W : World} {v : Value} {d : DataW H} {ps : List MemPlace}
    (hv : Value.okWide P W r base t v) (h : DataW.Trod enc P W 0 (fun _ => true) true t v d ps) : ∃ A c ls, v = .slice A (ls : List (List UInt8)).length c ∧ BSS W (.slice A ls.length c) ls := by
  obtain ⟨a0, len, cap, rfl⟩ := okWide_slice ht hv
  obtain ⟨fuel, hf⟩ := h
  rcases Go.Deep.open_int_rows ht he hq ce cq hf with ⟨hcs, _⟩ | ⟨a, len', cap', A, L, C, Z, hcs, _, hl, hm, _, hrow⟩
  · simp only [Value.cells, List.cons.injEq, and_true, Value.slice.injEq] at hcs
    obtain ⟨rfl, rfl, rfl⟩ := hcs
    exact ⟨none, 0, [], rfl, [], RS.nil W, rfl, fun i hi => absurd hi (by simp)⟩
  · simp only [Value.cells, List.cons.injEq, and_true, Value.slice.injEq] at hcs
    obtain ⟨rfl, rfl, rfl⟩ := hcs
    let row : Nat → List UInt8 := fun i => ((Z i).take (L i)).map fun z => UInt8.ofNat z.toNat
    have hrl : ∀ i, i < cap → (row i).length = L i := by
      intro i hi
      obtain ⟨_, h1, _, h2, _⟩ := hrow i hi
      simp [row]; omega
    refine ⟨some a, cap, (List.range len).map row, by simp, (List.range len).map fun i => .slice (A i) (L i) (C i), ?_, by simp, ?_⟩
    · refine ⟨some a, cap, by simp, by simpa using hl, hm, fun hp => ⟨a, rfl, ?_, fun j u hu => ?_⟩⟩
      · have h0 : 0 < len := by simpa using hp
        have := World.block_lt_of_cell? W (a.add 0) (hrow 0 (by omega)).1
        rwa [block_of_add] at this
      · have hj : j < len := by
          have := (List.getElem?_eq_some_iff.1 hu).1
          simpa using this
        rw [(hrow j (by omega)).1]
        simp [hj] at hu
        rw [← hu]
    · intro i hi hi'
      simp only [List.length_map, List.length_range] at hi
      simp only [List.getElem_map, List.getElem_range]
      obtain ⟨_, h1, h2, h3, h4, h5, h6⟩ := hrow i (by omega)
      have hr := hrl i (by omega)
      refine ⟨A i, C i, by rw [bv_length, hr], by rw [bv_length, hr]; exact h1, h2, fun hp => ?_⟩
      simp only [bv_length, hr] at hp
      cases hA : A i with
      | none => exact absurd (h5 hA) (by omega)
      | some a' =>
        obtain ⟨_, h7⟩ := h6 a' hA
        refine ⟨a', rfl, ?_, fun j u hu => ?_⟩
        · have := World.block_lt_of_cell? W (a'.add 0) (h7 0 (by omega))
          rwa [block_of_add] at this
        · have hj : j < L i := by
            have := (List.getElem?_eq_some_iff.1 hu).1
            rwa [bv_length, hr] at this
          rw [h7 j (by omega)]
          rw [bv_get _ j (by rw [hr]; exact hj)] at hu
          rw [← hu]
          have hmem : (Z i).getD j 0 ∈ Z i := by
            rw [List.getD_eq_getElem?_getD, List.getElem?_eq_getElem (by omega)]
            exact List.getElem_mem _
          have hw := h4 _ hmem
          simp only [Lit.wf, IntKind.min, IntKind.max, IntKind.signed, IntKind.bits, Bool.and_eq_true] at hw
          simp only [row, List.getElem_map, List.getElem_take, UInt8.toNat_ofNat', Option.some.injEq, Value.int.injEq, true_and]
          rw [List.getD_eq_getElem?_getD, List.getElem?_eq_getElem (by omega)] at hw ⊢
          simp only [Option.getD_some] at hw ⊢
          simp at hw
          omega
end
theorem u32_bd {f : Int} (h : (Lit.int .u32 f).wf = true) : 0 ≤ f ∧ f ≤ 4294967295 := by
  simp only [Lit.wf, IntKind.min, IntKind.max, IntKind.signed, IntKind.bits, Bool.and_eq_true] at h
  simp at h; omega
theorem u8_bd {f : Int} (h : (Lit.int .u8 f).wf = true) : 0 ≤ f ∧ f ≤ 255 := by
  simp only [Lit.wf, IntKind.min, IntKind.max, IntKind.signed, IntKind.bits, Bool.and_eq_true] at h
  simp at h; omega
theorem i64_bd {f : Int} (h : (Lit.int .i64 f).wf = true) : -9223372036854775808 ≤ f ∧ f ≤ 9223372036854775807 := by
  simp only [Lit.wf, IntKind.min, IntKind.max, IntKind.signed, IntKind.bits, Bool.and_eq_true, decide_eq_true_eq] at h
  simp at h; omega
end Go.Proofs.YthpfomjibfbiiaaGreatDoor
namespace Go.Proofs.YthpfomjibfbiiaaGreatDoor
open Go Go.RowKit
theorem cell_add1 (w : World) (a : Addr) : w.cell? ⟨a.block, a.off + 1, none⟩ = w.cell? (a.add 1) := by
  unfold Addr.add
  rw [if_neg (by decide)]
/-- A slice of api.Data. -/
def DS (w : World) (v : Value) (xs : List (Int × List UInt8)) : Prop :=
  ∃ A c, v = .slice A xs.length c ∧ xs.length ≤ c ∧ c ≤ maxLen ∧ ∀ i (h : i < xs.length), ∃ ad B d, A = some ad ∧
    w.cell? (ad.add (i * 2)) = some (.int .i64 xs[i].1) ∧ w.cell? (ad.add (i * 2 + 1)) = some (.slice B xs[i].2.length d) ∧ BS w (.slice B xs[i].2.length d) xs[i].2
theorem DS.ext {w w' : World} {v : Value} {xs : List (Int × List UInt8)} (h : DS w v xs) (hx : Ext w w') : DS w' v xs := by
  obtain ⟨A, c, h1, h2, h3, h4⟩ := h
  refine ⟨A, c, h1, h2, h3, fun i hi => ?_⟩
  obtain ⟨ad, B, d, e1, e2, e3, e4⟩ := h4 i hi
  exact ⟨ad, B, d, e1, hx.cell e2, hx.cell e3, e4.ext hx⟩
end Go.Proofs.YthpfomjibfbiiaaGreatDoor
namespace Go.Proofs.YthpfomjibfbiiaaGreatDoor
open Go Go.RowKit Go.WideShapes Go.ChangeShapes Go.Deep

/-- A []byte in a field. -/
theorem bs_of_field {H : Type} {enc : TypeId × Value → H} {P : Program} {t e : TypeId} (ht : P.underlying t = some (.slice e)) (he : P.underlying e = some (.int .u8)) (hc : P.cellsOf e = 1) {W : World} {v : Value} {n : Nat} {y : DataW H × List MemPlace}
    (hf : DataW.trod enc P W 0 (fun _ => true) true n t [v] = some y) : ∃ A c l, v = .slice A (l : List UInt8).length c ∧ BS W (.slice A l.length c) l := by
  rcases open_ints ht he hc hf with ⟨hcs, _⟩ | ⟨a, len, cap, zs, hcs, _, hl, hm, hz, _, hcell, hwf⟩
  · simp only [List.cons.injEq, and_true] at hcs
    subst hcs
    exact ⟨none, 0, [], rfl, BS.nil W⟩
  · simp only [List.cons.injEq, and_true] at hcs
    subst hcs
    simp only [if_true] at hz
    have hlen : ((zs.take len).map fun z => UInt8.ofNat z.toNat).length = len := by simp; omega
    refine ⟨some a, cap, (zs.take len).map fun z => UInt8.ofNat z.toNat, by rw [hlen], ?_⟩
    rw [hlen]
    refine ⟨some a, cap, by rw [bv_length, hlen], by rw [bv_length, hlen]; exact hl, hm, fun hp => ⟨a, rfl, ?_, fun j u hu => ?_⟩⟩
    · simp only [bv_length, hlen] at hp
      have := World.block_lt_of_cell? W (a.add 0) (hcell 0 (by omega))
      rwa [block_of_add] at this
    · have hj : j < len := by
        have := (List.getElem?_eq_some_iff.1 hu).1
        rwa [bv_length, hlen] at this
      rw [hcell j (by omega)]
      rw [bv_get _ j (by rw [hlen]; exact hj)] at hu
      rw [← hu]
      have hmem : zs.getD j 0 ∈ zs := by
        rw [List.getD_eq_getElem?_getD, List.getElem?_eq_getElem (by omega)]
        exact List.getElem_mem _
      have hw := hwf _ hmem
      simp only [Lit.wf, IntKind.min, IntKind.max, IntKind.signed, IntKind.bits, Bool.and_eq_true] at hw
      simp only [List.getElem_map, List.getElem_take, UInt8.toNat_ofNat', Option.some.injEq, Value.int.injEq, true_and]
      rw [List.getD_eq_getElem?_getD, List.getElem?_eq_getElem (by omega)] at hw ⊢
      simp only [Option.getD_some] at hw ⊢
      simp at hw
      omega

/-- A struct of two integers and bytes. -/
theorem triple_of_trod {H : Type} {enc : TypeId × Value → H} {P : Program} {r : Reach} {base : Nat} {t ti tb e : TypeId} {f0 f1 f2 : Field} (hs : P.underlying t = some (.struct #[f0, f1, f2])) (hone : oneCellFields P #[f0, f1, f2] = true) (hC : P.cellsOf t = 3)
    (h0 : f0.type = ti) (h1 : f1.type = ti) (h2 : f2.type = tb) (hi : P.underlying ti = some (.int .i64)) (hb : P.underlying tb = some (.slice e)) (he : P.underlying e = some (.int .u8)) (hc : P.cellsOf e = 1) {W : World} {v : Value} {d : DataW H} {ps : List MemPlace}
    (hv : Value.okWide P W r base t v) (h : DataW.Trod enc P W 0 (fun _ => true) true t v d ps) : ∃ (p q : Int) (A : Option Addr) (c : Nat) (l : List UInt8), v = .agg #[.int .i64 p, .int .i64 q, .slice A l.length c] ∧ BS W (.slice A l.length c) l := by
  subst h0; subst h2
  obtain ⟨v0, v1, v2, y0, y1, y2, n, rfl, _, _, g0, g1, g2⟩ := Go.Joins.open_agg3 hs hone hC hv h
  obtain ⟨p, hp, _⟩ := DataW.trod_int hi g0
  rw [h1] at g1
  obtain ⟨q, hq, _⟩ := DataW.trod_int hi g1
  obtain ⟨A, c, l, rfl, hl⟩ := bs_of_field hb he hc g2
  simp only [List.cons.injEq, and_true] at hp hq
  subst hp; subst hq
  exact ⟨p, q, A, c, l, rfl, hl⟩

section
open Go.Deep
variable {H : Type} {enc : TypeId × Value → H} {P : Program} {w : World} {base : Nat} {spare : Nat → Bool} {held : Bool}
theorem open_slice_fields {t e : TypeId} {fs : Array Field} {fuel : Nat} {cs : List Value} {x : DataW H × List MemPlace} (ht : P.underlying t = some (.slice e)) (he : P.underlying e = some (.struct fs))
    (hone : oneCellFields P fs = true) (hC : P.cellsOf e = fs.size) (h : DataW.trod enc P w base spare held fuel t cs = some x) :
    (cs = [.slice none 0 0] ∧ x = (.nil, [])) ∨
    ∃ (a : Addr) (len cap m : Nat) (D : Nat → DataW H) (Pl : Nat → List MemPlace), cs = [.slice (some a) len cap] ∧ base ≤ a.block ∧ len ≤ cap ∧ cap ≤ maxLen ∧ m = (if spare a.block then cap else len) ∧
      x = (.slice ((List.range len).map D) ((List.range (m - len)).map fun j => D (len + j)), MemPlace.row a (m * fs.size) ++ (List.range m).flatMap Pl) ∧
      ∀ i, i < m → ∃ (ys : List (DataW H × List MemPlace)) (n : Nat), D i = .agg (ys.map (·.1)) ∧ Pl i = ys.flatMap (·.2) ∧ ys.length = fs.size ∧
        ∀ (j : Nat) (f : Field), fs[j]? = some f → ∃ (v : Value) (y : DataW H × List MemPlace), w.cell? (a.add (i * fs.size + j)) = some v ∧ ys[j]? = some y ∧ DataW.trod enc P w base spare held n f.type [v] = some y := by
  rcases open_slice ht h with h0 | ⟨a, len, cap, m, n, D, Pl, hcs, hb, hl, hm, hmm, hx, hi⟩
  · exact .inl h0
  · refine .inr ⟨a, len, cap, m, D, Pl, hcs, hb, hl, hm, hmm, by rw [hC] at hx; exact hx, fun i him => ?_⟩
    obtain ⟨cs', hc, ht'⟩ := hi i him
    rw [hC] at hc
    obtain ⟨ys, n', hn', hy, hlen, hyl, hf⟩ := DataW.trod_struct he ht'
    obtain ⟨_, hcl, hat⟩ := World.cells?_some hc
    simp only [Prod.mk.injEq] at hy
    refine ⟨ys, n', hy.1, hy.2, hyl, fun j f hj => ?_⟩
    obtain ⟨ho, hk⟩ := hone_of hone j f hj
    have hjl : j < fs.size := (Array.getElem?_eq_some_iff.1 hj).1
    have hcell := hat j hjl
    have hv : cs'[j]? = some (cs'[j]'(by omega)) := List.getElem?_eq_getElem (by omega)
    have h1 := hf j f hj
    rw [ho, hk] at h1
    have hone' : (cs'.drop j).take 1 = [cs'[j]'(by omega)] := by
      rw [List.drop_eq_getElem_cons (by omega)]
      rfl
    rw [hone'] at h1
    have hys : ys[j]? = some (ys[j]'(by omega)) := List.getElem?_eq_getElem (by omega)
    refine ⟨_, _, ?_, hys, h1.trans hys⟩
    rw [← Go.Deep.add_add, hcell, hv]
end

/-- A slice of structs of an integer and bytes. -/
theorem ds_of_trod {H : Type} {enc : TypeId × Value → H} {P : Program} {r : Reach} {base : Nat} {t s ti tb e : TypeId} {f0 f1 : Field} (ht : P.underlying t = some (.slice s)) (hs : P.underlying s = some (.struct #[f0, f1])) (hone : oneCellFields P #[f0, f1] = true) (hC : P.cellsOf s = 2)
    (h0 : f0.type = ti) (h1 : f1.type = tb) (hi : P.underlying ti = some (.int .i64)) (hb : P.underlying tb = some (.slice e)) (he : P.underlying e = some (.int .u8)) (hc : P.cellsOf e = 1) {W : World} {v : Value} {d : DataW H} {ps : List MemPlace}
    (hv : Value.okWide P W r base t v) (h : DataW.Trod enc P W 0 (fun _ => true) true t v d ps) : ∃ (A : Option Addr) (c : Nat) (xs : List (Int × List UInt8)), v = .slice A xs.length c ∧ DS W (.slice A xs.length c) xs := by
  subst h0; subst h1
  obtain ⟨a0, len, cap, rfl⟩ := okWide_slice ht hv
  obtain ⟨fuel, hf⟩ := h
  rcases open_slice_fields ht hs hone hC hf with ⟨hcs, _⟩ | ⟨a, len', cap', m, D, Pl, hcs, _, hl, hm, hmm, _, hrow⟩
  · simp only [Value.cells, List.cons.injEq, and_true, Value.slice.injEq] at hcs
    obtain ⟨rfl, rfl, rfl⟩ := hcs
    exact ⟨none, 0, [], rfl, none, 0, rfl, Nat.le_refl _, Nat.zero_le _, fun i hi => absurd hi (by simp)⟩
  · simp only [Value.cells, List.cons.injEq, and_true, Value.slice.injEq] at hcs
    obtain ⟨rfl, rfl, rfl⟩ := hcs
    simp only [if_true] at hmm
    have key : ∀ i, i < len → ∃ x : Int × List UInt8, ∃ B d, W.cell? (a.add (i * 2)) = some (.int .i64 x.1) ∧ W.cell? (a.add (i * 2 + 1)) = some (.slice B x.2.length d) ∧ BS W (.slice B x.2.length d) x.2 := by
      intro i hi'
      obtain ⟨ys, n, _, _, _, hfs⟩ := hrow i (by omega)
      obtain ⟨v0, y0, hc0, _, g0⟩ := hfs 0 f0 rfl
      obtain ⟨v1, y1, hc1, _, g1⟩ := hfs 1 f1 rfl
      obtain ⟨p, hp, _⟩ := DataW.trod_int hi g0
      obtain ⟨A, c, l, rfl, hl⟩ := bs_of_field hb he hc g1
      simp only [List.cons.injEq, and_true] at hp
      subst hp
      exact ⟨(p, l), A, c, hc0, hc1, hl⟩
    have key2 : ∃ f : Nat → Int × List UInt8, ∀ i, i < len → ∃ B d, W.cell? (a.add (i * 2)) = some (.int .i64 (f i).1) ∧ W.cell? (a.add (i * 2 + 1)) = some (.slice B (f i).2.length d) ∧ BS W (.slice B (f i).2.length d) (f i).2 :=
      ⟨fun i => if hi' : i < len then Classical.choose (key i hi') else (0, []), fun i hi' => by
        have := Classical.choose_spec (key i hi')
        simpa only [dif_pos hi'] using this⟩
    obtain ⟨f, hf⟩ := key2
    refine ⟨some a, cap, (List.range len).map f, by simp, some a, cap, rfl, by simpa using hl, hm, fun i hi' => ?_⟩
    have hi2 : i < len := by simpa using hi'
    obtain ⟨B, d, e1, e2, e3⟩ := hf i hi2
    have e : ((List.range len).map f)[i] = f i := by simp
    rw [e]
    exact ⟨a, B, d, rfl, e1, e2, e3⟩
end Go.Proofs.YthpfomjibfbiiaaGreatDoor
namespace Go.Proofs.YthpfomjibfbiiaaGreatDoor
open Go.Lib
set_option linter.unusedVariables false

/-- A hexadecimal digit. -/
def hxc (d : Nat) : UInt8 := if d < 10 then UInt8.ofNat (48 + d) else UInt8.ofNat (87 + d)
/-- The hexadecimal digits of a number, no zero ahead. -/
def hexD (n : Nat) : List UInt8 := if h : n < 16 then [hxc n] else hexD (n / 16) ++ [hxc (n % 16)]
termination_by n
decreasing_by omega
/-- The value of a hexadecimal digit; the small letters alone, or all. -/
def hxv (c : UInt8) : Option Nat := if 48 ≤ c.toNat ∧ c.toNat ≤ 57 then some (c.toNat - 48) else if 97 ≤ c.toNat ∧ c.toNat ≤ 102 then some (c.toNat - 87) else if 65 ≤ c.toNat ∧ c.toNat ≤ 70 then some (c.toNat - 55) else none
/-- What ParseUint finds at base 16 and 16 bits, behind acc. -/
def pu16 (acc : Nat) : List UInt8 → Option Nat
  | [] => some acc
  | c :: r => match hxv c with
    | none => none
    | some d => if 65535 < acc * 16 + d then none else pu16 (acc * 16 + d) r
def pu16w (l : List UInt8) : Option Nat := if l = [] then none else pu16 0 l
/-- The same at base 10 and 8 bits. -/
def pu8 (acc : Nat) : List UInt8 → Option Nat
  | [] => some acc
  | c :: r => if 48 ≤ c.toNat ∧ c.toNat ≤ 57 then (if 255 < acc * 10 + (c.toNat - 48) then none else pu8 (acc * 10 + (c.toNat - 48)) r) else none
def pu8w (l : List UInt8) : Option Nat := if l = [] then none else pu8 0 l

theorem hxc_lt (d : Nat) (h : d < 16) : (hxc d).toNat = if d < 10 then 48 + d else 87 + d := by
  unfold hxc; split <;> simp [UInt8.toNat_ofNat'] <;> omega
theorem hxv_hxc (d : Nat) (h : d < 16) : hxv (hxc d) = some d := by
  have e := hxc_lt d h
  unfold hxv
  rw [e]
  split at e
  · next hd => rw [if_pos hd, if_pos (by omega)]; congr 1; omega
  · next hd => rw [if_neg hd, if_neg (by omega), if_pos (by omega)]; congr 1; omega
theorem hexD_lo {n : Nat} (h : n < 16) : hexD n = [hxc n] := by rw [hexD, dif_pos h]
theorem hexD_hi {n : Nat} (h : ¬ n < 16) : hexD n = hexD (n / 16) ++ [hxc (n % 16)] := by rw [hexD, dif_neg h]
theorem hexD_ne (n : Nat) : hexD n ≠ [] := by
  by_cases h : n < 16
  · rw [hexD_lo h]; simp
  · rw [hexD_hi h]; simp
theorem hexD_dig (n : Nat) : ∀ c ∈ hexD n, (48 ≤ c.toNat ∧ c.toNat ≤ 57) ∨ (97 ≤ c.toNat ∧ c.toNat ≤ 102) := by
  induction n using Nat.strongRecOn with
  | _ n ih =>
    intro c hc
    by_cases h : n < 16
    · rw [hexD_lo h] at hc
      simp only [List.mem_singleton] at hc
      subst hc
      rw [hxc_lt n h]; split <;> omega
    · rw [hexD_hi h] at hc
      rcases List.mem_append.1 hc with hc | hc
      · exact ih (n / 16) (by omega) c hc
      · simp only [List.mem_singleton] at hc
        subst hc
        rw [hxc_lt _ (by omega)]; split <;> omega
theorem hexD_no (n : Nat) (x : UInt8) (hx : x.toNat < 48 ∨ (57 < x.toNat ∧ x.toNat < 97) ∨ 102 < x.toNat) : x ∉ hexD n := fun h => by
  have := hexD_dig n x h; omega
theorem hexD_len (n : Nat) (h : n < 65536) : (hexD n).length ≤ 4 := by
  by_cases h1 : n < 16
  · rw [hexD_lo h1]; simp
  · rw [hexD_hi h1]
    by_cases h2 : n / 16 < 16
    · rw [hexD_lo h2]; simp
    · rw [hexD_hi h2]
      by_cases h3 : n / 16 / 16 < 16
      · rw [hexD_lo h3]; simp
      · rw [hexD_hi h3, hexD_lo (by omega)]; simp
theorem pu16_hex (n : Nat) (h : n < 65536) (r : List UInt8) : pu16 0 (hexD n ++ r) = pu16 n r := by
  induction n using Nat.strongRecOn generalizing r with
  | _ n ih =>
    by_cases h16 : n < 16
    · rw [hexD_lo h16, List.singleton_append, pu16, hxv_hxc n h16]
      simp only
      rw [if_neg (by omega)]
      congr 1; omega
    · rw [hexD_hi h16, List.append_assoc, ih (n / 16) (by omega) (by omega), List.singleton_append, pu16, hxv_hxc _ (by omega)]
      simp only
      rw [if_neg (by omega)]
      congr 1; omega
theorem pu16w_hex (n : Nat) (h : n < 65536) : pu16w (hexD n) = some n := by
  have := pu16_hex n h []
  rw [List.append_nil] at this
  unfold pu16w
  rw [if_neg (hexD_ne n), this]; rfl
theorem pu16_le : ∀ (l : List UInt8) (acc v : Nat), acc ≤ 65535 → pu16 acc l = some v → v ≤ 65535
  | [], acc, v, ha, h => by simp only [pu16, Option.some.injEq] at h; omega
  | c :: r, acc, v, ha, h => by
    rw [pu16] at h
    cases hc : hxv c with
    | none => rw [hc] at h; cases h
    | some d =>
      rw [hc] at h
      simp only at h
      split at h
      · cases h
      · exact pu16_le r _ v (by omega) h
theorem pu16w_le {l : List UInt8} {v : Nat} (h : pu16w l = some v) : v ≤ 65535 := by
  unfold pu16w at h
  split at h
  · cases h
  · exact pu16_le _ _ _ (by omega) h
theorem pu8_dec (n : Nat) (h : n < 256) (r : List UInt8) : pu8 0 (decDigits n ++ r) = pu8 n r := by
  induction n using Nat.strongRecOn generalizing r with
  | _ n ih =>
    by_cases h10 : n < 10
    · rw [dec_lo n h10, List.singleton_append, pu8, u8_dig n h10, if_pos (by omega), if_neg (by omega)]
      congr 1; omega
    · rw [dec_hi n h10, List.append_assoc, ih (n / 10) (by omega) (by omega), List.singleton_append, pu8, u8_dig _ (by omega), if_pos (by omega), if_neg (by omega)]
      congr 1; omega
theorem pu8w_dec (n : Nat) (h : n < 256) : pu8w (decDigits n) = some n := by
  have := pu8_dec n h []
  rw [List.append_nil] at this
  unfold pu8w
  rw [if_neg (dec_ne n), this]; rfl
theorem pu8_le : ∀ (l : List UInt8) (acc v : Nat), acc ≤ 255 → pu8 acc l = some v → v ≤ 255
  | [], acc, v, ha, h => by simp only [pu8, Option.some.injEq] at h; omega
  | c :: r, acc, v, ha, h => by
    rw [pu8] at h
    split at h
    · split at h
      · cases h
      · exact pu8_le r _ v (by omega) h
    · cases h
theorem pu8w_le {l : List UInt8} {v : Nat} (h : pu8w l = some v) : v ≤ 255 := by
  unfold pu8w at h
  split at h
  · cases h
  · exact pu8_le _ _ _ (by omega) h

/-! The string of an address. -/
/-- A visible byte. -/
def visB (c : UInt8) : Bool := decide (33 ≤ c.toNat ∧ c.toNat ≤ 126)
/-- Validity. -/
def okA (k : Int) (b : List UInt8) : Bool :=
  if k = 2 then b.length == 4 else if k = 24 then b.length == 16 else if k = 20 then (decide (1 ≤ b.length ∧ b.length ≤ 16) && b.all visB) else false
/-- The words of bytes. -/
def wds : List UInt8 → List Nat
  | a :: b :: r => (256 * a.toNat + b.toNat) :: wds r
  | _ => []
/-- How many zeros a list begins with. -/
def zrs : List Nat → Nat
  | 0 :: r => zrs r + 1
  | _ => 0
/-- The longest row of zeros, the first one: where it begins, its length; i is where the list begins. -/
def bst (i : Nat) (l : List Nat) (bg ln : Nat) : Nat × Nat := match l with
  | [] => (bg, ln)
  | x :: r => if ln < zrs (x :: r) then bst (i + 1) r i (zrs (x :: r)) else bst (i + 1) r bg ln
def hjoin (l : List Nat) : List UInt8 := join (l.map hexD) [58]
def txt6w (g : List Nat) (bg ln : Nat) : List UInt8 :=
  if ln < 2 then [91] ++ (hjoin g ++ [93]) else [91] ++ (hjoin (g.take bg) ++ ([58, 58] ++ (hjoin (g.drop (bg + ln)) ++ [93])))
def txt6 (b : List UInt8) : List UInt8 := txt6w (wds b) (bst 0 (wds b) 0 0).1 (bst 0 (wds b) 0 0).2
def txt4 (b : List UInt8) : List UInt8 := join (b.map fun c => decDigits c.toNat) [46]
def txtH (b : List UInt8) : List UInt8 := [104, 111, 115, 116, 47] ++ b
/-- The string of a valid address. -/
def txtA (k : Int) (b : List UInt8) : List UInt8 := if k = 2 then txt4 b else if k = 24 then txt6 b else txtH b
end Go.Proofs.YthpfomjibfbiiaaGreatDoor
