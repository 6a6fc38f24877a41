/- Texts laid together (wip/tools/automerge.py): Row2, AdPure, AdHex. -/
import Derived.Test.YthpfomjibfbiiaaGreatDoorMg3
import Derived.Deep.Slices
import Derived.Deep.Fields
import Derived.Lib.SmallJoins
import Derived.Test.YthpfomjibfbiiaaGreatDoorMg2
import Derived.Lib.Join
import Derived.Test.YthpfomjibfbiiaaGreatDoorProg
import Derived.Test.YthpfomjibfbiiaaGreatDoorMg0
import Derived.Lib.Hide
import Derived.Handy
import Derived.Laws.IdiomStrings
import Derived.Laws.Slices
import Derived.Deep.Cut
namespace Go.Proofs.YthpfomjibfbiiaaGreatDoor
open Go Go.RowKit Go.WideShapes Go.ChangeShapes Go.Deep

/-- A []byte in a field. -/
theorem bs_of_field {H : Type} {enc : TypeId × Value → H} {P : Program} {t e : TypeId} (ht : P.underlying t = some (.slice e)) (he : P.underlying e = some (.int .u8)) (hc : P.cellsOf e = 1) {W : World} {v : Value} {n : Nat} {y : DataW H × List MemPlace}
    (hf : DataW.trod enc P W 0 (fun _ => true) true n t [v] = some y) : ∃ A c l, v = .slice A (l : List UInt8).length c ∧ BS W (.slice A l.length c) l := by
  rcases open_ints ht he hc hf with ⟨hcs, _⟩ | ⟨a, len, cap, zs, hcs, _, hl, hm, hz, _, hcell, hwf⟩
  · simp only [List.cons.injEq, and_true] at hcs
    subst hcs
    exact ⟨none, 0, [], rfl, BS.nil W⟩
  · simp only [List.cons.injEq, and_true] at hcs
    subst hcs
    simp only [if_true] at hz
    have hlen : ((zs.take len).map fun z => UInt8.ofNat z.toNat).length = len := by simp; omega
    refine ⟨some a, cap, (zs.take len).map fun z => UInt8.ofNat z.toNat, by rw [hlen], ?_⟩
    rw [hlen]
    refine ⟨some a, cap, by rw [bv_length, hlen], by rw [bv_length, hlen]; exact hl, hm, fun hp => ⟨a, rfl, ?_, fun j u hu => ?_⟩⟩
    · simp only [bv_length, hlen] at hp
      have := World.block_lt_of_cell? W (a.add 0) (hcell 0 (by omega))
      rwa [block_of_add] at this
    · have hj : j < len := by
        have := (List.getElem?_eq_some_iff.1 hu).1
        rwa [bv_length, hlen] at this
      rw [hcell j (by omega)]
      rw [bv_get _ j (by rw [hlen]; exact hj)] at hu
      rw [← hu]
      have hmem : zs.getD j 0 ∈ zs := by
        rw [List.getD_eq_getElem?_getD, List.getElem?_eq_getElem (by omega)]
        exact List.getElem_mem _
      have hw := hwf _ hmem
      simp only [Lit.wf, IntKind.min, IntKind.max, IntKind.signed, IntKind.bits, Bool.and_eq_true] at hw
      simp only [List.getElem_map, List.getElem_take, UInt8.toNat_ofNat', Option.some.injEq, Value.int.injEq, true_and]
      rw [List.getD_eq_getElem?_getD, List.getElem?_eq_getElem (by omega)] at hw ⊢
      simp only [Option.getD_some] at hw ⊢
      simp at hw
      omega

/-- A struct of two integers and bytes. -/
theorem triple_of_trod {H : Type} {enc : TypeId × Value → H} {P : Program} {r : Reach} {base : Nat} {t ti tb e : TypeId} {f0 f1 f2 : Field} (hs : P.underlying t = some (.struct #[f0, f1, f2])) (hone : oneCellFields P #[f0, f1, f2] = true) (hC : P.cellsOf t = 3)
    (h0 : f0.type = ti) (h1 : f1.type = ti) (h2 : f2.type = tb) (hi : P.underlying ti = some (.int .i64)) (hb : P.underlying tb = some (.slice e)) (he : P.underlying e = some (.int .u8)) (hc : P.cellsOf e = 1) {W : World} {v : Value} {d : DataW H} {ps : List MemPlace}
    (hv : Value.okWide P W r base t v) (h : DataW.Trod enc P W 0 (fun _ => true) true t v d ps) : ∃ (p q : Int) (A : Option Addr) (c : Nat) (l : List UInt8), v = .agg #[.int .i64 p, .int .i64 q, .slice A l.length c] ∧ BS W (.slice A l.length c) l := by
  subst h0; subst h2
  obtain ⟨v0, v1, v2, y0, y1, y2, n, rfl, _, _, g0, g1, g2⟩ := Go.Joins.open_agg3 hs hone hC hv h
  obtain ⟨p, hp, _⟩ := DataW.trod_int hi g0
  rw [h1] at g1
  obtain ⟨q, hq, _⟩ := DataW.trod_int hi g1
  obtain ⟨A, c, l, rfl, hl⟩ := bs_of_field hb he hc g2
  simp only [List.cons.injEq, and_true] at hp hq
  subst hp; subst hq
  exact ⟨p, q, A, c, l, rfl, hl⟩

section
open Go.Deep
variable {H : Type} {enc : TypeId × Value → H} {P : Program} {w : World} {base : Nat} {spare : Nat → Bool} {held : Bool}
theorem open_slice_fields {t e : TypeId} {fs : Array Field} {fuel : Nat} {cs : List Value} {x : DataW H × List MemPlace} (ht : P.underlying t = some (.slice e)) (he : P.underlying e = some (.struct fs))
    (hone : oneCellFields P fs = true) (hC : P.cellsOf e = fs.size) (h : DataW.trod enc P w base spare held fuel t cs = some x) :
    (cs = [.slice none 0 0] ∧ x = (.nil, [])) ∨
    ∃ (a : Addr) (len cap m : Nat) (D : Nat → DataW H) (Pl : Nat → List MemPlace), cs = [.slice (some a) len cap] ∧ base ≤ a.block ∧ len ≤ cap ∧ cap ≤ maxLen ∧ m = (if spare a.block then cap else len) ∧
      x = (.slice ((List.range len).map D) ((List.range (m - len)).map fun j => D (len + j)), MemPlace.row a (m * fs.size) ++ (List.range m).flatMap Pl) ∧
      ∀ i, i < m → ∃ (ys : List (DataW H × List MemPlace)) (n : Nat), D i = .agg (ys.map (·.1)) ∧ Pl i = ys.flatMap (·.2) ∧ ys.length = fs.size ∧
        ∀ (j : Nat) (f : Field), fs[j]? = some f → ∃ (v : Value) (y : DataW H × List MemPlace), w.cell? (a.add (i * fs.size + j)) = some v ∧ ys[j]? = some y ∧ DataW.trod enc P w base spare held n f.type [v] = some y := by
  rcases open_slice ht h with h0 | ⟨a, len, cap, m, n, D, Pl, hcs, hb, hl, hm, hmm, hx, hi⟩
  · exact .inl h0
  · refine .inr ⟨a, len, cap, m, D, Pl, hcs, hb, hl, hm, hmm, by rw [hC] at hx; exact hx, fun i him => ?_⟩
    obtain ⟨cs', hc, ht'⟩ := hi i him
    rw [hC] at hc
    obtain ⟨ys, n', hn', hy, hlen, hyl, hf⟩ := DataW.trod_struct he ht'
    obtain ⟨_, hcl, hat⟩ := World.cells?_some hc
    simp only [Prod.mk.injEq] at hy
    refine ⟨ys, n', hy.1, hy.2, hyl, fun j f hj => ?_⟩
    obtain ⟨ho, hk⟩ := hone_of hone j f hj
    have hjl : j < fs.size := (Array.getElem?_eq_some_iff.1 hj).1
    have hcell := hat j hjl
    have hv : cs'[j]? = some (cs'[j]'(by omega)) := List.getElem?_eq_getElem (by omega)
    have h1 := hf j f hj
    rw [ho, hk] at h1
    have hone' : (cs'.drop j).take 1 = [cs'[j]'(by omega)] := by
      rw [List.drop_eq_getElem_cons (by omega)]
      rfl
    rw [hone'] at h1
    have hys : ys[j]? = some (ys[j]'(by omega)) := List.getElem?_eq_getElem (by omega)
    refine ⟨_, _, ?_, hys, h1.trans hys⟩
    rw [← Go.Deep.add_add, hcell, hv]
end

/-- A slice of structs of an integer and bytes. -/
theorem ds_of_trod {H : Type} {enc : TypeId × Value → H} {P : Program} {r : Reach} {base : Nat} {t s ti tb e : TypeId} {f0 f1 : Field} (ht : P.underlying t = some (.slice s)) (hs : P.underlying s = some (.struct #[f0, f1])) (hone : oneCellFields P #[f0, f1] = true) (hC : P.cellsOf s = 2)
    (h0 : f0.type = ti) (h1 : f1.type = tb) (hi : P.underlying ti = some (.int .i64)) (hb : P.underlying tb = some (.slice e)) (he : P.underlying e = some (.int .u8)) (hc : P.cellsOf e = 1) {W : World} {v : Value} {d : DataW H} {ps : List MemPlace}
    (hv : Value.okWide P W r base t v) (h : DataW.Trod enc P W 0 (fun _ => true) true t v d ps) : ∃ (A : Option Addr) (c : Nat) (xs : List (Int × List UInt8)), v = .slice A xs.length c ∧ DS W (.slice A xs.length c) xs := by
  subst h0; subst h1
  obtain ⟨a0, len, cap, rfl⟩ := okWide_slice ht hv
  obtain ⟨fuel, hf⟩ := h
  rcases open_slice_fields ht hs hone hC hf with ⟨hcs, _⟩ | ⟨a, len', cap', m, D, Pl, hcs, _, hl, hm, hmm, _, hrow⟩
  · simp only [Value.cells, List.cons.injEq, and_true, Value.slice.injEq] at hcs
    obtain ⟨rfl, rfl, rfl⟩ := hcs
    exact ⟨none, 0, [], rfl, none, 0, rfl, Nat.le_refl _, Nat.zero_le _, fun i hi => absurd hi (by simp)⟩
  · simp only [Value.cells, List.cons.injEq, and_true, Value.slice.injEq] at hcs
    obtain ⟨rfl, rfl, rfl⟩ := hcs
    simp only [if_true] at hmm
    have key : ∀ i, i < len → ∃ x : Int × List UInt8, ∃ B d, W.cell? (a.add (i * 2)) = some (.int .i64 x.1) ∧ W.cell? (a.add (i * 2 + 1)) = some (.slice B x.2.length d) ∧ BS W (.slice B x.2.length d) x.2 := by
      intro i hi'
      obtain ⟨ys, n, _, _, _, hfs⟩ := hrow i (by omega)
      obtain ⟨v0, y0, hc0, _, g0⟩ := hfs 0 f0 rfl
      obtain ⟨v1, y1, hc1, _, g1⟩ := hfs 1 f1 rfl
      obtain ⟨p, hp, _⟩ := DataW.trod_int hi g0
      obtain ⟨A, c, l, rfl, hl⟩ := bs_of_field hb he hc g1
      simp only [List.cons.injEq, and_true] at hp
      subst hp
      exact ⟨(p, l), A, c, hc0, hc1, hl⟩
    have key2 : ∃ f : Nat → Int × List UInt8, ∀ i, i < len → ∃ B d, W.cell? (a.add (i * 2)) = some (.int .i64 (f i).1) ∧ W.cell? (a.add (i * 2 + 1)) = some (.slice B (f i).2.length d) ∧ BS W (.slice B (f i).2.length d) (f i).2 :=
      ⟨fun i => if hi' : i < len then Classical.choose (key i hi') else (0, []), fun i hi' => by
        have := Classical.choose_spec (key i hi')
        simpa only [dif_pos hi'] using this⟩
    obtain ⟨f, hf⟩ := key2
    refine ⟨some a, cap, (List.range len).map f, by simp, some a, cap, rfl, by simpa using hl, hm, fun i hi' => ?_⟩
    have hi2 : i < len := by simpa using hi'
    obtain ⟨B, d, e1, e2, e3⟩ := hf i hi2
    have e : ((List.range len).map f)[i] = f i := by simp
    rw [e]
    exact ⟨a, B, d, rfl, e1, e2, e3⟩
end Go.Proofs.YthpfomjibfbiiaaGreatDoor
namespace Go.Proofs.YthpfomjibfbiiaaGreatDoor
open Go.Lib
set_option linter.unusedVariables false

/-- A hexadecimal digit. -/
def hxc (d : Nat) : UInt8 := if d < 10 then UInt8.ofNat (48 + d) else UInt8.ofNat (87 + d)
/-- The hexadecimal digits of a number, no zero ahead. -/
def hexD (n : Nat) : List UInt8 := if h : n < 16 then [hxc n] else hexD (n / 16) ++ [hxc (n % 16)]
termination_by n
decreasing_by omega
/-- The value of a hexadecimal digit; the small letters alone, or all. -/
def hxv (c : UInt8) : Option Nat := if 48 ≤ c.toNat ∧ c.toNat ≤ 57 then some (c.toNat - 48) else if 97 ≤ c.toNat ∧ c.toNat ≤ 102 then some (c.toNat - 87) else if 65 ≤ c.toNat ∧ c.toNat ≤ 70 then some (c.toNat - 55) else none
/-- What ParseUint finds at base 16 and 16 bits, behind acc. -/
def pu16 (acc : Nat) : List UInt8 → Option Nat
  | [] => some acc
  | c :: r => match hxv c with
    | none => none
    | some d => if 65535 < acc * 16 + d then none else pu16 (acc * 16 + d) r
def pu16w (l : List UInt8) : Option Nat := if l = [] then none else pu16 0 l
/-- The same at base 10 and 8 bits. -/
def pu8 (acc : Nat) : List UInt8 → Option Nat
  | [] => some acc
  | c :: r => if 48 ≤ c.toNat ∧ c.toNat ≤ 57 then (if 255 < acc * 10 + (c.toNat - 48) then none else pu8 (acc * 10 + (c.toNat - 48)) r) else none
def pu8w (l : List UInt8) : Option Nat := if l = [] then none else pu8 0 l

theorem hxc_lt (d : Nat) (h : d < 16) : (hxc d).toNat = if d < 10 then 48 + d else 87 + d := by
  unfold hxc; split <;> simp [UInt8.toNat_ofNat'] <;> omega
theorem hxv_hxc (d : Nat) (h : d < 16) : hxv (hxc d) = some d := by
  have e := hxc_lt d h
  unfold hxv
  rw [e]
  split at e
  · next hd => rw [if_pos hd, if_pos (by omega)]; congr 1; omega
  · next hd => rw [if_neg hd, if_neg (by omega), if_pos (by omega)]; congr 1; omega
theorem hexD_lo {n : Nat} (h : n < 16) : hexD n = [hxc n] := by rw [hexD, dif_pos h]
theorem hexD_hi {n : Nat} (h : ¬ n < 16) : hexD n = hexD (n / 16) ++ [hxc (n % 16)] := by rw [hexD, dif_neg h]
theorem hexD_ne (n : Nat) : hexD n ≠ [] := by
  by_cases h : n < 16
  · rw [hexD_lo h]; simp
  · rw [hexD_hi h]; simp
theorem hexD_dig (n : Nat) : ∀ c ∈ hexD n, (48 ≤ c.toNat ∧ c.toNat ≤ 57) ∨ (97 ≤ c.toNat ∧ c.toNat ≤ 102) := by
  induction n using Nat.strongRecOn with
  | _ n ih =>
    intro c hc
    by_cases h : n < 16
    · rw [hexD_lo h] at hc
      simp only [List.mem_singleton] at hc
      subst hc
      rw [hxc_lt n h]; split <;> omega
    · rw [hexD_hi h] at hc
      rcases List.mem_append.1 hc with hc | hc
      · exact ih (n / 16) (by omega) c hc
      · simp only [List.mem_singleton] at hc
        subst hc
        rw [hxc_lt _ (by omega)]; split <;> omega
theorem hexD_no (n : Nat) (x : UInt8) (hx : x.toNat < 48 ∨ (57 < x.toNat ∧ x.toNat < 97) ∨ 102 < x.toNat) : x ∉ hexD n := fun h => by
  have := hexD_dig n x h; omega
theorem hexD_len (n : Nat) (h : n < 65536) : (hexD n).length ≤ 4 := by
  by_cases h1 : n < 16
  · rw [hexD_lo h1]; simp
  · rw [hexD_hi h1]
    by_cases h2 : n / 16 < 16
    · rw [hexD_lo h2]; simp
    · rw [hexD_hi h2]
      by_cases h3 : n / 16 / 16 < 16
      · rw [hexD_lo h3]; simp
      · rw [hexD_hi h3, hexD_lo (by omega)]; simp
theorem pu16_hex (n : Nat) (h : n < 65536) (r : List UInt8) : pu16 0 (hexD n ++ r) = pu16 n r := by
  induction n using Nat.strongRecOn generalizing r with
  | _ n ih =>
    by_cases h16 : n < 16
    · rw [hexD_lo h16, List.singleton_append, pu16, hxv_hxc n h16]
      simp only
      rw [if_neg (by omega)]
      congr 1; omega
    · rw [hexD_hi h16, List.append_assoc, ih (n / 16) (by omega) (by omega), List.singleton_append, pu16, hxv_hxc _ (by omega)]
      simp only
      rw [if_neg (by omega)]
      congr 1; omega
theorem pu16w_hex (n : Nat) (h : n < 65536) : pu16w (hexD n) = some n := by
  have := pu16_hex n h []
  rw [List.append_nil] at this
  unfold pu16w
  rw [if_neg (hexD_ne n), this]; rfl
theorem pu16_le : ∀ (l : List UInt8) (acc v : Nat), acc ≤ 65535 → pu16 acc l = some v → v ≤ 65535
  | [], acc, v, ha, h => by simp only [pu16, Option.some.injEq] at h; omega
  | c :: r, acc, v, ha, h => by
    rw [pu16] at h
    cases hc : hxv c with
    | none => rw [hc] at h; cases h
    | some d =>
      rw [hc] at h
      simp only at h
      split at h
      · cases h
      · exact pu16_le r _ v (by omega) h
theorem pu16w_le {l : List UInt8} {v : Nat} (h : pu16w l = some v) : v ≤ 65535 := by
  unfold pu16w at h
  split at h
  · cases h
  · exact pu16_le _ _ _ (by omega) h
theorem pu8_dec (n : Nat) (h : n < 256) (r : List UInt8) : pu8 0 (decDigits n ++ r) = pu8 n r := by
  induction n using Nat.strongRecOn generalizing r with
  | _ n ih =>
    by_cases h10 : n < 10
    · rw [dec_lo n h10, List.singleton_append, pu8, u8_dig n h10, if_pos (by omega), if_neg (by omega)]
      congr 1; omega
    · rw [dec_hi n h10, List.append_assoc, ih (n / 10) (by omega) (by omega), List.singleton_append, pu8, u8_dig _ (by omega), if_pos (by omega), if_neg (by omega)]
      congr 1; omega
theorem pu8w_dec (n : Nat) (h : n < 256) : pu8w (decDigits n) = some n := by
  have := pu8_dec n h []
  rw [List.append_nil] at this
  unfold pu8w
  rw [if_neg (dec_ne n), this]; rfl
theorem pu8_le : ∀ (l : List UInt8) (acc v : Nat), acc ≤ 255 → pu8 acc l = some v → v ≤ 255
  | [], acc, v, ha, h => by simp only [pu8, Option.some.injEq] at h; omega
  | c :: r, acc, v, ha, h => by
    rw [pu8] at h
    split at h
    · split at h
      · cases h
      · exact pu8_le r _ v (by omega) h
    · cases h
theorem pu8w_le {l : List UInt8} {v : Nat} (h : pu8w l = some v) : v ≤ 255 := by
  unfold pu8w at h
  split at h
  · cases h
  · exact pu8_le _ _ _ (by omega) h

/-! The string of an address. -/
/-- A visible byte. -/
def visB (c : UInt8) : Bool := decide (33 ≤ c.toNat ∧ c.toNat ≤ 126)
/-- Validity. -/
def okA (k : Int) (b : List UInt8) : Bool :=
  if k = 2 then b.length == 4 else if k = 24 then b.length == 16 else if k = 20 then (decide (1 ≤ b.length ∧ b.length ≤ 16) && b.all visB) else false
/-- The words of bytes. -/
def wds : List UInt8 → List Nat
  | a :: b :: r => (256 * a.toNat + b.toNat) :: wds r
  | _ => []
/-- How many zeros a list begins with. -/
def zrs : List Nat → Nat
  | 0 :: r => zrs r + 1
  | _ => 0
/-- The longest row of zeros, the first one: where it begins, its length; i is where the list begins. -/
def bst (i : Nat) (l : List Nat) (bg ln : Nat) : Nat × Nat := match l with
  | [] => (bg, ln)
  | x :: r => if ln < zrs (x :: r) then bst (i + 1) r i (zrs (x :: r)) else bst (i + 1) r bg ln
def hjoin (l : List Nat) : List UInt8 := join (l.map hexD) [58]
def txt6w (g : List Nat) (bg ln : Nat) : List UInt8 :=
  if ln < 2 then [91] ++ (hjoin g ++ [93]) else [91] ++ (hjoin (g.take bg) ++ ([58, 58] ++ (hjoin (g.drop (bg + ln)) ++ [93])))
def txt6 (b : List UInt8) : List UInt8 := txt6w (wds b) (bst 0 (wds b) 0 0).1 (bst 0 (wds b) 0 0).2
def txt4 (b : List UInt8) : List UInt8 := join (b.map fun c => decDigits c.toNat) [46]
def txtH (b : List UInt8) : List UInt8 := [104, 111, 115, 116, 47] ++ b
/-- The string of a valid address. -/
def txtA (k : Int) (b : List UInt8) : List UInt8 := if k = 2 then txt4 b else if k = 24 then txt6 b else txtH b
end Go.Proofs.YthpfomjibfbiiaaGreatDoor
namespace Go.Proofs.YthpfomjibfbiiaaGreatDoor
open Go Go.RowKit
set_option linter.unusedVariables false

/-- What the library reads to count the zeros of 16. -/
def DeB (w : World) : Prop := w.cell? ⟨7, 15, none⟩ = some (.int .u8 4)
theorem DeB.ext {w w' : World} (h : DeB w) (hx : Ext w w') : DeB w' := hx.cell h
theorem pow2_at (w : World) : Calls Tryz.prog 155 #[.int .i64 16] w fun e w' => e = .returned (.bool true) ∧ w = w' := by
  have h : bits .and .i64 16 15 = 0 := by decide
  go_enter Tryz.func155, Tryz.ntmps155
  go_wp2
  go_ret
  exact ⟨rfl, rfl⟩
theorem tz64_at (w : World) (hd : DeB w) : Calls Tryz.prog 160 #[.int .u64 16] w fun e w' => e = .returned (.int .i64 4) ∧ w = w' := by
  unfold DeB at hd
  have h0 : IntKind.u64.wrap (-16) = 18446744073709551600 := by rw [IntKind.wrap_u64]; decide
  have h1 : bits .and .u64 16 18446744073709551600 = 16 := by decide
  have h2 : IntKind.u64.wrap (16 * 285870213051353865) = 4573923408821661840 := by rw [IntKind.wrap_u64]; decide
  have h3 : IntKind.u64.wrap 4573923408821661840 = 4573923408821661840 := by rw [IntKind.wrap_u64]; decide
  go_enter Tryz.func160, Tryz.ntmps160
  go_wp2
  go_ret
  exact ⟨rfl, rfl⟩
theorem tz_at (w : World) (hd : DeB w) : Calls Tryz.prog 156 #[.int .u64 16] w fun e w' => e = .returned (.int .i64 4) ∧ w = w' := by
  have HT := Lib.hid (tz64_at w hd)
  go_enter Tryz.func156, Tryz.ntmps156
  go_wp2_with fail
  refine HT.out.mono ?_
  rintro _ w1 ⟨rfl, rfl⟩
  go_wp2_with fail
  go_ret
  exact ⟨rfl, rfl⟩
/-- The digits. -/
def hexS : ByteArray := ⟨#[48, 49, 50, 51, 52, 53, 54, 55, 56, 57, 97, 98, 99, 100, 101, 102, 103, 104, 105, 106, 107, 108, 109, 110, 111, 112, 113, 114, 115, 116, 117, 118, 119, 120, 121, 122]⟩
theorem hexS_at (d : Nat) (h : d < 16) : hexS.data[d]? = some (hxc d) := by
  revert h; revert d; decide
theorem hexS_run (d : Nat) (h : d < 16) (W : World) : (Instr.index 9 (.string ⟨#[48, 49, 50, 51, 52, 53, 54, 55, 56, 57, 97, 98, 99, 100, 101, 102, 103, 104, 105, 106, 107, 108, 109, 110, 111, 112, 113, 114, 115, 116, 117, 118, 119, 120, 121, 122]⟩) (.int .u64 (d : Int))).run Tryz.prog W = .ok (.int .u8 ((hxc d).toNat : Int)) W := by
  have hs := hexS_at d h
  rw [run_index_string W 9 _ .u64 _ Tryz.underlying9, dif_pos ⟨by omega, by show (d : Int) < 36; omega⟩]
  have e := (Array.getElem?_eq_some_iff.1 hs).2
  rw [← e]
  rfl
theorem wpList_hexS (w : World) {ops : Array Oper} {rest : List Oper} {o : Oper} {a : Act} {Q : Exit → Act → World → Prop} (hgd : o.guard = none) (x i : Operand) (ho : o.op = .index 9 x i)
    (hx : a.eval x = .string ⟨#[48, 49, 50, 51, 52, 53, 54, 55, 56, 57, 97, 98, 99, 100, 101, 102, 103, 104, 105, 106, 107, 108, 109, 110, 111, 112, 113, 114, 115, 116, 117, 118, 119, 120, 121, 122]⟩) (d : Nat) (hd : d < 16) (hi : a.eval i = .int .u64 (d : Int))
    (h : wpList Tryz.prog ops Q rest (a.put o.dst (.int .u8 ((hxc d).toNat : Int))) w) : wpList Tryz.prog ops Q (o :: rest) a w := by
  refine wpList_plain hgd fun K hK => ?_
  unfold Oper.wp execOp
  simp only [ho, Sem.run_bind, hx, hi, hexS_run d hd w, Result.andThen_ok, Sem.run_pure]
  exact hK _ _ h
theorem u64_and15 (a : Nat) (h : a < 65536) : bits .and .u64 (a : Int) 15 = ((a % 16 : Nat) : Int) := by
  show IntKind.u64.wrap ((BitVec.ofInt 64 (a : Int) &&& BitVec.ofInt 64 15).toNat : Int) = _
  have h1 : (BitVec.ofInt 64 (a : Int)).toNat = a := by
    rw [BitVec.toNat_ofInt]
    have : (a : Int) % ((2 ^ 64 : Nat) : Int) = a := Int.emod_eq_of_lt (by omega) (by omega)
    rw [this]; omega
  rw [BitVec.toNat_and, h1, show (BitVec.ofInt 64 15).toNat = 2 ^ 4 - 1 by decide, Nat.and_two_pow_sub_one_eq_mod, IntKind.wrap_u64]
  omega
/-- The row of digits: its last ones are written. -/
def HR (W : World) (g : Nat) (L : List UInt8) : Prop := ∃ cs : Array Value, W.heap[g]? = some (.cells cs 191 (0, 0)) ∧ cs.size = 65 ∧ cs.toList.drop (65 - L.length) = bv L
theorem HR.ext {W W' : World} {g : Nat} {L : List UInt8} (h : HR W g L) (hx : Ext W W') : HR W' g L := let ⟨cs, h1, h2⟩ := h; ⟨cs, hx.heap h1, h2⟩
theorem HR.soft {W : World} {g : Nat} {L : List UInt8} (h : HR W g L) (k : Nat) : W.frozen? ⟨g, k, none⟩ = false := let ⟨cs, h1, h2⟩ := h; frozen_of_row W g k _ _ h1
theorem HR.at_ {W : World} {g : Nat} {L : List UInt8} (h : HR W g L) (k : Nat) (hk : k < 65) : ∃ u, W.cell? ⟨g, k, none⟩ = some u := by
  obtain ⟨cs, h1, h2, _⟩ := h
  exact ⟨cs[k]'(by omega), by rw [cell_of_row W g k _ _ (0, 0) h1, Array.getElem?_eq_getElem (by omega)]⟩
theorem HR.put {W : World} {g : Nat} {L : List UInt8} (h : HR W g L) (j : Nat) (hj : j + 1 + L.length = 65) (c : UInt8) : HR (W.setCell ⟨g, j, none⟩ (.int .u8 (c.toNat : Int))) g (c :: L) := by
  obtain ⟨cs, h1, h2, h3⟩ := h
  refine ⟨_, heap_setCell_same W g j _ _ _ h1, by simpa using h2, ?_⟩
  rw [List.length_cons, show 65 - (L.length + 1) = j by omega]
  rw [show 65 - L.length = j + 1 by omega] at h3
  rw [Array.toList_setIfInBounds, List.drop_eq_getElem_cons (by simp; omega), List.getElem_set_self, List.drop_set_of_lt (by omega), h3]
  rfl
theorem HR.cell {W : World} {g : Nat} {L : List UInt8} (h : HR W g L) (hL : L.length ≤ 65) (j : Nat) (hj : j < L.length) : W.cell? ⟨g, 65 - L.length + j, none⟩ = some (.int .u8 (L[j].toNat : Int)) := by
  obtain ⟨cs, h1, h2, h3⟩ := h
  rw [cell_of_row W g _ _ _ (0, 0) h1, ← Array.getElem?_toList, ← List.getElem?_drop, h3, bv_get L j hj]
set_option maxRecDepth 100000 in
set_option maxHeartbeats 2000000 in
theorem formatBits_at (n : Nat) (hn : n < 65536) (w : World) (hd : DeB w) :
    Calls Tryz.prog 146 #[.slice none 0 0, .int .u64 (n : Int), .int .i64 16, .bool false, .bool false] w fun e w' => e = .returned (.tuple #[.slice none 0 0, .string ⟨(hexD n).toArray⟩]) ∧ Ext w w' := by
  have HD := Lib.hid hd
  have hL4 := hexD_len n hn
  have HP := Lib.hid (fun W => pow2_at W)
  clear hd
  go_enter Tryz.func146, Tryz.ntmps146
  generalize hS : (⟨#[48, 49, 50, 51, 52, 53, 54, 55, 56, 57, 97, 98, 99, 100, 101, 102, 103, 104, 105, 106, 107, 108, 109, 110, 111, 112, 113, 114, 115, 116, 117, 118, 119, 120, 121, 122]⟩ : ByteArray) = S
  have HS36 := Lib.hid (show S.size = 36 by rw [← hS]; rfl)
  have HAT := Lib.hid (show ∀ (d : Nat) (h : d < S.size), d < 16 → S[d] = hxc d from by subst hS; intro d h h16; exact (Array.getElem?_eq_some_iff.1 (hexS_at d h16)).2)
  clear hS
  go_wp2_with fail
  refine (HP.out _).mono ?_
  rintro _ w1 ⟨rfl, hw1⟩
  go_wp2_with fail
  refine (tz_at _ ?_).mono ?_
  · rw [← hw1]; exact HD.out.ext ((Ext.refl w).alloc _)
  rintro _ w2 ⟨rfl, hw2⟩
  have hx2 : Ext w w2 := by rw [← hw2, ← hw1]; exact (Ext.refl w).alloc _
  have hr2 : HR w2 w.heap.size [] := by
    rw [← hw2, ← hw1]; exact ⟨_, heap_alloc_new w _, rfl, rfl⟩
  have HX2 := Lib.hid hx2; have HR2 := Lib.hid hr2
  clear hw1 hw2 hx2 hr2
  go_wp2_with fail
  go_loopw [1, 13] (fun u i wr => ∃ (v j : Nat) (L : List UInt8), u = .int .u64 (v : Int) ∧ i = .int .i64 ((j : Int) + 1) ∧ j + 1 + L.length = 65 ∧ v ≤ n ∧ Hid (hexD n = hexD v ++ L) ∧ Hid (HR wr w.heap.size L) ∧ Hid (Ext w wr)) (fun u _ _ => (intOf u).toNat)
  case atStart => exact ⟨n, 64, [], rfl, by go_num, rfl, Nat.le_refl _, Lib.hid (by simp), HR2, HX2⟩
  case round =>
    obtain ⟨v, j, L, rfl, rfl, hj, hv, HE, HRW, HXW⟩ := hrel
    have hL3 : L.length ≤ 3 := by
      have h1 := congrArg List.length HE.out
      rw [List.length_append] at h1
      have h2 := List.length_pos_iff.2 (hexD_ne v)
      omega
    by_cases h16 : v < 16
    · have hi16 : (v : Int) < 16 := by omega
      have hf := HRW.out.soft j
      obtain ⟨u0, hc⟩ := HRW.out.at_ j (by omega)
      have HEE := Lib.hid (show hexD n = hxc v :: L by rw [HE.out, hexD_lo h16]; rfl)
      have hd16 := h16
      have hlt : (v : Int) < (S.size : Int) := by rw [HS36.out]; omega
      have hd : S[v]'(by have := HS36.out; omega) = hxc v := HAT.out v _ h16
      have hlen : (hxc v :: L).length = 65 - j := by simp; omega
      have HRF := Lib.hid (HRW.out.put j hj (hxc v))
      have hsl : ∀ W, (Instr.sliceAt 191 (.pointer (some ⟨w.heap.size, 0, none⟩)) (some (.int .i64 (j : Int))) none none).run Tryz.prog W = .ok (.slice (some ⟨w.heap.size, j, none⟩) (65 - j) (65 - j)) W := fun W => by
        have hal : Tryz.prog.arrayLen 191 = 65 := by simp [Program.arrayLen, Tryz.underlying191]
        rw [run_sliceAt_array_l W 191 ⟨w.heap.size, 0, none⟩ (by simp [Program.arrayLen, Program.elem, Tryz.underlying191]) .i64 (j : Int) (by omega) (by rw [hal]; omega)]
        rw [hal]
        go_simp
        omega
      have hcv : (convert 23 9 (.slice (some ⟨w.heap.size, j, none⟩) (65 - j) (65 - j))).run Tryz.prog (wr.setCell ⟨w.heap.size, j, none⟩ (.int .u8 ((S[v]'(by have := HS36.out; omega)).toNat : Int))) = .ok (.string ⟨(hexD n).toArray⟩) (wr.setCell ⟨w.heap.size, j, none⟩ (.int .u8 ((S[v]'(by have := HS36.out; omega)).toNat : Int))) := by
        rw [hd]
        have h := run_convert_bytes_back (P := Tryz.prog) (wr.setCell ⟨w.heap.size, j, none⟩ (.int .u8 ((hxc v).toNat : Int))) 23 9 5 ⟨w.heap.size, j, none⟩ (65 - j) (hxc v :: L) Tryz.underlying23 Tryz.underlying5 Tryz.underlying9 (fun i hi => by
          have h1 := HRF.out.cell (by omega) i hi
          rw [hlen, show 65 - (65 - j) = j by omega] at h1
          rw [← h1]
          unfold Addr.add
          split
          · next h0 => subst h0; rfl
          · rfl)
        rw [hlen] at h
        rw [HEE.out]
        exact h
      have HXF := Lib.hid (HXW.out.setCell (p := ⟨w.heap.size, j, none⟩) (Nat.le_refl _) (.int .u8 ((S[v]'(by have := HS36.out; omega)).toNat : Int)))
      clear h16 hlen hd hd16
      go_wp2_with fail
      go_ret2
      exact ⟨rfl, HXF.out⟩
    · have hi16 : (16 : Int) ≤ v := by omega
      have hand := u64_and15 v (by omega)
      have hl := HE.out
      have hd16 : v % 16 < 16 := by omega
      obtain ⟨d, hdd⟩ : ∃ d, v % 16 = d := ⟨_, rfl⟩
      rw [hdd] at hand hd16
      have hf := HRW.out.soft j
      obtain ⟨u0, hc⟩ := HRW.out.at_ j (by omega)
      have hd0 : (d : Int) < 16 := by omega
      clear h16 hl
      have hlt : (d : Int) < (S.size : Int) := by rw [HS36.out]; omega
      have HSd := Lib.hid (HAT.out d (by have := HS36.out; omega) hd16)
      clear hd0
      go_wp2_with fail
      go_roundw
      case rel => exact ⟨v / 16, j - 1, hxc d :: L, by rw [show (v : Int) / 16 = ((v / 16 : Nat) : Int) by omega], by rw [show (j : Int) = ((j - 1 : Nat) : Int) + 1 by omega], by simp; omega, by omega, by rw [HE.out, hexD_hi (by omega), hdd]; exact Lib.hid (by simp), Lib.hid (HSd.out ▸ HRW.out.put j hj _), Lib.hid (HXW.out.setCell (Nat.le_refl _) _)⟩
      case measure => simp [intOf]; omega
theorem FormatI_at (n : Nat) (hn : n < 65536) (w : World) (hd : DeB w) :
    Calls Tryz.prog 128 #[.int .u64 (n : Int), .int .i64 16] w fun e w' => e = .returned (.string ⟨(hexD n).toArray⟩) ∧ Ext w w' := by
  have HF := Lib.hid (formatBits_at n hn w hd)
  clear hd
  go_enter Tryz.func128, Tryz.ntmps128
  go_wp2_with fail
  refine HF.out.mono ?_
  rintro _ w1 ⟨rfl, hx⟩
  have HX := Lib.hid hx
  clear hx
  go_wp2_with fail
  go_ret
  exact ⟨rfl, HX.out⟩
theorem Format_at (n : Nat) (hn : n < 65536) (w : World) (hd : DeB w) :
    Calls Tryz.prog 113 #[.int .u64 (n : Int), .int .i64 16] w fun e w' => e = .returned (.string ⟨(hexD n).toArray⟩) ∧ Ext w w' := by
  have HF := Lib.hid (FormatI_at n hn w hd)
  clear hd
  go_enter Tryz.func113, Tryz.ntmps113
  go_wp2_with fail
  refine HF.out.mono ?_
  rintro _ w1 ⟨rfl, hx⟩
  have HX := Lib.hid hx
  clear hx
  go_wp2_with fail
  go_ret
  exact ⟨rfl, HX.out⟩
end Go.Proofs.YthpfomjibfbiiaaGreatDoor
