/- Texts laid together (wip/tools/automerge.py): RowE, Row, Ds, Row2, AdPure. -/
import Derived.Test.YtnjmndofcpnmeaaGreatDoorRows
import Derived.Test.YtnjmndofcpnmeaaGreatDoorTx2
import Derived.ProofKit
import Derived.LaidMore
import Derived.OpenShut
import Derived.Stop.Joined
import Derived.Stop.LaidErr
import Derived.Lib.LaidTab
import Derived.Shelf.Vars
import Derived.HandedShaped
import Derived.Test.YtnjmndofcpnmeaaGreatDoorTx1
import Derived.ChangeSame
import Derived.Carry
import Derived.Deep.Matrix
import Derived.Deep.Slices
import Derived.Deep.Fields
import Derived.Lib.SmallJoins
import Derived.Lib.Join
namespace Go.Proofs.YtnjmndofcpnmeaaGreatDoor
open Go Go.RowKit Go.WideShapes Go.ChangeShapes Go.ChangeAt
set_option linter.unusedVariables false

section
variable {H : Type} {enc : TypeId × Value → H}
theorem returnsInHanded_and_shaped {a : Assume} {C : Checked} {os : Os} {f : FuncId} {fn : Func} {s : ChangeSpec} {conds : List PathCond} {apart fresh handsOn again : Bool} {X : World → Array Value → Prop}
    (hX : ∀ (w w' : World) (args : Array Value), w.heap = w'.heap → X w args → X w' args)
    (own : ownKnob C.prog.godebug = none) (started : os.Started) (noInit : C.prog.inits.idxOf? f = none) (hfn : C.prog.funcs[f]? = some fn)
    (witness : ∃ (w : World) (tape : Tape) (i : Input), w.os = os ∧ (w.forCall tape i).Shaped C.prog ∧ i.vars = [] ∧ Input.okWide C.prog (w.forCall tape i) .any w.heap.size f i ∧
      ((s.pre enc C.prog fn conds apart (w.forCall tape i).memory i.args ∧ X (w.forCall tape i).memory i.args) ∧ sizedMet enc C.prog fn (OpenSpec.ofChange s) apart (w.forCall tape i).memory i.args) ∧ a.holds C.prog (lone (Frame.enter C.prog f i.args .normal) [] (w.forCall tape i)))
    (contract : ∀ (W : World) (base : Nat) (args : Array Value) (ds gs : List (DataW H)) (before : List MemPlace),
      (∀ (j : Nat) t v, fn.params[j]? = some t → args[j]? = some v → Value.okWide C.prog W .any base t v) →
      DataW.Whole enc C.prog fn.params.toList s.vars apart W args.toList ds gs before → X W args → W.ShapedOpen C.prog →
      Calls C.prog f args W fun e W' => ∃ v, e = .returned v ∧ s.post enc C.prog fn apart fresh handsOn again W args v W') :
    ReturnsInHanded a C os f .any (fun w args => (s.pre enc C.prog fn conds apart w args ∧ X w args) ∧ sizedMet enc C.prog fn (OpenSpec.ofChange s) apart w args) (s.post enc C.prog fn apart fresh handsOn again) := by
  refine returnsInHanded_of_calls own started noInit witness ?_
  intro w tape i _ hsh _ hok hpre _
  obtain ⟨_, _, _, fn', hfn', _, _, _, _, hval⟩ := hok
  have e : fn' = fn := Option.some.inj (hfn'.symm.trans hfn)
  subst e
  obtain ⟨⟨⟨ds, gs, before, hw, hc⟩, hx⟩, _⟩ := hpre
  have hw' := DataW.Whole.of_heap (w' := w.forCall tape i) (by rfl) hw
  refine (contract (w.forCall tape i) w.heap.size i.args ds gs before hval hw' (hX _ _ _ (by rfl) hx) hsh).mono fun e W' ⟨v, he, hp⟩ => ?_
  subst he
  exact ChangeSpec.post_blind hp
end

theorem maxl_of {W : World} (h : W.ShapedOpen Tryz.prog) : MaxL W := by
  intro g hg
  obtain rfl : 0 = g := Option.some.inj ((show Tryz.prog.globalNamed "internal/bytealg.MaxLen" = some 0 by kernel_rfl).symm.trans hg)
  exact cell_of_shapedOpen_int (zero := #[.int .i64 0]) (t := 3) h (by decide +kernel) (by kernel_rfl) rfl (by kernel_rfl) (by kernel_rfl) Tryz.underlying3
theorem star_es : "*" ++ "errors.errorString" = "*errors.errorString" := by decide
theorem row_es (u : TypeId) (h : Tryz.prog.typeName? 3 u = some "*errors.errorString") : u = 275 :=
  typeName_ptr_named (nm := "errors.errorString") (by rw [star_es]; kernel_rfl) (by kernel_rfl) (by decide) u (by rw [star_es]; exact h)
theorem ifvar_of {n : String} {text : List UInt8} {r : List (String × DataW Unit)} {W : World} {g : Nat} (h : laidMet Tryz.prog ((n, .iface "*errors.errorString" (.ptr (.agg [.lit (.string text)]))) :: r) W)
    (hg : Tryz.prog.globalNamed n = some g) (ht : (Tryz.prog.globals[g]?).map (·.type) = some 83) : IfVar n W := by
  obtain ⟨a, s, hv, _⟩ := laid_sentinel h hg ht Tryz.underlying83 row_es Tryz.underlying275 Tryz.underlying277 rfl rfl Tryz.underlying9 (by kernel_rfl) (by kernel_rfl)
  exact ⟨_, _, hv⟩
theorem pow_at {r : List (String × DataW Unit)} {W : World} (h : laidMet Tryz.prog (("internal/strconv.uint64pow10", (Rows.laid_internal_strconv_uint64pow10 : DataW Unit)) :: r) W) : Pow W := by
  have e : (Rows.laid_internal_strconv_uint64pow10 : DataW Unit) = Lib.tabData .u64 Lib.pow10Tab := by kernel_rfl
  rw [e] at h
  obtain ⟨g, hg⟩ := Option.isSome_iff_exists.1 gPow
  have hgt : ((Tryz.prog.globalNamed "internal/strconv.uint64pow10").bind fun g => (Tryz.prog.globals[g]?).map (·.type)) = some 269 := by kernel_rfl
  rw [hg] at hgt
  exact Lib.tabIs_of_head hg hgt Tryz.underlying269 Tryz.underlying198 (by kernel_rfl) (by kernel_rfl) h
end Go.Proofs.YtnjmndofcpnmeaaGreatDoor
namespace Go.Proofs.YtnjmndofcpnmeaaGreatDoor
open Go Go.RowKit Go.WideShapes Go.ChangeShapes

section
variable {H : Type} {enc : TypeId × Value → H} {P : Program}
theorem post_of_below {f : Func} {s : ChangeSpec} {apart fresh handsOn again : Bool} {W W' : World} {args : Array Value} {v : Value} {ds gs : List (DataW H)} {before pa pv : List MemPlace}
    (hW : DataW.Whole enc P f.params.toList s.vars apart W args.toList ds gs before)
    (hres : ∀ (b : Nat) (sp : Nat → Bool) (hd : Bool), DataW.TrodAll enc P W' b sp hd f.resultTypes.toList (v.resultList f.resultTypes.size) (s.fn H (ds ++ gs)).results [])
    (hargs : ∀ sp : Nat → Bool, (∀ p ∈ before, sp p.block = true) → DataW.TrodAll enc P W' 0 sp true f.params.toList args.toList (s.fn H (ds ++ gs)).args pa)
    (hvars : ∀ sp : Nat → Bool, (∀ p ∈ before, sp p.block = true) → DataW.TrodVars enc P W' sp s.vars (s.fn H (ds ++ gs)).vars pv)
    (hps : before = pa ++ pv) (hb : Below W.heap.size W W')
    (hok : ∀ (j : Nat) (t : TypeId) (r : Value), f.resultTypes[j]? = some t → (v.resultList f.resultTypes.size)[j]? = some r → Value.okWide P W' .any 0 t r) :
    s.post enc P f apart fresh handsOn again W args v W' := by
  have hlt : ∀ p ∈ before, p.block < W.heap.size := fun p hp => hW.lt p hp
  have hold : ∀ p ∈ before, (fun b => decide (b < W.heap.size)) p.block = true := fun p hp => by simpa using hlt p hp
  refine ⟨ds, gs, before, [], pa, pv, hW, hres _ _ _, hargs _ hold, hvars _ hold, World.keptBut_mono (fun p hp => ⟨hp, ?_⟩) (hb.frame (· ∈ before)), fun _ => ?_⟩
  · rw [hps, List.mem_append] at hp
    exact Or.inr hp
  · obtain ⟨_, _, _, _, _, hz, hn⟩ := hW
    refine ⟨hok, _, _, ([] ++ pa) ++ pv, ⟨[] ++ pa, pv, trodAll_append (hargs _ (fun _ _ => rfl)) (hres _ _ _), hvars _ (fun _ _ => rfl), rfl, ?_, ?_⟩, ?_⟩
    · intro b off hp
      have hin : MemPlace.cell b off ∈ before := by rw [hps]; simpa using hp
      rw [hb.frozen (hlt _ hin)]
      exact hz b off hin
    · intro ha
      have := hn ha
      rw [hps] at this
      simpa using this
    · intro p hp _
      rw [hps]
      simpa using hp

/-- An argument reads as it did. -/
theorem trod_stays {t : TypeId} (hl : laidOutB P = true) (hr : P.readableRec t = true) (hrow : t < P.types.size) {W W' : World} {v : Value} {d : DataW H} {ps : List MemPlace}
    (h : DataW.Trod enc P W 0 (fun _ => true) true t v d ps) (hb : Ext W W') (hlt : ∀ x ∈ ps, x.block < W.heap.size) (sp : Nat → Bool) (hsp : ∀ p ∈ ps, sp p.block = true) :
    DataW.Trod enc P W' 0 sp true t v d ps :=
  WideElems.Trod_stays hl hr hrow h (fun x hx => Below.same hb (hlt x hx)) hsp

end
end Go.Proofs.YtnjmndofcpnmeaaGreatDoor
namespace Go.Proofs.YtnjmndofcpnmeaaGreatDoor
open Go Go.RowKit
end Go.Proofs.YtnjmndofcpnmeaaGreatDoor
namespace Go.Proofs.YtnjmndofcpnmeaaGreatDoor
open Go Go.RowKit Go.WideShapes Go.ChangeShapes Go.Deep

/-- A []byte in a field. -/
theorem bs_of_field {H : Type} {enc : TypeId × Value → H} {P : Program} {t e : TypeId} (ht : P.underlying t = some (.slice e)) (he : P.underlying e = some (.int .u8)) (hc : P.cellsOf e = 1) {W : World} {v : Value} {n : Nat} {y : DataW H × List MemPlace}
    (hf : DataW.trod enc P W 0 (fun _ => true) true n t [v] = some y) : ∃ A c l, v = .slice A (l : List UInt8).length c ∧ BS W (.slice A l.length c) l := by
  rcases open_ints ht he hc hf with ⟨hcs, _⟩ | ⟨a, len, cap, zs, hcs, _, hl, hm, hz, _, hcell, hwf⟩
  · simp only [List.cons.injEq, and_true] at hcs
    subst hcs
    exact ⟨none, 0, [], rfl, BS.nil W⟩
  · simp only [List.cons.injEq, and_true] at hcs
    subst hcs
    simp only [if_true] at hz
    have hlen : ((zs.take len).map fun z => UInt8.ofNat z.toNat).length = len := by simp; omega
    refine ⟨some a, cap, (zs.take len).map fun z => UInt8.ofNat z.toNat, by rw [hlen], ?_⟩
    rw [hlen]
    refine ⟨some a, cap, by rw [bv_length, hlen], by rw [bv_length, hlen]; exact hl, hm, fun hp => ⟨a, rfl, ?_, fun j u hu => ?_⟩⟩
    · simp only [bv_length, hlen] at hp
      have := World.block_lt_of_cell? W (a.add 0) (hcell 0 (by omega))
      rwa [block_of_add] at this
    · have hj : j < len := by
        have := (List.getElem?_eq_some_iff.1 hu).1
        rwa [bv_length, hlen] at this
      rw [hcell j (by omega)]
      rw [bv_get _ j (by rw [hlen]; exact hj)] at hu
      rw [← hu]
      have hmem : zs.getD j 0 ∈ zs := by
        rw [List.getD_eq_getElem?_getD, List.getElem?_eq_getElem (by omega)]
        exact List.getElem_mem _
      have hw := hwf _ hmem
      simp only [Lit.wf, IntKind.min, IntKind.max, IntKind.signed, IntKind.bits, Bool.and_eq_true] at hw
      simp only [List.getElem_map, List.getElem_take, UInt8.toNat_ofNat', Option.some.injEq, Value.int.injEq, true_and]
      rw [List.getD_eq_getElem?_getD, List.getElem?_eq_getElem (by omega)] at hw ⊢
      simp only [Option.getD_some] at hw ⊢
      simp at hw
      omega

section
open Go.Deep
variable {H : Type} {enc : TypeId × Value → H} {P : Program} {w : World} {base : Nat} {spare : Nat → Bool} {held : Bool}
end

end Go.Proofs.YtnjmndofcpnmeaaGreatDoor
namespace Go.Proofs.YtnjmndofcpnmeaaGreatDoor
open Go.Lib
set_option linter.unusedVariables false

/-- A hexadecimal digit. -/
def hxc (d : Nat) : UInt8 := if d < 10 then UInt8.ofNat (48 + d) else UInt8.ofNat (87 + d)
/-- The hexadecimal digits of a number, no zero ahead. -/
def hexD (n : Nat) : List UInt8 := if h : n < 16 then [hxc n] else hexD (n / 16) ++ [hxc (n % 16)]
termination_by n
decreasing_by omega
/-- The value of a hexadecimal digit; the small letters alone, or all. -/
def hxv (c : UInt8) : Option Nat := if 48 ≤ c.toNat ∧ c.toNat ≤ 57 then some (c.toNat - 48) else if 97 ≤ c.toNat ∧ c.toNat ≤ 102 then some (c.toNat - 87) else if 65 ≤ c.toNat ∧ c.toNat ≤ 70 then some (c.toNat - 55) else none
/-- What ParseUint finds at base 16 and 16 bits, behind acc. -/
def pu16 (acc : Nat) : List UInt8 → Option Nat
  | [] => some acc
  | c :: r => match hxv c with
    | none => none
    | some d => if 65535 < acc * 16 + d then none else pu16 (acc * 16 + d) r
def pu16w (l : List UInt8) : Option Nat := if l = [] then none else pu16 0 l
/-- The same at base 10 and 8 bits. -/
def pu8 (acc : Nat) : List UInt8 → Option Nat
  | [] => some acc
  | c :: r => if 48 ≤ c.toNat ∧ c.toNat ≤ 57 then (if 255 < acc * 10 + (c.toNat - 48) then none else pu8 (acc * 10 + (c.toNat - 48)) r) else none
def pu8w (l : List UInt8) : Option Nat := if l = [] then none else pu8 0 l

theorem hxc_lt (d : Nat) (h : d < 16) : (hxc d).toNat = if d < 10 then 48 + d else 87 + d := by
  unfold hxc; split <;> simp [UInt8.toNat_ofNat'] <;> omega
theorem hxv_hxc (d : Nat) (h : d < 16) : hxv (hxc d) = some d := by
  have e := hxc_lt d h
  unfold hxv
  rw [e]
  split at e
  · next hd => rw [if_pos hd, if_pos (by omega)]; congr 1; omega
  · next hd => rw [if_neg hd, if_neg (by omega), if_pos (by omega)]; congr 1; omega
theorem hexD_lo {n : Nat} (h : n < 16) : hexD n = [hxc n] := by rw [hexD, dif_pos h]
theorem hexD_hi {n : Nat} (h : ¬ n < 16) : hexD n = hexD (n / 16) ++ [hxc (n % 16)] := by rw [hexD, dif_neg h]
theorem hexD_ne (n : Nat) : hexD n ≠ [] := by
  by_cases h : n < 16
  · rw [hexD_lo h]; simp
  · rw [hexD_hi h]; simp
theorem hexD_dig (n : Nat) : ∀ c ∈ hexD n, (48 ≤ c.toNat ∧ c.toNat ≤ 57) ∨ (97 ≤ c.toNat ∧ c.toNat ≤ 102) := by
  induction n using Nat.strongRecOn with
  | _ n ih =>
    intro c hc
    by_cases h : n < 16
    · rw [hexD_lo h] at hc
      simp only [List.mem_singleton] at hc
      subst hc
      rw [hxc_lt n h]; split <;> omega
    · rw [hexD_hi h] at hc
      rcases List.mem_append.1 hc with hc | hc
      · exact ih (n / 16) (by omega) c hc
      · simp only [List.mem_singleton] at hc
        subst hc
        rw [hxc_lt _ (by omega)]; split <;> omega
theorem hexD_no (n : Nat) (x : UInt8) (hx : x.toNat < 48 ∨ (57 < x.toNat ∧ x.toNat < 97) ∨ 102 < x.toNat) : x ∉ hexD n := fun h => by
  have := hexD_dig n x h; omega
theorem hexD_len (n : Nat) (h : n < 65536) : (hexD n).length ≤ 4 := by
  by_cases h1 : n < 16
  · rw [hexD_lo h1]; simp
  · rw [hexD_hi h1]
    by_cases h2 : n / 16 < 16
    · rw [hexD_lo h2]; simp
    · rw [hexD_hi h2]
      by_cases h3 : n / 16 / 16 < 16
      · rw [hexD_lo h3]; simp
      · rw [hexD_hi h3, hexD_lo (by omega)]; simp
theorem pu16_hex (n : Nat) (h : n < 65536) (r : List UInt8) : pu16 0 (hexD n ++ r) = pu16 n r := by
  induction n using Nat.strongRecOn generalizing r with
  | _ n ih =>
    by_cases h16 : n < 16
    · rw [hexD_lo h16, List.singleton_append, pu16, hxv_hxc n h16]
      simp only
      rw [if_neg (by omega)]
      congr 1; omega
    · rw [hexD_hi h16, List.append_assoc, ih (n / 16) (by omega) (by omega), List.singleton_append, pu16, hxv_hxc _ (by omega)]
      simp only
      rw [if_neg (by omega)]
      congr 1; omega
theorem pu16w_hex (n : Nat) (h : n < 65536) : pu16w (hexD n) = some n := by
  have := pu16_hex n h []
  rw [List.append_nil] at this
  unfold pu16w
  rw [if_neg (hexD_ne n), this]; rfl
theorem pu16_le : ∀ (l : List UInt8) (acc v : Nat), acc ≤ 65535 → pu16 acc l = some v → v ≤ 65535
  | [], acc, v, ha, h => by simp only [pu16, Option.some.injEq] at h; omega
  | c :: r, acc, v, ha, h => by
    rw [pu16] at h
    cases hc : hxv c with
    | none => rw [hc] at h; cases h
    | some d =>
      rw [hc] at h
      simp only at h
      split at h
      · cases h
      · exact pu16_le r _ v (by omega) h
theorem pu16w_le {l : List UInt8} {v : Nat} (h : pu16w l = some v) : v ≤ 65535 := by
  unfold pu16w at h
  split at h
  · cases h
  · exact pu16_le _ _ _ (by omega) h
theorem pu8_dec (n : Nat) (h : n < 256) (r : List UInt8) : pu8 0 (decDigits n ++ r) = pu8 n r := by
  induction n using Nat.strongRecOn generalizing r with
  | _ n ih =>
    by_cases h10 : n < 10
    · rw [dec_lo n h10, List.singleton_append, pu8, u8_dig n h10, if_pos (by omega), if_neg (by omega)]
      congr 1; omega
    · rw [dec_hi n h10, List.append_assoc, ih (n / 10) (by omega) (by omega), List.singleton_append, pu8, u8_dig _ (by omega), if_pos (by omega), if_neg (by omega)]
      congr 1; omega
theorem pu8w_dec (n : Nat) (h : n < 256) : pu8w (decDigits n) = some n := by
  have := pu8_dec n h []
  rw [List.append_nil] at this
  unfold pu8w
  rw [if_neg (dec_ne n), this]; rfl
theorem pu8_le : ∀ (l : List UInt8) (acc v : Nat), acc ≤ 255 → pu8 acc l = some v → v ≤ 255
  | [], acc, v, ha, h => by simp only [pu8, Option.some.injEq] at h; omega
  | c :: r, acc, v, ha, h => by
    rw [pu8] at h
    split at h
    · split at h
      · cases h
      · exact pu8_le r _ v (by omega) h
    · cases h
theorem pu8w_le {l : List UInt8} {v : Nat} (h : pu8w l = some v) : v ≤ 255 := by
  unfold pu8w at h
  split at h
  · cases h
  · exact pu8_le _ _ _ (by omega) h

/-! The string of an address. -/
/-- A visible byte. -/
def visB (c : UInt8) : Bool := decide (33 ≤ c.toNat ∧ c.toNat ≤ 126)
/-- Validity. -/
def okA (k : Int) (b : List UInt8) : Bool :=
  if k = 2 then b.length == 4 else if k = 24 then b.length == 16 else if k = 20 then (decide (1 ≤ b.length ∧ b.length ≤ 16) && b.all visB) else false
/-- The words of bytes. -/
def wds : List UInt8 → List Nat
  | a :: b :: r => (256 * a.toNat + b.toNat) :: wds r
  | _ => []
/-- How many zeros a list begins with. -/
def zrs : List Nat → Nat
  | 0 :: r => zrs r + 1
  | _ => 0
/-- The longest row of zeros, the first one: where it begins, its length; i is where the list begins. -/
def bst (i : Nat) (l : List Nat) (bg ln : Nat) : Nat × Nat := match l with
  | [] => (bg, ln)
  | x :: r => if ln < zrs (x :: r) then bst (i + 1) r i (zrs (x :: r)) else bst (i + 1) r bg ln
def hjoin (l : List Nat) : List UInt8 := join (l.map hexD) [58]
def txt6w (g : List Nat) (bg ln : Nat) : List UInt8 :=
  if ln < 2 then [91] ++ (hjoin g ++ [93]) else [91] ++ (hjoin (g.take bg) ++ ([58, 58] ++ (hjoin (g.drop (bg + ln)) ++ [93])))
def txt6 (b : List UInt8) : List UInt8 := txt6w (wds b) (bst 0 (wds b) 0 0).1 (bst 0 (wds b) 0 0).2
def txt4 (b : List UInt8) : List UInt8 := join (b.map fun c => decDigits c.toNat) [46]
def txtH (b : List UInt8) : List UInt8 := [104, 111, 115, 116, 47] ++ b
/-- The string of a valid address. -/
def txtA (k : Int) (b : List UInt8) : List UInt8 := if k = 2 then txt4 b else if k = 24 then txt6 b else txtH b
end Go.Proofs.YtnjmndofcpnmeaaGreatDoor
