/- Texts laid together (wip/tools/automerge.py): Lt3, Ov, LtT, Dec, LtP0. -/
import Derived.Test.YtnjmndofcpnmeaaGreatDoorTx1
import Derived.OpenShut
import Derived.Deep.RegionHeld
import Derived.Test.YtnjmndofcpnmeaaGreatDoorShelf
import Derived.WalkSmall
import Derived.Lib.ItoaLen
import Derived.Lib.AtoiAllCases
import Derived.Lib.ItoaMem
import Derived.Lib.Split
import Derived.Lib.ConvBytes
namespace Go.Proofs.YtnjmndofcpnmeaaGreatDoor
open Go Go.RowKit
set_option linter.unusedVariables false

section
variable {w w' : World} {T R : Nat} {a s e r f t n l m now skew : Int} {B : Option Addr}
end

def bp (B : Option Nat) : Option Addr := B.map fun b => ⟨b, 0, none⟩

end Go.Proofs.YtnjmndofcpnmeaaGreatDoor
namespace Go.Proofs.YtnjmndofcpnmeaaGreatDoor
open Go Go.RowKit

theorem BS.apart {w w' : World} {v : Value} {l : List UInt8} {k : Option Nat} (h : BS w v l) (hk : l ≠ [] → ∀ b, v.ownBlock = some b → k ≠ some b) (hb : w.grownBy w' k) : BS w' v l := by
  obtain ⟨A, c, rfl, h1, h2, h3⟩ := h.open_
  refine ⟨A, c, by rw [bv_length], by rw [bv_length]; exact h1, h2, fun hp => ?_⟩
  rw [bv_length] at hp
  obtain ⟨ad, rfl, hlt, hc⟩ := h3 hp
  have hne : l ≠ [] := by intro e; rw [e] at hp; simp at hp
  have hk' := hk hne ad.block rfl
  refine ⟨ad, rfl, Nat.lt_of_lt_of_le hlt hb.size, fun j u hu => ?_⟩
  have hj : j < l.length := by
    have := (List.getElem?_eq_some_iff.1 hu).1
    rwa [bv_length] at this
  rw [bv_get l j hj] at hu
  rw [← hu]
  exact (World.cell?_of_block (hb.block _ (by rw [block_of_add]; exact hlt) (by rw [block_of_add]; exact fun e => hk' e.symm))).trans (hc j hj)
theorem RS.one (w : World) (e : TypeId) (v : Value) {z : Nat} (hz : z = w.heap.size := by first | rfl | simp) : RS (w.alloc (.cells #[v] e)) (.slice (some ⟨z, 0, none⟩) 1 1) [v] := by
  subst hz
  exact RS.new w e [v] (by simp [maxLen])

section
variable {P : Program}
end
end Go.Proofs.YtnjmndofcpnmeaaGreatDoor
namespace Go.Proofs.YtnjmndofcpnmeaaGreatDoor
open Go Go.RowKit

theorem ext_grow {w w' : World} (h : Ext w w') (k : Nat) (os : Array Obj) : Ext w (Go.Sort.grow (w'.drewN k) os) :=
  ⟨h.os, h.tape, h.output, Nat.le_trans h.size (by simp [Go.Sort.grow, World.drewN]), fun j hj => by
    have h1 : j < w'.heap.size := Nat.lt_of_lt_of_le hj h.size
    rw [← h.block j hj]
    show ((w'.drewN k).heap ++ os)[j]? = _
    rw [Array.getElem?_append_left (by simpa [World.drewN] using h1)]
    rfl⟩

/-- The table that the library's numerals read. -/
def Pow (w : World) : Prop := Lib.TabIs Tryz.prog w "internal/strconv.uint64pow10" .u64 Lib.pow10Tab
theorem gPow : (Tryz.prog.globalNamed "internal/strconv.uint64pow10").isSome = true := by kernel_rfl
theorem Pow.ext {w w' : World} (h : Pow w) (hx : Ext w w') : Pow w' := by
  obtain ⟨g, hg⟩ := Option.isSome_iff_exists.1 gPow
  unfold Pow Lib.TabIs at h ⊢
  have hlt : g < w.heap.size := by
    unfold World.var? at h
    simp only [hg, Option.bind_some] at h
    by_cases hh : g < w.heap.size
    · exact hh
    · rw [Array.getElem?_eq_none (by omega)] at h
      cases h
  exact var?_below hx hg hlt h

theorem ownsRow_ext {w w' : World} {B : Nat} {e : TypeId} {v : Value} {n : Nat} {xs : List Value} (h : w.ownsRow B e 1 v n xs) (he : Ext w w') : w'.ownsRow B e 1 v n xs :=
  h.kept (he.but none) (by cases hv : v.ownBlock <;> simp)
/-- Strings as values. -/
def stv (ls : List (List UInt8)) : List Value := ls.map fun l => .string ⟨l.toArray⟩
theorem stv_length (ls : List (List UInt8)) : (stv ls).length = ls.length := by simp [stv]
theorem strinfo : (Tryz.prog.info? 9).map (fun i => (i.zero, i.size, i.bytes)) = some (some (.string ⟨#[]⟩), 1, 16) := by kernel_rfl

end Go.Proofs.YtnjmndofcpnmeaaGreatDoor
namespace Go.Proofs.YtnjmndofcpnmeaaGreatDoor
open Go.Lib

theorem u8_dig (d : Nat) (h : d < 10) : (UInt8.ofNat (48 + d)).toNat = 48 + d := by
  simp [UInt8.toNat_ofNat']; omega
theorem dec_lo (u : Nat) (h : u < 10) : decDigits u = [UInt8.ofNat (48 + u)] := by rw [decDigits, dif_pos h]
theorem dec_hi (u : Nat) (h : ¬ u < 10) : decDigits u = decDigits (u / 10) ++ [UInt8.ofNat (48 + u % 10)] := by rw [decDigits, dif_neg h]
theorem dec_dig (u : Nat) : ∀ c ∈ decDigits u, 48 ≤ c.toNat ∧ c.toNat ≤ 57 := by
  induction u using Nat.strongRecOn with
  | _ u ih =>
    intro c hc
    by_cases h : u < 10
    · rw [dec_lo u h] at hc
      simp only [List.mem_singleton] at hc
      subst hc
      rw [u8_dig u h]; omega
    · rw [dec_hi u h] at hc
      rcases List.mem_append.1 hc with hc | hc
      · exact ih (u / 10) (by omega) c hc
      · simp only [List.mem_singleton] at hc
        subst hc
        rw [u8_dig _ (by omega)]; omega
theorem dec_ne (u : Nat) : decDigits u ≠ [] := by
  by_cases h : u < 10
  · rw [dec_lo u h]; simp
  · rw [dec_hi u h]; simp
/-- The number of a row of digits. -/
def valD (acc : Nat) : List UInt8 → Nat
  | [] => acc
  | c :: r => valD (10 * acc + (c.toNat - 48)) r
theorem valD_append (acc : Nat) (a b : List UInt8) : valD acc (a ++ b) = valD (valD acc a) b := by
  induction a generalizing acc with
  | nil => rfl
  | cons c r ih => exact ih _
theorem valD_one (acc : Nat) (c : UInt8) : valD acc [c] = 10 * acc + (c.toNat - 48) := rfl
theorem valD_dec (u : Nat) : valD 0 (decDigits u) = u := by
  induction u using Nat.strongRecOn with
  | _ u ih =>
    by_cases h : u < 10
    · rw [dec_lo u h, valD_one, u8_dig u h]; omega
    · rw [dec_hi u h, valD_append, ih (u / 10) (by omega), valD_one, u8_dig _ (by omega)]; omega
theorem dec_inj {u v : Nat} (h : decDigits u = decDigits v) : u = v := by rw [← valD_dec u, h, valD_dec]
theorem parse_dec (u : Nat) (h : u < 1844674407370955162) (r : List UInt8) : parseUint10 0 (decDigits u ++ r) = parseUint10 u r := by
  induction u using Nat.strongRecOn generalizing r with
  | _ u ih =>
    by_cases h10 : u < 10
    · rw [dec_lo u h10, List.singleton_append, parseUint10, u8_dig u h10, if_pos (by omega), if_neg (by omega), if_neg (by omega)]
      congr 1; omega
    · rw [dec_hi u h10, List.append_assoc, ih (u / 10) (by omega) (by omega), List.singleton_append, parseUint10, u8_dig _ (by omega), if_pos (by omega), if_neg (by omega), if_neg (by omega)]
      congr 1; omega
theorem atoi_dec (u : Nat) (h : u < 1844674407370955162) : atoiAll (decDigits u) = .ok (u : Int) := by
  have hp : parseMag (decDigits u) = .ok u := by
    have := parse_dec u h []
    rw [List.append_nil] at this
    rw [parseMag, if_neg (dec_ne u), this]; rfl
  obtain ⟨c, r, hcr⟩ : ∃ c r, decDigits u = c :: r := by
    cases hd : decDigits u with
    | nil => exact absurd hd (dec_ne u)
    | cons c r => exact ⟨c, r, rfl⟩
  have hc := dec_dig u c (by rw [hcr]; simp)
  have hne : ¬ (c.toNat = 43 ∨ c.toNat = 45) := by omega
  rw [hcr] at hp ⊢
  rw [atoiAll_plain c r (by omega) (by omega), hp]
  unfold signless
  simp only
  rw [if_neg (by omega)]

/-! Words between separators. -/
theorem index_hit (c : UInt8) : ∀ (l r : List UInt8), c ∉ l → index (l ++ c :: r) [c] = (l.length : Int)
  | [], r, _ => by simp [index, List.isPrefixOf]
  | b :: l, r, h => by
    have hb : c ≠ b := fun e => h (by simp [e])
    have ih := index_hit c l r (fun e => h (by simp [e]))
    rw [List.cons_append, index, if_neg (by simp [List.isPrefixOf, hb]), ih, if_neg (by simp)]
    simp
theorem index_miss (c : UInt8) : ∀ (l : List UInt8), c ∉ l → index l [c] = -1
  | [], _ => by simp [index]
  | b :: l, h => by
    have hb : c ≠ b := fun e => h (by simp [e])
    rw [index, if_neg (by simp [List.isPrefixOf, hb]), index_miss c l (fun e => h (by simp [e]))]; rfl
theorem splitK_hit (c : UInt8) (k : Nat) (l r : List UInt8) (h : c ∉ l) : splitK [c] 0 (k + 1) (l ++ c :: r) = l :: splitK [c] 0 k r := by
  rw [splitK, index_hit c l r h, if_neg (by simp)]
  simp
theorem splitK_miss (c : UInt8) (k : Nat) (l : List UInt8) (h : c ∉ l) : splitK [c] 0 k l = [l] := by
  cases k with
  | zero => rfl
  | succ k => rw [splitK, index_miss c l h]; rfl
theorem dec_no (u : Nat) (c : UInt8) (hc : c.toNat < 48 ∨ 57 < c.toNat) : c ∉ decDigits u := fun h => by
  have := dec_dig u c h; omega
end Go.Proofs.YtnjmndofcpnmeaaGreatDoor
namespace Go.Proofs.YtnjmndofcpnmeaaGreatDoor
open Go Go.RowKit
set_option linter.unusedVariables false

theorem itoa_of {x : Int} (h : 0 ≤ x) : Lib.itoa x = Lib.decDigits x.toNat := by unfold Lib.itoa; rw [if_neg (by omega)]
/-! What the library's functions read. -/
def MaxL (w : World) : Prop := ∀ g, Tryz.prog.globalNamed "internal/bytealg.MaxLen" = some g → ∃ m, w.cell? ⟨g, 0, none⟩ = some (.int .i64 m)
theorem MaxL.ext {w w' : World} (h : MaxL w) (hx : Ext w w') : MaxL w' := fun g hg => let ⟨m, hm⟩ := h g hg; ⟨m, hx.cell hm⟩
def IfVar (n : String) (w : World) : Prop := ∃ tp p, w.var? Tryz.prog n = some #[.iface tp p]
theorem IfVar.ext {n : String} {w w' : World} (h : IfVar n w) (hx : Ext w w') : IfVar n w' := by
  obtain ⟨tp, p, h⟩ := h
  refine ⟨tp, p, ?_⟩
  unfold World.var? at h
  cases hg : Tryz.prog.globalNamed n with
  | none => rw [hg] at h; simp at h
  | some g =>
    have h' : w.var? Tryz.prog n = some #[.iface tp p] := by unfold World.var?; exact h
    rw [hg] at h
    simp only [Option.bind_some] at h
    have hlt : g < w.heap.size := by
      by_cases hh : g < w.heap.size
      · exact hh
      · rw [Array.getElem?_eq_none (by omega)] at h
        cases h
    exact var?_below hx hg hlt h'
structure Env (w : World) : Prop where
  pow : Pow w
  maxl : MaxL w
  syn : IfVar "strconv.ErrSyntax" w
  rng : IfVar "strconv.ErrRange" w
theorem Env.ext {w w' : World} (h : Env w) (hx : Ext w w') : Env w' := ⟨h.pow.ext hx, h.maxl.ext hx, h.syn.ext hx, h.rng.ext hx⟩

theorem ext_bytesWorld (w : World) (e : TypeId) (s : ByteArray) : Ext w (Lib.bytesWorld w e s) :=
  ⟨rfl, rfl, rfl, by rw [Lib.bytesWorld_size]; omega, fun k hk => Lib.bytesWorld_at_old w e s k (by omega)⟩
end Go.Proofs.YtnjmndofcpnmeaaGreatDoor
