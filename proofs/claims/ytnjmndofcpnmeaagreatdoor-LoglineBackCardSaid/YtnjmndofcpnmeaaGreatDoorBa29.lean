/- Texts laid together (wip/tools/automerge.py): LgPure7, LgPure9, LgPure3, Gr1, OwR, LgPure8, LgPure14, Lg14, Lg15. -/
import Derived.Test.YtnjmndofcpnmeaaGreatDoorBa28
import Derived.Test.YtnjmndofcpnmeaaGreatDoorBa6
import Derived.Maps.RangeWalk
import Derived.Maps.OwnRows
import Derived.Maps.Ext
import Derived.Test.YtnjmndofcpnmeaaGreatDoorBa24
import Derived.Test.YtnjmndofcpnmeaaGreatDoorBa8
import Derived.Test.YtnjmndofcpnmeaaGreatDoorBa25
import Derived.Test.YtnjmndofcpnmeaaGreatDoorBa4
import Derived.Laws.EntriesVeiled
namespace Go.Proofs.YtnjmndofcpnmeaaGreatDoor
open Go Go.Lib
set_option linter.unusedVariables false

theorem hit_fail {l : List Fct} {w lim : Int} {ad : Bool} {i : Nat} (h : hitF l w lim ad i = true) : failB (atF l i) = true := by
  unfold hitF at h
  rw [Bool.and_eq_true] at h
  exact h.1
theorem alm_lt {l : List Fct} {w lim : Int} {ad : Bool} {i : Nat} (h : i ∈ almF l w lim ad) : i < l.length := (fstK_mem.1 h).1
/-- The first hit of a group is its alarm. -/
theorem find_alm {l : List Fct} {w lim : Int} {ad : Bool} {x : Who} {i : Nat} : (grpF l ad x).find? (hitF l w lim ad) = some i ↔ i ∈ almF l w lim ad ∧ who ad (atF l i) = x := by
  rw [List.find?_eq_some_iff_getElem]
  constructor
  · rintro ⟨hh, p, hp, rfl, hb⟩
    have hm := grp_mem.1 (List.getElem_mem hp)
    refine ⟨fstK_mem.2 ⟨hm.1, hh, fun j hj hhj e => ?_⟩, hm.2.2⟩
    have hjm : j ∈ grpF l ad x := grp_mem.2 ⟨by omega, hit_fail hhj, e.trans hm.2.2⟩
    obtain ⟨q, hq, rfl⟩ := List.getElem_of_mem hjm
    have hqp : q < p := by
      rcases Nat.lt_trichotomy q p with h | h | h
      · exact h
      · subst h; omega
      · have := List.pairwise_iff_getElem.1 (grp_sorted (l := l) (ad := ad) (x := x)) p q hp hq h
        omega
    have := hb q hqp
    rw [hhj] at this
    exact absurd this (by decide)
  · rintro ⟨hm, rfl⟩
    obtain ⟨h1, h2, h3⟩ := fstK_mem.1 hm
    have hmem : i ∈ grpF l ad (who ad (atF l i)) := grp_mem.2 ⟨h1, hit_fail h2, rfl⟩
    obtain ⟨p, hp, hpi⟩ := List.getElem_of_mem hmem
    refine ⟨h2, p, hp, hpi, fun q hq => ?_⟩
    have hql : q < (grpF l ad (who ad (atF l i))).length := by omega
    have hlt := List.pairwise_iff_getElem.1 (grp_sorted (l := l) (ad := ad) (x := who ad (atF l i))) q p hql hp hq
    rw [hpi] at hlt
    cases hh : hitF l w lim ad ((grpF l ad (who ad (atF l i)))[q]) with
    | false => rfl
    | true => exact absurd (grp_mem.1 (List.getElem_mem hql)).2.2 (h3 _ hlt hh)
/-- Two rising lists with the same members are one. -/
theorem rise_eq : ∀ {a b : List Nat}, a.Pairwise (· < ·) → b.Pairwise (· < ·) → (∀ x, x ∈ a ↔ x ∈ b) → a = b
  | [], [], _, _, _ => rfl
  | [], y :: b, _, _, h => absurd ((h y).2 (by simp)) (by simp)
  | x :: a, [], _, _, h => absurd ((h x).1 (by simp)) (by simp)
  | x :: a, y :: b, ha, hb, h => by
    rw [List.pairwise_cons] at ha hb
    have hxy : x = y := by
      rcases List.mem_cons.1 ((h x).1 (by simp)) with e | e
      · exact e
      · rcases List.mem_cons.1 ((h y).2 (by simp)) with e' | e'
        · exact e'.symm
        · have h1 := hb.1 x e
          have h2 := ha.1 y e'
          omega
    subst hxy
    have : a = b := rise_eq ha.2 hb.2 fun z => by
      constructor
      · intro hz
        rcases List.mem_cons.1 ((h z).1 (List.mem_cons_of_mem _ hz)) with e | e
        · have := ha.1 z hz; omega
        · exact e
      · intro hz
        rcases List.mem_cons.1 ((h z).2 (List.mem_cons_of_mem _ hz)) with e | e
        · have := hb.1 z hz; omega
        · exact e
    rw [this]
theorem alm_sorted {l : List Fct} {w lim : Int} {ad : Bool} : (almF l w lim ad).Pairwise (· < ·) := List.Pairwise.filter _ List.pairwise_lt_range
/-- What the groups give, put in order, are the alarms. -/
theorem alms_of {l : List Fct} {w lim : Int} {ad : Bool} {f : List Nat} (hs : f.Pairwise (· < ·)) (h : ∀ i, i ∈ f ↔ ∃ x, (grpF l ad x).find? (hitF l w lim ad) = some i) : f = almF l w lim ad :=
  rise_eq hs alm_sorted fun i => by
    rw [h]
    constructor
    · rintro ⟨x, hx⟩; exact (find_alm.1 hx).1
    · intro hi; exact ⟨_, find_alm.2 ⟨hi, rfl⟩⟩
end Go.Proofs.YtnjmndofcpnmeaaGreatDoor
namespace Go.Proofs.YtnjmndofcpnmeaaGreatDoor
open Go Go.Lib
set_option linter.unusedVariables false

theorem mem_eq_len {α : Type} [DecidableEq α] {a b : List α} (ha : a.Nodup) (hb : b.Nodup) (h : ∀ x, x ∈ a ↔ x ∈ b) : a.length = b.length :=
  Nat.le_antisymm (nodup_le ha fun x hx => (h x).1 hx) (nodup_le hb fun x hx => (h x).2 hx)
/-- The different clients of a window, however they are told. -/
theorem cnt_any {l : List Fct} {w : Int} {i : Nat} {ks : List Who} (hd : ks.Nodup) (h : ∀ x, x ∈ ks ↔ ∃ j ∈ winF l w true i, who false (atF l j) = x) : cntF l w true i = ks.length := by
  unfold cntF
  rw [if_pos rfl]
  have h1 : ((fstK (i + 1) (fun j => (winF l w true i).contains j) (fun j => who false (atF l j))).map (fun j => who false (atF l j))).Nodup := nodup_mapK fstK_nodup fun a ha b hb => fstK_one ha hb
  have := mem_eq_len h1 hd fun x => by
    rw [h]
    constructor
    · intro hx
      obtain ⟨j, hj, e⟩ := List.mem_map.1 hx
      have := (fstK_mem.1 hj).2.1
      rw [List.contains_iff_mem] at this
      exact ⟨j, this, e⟩
    · rintro ⟨j, hj, rfl⟩
      have hji : j < i + 1 := by
        unfold winF at hj
        exact List.mem_range.1 (List.mem_filter.1 hj).1
      obtain ⟨m, hm, e, _⟩ := fstK_ex (n := i + 1) (P := fun j => (winF l w true i).contains j) (K := fun j => who false (atF l j)) j hji (by rw [List.contains_iff_mem]; exact hj)
      exact List.mem_map.2 ⟨m, hm, e⟩
  rw [← this, List.length_map]
theorem cnt_win {l : List Fct} {w : Int} {i : Nat} : cntF l w false i = (winF l w false i).length := by unfold cntF; rw [if_neg (by decide)]
/-- A list of different ones, one after the other. -/
def addK {α : Type} [DecidableEq α] (ks : List α) (x : α) : List α := if x ∈ ks then ks else ks ++ [x]
theorem addK_mem {α : Type} [DecidableEq α] {ks : List α} {x y : α} : y ∈ addK ks x ↔ y ∈ ks ∨ y = x := by
  unfold addK
  split
  · next h => exact ⟨.inl, fun k => k.elim id fun e => e ▸ h⟩
  · simp
theorem addK_nodup {α : Type} [DecidableEq α] {ks : List α} {x : α} (h : ks.Nodup) : (addK ks x).Nodup := by
  unfold addK
  split
  · exact h
  · next hx =>
    rw [List.nodup_append]
    refine ⟨h, by simp, fun a ha b hb => ?_⟩
    rw [List.mem_singleton] at hb
    subst hb
    exact fun e => hx (e ▸ ha)
/-! Activities. -/
/-- How many facts have a code. -/
def codF (l : List Fct) (c : Int) : Nat := (l.filter fun f => decide (f.co = c)).length
end Go.Proofs.YtnjmndofcpnmeaaGreatDoor
namespace Go.Proofs.YtnjmndofcpnmeaaGreatDoor
open Go Go.Lib
set_option linter.unusedVariables false

/-- What stands in a key for the components. -/
def keyP : List (List UInt8) → List UInt8
  | [] => []
  | p :: r => 32 :: (itoa (p.length : Int) ++ 32 :: (p ++ keyP r))
def keyN (p : List (List UInt8)) (r : List UInt8) : List UInt8 := itoa (p.length : Int) ++ (keyP p ++ 32 :: r)
def keyA (k : Int) (b : List UInt8) : List UInt8 := itoa k ++ 32 :: b
theorem keyP_snoc : ∀ (ls : List (List UInt8)) (p : List UInt8), keyP (ls ++ [p]) = keyP ls ++ (32 :: (itoa (p.length : Int) ++ 32 :: p))
  | [], p => by simp [keyP]
  | q :: r, p => by rw [List.cons_append, keyP, keyP_snoc r p, keyP]; simp
theorem itoa_no32 (x : Int) : (32 : UInt8) ∉ itoa x := by
  unfold itoa
  split
  · intro h
    rcases List.mem_cons.1 h with h | h
    · exact absurd h (by decide)
    · exact dec_no _ _ (by decide) h
  · exact dec_no _ _ (by decide)
theorem dec_no45 (n : Nat) : (45 : UInt8) ∉ decDigits n := dec_no _ _ (by decide)
theorem itoa_injZ {x y : Int} (e : itoa x = itoa y) : x = y := by
  unfold itoa at e
  split at e
  · split at e
    · injection e with _ e
      have := dec_inj e
      omega
    · exact absurd (e ▸ List.mem_cons_self) (dec_no45 _)
  · split at e
    · exact absurd (e ▸ List.mem_cons_self) (dec_no45 _)
    · have := dec_inj e
      omega
theorem keyA_inj {k k' : Int} {b b' : List UInt8} (e : keyA k b = keyA k' b') : k = k' ∧ b = b' := by
  obtain ⟨e1, e2⟩ := app_sep (itoa_no32 k) (itoa_no32 k') e
  exact ⟨itoa_injZ e1, e2⟩
theorem keyP_inj : ∀ {p q : List (List UInt8)} {a b : List UInt8}, p.length = q.length → keyP p ++ a = keyP q ++ b → p = q ∧ a = b
  | [], [], a, b, _, e => ⟨rfl, e⟩
  | [], _ :: _, a, b, h, _ => by simp at h
  | _ :: _, [], a, b, h, _ => by simp at h
  | x :: p, y :: q, a, b, h, e => by
    rw [keyP, keyP] at e
    simp only [List.cons_append, List.append_assoc] at e
    injection e with _ e
    obtain ⟨e1, e2⟩ := app_sep (itoa_no32 _) (itoa_no32 _) e
    have hl : x.length = y.length := by have := itoa_injZ e1; omega
    obtain ⟨e3, e4⟩ := List.append_inj e2 hl
    obtain ⟨e5, e6⟩ := keyP_inj (by simpa using h) e4
    exact ⟨by rw [e3, e5], e6⟩
theorem keyN_inj {p q : List (List UInt8)} {r s : List UInt8} (e : keyN p r = keyN q s) : p = q ∧ r = s := by
  unfold keyN at e
  have hs : ∀ (p : List (List UInt8)) (r : List UInt8), ∃ t, keyP p ++ 32 :: r = 32 :: t := fun p r => by
    cases p with
    | nil => exact ⟨r, rfl⟩
    | cons x p => exact ⟨_, by rw [keyP]; rfl⟩
  obtain ⟨t, ht⟩ := hs p r
  obtain ⟨u, hu⟩ := hs q s
  have e' := e
  rw [ht, hu] at e'
  obtain ⟨e1, e2⟩ := app_sep (itoa_no32 _) (itoa_no32 _) e'
  have hl : p.length = q.length := by have := itoa_injZ e1; omega
  have e3 : keyP p ++ 32 :: r = keyP q ++ 32 :: s := by rw [ht, hu, e2]
  obtain ⟨e4, e5⟩ := keyP_inj hl e3
  injection e5 with _ e5
  exact ⟨e4, e5⟩
end Go.Proofs.YtnjmndofcpnmeaaGreatDoor
namespace Go.Proofs.YtnjmndofcpnmeaaGreatDoor
open Go Go.Lib Go.Maps
open Go.ChangeShapes (lits)
set_option linter.unusedVariables false

/-- The indices below n that are wanted and have a key. -/
def grpK (n : Nat) (P : Nat → Bool) (K : Nat → List UInt8) (s : List UInt8) : List Nat := (List.range n).filter fun j => P j && decide (K j = s)
theorem grpK_zero (P : Nat → Bool) (K : Nat → List UInt8) (s : List UInt8) : grpK 0 P K s = [] := rfl
theorem grpK_succ (n : Nat) (P : Nat → Bool) (K : Nat → List UInt8) (s : List UInt8) : grpK (n + 1) P K s = grpK n P K s ++ (if P n && decide (K n = s) then [n] else []) := filt_succ n _
theorem grpK_mem {n : Nat} {P : Nat → Bool} {K : Nat → List UInt8} {s : List UInt8} {i : Nat} : i ∈ grpK n P K s ↔ i < n ∧ P i = true ∧ K i = s := by
  unfold grpK
  rw [List.mem_filter, List.mem_range, Bool.and_eq_true, decide_eq_true_eq]
theorem grpK_ne {n : Nat} {P : Nat → Bool} {K : Nat → List UInt8} {s : List UInt8} : grpK n P K s ≠ [] ↔ ∃ j, j < n ∧ P j = true ∧ K j = s := by
  rw [List.ne_nil_iff_length_pos, List.length_pos_iff_exists_mem]
  exact ⟨fun ⟨j, h⟩ => ⟨j, grpK_mem.1 h⟩, fun ⟨j, h⟩ => ⟨j, grpK_mem.2 h⟩⟩
/-- As integers. -/
def zI (l : List Nat) : List Int := l.map fun n : Nat => (n : Int)
theorem zI_append (a b : List Nat) : zI (a ++ b) = zI a ++ zI b := by simp [zI]
theorem zI_len (a : List Nat) : (zI a).length = a.length := by simp [zI]
section
variable {H : Type}
theorem lits_inj {a b : List Int} (h : lits (H := H) .i64 a = lits .i64 b) : a = b := by
  unfold lits at h
  refine (List.map_inj_right (fun x y e => ?_)).1 h
  injection e with e
  injection e
/-- What the map holds. -/
structure GD (D : DataW H) (n : Nat) (P : Nat → Bool) (K : Nat → List UInt8) : Prop where
  map : IsMap D
  has : ∀ s, Maps.has D (.string s) = true ↔ grpK n P K s ≠ []
  at_ : ∀ s, grpK n P K s ≠ [] → ∀ z, D.atKey (.string s) z = .slice (lits .i64 (zI (grpK n P K s))) []
theorem GD.start (P : Nat → Bool) (K : Nat → List UInt8) : GD (.map [] : DataW H) 0 P K :=
  ⟨isMap_empty, fun s => by simp [Maps.has, grpK_zero], fun s h => absurd rfl h⟩
theorem GD.skip {D : DataW H} {n : Nat} {P : Nat → Bool} {K : Nat → List UInt8} (h : GD D n P K) (hp : P n = false) : GD D (n + 1) P K := by
  have e : ∀ s, grpK (n + 1) P K s = grpK n P K s := fun s => by rw [grpK_succ, hp]; simp
  exact ⟨h.map, fun s => by rw [e]; exact h.has s, fun s hs => by rw [e] at hs ⊢; exact h.at_ s hs⟩
theorem GD.look {w : World} {base : Nat} {e : TypeId} {v : Value} {zs : List Int} {D : DataW H} {n : Nat} {P : Nat → Bool} {K : Nat → List UInt8} (h : GD D n P K) (s : List UInt8) (ho : w.ownsInts base e .i64 v zs)
    (hat : D.atKey (.string s) .nil = rowDatum .i64 v zs) : zs = zI (grpK n P K s) := by
  by_cases hg : grpK n P K s = []
  · have hn : Maps.has D (.string s) = false := by
      cases hh : Maps.has D (.string s) with
      | false => rfl
      | true => exact absurd hg ((h.has s).1 hh)
    rw [atKey_of_not_has hn] at hat
    rw [hg]
    rcases ho.datum (H := H) with ⟨_, h1⟩ | h1
    · exact h1
    · rw [h1] at hat; cases hat
  · rw [h.at_ s hg] at hat
    rcases ho.datum (H := H) with ⟨h1, _⟩ | h1
    · rw [h1] at hat; cases hat
    · rw [h1] at hat
      injection hat with hat _
      exact (lits_inj hat).symm
theorem GD.step {zs : List Int} {D : DataW H} {n : Nat} {P : Nat → Bool} {K : Nat → List UInt8} (h : GD D n P K) (hp : P n = true) (hz : zs = zI (grpK n P K (K n))) : GD (D.put (.string (K n)) (.slice (lits .i64 (zs ++ [(n : Int)])) [])) (n + 1) P K := by
  have e1 : grpK (n + 1) P K (K n) = grpK n P K (K n) ++ [n] := by rw [grpK_succ, hp]; simp
  have e2 : ∀ s, s ≠ K n → grpK (n + 1) P K s = grpK n P K s := fun s hs => by rw [grpK_succ, hp, decide_eq_false (fun e => hs e.symm)]; simp
  have hlit : ∀ s, s ≠ K n → (Lit.string s) ≠ .string (K n) := fun s hs e => hs (by injection e)
  refine ⟨h.map.put _ _, fun s => ?_, fun s hs z => ?_⟩
  · by_cases hk : s = K n
    · subst hk
      rw [has_put_same h.map (by trivial), e1]
      simp
    · rw [has_put_other (hlit s hk), e2 s hk]
      exact h.has s
  · by_cases hk : s = K n
    · subst hk
      rw [atKey_put_same h.map (by trivial), e1, hz, zI_append]
      rfl
    · rw [atKey_put_other (hlit s hk), e2 s hk]
      rw [e2 s hk] at hs
      exact h.at_ s hs z
end
/-! Keys of the facts. -/
/-- The key of a fact, by address or by client. -/
def keyF (ad : Bool) (f : Fct) : List UInt8 := if ad then keyA f.fk f.fb else keyN f.cp f.cr
theorem keyF_inj {ad : Bool} {f g : Fct} : keyF ad f = keyF ad g ↔ who ad f = who ad g := by
  unfold keyF who
  cases ad with
  | true =>
    simp only [if_pos]
    constructor
    · intro h; obtain ⟨h1, h2⟩ := keyA_inj h; rw [h1, h2]
    · intro h; injection h with h1 h2; rw [h1, h2]
  | false =>
    simp only [Bool.false_eq_true, if_false]
    constructor
    · intro h; obtain ⟨h1, h2⟩ := keyN_inj h; rw [h1, h2]
    · intro h; injection h with h1 h2; rw [h1, h2]
/-- The groups of failures. -/
theorem grpK_F {l : List Fct} {ad : Bool} {i : Nat} : grpK l.length (fun j => failB (atF l j)) (fun j => keyF ad (atF l j)) (keyF ad (atF l i)) = grpF l ad (who ad (atF l i)) := by
  unfold grpK grpF
  congr 1
  funext j
  rw [decide_eq_decide.2 keyF_inj]
end Go.Proofs.YtnjmndofcpnmeaaGreatDoor
namespace Go.Proofs.YtnjmndofcpnmeaaGreatDoor
open Go Go.RowKit
set_option linter.unusedVariables false

/-- An element: its cells; the memory it leads to ('In'); the blocks of that memory in which a row must not lie ('Blk'). -/
structure Ek (α : Type) where
  k : Nat
  kp : 0 < k
  cs : α → List Value
  len : ∀ x, (cs x).length = k
  one : ∀ x, ∀ u ∈ cs x, u.oneCell' = true
  no8 : ∀ x, ∀ u ∈ cs x, ∀ n, u ≠ .int .u8 n
  In : World → α → Prop
  Blk : α → Nat → Prop
  blt : ∀ w x b, In w x → Blk x b → b < w.heap.size
  keep : ∀ w w' x row, In w x → w.grownBy w' row → (∀ b, row = some b → NoU8 w b ∧ ¬ Blk x b) → In w' x
section
variable {α : Type} (E : Ek α)
theorem Ek.ext {w w' : World} {x : α} (h : E.In w x) (hx : Ext w w') : E.In w' x := E.keep w w' x none h (hx.but none) (fun b e => by cases e)
/-- All cells. -/
def Ek.all (xs : List α) : List Value := xs.flatMap E.cs
theorem Ek.all_len : ∀ xs : List α, (E.all xs).length = xs.length * E.k
  | [] => by simp [Ek.all]
  | x :: xs => by
    have h := Ek.all_len xs
    unfold Ek.all at h ⊢
    rw [List.flatMap_cons, List.length_append, E.len, h, List.length_cons, Nat.succ_mul, Nat.add_comm]
theorem Ek.all_append (xs ys : List α) : E.all (xs ++ ys) = E.all xs ++ E.all ys := by simp [Ek.all]
theorem Ek.all_one (x : α) : E.all [x] = E.cs x := by simp [Ek.all]
theorem Ek.all_get : ∀ (xs : List α) (i j : Nat) (h : i < xs.length), j < E.k → (E.all xs)[i * E.k + j]? = (E.cs xs[i])[j]?
  | [], i, j, h, _ => by simp at h
  | x :: xs, 0, j, h, hj => by
    unfold Ek.all
    rw [List.flatMap_cons, Nat.zero_mul, Nat.zero_add, List.getElem?_append_left (by rw [E.len]; exact hj)]
    rfl
  | x :: xs, i + 1, j, h, hj => by
    have hh := Ek.all_get xs i j (by simpa using h) hj
    unfold Ek.all at hh ⊢
    rw [List.flatMap_cons, List.getElem?_append_right (by rw [E.len, Nat.succ_mul]; omega), E.len, show (i + 1) * E.k + j - E.k = i * E.k + j by rw [Nat.succ_mul]; omega]
    exact hh
/-- The row. -/
def ROW (e : TypeId) (w : World) (B : Nat) (v : Value) (xs : List α) : Prop :=
  (∀ r, v.ownBlock = some r → NoU8 w r) ∧ w.ownsRow B e E.k v xs.length (E.all xs) ∧ ∀ x ∈ xs, E.In w x ∧ ∀ b, v.ownBlock = some b → ¬ E.Blk x b
variable {E} {e : TypeId} {w w' : World} {B : Nat} {v : Value} {xs ys : List α}
theorem ROW.nil (e : TypeId) (w : World) (B : Nat) : ROW E e w B (.slice none 0 0) [] := ⟨fun r h => by simp [Value.ownBlock] at h, World.ownsRow_nil _ _ _ _, fun x h => by cases h⟩
theorem ROW.lt (h : ROW E e w B v xs) : ∀ b, v.ownBlock = some b → B ≤ b ∧ b < w.heap.size := World.ownsRow.lt h.2.1
theorem ROW.shape (h : ROW E e w B v xs) : ∃ A c, v = .slice A xs.length c := by
  rcases h.2.1.2 with ⟨rfl, h0⟩ | ⟨g, cap, cur, rfl, _⟩
  · exact ⟨none, 0, by rw [h0]⟩
  · exact ⟨_, cap, rfl⟩
theorem ROW.keep (h : ROW E e w B v xs) {row : Option Nat} (hg : w.grownBy w' row) (hne : ∀ b, row = some b → v.ownBlock ≠ some b ∧ NoU8 w b ∧ ∀ x ∈ xs, ¬ E.Blk x b) : ROW E e w' B v xs := by
  obtain ⟨h0, h1, h2⟩ := h
  refine ⟨fun r hr => (h0 r hr).same (hg.block r (World.ownsRow.lt h1 r hr).2 (fun e' => (hne r e'.symm).1 hr)), h1.kept hg ?_, fun x hx => ⟨E.keep w w' x row (h2 x hx).1 hg (fun b hb => ⟨(hne b hb).2.1, (hne b hb).2.2 x hx⟩), (h2 x hx).2⟩⟩
  cases hv : v.ownBlock with
  | none => exact .inl rfl
  | some r => exact .inr (fun e' => (hne r e'.symm).1 hv)
theorem ROW.ext (h : ROW E e w B v xs) (hx : Ext w w') : ROW E e w' B v xs := h.keep (hx.but none) (fun b e => by cases e)
theorem ROW.down {B' : Nat} (h : ROW E e w B v xs) (hB : B' ≤ B) : ROW E e w B' v xs := by
  obtain ⟨h0, ⟨h1, h2⟩, h3⟩ := h
  refine ⟨h0, ⟨h1, ?_⟩, h3⟩
  rcases h2 with h | ⟨g, cap, cur, e1, e2, r⟩
  · exact .inl h
  · exact .inr ⟨g, cap, cur, e1, Nat.le_trans hB e2, r⟩
/-- Its cells, from its head. -/
theorem ROW.cells (h : ROW E e w B v xs) : ∃ A c, v = .slice A xs.length c ∧ xs.length ≤ c ∧ c ≤ maxLen ∧ ∀ i (hi : i < xs.length), E.In w xs[i] ∧ ∃ ad, A = some ad ∧ ∀ j u, (E.cs xs[i])[j]? = some u → w.cell? (ad.add (i * E.k + j)) = some u := by
  obtain ⟨_, h1, h2⟩ := h
  rcases h1.2 with ⟨rfl, h0⟩ | ⟨g, cap, cur, rfl, hb, hg, hnc, hcm, _⟩
  · exact ⟨none, 0, by rw [h0], by omega, by unfold maxLen; omega, fun i hi => by omega⟩
  · refine ⟨some ⟨g, 0, none⟩, cap, rfl, hnc, hcm, fun i hi => ⟨(h2 _ (List.getElem_mem hi)).1, _, rfl, fun j u hu => ?_⟩⟩
    have hj : j < E.k := by rw [← E.len xs[i]]; exact (List.getElem?_eq_some_iff.1 hu).1
    exact h1.cells rfl _ _ (by rw [E.all_get xs i j hi hj]; exact hu)
end
section
variable {α : Type} {E : Ek α} {P : Program}
/-- append onto it, from a row that holds elements. -/
theorem run_append_row (w : World) (base : Nat) (t ty e : TypeId) (i : TypeInfo) (z : Value) (bytes : Nat) (ht : P.underlying t = some (.slice e)) (hi : P.info? e = some i) (hz : i.zero = some z)
    (hsize : i.size = E.k) (hby : i.bytes = bytes) (hzs : z.cells.size = E.k) (hzn : ∀ x ∈ z.cells.toList, ∀ n, x ≠ .int .u8 n)
    (v : Value) (xs : List α) (hown : ROW E e w base v xs) (ad : Addr) (c : Nat) (ys : List α) (hy0 : 0 < ys.length) (hnews : ∀ j u, (E.all ys)[j]? = some u → w.cell? (ad.add j) = some u)
    (hys : ∀ y ∈ ys, E.In w y ∧ ∀ b, v.ownBlock = some b → ¬ E.Blk y b)
    (hbytes : (xs.length + ys.length) * bytes ≤ 140737488355328) (hby0 : 0 < bytes) (hbase : base ≤ w.heap.size) :
    ∃ v' w', (Builtin.append_ #[t, t] ty #[v, .slice (some ad) ys.length c]).run P w = .ok v' w' ∧ ROW E e w' base v' (xs ++ ys) ∧ w.grownBy w' v.ownBlock ∧ (v'.ownBlock = v.ownBlock ∨ v'.ownBlock = some w.heap.size) := by
  obtain ⟨h0, h1, h2⟩ := hown
  have h63 : xs.length + ys.length ≤ maxLen := by
    have : xs.length + ys.length ≤ (xs.length + ys.length) * bytes := Nat.le_mul_of_pos_right _ hby0
    unfold maxLen; omega
  have hone : ∀ u ∈ E.all ys, u.oneCell' = true := by
    intro u hu
    unfold Ek.all at hu
    obtain ⟨y, _, hu⟩ := List.mem_flatMap.1 hu
    exact E.one y u hu
  have hno8 : ∀ u ∈ E.all ys, ∀ n, u ≠ .int .u8 n := by
    intro u hu
    unfold Ek.all at hu
    obtain ⟨y, _, hu⟩ := List.mem_flatMap.1 hu
    exact E.no8 y u hu
  obtain ⟨v', w', hrun, g1, g2, _, g3⟩ := run_append_own_at (P := P) w base t ty e i z E.k bytes ht hi hz hsize hby hzs E.kp v xs.length (E.all xs) h1 ad ys.length c (E.all ys) (E.all_len ys) hnews hone h63 hbytes hbase
  have g4 := append_noU8 (P := P) w base t ty e i z E.k bytes ht hi hz hsize hby hzs E.kp v xs.length (E.all xs) h1 ad ys.length c (E.all ys) (E.all_len ys) hnews hone hy0 h63 hbytes h0 hzn hno8 v' w' hrun
  have key : ∀ x, (E.In w x ∧ ∀ b, v.ownBlock = some b → ¬ E.Blk x b) → E.In w' x ∧ ∀ b, v'.ownBlock = some b → ¬ E.Blk x b := by
    rintro x ⟨k1, k2⟩
    refine ⟨E.keep w w' x v.ownBlock k1 g2 (fun b hb => ⟨h0 b hb, k2 b hb⟩), fun b hb hB => ?_⟩
    rcases g3 with g | g
    · exact k2 b (g ▸ hb) hB
    · rw [g] at hb
      injection hb with hb
      have := E.blt w x b k1 hB
      omega
  refine ⟨v', w', hrun, ⟨g4, ?_, fun x hx => ?_⟩, g2, g3⟩
  · rw [E.all_append, List.length_append]; exact g1
  · rcases List.mem_append.1 hx with hx | hx
    · exact key x (h2 x hx)
    · exact key x (hys x hx)
theorem wpList_append_row (w : World) {ops : Array Oper} {rest : List Oper} {o : Oper} {a : Act} {Q : Exit → Act → World → Prop} (hgd : o.guard = none) (s x : Operand) (t : TypeId)
    (ho : o.op = .call { callee := .builtin .append, args := #[s, x], argTypes := #[t, t] })
    (base : Nat) (e : TypeId) (i : TypeInfo) (z : Value) (bytes : Nat) (ht : P.underlying t = some (.slice e)) (hi : P.info? e = some i) (hz : i.zero = some z)
    (hsize : i.size = E.k) (hby : i.bytes = bytes) (hzs : z.cells.size = E.k) (hzn : ∀ x ∈ z.cells.toList, ∀ n, x ≠ .int .u8 n)
    (v : Value) (xs : List α) (hs : a.eval s = v) (hown : ROW E e w base v xs) (ad : Addr) (c : Nat) (ys : List α) (hx : a.eval x = .slice (some ad) ys.length c) (hy0 : 0 < ys.length) (hnews : ∀ j u, (E.all ys)[j]? = some u → w.cell? (ad.add j) = some u)
    (hys : ∀ y ∈ ys, E.In w y ∧ ∀ b, v.ownBlock = some b → ¬ E.Blk y b)
    (hbytes : (xs.length + ys.length) * bytes ≤ 140737488355328) (hby0 : 0 < bytes) (hbase : base ≤ w.heap.size)
    (h : ∀ v' w', ROW E e w' base v' (xs ++ ys) → w.grownBy w' v.ownBlock → (v'.ownBlock = v.ownBlock ∨ v'.ownBlock = some w.heap.size) → wpList P ops Q rest (a.put o.dst v') w') : wpList P ops Q (o :: rest) a w := by
  refine wpList_plain hgd fun K hK => ?_
  obtain ⟨v', w', hrun, h2, h3, h4⟩ := run_append_row (P := P) w base t o.type e i z bytes ht hi hz hsize hby hzs hzn v xs hown ad c ys hy0 hnews hys hbytes hby0 hbase
  unfold Oper.wp execOp
  simp only [ho, resolve, invoke, builtin, Sem.run_bind, Sem.run_pure, Result.andThen_ok, List.map_toArray, List.map_cons, List.map_nil, hs, hx, hrun]
  exact hK _ _ (h v' w' h2 h3 h4)
theorem wpListIn_append_row {F : Fence} {n : Nat} (w : World) {ops : Array Oper} {rest : List Oper} {o : Oper} {a : Act} {Q : Exit → Act → World → Prop} (hgd : o.guard = none) (s x : Operand) (t : TypeId)
    (ho : o.op = .call { callee := .builtin .append, args := #[s, x], argTypes := #[t, t] })
    (base : Nat) (e : TypeId) (i : TypeInfo) (z : Value) (bytes : Nat) (ht : P.underlying t = some (.slice e)) (hi : P.info? e = some i) (hz : i.zero = some z)
    (hsize : i.size = E.k) (hby : i.bytes = bytes) (hzs : z.cells.size = E.k) (hzn : ∀ x ∈ z.cells.toList, ∀ n, x ≠ .int .u8 n)
    (v : Value) (xs : List α) (hs : a.eval s = v) (hown : ROW E e w base v xs) (ad : Addr) (c : Nat) (ys : List α) (hx : a.eval x = .slice (some ad) ys.length c) (hy0 : 0 < ys.length) (hnews : ∀ j u, (E.all ys)[j]? = some u → w.cell? (ad.add j) = some u)
    (hys : ∀ y ∈ ys, E.In w y ∧ ∀ b, v.ownBlock = some b → ¬ E.Blk y b)
    (hbytes : (xs.length + ys.length) * bytes ≤ 140737488355328) (hby0 : 0 < bytes) (hbase : base ≤ w.heap.size)
    (h : ∀ v' w', ROW E e w' base v' (xs ++ ys) → w.grownBy w' v.ownBlock → (v'.ownBlock = v.ownBlock ∨ v'.ownBlock = some w.heap.size) → wpListIn F n P ops Q rest (a.put o.dst v') w') : wpListIn F n P ops Q (o :: rest) a w := by
  refine wpListIn_plain hgd fun K hK => ?_
  obtain ⟨v', w', hrun, h2, h3, h4⟩ := run_append_row (P := P) w base t o.type e i z bytes ht hi hz hsize hby hzs hzn v xs hown ad c ys hy0 hnews hys hbytes hby0 hbase
  unfold Oper.wpIn
  refine ⟨?_, ?_⟩
  · simp [Oper.about, ho, resolve, Target.leads, Sem.run_pure]
  · rw [Oper.semAt_plain F _ _ (by rw [ho]; intro c hc'; cases hc')]
    simp [execOp, ho, resolve, invoke, builtin, hs, hx, hrun, Result.andThen]
    exact hK _ _ (h v' w' h2 h3 h4)
end
theorem ROW.keepsOthers {α : Type} {E : Ek α} {e : TypeId} {w W' : World} {B : Nat} {v : Value} {xs : List α} (h : ROW E e w B v xs) (hg : w.grownBy W' v.ownBlock) : KeepsOthers w W' :=
  KeepsOthers.of_grownBy hg (fun j o hj ho => by
    rcases h.2.1.2 with ⟨rfl, _⟩ | ⟨g, cap, cur, rfl, hb, hgg, _⟩
    · simp [Value.ownBlock] at hj
    · have : g = j := Option.some.inj hj
      subst this
      rw [hgg] at ho; injection ho with ho; subst ho; rfl)
theorem Stab.row {α : Type} {E : Ek α} {B : Nat} (e : TypeId) (b0 : Nat) (v : Value) (xs : List α) (hB : ∀ w l x, NC w l → E.In w x → ¬ E.Blk x l) : Stab B (fun W => ROW E e W b0 v xs) := fun W W' l _ hn hg h =>
  h.keep hg (fun b hb => by
    injection hb with hb
    subst hb
    refine ⟨fun hv => ?_, hn.noU8, fun x hx => hB W l x hn (h.2.2 x hx).1⟩
    rcases h.2.1.2 with ⟨rfl, _⟩ | ⟨g, cap, cur, rfl, hb, hgg, _⟩
    · simp [Value.ownBlock] at hv
    · have : g = l := Option.some.inj hv
      subst this
      exact hn _ _ _ hgg)
end Go.Proofs.YtnjmndofcpnmeaaGreatDoor
namespace Go.Proofs.YtnjmndofcpnmeaaGreatDoor
open Go Go.Lib
set_option linter.unusedVariables false

/-- What Parse answers, as a function. -/
noncomputable def prsF (l : List UInt8) : Option Fct := open Classical in if h : ∃ f : Fct, f.Ok ∧ f.txt = l then some h.choose else none
theorem prsF_spec (l : List UInt8) : PrsS l (prsF l) := by
  unfold prsF
  split
  · next h => exact .inl ⟨_, rfl, h.choose_spec⟩
  · next h => exact .inr ⟨rfl, fun f hf e => h ⟨f, hf, e⟩⟩
theorem prsF_some {l : List UInt8} {f : Fct} (h : prsF l = some f) : f.Ok ∧ f.txt = l := by
  rcases prsF_spec l with ⟨g, e, h1⟩ | ⟨e, _⟩
  · rw [h] at e
    injection e with e
    exact e ▸ h1
  · rw [h] at e; cases e
theorem prsF_txt {f : Fct} (h : f.Ok) : prsF f.txt = some f := (prsF_spec f.txt).uniq (.inl ⟨f, rfl, h, rfl⟩)
/-- The lines are read one after the other; the last piece must be empty. -/
noncomputable def plogF : List (List UInt8) → List Fct → List Fct × Nat × Int
  | [], acc => (acc, 0, 0)
  | [x], acc => if x = [] then (acc, 0, 0) else ([], acc.length + 1, 6)
  | x :: y :: r, acc => match prsF x with
    | none => ([], acc.length + 1, 6)
    | some f => plogF (y :: r) (acc ++ [f])
theorem plog_one (x : List UInt8) (acc : List Fct) : plogF [x] acc = if x = [] then (acc, 0, 0) else ([], acc.length + 1, 6) := by rw [plogF]
theorem plog_none {x y : List UInt8} {r : List (List UInt8)} {acc : List Fct} (h : prsF x = none) : plogF (x :: y :: r) acc = ([], acc.length + 1, 6) := by rw [plogF, h]
theorem plog_some {x y : List UInt8} {r : List (List UInt8)} {acc : List Fct} {f : Fct} (h : prsF x = some f) : plogF (x :: y :: r) acc = plogF (y :: r) (acc ++ [f]) := by rw [plogF, h]
theorem splb_ne (x : UInt8) : ∀ (s acc : List UInt8), splb x acc s ≠ []
  | [], acc => by rw [splb]; simp
  | c :: r, acc => by
    rw [splb]
    split
    · simp
    · exact splb_ne x r _
theorem join_splb (x : UInt8) : ∀ (s acc : List UInt8), join (splb x acc s) [x] = acc ++ s
  | [], acc => by rw [splb, join_one, List.append_nil]
  | c :: r, acc => by
    rw [splb]
    split
    · next h =>
      have ih := join_splb x r []
      subst h
      cases hs : splb c [] r with
      | nil => exact absurd hs (splb_ne c r [])
      | cons y t =>
        rw [hs] at ih
        rw [join_cons]
        unfold joinTail
        rw [List.map_cons, List.flatten_cons]
        rw [join_cons] at ih
        unfold joinTail at ih
        rw [List.nil_append] at ih
        rw [List.append_assoc, ih]
        rfl
    · rw [join_splb x r]
      simp
/-- A log is read again. -/
theorem plog_log : ∀ {fs : List Fct} (acc : List Fct), (∀ f ∈ fs, f.Ok) → plogF (fs.map Fct.txt ++ [[]]) acc = (acc ++ fs, 0, 0)
  | [], acc, _ => by simp [plog_one]
  | f :: fs, acc, h => by
    have hf := h f (by simp)
    obtain ⟨y, t, e⟩ : ∃ y t, fs.map Fct.txt ++ [[]] = y :: t := by
      cases fs with
      | nil => exact ⟨_, _, rfl⟩
      | cons g gs => exact ⟨_, _, rfl⟩
    rw [List.map_cons, List.cons_append, e, plog_some (prsF_txt hf), ← e, plog_log (acc ++ [f]) (fun g hg => h g (List.mem_cons_of_mem _ hg))]
    simp
theorem plog_back {fs : List Fct} (h : ∀ f ∈ fs, f.Ok) : plogF (splb 10 [] (logT fs)) [] = (fs, 0, 0) := by
  rw [log_lines h, plog_log [] h]
  rfl
/-- What is read of a log has that log. -/
theorem plog_ok : ∀ (ls : List (List UInt8)) (acc fs : List Fct) (n : Nat), ls ≠ [] → plogF ls acc = (fs, n, 0) → ∃ gs, fs = acc ++ gs ∧ (∀ g ∈ gs, g.Ok) ∧ join ls [10] = logT gs
  | [], _, _, _, h, _ => absurd rfl h
  | [x], acc, fs, n, _, h => by
    rw [plog_one] at h
    split at h
    · next hx =>
      injection h with h _
      exact ⟨[], by rw [← h, List.append_nil], fun g hg => absurd hg (by simp), by rw [hx, join_one]; rfl⟩
    · injection h with _ h
      injection h with _ h
      cases h
  | x :: y :: r, acc, fs, n, _, h => by
    cases hp : prsF x with
    | none =>
      rw [plog_none hp] at h
      injection h with _ h
      injection h with _ h
      cases h
    | some f =>
      rw [plog_some hp] at h
      obtain ⟨gs, e1, e2, e3⟩ := plog_ok (y :: r) (acc ++ [f]) fs n (by simp) h
      obtain ⟨k1, k2⟩ := prsF_some hp
      refine ⟨f :: gs, by rw [e1]; simp, fun g hg => ?_, ?_⟩
      · rcases List.mem_cons.1 hg with rfl | hg
        · exact k1
        · exact e2 g hg
      · rw [logT_cons, ← e3, k2, join_cons, join_cons]
        unfold joinTail
        rw [List.map_cons, List.flatten_cons]
        simp
theorem plog_back2 {s : List UInt8} {fs : List Fct} {n : Nat} (h : plogF (splb 10 [] s) [] = (fs, n, 0)) : (∀ f ∈ fs, f.Ok) ∧ logT fs = s := by
  have hne : splb 10 [] s ≠ [] := splb_ne 10 s []
  obtain ⟨gs, e1, e2, e3⟩ := plog_ok _ _ _ _ hne h
  rw [List.nil_append] at e1
  subst e1
  exact ⟨e2, by rw [← e3, join_splb]; rfl⟩
end Go.Proofs.YtnjmndofcpnmeaaGreatDoor
namespace Go.Proofs.YtnjmndofcpnmeaaGreatDoor
open Go Go.Lib
set_option linter.unusedVariables false

/-- The lines, and whether each one is ended. -/
def lnP : List (List UInt8) → List (List UInt8 × Bool)
  | [] => []
  | [x] => if x = [] then [] else [(x, false)]
  | x :: y :: r => (x, true) :: lnP (y :: r)
def lnF (l : List UInt8) : List (List UInt8 × Bool) := lnP (splb 10 [] l)
theorem lnF_nil : lnF [] = [] := rfl
theorem lnP_two {x : List UInt8} {ls : List (List UInt8)} (h : ls ≠ []) : lnP (x :: ls) = (x, true) :: lnP ls := by
  cases ls with
  | nil => exact absurd rfl h
  | cons y r => rfl
theorem lnF_cut {l : List UInt8} (h : l ≠ []) : lnF l = ((cut l [10]).1, (cut l [10]).2.2) :: lnF (cut l [10]).2.1 ∧ (cut l [10]).2.1.length < l.length := by
  unfold lnF
  by_cases hx : (10 : UInt8) ∈ l
  · obtain ⟨a, b, rfl, ha⟩ := List.eq_append_cons_of_mem hx
    have hi := index_hit 10 a b ha
    have hc : cut (a ++ 10 :: b) [10] = (a, b, true) := by
      unfold cut
      rw [hi, if_pos (by omega), show ((a.length : Int)).toNat = a.length from rfl]
      simp
    rw [hc, splb_hit 10 a [] b (fun c hc e => ha (e ▸ hc)), lnP_two (splb_ne 10 b []), List.nil_append]
    exact ⟨rfl, by simp; omega⟩
  · have hi := index_miss 10 l hx
    have hc : cut l [10] = (l, [], false) := by
      unfold cut
      rw [hi, if_neg (by decide)]
    rw [hc, splb_acc 10 l [] (fun c hc e => hx (e ▸ hc)), List.nil_append]
    refine ⟨?_, List.length_pos_iff.2 h⟩
    show (if l = [] then [] else [(l, false)]) = _
    rw [if_neg h]
    rfl
/-- What ParseLog answers, line by line. -/
noncomputable def plogN : List (List UInt8 × Bool) → List Fct → List Fct × Nat × Int
  | [], acc => (acc, 0, 0)
  | (x, e) :: r, acc => match prsF x with
    | none => ([], acc.length + 1, 6)
    | some f => if e then plogN r (acc ++ [f]) else ([], acc.length + 1, 6)
theorem plogN_P : ∀ (ls : List (List UInt8)) (acc : List Fct), plogN (lnP ls) acc = plogF ls acc
  | [], acc => rfl
  | [x], acc => by
    rw [plog_one]
    show plogN (if x = [] then [] else [(x, false)]) acc = _
    split
    · rfl
    · rw [plogN]
      cases prsF x <;> rfl
  | x :: y :: r, acc => by
    show plogN ((x, true) :: lnP (y :: r)) acc = _
    rw [plogN]
    cases hp : prsF x with
    | none => rw [plog_none hp]
    | some f => rw [plog_some hp]; exact plogN_P (y :: r) _
theorem plogN_pre : ∀ (fs : List Fct) (rest : List (List UInt8 × Bool)) (acc : List Fct), (∀ f ∈ fs, f.Ok) → plogN (fs.map (fun f => (f.txt, true)) ++ rest) acc = plogN rest (acc ++ fs)
  | [], rest, acc, _ => by simp
  | f :: fs, rest, acc, h => by
    rw [List.map_cons, List.cons_append, plogN, prsF_txt (h f (by simp))]
    show (if true = true then _ else _) = _
    rw [if_pos rfl, plogN_pre fs rest (acc ++ [f]) (fun g hg => h g (List.mem_cons_of_mem _ hg))]
    simp
theorem plog_all {l : List UInt8} {fs : List Fct} (h : ∀ f ∈ fs, f.Ok) (e : lnF l = fs.map (fun f => (f.txt, true))) : plogF (splb 10 [] l) [] = (fs, 0, 0) := by
  rw [← plogN_P]
  show plogN (lnF l) [] = _
  have := plogN_pre fs [] [] h
  rw [List.append_nil] at this
  rw [e, this]
  rfl
theorem plog_bad {l : List UInt8} {fs : List Fct} {x : List UInt8} {b : Bool} {rest : List (List UInt8 × Bool)} (h : ∀ f ∈ fs, f.Ok) (e : lnF l = fs.map (fun f => (f.txt, true)) ++ (x, b) :: rest) (hb : prsF x = none ∨ b = false) : plogF (splb 10 [] l) [] = ([], fs.length + 1, 6) := by
  rw [← plogN_P]
  show plogN (lnF l) [] = _
  rw [e, plogN_pre fs _ [] h, plogN, List.nil_append]
  rcases hb with hb | rfl
  · rw [hb]
  · cases prsF x <;> rfl
end Go.Proofs.YtnjmndofcpnmeaaGreatDoor
namespace Go.Proofs.YtnjmndofcpnmeaaGreatDoor
open Go Go.RowKit
set_option linter.unusedVariables false

def dtL (xs : List (ByteArray × Bool)) : List (List UInt8 × Bool) := xs.map fun x => (x.1.data.toList, x.2)
theorem dtL_snoc (xs : List (ByteArray × Bool)) (x : ByteArray × Bool) : dtL (xs ++ [x]) = dtL xs ++ [(x.1.data.toList, x.2)] := by simp [dtL]
theorem Stab.maxl (B : Nat) : Stab B MaxL := fun W W' l _ hn hg h g hgl => by
  obtain ⟨m, hm⟩ := h g hgl
  refine ⟨m, ?_⟩
  have hm0 := hm
  unfold World.cell? at hm0
  simp only at hm0
  cases ho : W.heap[g]? with
  | none => rw [ho] at hm0; simp at hm0
  | some o =>
    rw [ho] at hm0
    cases o <;> simp at hm0
    case cells cs t fr =>
      rw [← hm]
      exact World.cell?_of_block ((heap_nc hn hg ho).trans ho.symm)
/-- What the iterator finds. -/
def LnIt (s : ByteArray) (b : Nat) (W : World) : Prop := W.heap[b]? = some (.cells #[.string s] 9 (0, 0)) ∧ MaxL W
theorem LnIt.stab (B : Nat) (s : ByteArray) (b : Nat) : Stab B (LnIt s b) := (Stab.heap _ _ _ _).and (Stab.maxl B)
theorem LnIt.ext {s : ByteArray} {b : Nat} {W W' : World} (h : LnIt s b W) (hx : Ext W W') : LnIt s b W' := ⟨hx.heap h.1, h.2.ext hx⟩
def LnG (s : ByteArray) (pre : List (ByteArray × Bool)) (x : ByteArray × Bool) (_ : World) : Prop := (∃ rest, lnF s.data.toList = dtL pre ++ (x.1.data.toList, x.2) :: rest) ∧ x.1.size ≤ s.size
def strLn (v : Value) : Nat := match v with | .string b => b.size | _ => 0
theorem NlCut_at (s : ByteArray) (hs : s.size ≤ 100000000) (w : World) (hm : MaxL w) :
    Calls Tryz.prog 40 #[.string s, .string ⟨#[10]⟩] w fun e w' => e = .returned (.tuple #[.string ⟨(Lib.cut s.data.toList [10]).1.toArray⟩, .string ⟨(Lib.cut s.data.toList [10]).2.1.toArray⟩, .bool (Lib.cut s.data.toList [10]).2.2]) ∧ Ext w w' := by
  obtain ⟨m, hm⟩ := hm 0 (by kernel_rfl)
  refine (Tryz.strings_Cut s ⟨#[10]⟩ m w (by omega) hm).mono ?_
  rintro e w' ⟨rfl, n, rfl⟩
  exact ⟨rfl, (Ext.refl _).drewN n⟩
theorem lines_at (s : ByteArray) (w : World) :
    Calls Tryz.prog 36 #[.string s] w fun e w' => e = .returned (.func (.func 99) #[] #[.pointer (some ⟨w.heap.size, 0, none⟩)]) ∧ w' = w.alloc (.cells #[.string s] 9) := by
  have hmf : ∀ (fn : Fn) (first cap : Array Value) (w : World), (Instr.makeFunc fn first cap).run Tryz.prog w = .ok (.func fn first cap) w := fun _ _ _ _ => rfl
  go_enter Tryz.func36, Tryz.ntmps36
  go_wp2
  go_ret
  exact ⟨rfl, rfl⟩
attribute [local go_sem] Oper.semAt_some

set_option maxRecDepth 100000 in
set_option maxHeartbeats 2000000 in
theorem lines_iter (s : ByteArray) (hs : s.size ≤ 100000000) (b : Nat) :
    Iter Tryz.prog 99 #[.pointer (some ⟨b, 0, none⟩)] (fun x : ByteArray × Bool => #[.string x.1, .bool x.2]) (LnIt s b) (LnG s) (fun _ => False) (fun xs => lnF s.data.toList = dtL xs) (fun pre => ∃ rest, lnF s.data.toList = dtL pre ++ rest) := by
  intro lp J Jx W hJ hJx hY hit h0
  refine callsIn_of_wp Tryz.func99 rfl trivial ?_ rfl
  simp only [Tryz.ntmps99, List.size_toArray, List.length_cons, List.length_nil, Nat.reduceAdd, Nat.reduceSub, Array.replicate_succ, Array.replicate_zero, List.push_toArray, List.append_toArray, List.nil_append, List.cons_append]
  have k1 : W.cell? ⟨b, 0, none⟩ = some (.string s) := (row1 hit.1).1
  gi_wp2
  gi_loopw [3, 4, 5, 6] (fun v _ _ _ wr => ∃ (pre : List (ByteArray × Bool)) (cur : ByteArray), v = .string cur ∧ J pre wr ∧ LnIt s b wr ∧ lnF s.data.toList = dtL pre ++ lnF cur.data.toList ∧ cur.size ≤ s.size) (fun v _ _ _ _ => strLn v)
  case atStart => exact ⟨[], s, rfl, h0, hit, rfl, Nat.le_refl _⟩
  case round =>
    obtain ⟨pre, cur, rfl, hj, hi, he, hz⟩ := hrel
    have HI := Lib.hid hi; have HE := Lib.hid he; have HJ := Lib.hid hj; have HZ := Lib.hid hz
    clear hi he hj hz k1
    by_cases hemp : cur.data.toList = []
    · have e1 : cur.toList = [] := by rw [ByteArray.toList_eq]; exact hemp
      have HS := Lib.hid (show lnF s.data.toList = dtL pre by rw [HE.out, hemp, lnF_nil, List.append_nil])
      clear hemp
      gi_wp2_with fail
      first | go_end0 | refine bodyPost_ret (results_none rfl _ _ _) rfl ?_
      exact ⟨⟨_, rfl⟩, .inl ⟨pre, HS.out, HJ.out, HI.out⟩⟩
    · have e1 : cur.toList.isEmpty = false := by rw [ByteArray.toList_eq]; cases hx : cur.data.toList with | nil => exact absurd hx hemp | cons a b => rfl
      have e2 : cur.toList ≠ [] := by rw [ByteArray.toList_eq]; exact hemp
      obtain ⟨hlc, hll⟩ := lnF_cut hemp
      have HC := Lib.hid (NlCut_at cur (by have := HZ.out; omega) wr HI.out.2)
      have hcl := cut_len1 cur.data.toList [10]
      rw [size_list] at hcl hll
      generalize (Lib.cut cur.data.toList [10]).1 = P at *
      generalize (Lib.cut cur.data.toList [10]).2.1 = Q at *
      generalize (Lib.cut cur.data.toList [10]).2.2 = b0 at *
      have HS := Lib.hid (show lnF s.data.toList = dtL (pre ++ [(⟨P.toArray⟩, b0)]) ++ lnF Q by rw [HE.out, hlc, dtL_snoc]; simp)
      have HQL := Lib.hid hll; have HPL := Lib.hid hcl
      clear hemp hlc hll hcl
      gi_wp2_with fail
      refine wide_call HC.out ?_
      rintro e w' ⟨rfl, hx⟩
      obtain ⟨fn, tmps, assign, body, hy, hR⟩ := hY pre (⟨P.toArray⟩, b0) w' (hJ _ _ _ none (fun k hk => by cases hk) (hx.but none) HJ.out) (HI.out.ext hx) ⟨⟨lnF Q, by rw [HS.out, dtL_snoc]; simp⟩, by show P.toArray.size ≤ _; have := HPL.out; have := HZ.out; simp; omega⟩
      gi_wp2_with fail
      refine ⟨rfl, hR.mono ?_⟩
      rintro e W3 (⟨rfl, hJ3, hI3⟩ | ⟨rfl, hJx3⟩)
      · have HI3 := Lib.hid hI3; have HJ3 := Lib.hid hJ3; clear hI3 hJ3
        gi_wp2_with fail
        go_roundw
        case rel => exact ⟨pre ++ [(⟨P.toArray⟩, b0)], ⟨Q.toArray⟩, rfl, HJ3.out, HI3.out, by rw [HS.out], by show Q.toArray.size ≤ _; have := HPL.out; have := HZ.out; simp; omega⟩
        case measure => show Q.toArray.size < cur.size; rw [List.size_toArray]; exact HQL.out
      · gi_wp2_with fail
        first | go_end0 | refine bodyPost_ret (results_none rfl _ _ _) rfl ?_
        exact ⟨⟨_, rfl⟩, .inr ⟨_, ⟨_, HS.out⟩, hJx3⟩⟩
end Go.Proofs.YtnjmndofcpnmeaaGreatDoor
namespace Go.Proofs.YtnjmndofcpnmeaaGreatDoor
open Go Go.RowKit
set_option linter.unusedVariables false

/-- Strings at a place, while another block turns. -/
theorem RS.off {w w' : World} {A : Option Addr} {n c : Nat} {row : Option Nat} {xs : List Value} (h : RS w (.slice A n c) xs) (hA : xs ≠ [] → ∀ ad, A = some ad → row ≠ some ad.block) (hg : w.grownBy w' row) : RS w' (.slice A n c) xs := by
  obtain ⟨A', c', he, h1, h2, h3⟩ := h
  injection he with e1 e2 e3
  subst e1; subst e3
  refine ⟨A, c, by rw [e2], h1, h2, fun hp => ?_⟩
  obtain ⟨ad, ha, hb, hc⟩ := h3 hp
  refine ⟨ad, ha, Nat.lt_of_lt_of_le hb hg.size, fun j u hu => ?_⟩
  have hblk : (ad.add j).block = ad.block := block_of_add ad j
  have := hg.block ad.block hb (fun e => hA (List.ne_nil_of_length_pos hp) ad ha e.symm)
  rw [← hc j u hu]
  exact World.cell?_of_block (by rw [hblk]; exact this)
theorem RS.lt {w : World} {A : Option Addr} {n c : Nat} {xs : List Value} (h : RS w (.slice A n c) xs) (hne : xs ≠ []) {ad : Addr} (ha : A = some ad) : ad.block < w.heap.size ∧ ∃ cs t fr, w.heap[ad.block]? = some (.cells cs t fr) := by
  obtain ⟨A', c', he, h1, h2, h3⟩ := h
  injection he with e1 e2 e3
  subst e1
  obtain ⟨ad', ha', hb, hc⟩ := h3 (List.length_pos_iff.2 hne)
  rw [ha] at ha'
  injection ha' with ha'
  subst ha'
  refine ⟨hb, ?_⟩
  have hpos := List.length_pos_iff.2 hne
  have h0 := hc 0 xs[0] (List.getElem?_eq_getElem hpos)
  unfold World.cell? at h0
  rw [block_of_add] at h0
  cases ho : w.heap[ad.block]? with
  | none => rw [ho] at h0; simp at h0
  | some o =>
    rw [ho] at h0
    cases o <;> simp at h0
    case cells cs t fr => exact ⟨cs, t, fr, rfl⟩
theorem BS.offRow {w w' : World} {v : Value} {l : List UInt8} {row : Option Nat} (h : BS w v l) (hn : ∀ b, row = some b → NoU8 w b) (hg : w.grownBy w' row) : BS w' v l := by
  cases row with
  | none => exact h.ext (grown_of_ext hg)
  | some b => exact h.but (hn b rfl) hg
/-- The blocks of a fact's strings. -/
def FV.Blk (f : FV) (b : Nat) : Prop := (f.cp ≠ [] ∧ ∃ ad, f.CA = some ad ∧ ad.block = b) ∨ (f.sp ≠ [] ∧ ∃ ad, f.SA = some ad ∧ ad.block = b)
theorem sv_ne {ps : List ByteArray} (h : ps ≠ []) : sv ps ≠ [] := by cases ps with | nil => exact absurd rfl h | cons a b => simp [sv]
theorem ne_sv {ps : List ByteArray} (h : sv ps ≠ []) : ps ≠ [] := fun e => h (by rw [e]; rfl)
theorem FV.In.off {w w' : World} {f : FV} {row : Option Nat} (h : f.In w) (hg : w.grownBy w' row) (hr : ∀ b, row = some b → NoU8 w b ∧ ¬ f.Blk b) : f.In w' :=
  ⟨h.fb.offRow (fun b hb => (hr b hb).1) hg, h.cp.off (fun hne ad ha e => (hr _ e).2 (.inl ⟨ne_sv hne, ad, ha, rfl⟩)) hg, h.sp.off (fun hne ad ha e => (hr _ e).2 (.inr ⟨ne_sv hne, ad, ha, rfl⟩)) hg⟩
theorem FV.In.blk {w : World} {f : FV} (h : f.In w) {b : Nat} (hb : f.Blk b) : b < w.heap.size ∧ ∃ cs t fr, w.heap[b]? = some (.cells cs t fr) := by
  rcases hb with ⟨hne, ad, ha, rfl⟩ | ⟨hne, ad, ha, rfl⟩
  · exact h.cp.lt (sv_ne hne) ha
  · exact h.sp.lt (sv_ne hne) ha
/-- A block of one cell that is no string holds no names. -/
theorem FV.In.notOne {w : World} {f : FV} (h : f.In w) {b : Nat} {v : Value} {t : TypeId} (hb : w.heap[b]? = some (.cells #[v] t (0, 0))) (hv : ∀ s, v ≠ .string s) : ¬ f.Blk b := by
  have key : ∀ {A : Option Addr} {n c : Nat} {ps : List ByteArray} {ad : Addr}, RS w (.slice A n c) (sv ps) → ps ≠ [] → A = some ad → ad.block = b → False := by
    intro A n c ps ad hr hne ha hbk
    obtain ⟨A', c', he, _, _, h3⟩ := hr
    injection he with e1 _ _
    subst e1
    obtain ⟨ad', ha', _, hc⟩ := h3 (List.length_pos_iff.2 (sv_ne hne))
    rw [ha] at ha'
    injection ha' with ha'
    subst ha'
    cases ps with
    | nil => exact hne rfl
    | cons p r =>
      have h0 := hc 0 (.string p) rfl
      unfold World.cell? at h0
      rw [block_of_add, hbk, hb] at h0
      simp only at h0
      split at h0
      · cases h0
      · obtain ⟨hlt, he⟩ := Array.getElem?_eq_some_iff.1 h0
        have hz : (ad.add 0).off = 0 := by simp at hlt; omega
        simp only [hz] at he
        exact hv p he
  rintro (⟨hne, ad, ha, hbk⟩ | ⟨hne, ad, ha, hbk⟩)
  · exact key h.cp hne ha hbk
  · exact key h.sp hne ha hbk
def EF : Ek FV where
  k := 12
  kp := by decide
  cs := FV.cs
  len := fun _ => rfl
  one := fun x u hu => by
    unfold FV.cs at hu
    simp only [List.mem_cons, List.not_mem_nil, or_false] at hu
    rcases hu with rfl | rfl | rfl | rfl | rfl | rfl | rfl | rfl | rfl | rfl | rfl | rfl <;> rfl
  no8 := fun x u hu n e => by
    subst e
    unfold FV.cs at hu
    simp at hu
  In := fun w f => f.In w
  Blk := fun f b => f.Blk b
  blt := fun w x b h hb => (h.blk hb).1
  keep := fun w w' x row h hg hr => h.off hg hr
theorem EF_nc (w : World) (l : Nat) (x : FV) (hn : NC w l) (h : x.In w) : ¬ x.Blk l := fun hb => by
  obtain ⟨_, cs, t, fr, e⟩ := h.blk hb
  exact hn _ _ _ e
theorem ROW.fs {e : TypeId} {w : World} {B : Nat} {v : Value} {xs : List FV} (h : ROW EF e w B v xs) : FS w v xs := by
  obtain ⟨A, c, h1, h2, h3, h4⟩ := h.cells
  exact ⟨A, c, h1, h2, h3, fun i hi => ⟨(h4 i hi).1, (h4 i hi).2⟩⟩
theorem finfo : (Tryz.prog.info? 41).map (fun i => (i.zero, i.size, i.bytes)) = some (some (.agg #[.int .i64 0, .int .i64 0, .int .i64 0, .int .i64 0, .slice none 0 0, .slice none 0 0, .string ⟨#[]⟩, .slice none 0 0, .string ⟨#[]⟩, .int .i64 0, .int .i64 0, .int .u32 0]), 12, 160) := by kernel_rfl
theorem fact_zn : ∀ x ∈ (Value.agg #[.int .i64 0, .int .i64 0, .int .i64 0, .int .i64 0, .slice none 0 0, .slice none 0 0, .string ⟨#[]⟩, .slice none 0 0, .string ⟨#[]⟩, .int .i64 0, .int .i64 0, .int .u32 0]).cells.toList, ∀ n, x ≠ .int .u8 n := by
  intro x hx n e
  subst e
  simp [Value.cells] at hx
def factZ : Value := .agg #[.int .i64 0, .int .i64 0, .int .i64 0, .int .i64 0, .slice none 0 0, .slice none 0 0, .string ⟨#[]⟩, .slice none 0 0, .string ⟨#[]⟩, .int .i64 0, .int .i64 0, .int .u32 0]
theorem fact_zs : factZ.cells.size = EF.k := rfl
theorem fact_zn' : ∀ x ∈ factZ.cells.toList, ∀ n, x ≠ .int .u8 n := fact_zn
theorem fact_info : ∃ i : TypeInfo, Tryz.prog.info? 41 = some i ∧ i.zero = some factZ ∧ i.size = EF.k ∧ i.bytes = 160 := by
  obtain ⟨i0, hi, hz0, hz1, hz2⟩ := info_parts finfo
  exact ⟨i0, hi, hz0, hz1, hz2⟩
theorem add0 (g : Nat) (j : Nat) : (⟨g, 0, none⟩ : Addr).add j = ⟨g, j, none⟩ := by unfold Addr.add; split <;> simp_all
/-- The block of one fact, as an append reads it. -/
theorem FBx.news {w : World} {g : Nat} {f : FV} (h : FBx w g f) : ∀ j u, (EF.all [f])[j]? = some u → w.cell? ((⟨g, 0, none⟩ : Addr).add j) = some u := fun j u hu => by
  rw [Ek.all_one] at hu
  rw [add0, cell_of_row _ _ j _ _ (0, 0) h]
  rw [← hu]
  show _ = (FV.cs f)[j]?
  unfold FV.cs
  rw [← List.getElem?_toArray]
end Go.Proofs.YtnjmndofcpnmeaaGreatDoor
