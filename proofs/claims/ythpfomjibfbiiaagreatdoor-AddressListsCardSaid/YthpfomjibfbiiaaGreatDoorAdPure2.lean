/- Address: what is parsed; what has a string is found again. No program. -/
import Derived.Test.YthpfomjibfbiiaaGreatDoorAdPure
import Derived.Test.YthpfomjibfbiiaaGreatDoorSplit
import Derived.Lib.IndexMore
namespace Go.Proofs.YthpfomjibfbiiaaGreatDoor
open Go.Lib
set_option linter.unusedVariables false

def wbs : List Nat → List UInt8
  | [] => []
  | x :: r => UInt8.ofNat (x / 256) :: UInt8.ofNat (x % 256) :: wbs r
theorem wbs_append : ∀ a b : List Nat, wbs (a ++ b) = wbs a ++ wbs b
  | [], _ => rfl
  | x :: a, b => by simp [wbs, wbs_append a b]
theorem wbs_length : ∀ a : List Nat, (wbs a).length = 2 * a.length
  | [] => rfl
  | x :: a => by simp [wbs, wbs_length a]; omega
theorem wbs_zeros : ∀ n : Nat, wbs (List.replicate n 0) = List.replicate (2 * n) 0
  | 0 => rfl
  | n + 1 => by rw [List.replicate_succ, wbs, wbs_zeros n, show 2 * (n + 1) = 2 * n + 1 + 1 by omega, List.replicate_succ, List.replicate_succ]; rfl
theorem wbs_wds : ∀ (b : List UInt8) (n : Nat), b.length = 2 * n → wbs (wds b) = b
  | [], _, _ => rfl
  | [_], n, h => by simp at h; omega
  | a :: c :: r, n, h => by
    have h1 := a.toNat_lt
    have h2 := c.toNat_lt
    rw [wds, wbs, wbs_wds r (n - 1) (by simp at h; omega), show (256 * a.toNat + c.toNat) / 256 = a.toNat by omega, show (256 * a.toNat + c.toNat) % 256 = c.toNat by omega, UInt8.ofNat_toNat, UInt8.ofNat_toNat]
theorem wds_length : ∀ (b : List UInt8) (n : Nat), b.length = 2 * n → (wds b).length = n
  | [], n, h => by simp at h; simp [wds]; omega
  | [_], n, h => by simp at h; omega
  | a :: c :: r, n, h => by
    have := wds_length r (n - 1) (by simp at h; omega)
    rw [wds, List.length_cons, this]
    simp at h; omega
theorem wds_lt : ∀ (b : List UInt8), ∀ x ∈ wds b, x < 65536
  | [], x, h => by simp [wds] at h
  | [_], x, h => by simp [wds] at h
  | a :: c :: r, x, h => by
    have h1 := a.toNat_lt
    have h2 := c.toNat_lt
    rw [wds] at h
    rcases List.mem_cons.1 h with rfl | h
    · omega
    · exact wds_lt r x h
theorem zrs_le : ∀ l : List Nat, zrs l ≤ l.length
  | [] => Nat.le_refl _
  | 0 :: r => by rw [zrs]; have := zrs_le r; simp; omega
  | (n + 1) :: r => by simp [zrs]
theorem zrs_take : ∀ l : List Nat, l.take (zrs l) = List.replicate (zrs l) 0
  | [] => rfl
  | 0 :: r => by rw [zrs, List.take_succ_cons, zrs_take r, List.replicate_succ]
  | (n + 1) :: r => by simp [zrs]
theorem bst_ok (G : List Nat) : ∀ (l : List Nat) (i bg ln : Nat), l = G.drop i → bg + ln ≤ G.length → (G.drop bg).take ln = List.replicate ln 0 →
    (bst i l bg ln).1 + (bst i l bg ln).2 ≤ G.length ∧ (G.drop (bst i l bg ln).1).take (bst i l bg ln).2 = List.replicate (bst i l bg ln).2 0
  | [], i, bg, ln, _, h1, h2 => ⟨h1, h2⟩
  | x :: r, i, bg, ln, hl, h1, h2 => by
    have hr : r = G.drop (i + 1) := by rw [← List.tail_drop, ← hl]; rfl
    have hz := zrs_le (x :: r)
    rw [bst]
    split
    · refine bst_ok G r (i + 1) i _ hr ?_ ?_
      · rw [hl, List.length_drop] at hz
        have : i < G.length := by
          rcases Nat.lt_or_ge i G.length with h | h
          · exact h
          · rw [List.drop_eq_nil_of_le h] at hl; cases hl
        rw [← hl] at hz; omega
      · rw [← hl]; exact zrs_take _
    · exact bst_ok G r (i + 1) bg ln hr h1 h2
theorem split3 {G : List Nat} {bg ln : Nat} (h : bg + ln ≤ G.length) (h2 : (G.drop bg).take ln = List.replicate ln 0) : G.take bg ++ (List.replicate ln 0 ++ G.drop (bg + ln)) = G := by
  rw [← h2, ← List.drop_drop, List.take_append_drop, List.take_append_drop]
/-- The reference's way to the longest row. -/
theorem bst_one : ∀ (l : List Nat) (i bg ln at_ most : Nat), ((ln ≤ 1 ∧ most = 1) ∨ (2 ≤ ln ∧ bg = at_ ∧ ln = most)) →
    (((bst i l bg ln).2 ≤ 1 ∧ (bst i l at_ most).2 = 1) ∨ (2 ≤ (bst i l bg ln).2 ∧ bst i l bg ln = bst i l at_ most))
  | [], i, bg, ln, at_, most, h => by
    rcases h with h | ⟨h, rfl, rfl⟩
    · exact .inl h
    · exact .inr ⟨h, rfl⟩
  | x :: r, i, bg, ln, at_, most, h => by
    rcases h with ⟨h1, rfl⟩ | ⟨h, rfl, rfl⟩
    · rw [bst, bst]
      generalize zrs (x :: r) = z
      by_cases hz : 1 < z
      · rw [if_pos (by omega), if_pos hz]
        exact bst_one r _ _ _ _ _ (.inr ⟨by omega, rfl, rfl⟩)
      · rw [if_neg hz]
        split
        · exact bst_one r _ _ _ _ _ (.inl ⟨by omega, rfl⟩)
        · exact bst_one r _ _ _ _ _ (.inl ⟨h1, rfl⟩)
    · rw [bst]
      split
      · exact bst_one r _ _ _ _ _ (.inr ⟨by omega, rfl, rfl⟩)
      · exact bst_one r _ _ _ _ _ (.inr ⟨h, rfl, rfl⟩)
def txt6r (g : List Nat) (at_ most : Nat) : List UInt8 :=
  if most = 1 then [91] ++ (hjoin g ++ [93]) else [91] ++ (hjoin (g.take at_) ++ ([58, 58] ++ (hjoin (g.drop (at_ + most)) ++ [93])))
theorem txt6_ref (b : List UInt8) : txt6 b = txt6r (wds b) (bst 0 (wds b) 0 1).1 (bst 0 (wds b) 0 1).2 := by
  unfold txt6 txt6w txt6r
  rcases bst_one (wds b) 0 0 0 0 1 (.inl ⟨by omega, rfl⟩) with ⟨h1, h2⟩ | ⟨h1, h2⟩
  · rw [if_pos (by omega), if_pos h2]
  · rw [if_neg (by omega), ← h2, if_neg (by omega)]

/-! Words joined and split. -/
theorem hjoin_nil : hjoin [] = [] := rfl
theorem hjoin_one (x : Nat) : hjoin [x] = hexD x := by simp [hjoin, join, List.intercalate]
theorem hjoin_cons (x y : Nat) (r : List Nat) : hjoin (x :: y :: r) = hexD x ++ 58 :: hjoin (y :: r) := by simp [hjoin, join, List.intercalate]
theorem hjoin_chr (g : List Nat) : ∀ c ∈ hjoin g, c = 58 ∨ (48 ≤ c.toNat ∧ c.toNat ≤ 57) ∨ (97 ≤ c.toNat ∧ c.toNat ≤ 102) := by
  induction g with
  | nil => intro c h; cases h
  | cons x r ih =>
    intro c h
    cases r with
    | nil => rw [hjoin_one] at h; exact .inr (hexD_dig x c h)
    | cons y r =>
      rw [hjoin_cons] at h
      rcases List.mem_append.1 h with h | h
      · exact .inr (hexD_dig x c h)
      · rcases List.mem_cons.1 h with h | h
        · exact .inl h
        · exact ih c h
theorem hjoin_len : ∀ g : List Nat, (∀ x ∈ g, x < 65536) → (hjoin g).length ≤ 5 * g.length
  | [], _ => by simp [hjoin_nil]
  | [x], h => by rw [hjoin_one]; have := hexD_len x (h x (by simp)); simp; omega
  | x :: y :: r, h => by
    rw [hjoin_cons, List.length_append, List.length_cons]
    have := hexD_len x (h x (by simp))
    have := hjoin_len (y :: r) (fun z hz => h z (by simp [hz]))
    simp only [List.length_cons] at this ⊢
    omega
theorem hjoin_len1 : ∀ g : List Nat, g ≠ [] → (∀ x ∈ g, x < 65536) → (hjoin g).length + 1 ≤ 5 * g.length
  | [], h, _ => absurd rfl h
  | [x], _, h => by rw [hjoin_one]; have := hexD_len x (h x (by simp)); simp; omega
  | x :: y :: r, _, h => by
    rw [hjoin_cons, List.length_append, List.length_cons]
    have := hexD_len x (h x (by simp))
    have := hjoin_len1 (y :: r) (by simp) (fun z hz => h z (by simp [hz]))
    simp only [List.length_cons] at this ⊢
    omega
theorem hjoin_ne : ∀ g : List Nat, g ≠ [] → hjoin g ≠ []
  | [], h => absurd rfl h
  | [x], _ => by rw [hjoin_one]; exact hexD_ne x
  | x :: y :: r, _ => by rw [hjoin_cons]; simp
/-- The first place of two colons. -/
theorem index_cc : ∀ (l r : List UInt8), (∀ (k : Nat), l[k]? = some 58 → ∃ c, l[k + 1]? = some c ∧ c ≠ 58) → index (l ++ 58 :: 58 :: r) [58, 58] = (l.length : Int)
  | [], r, _ => by simp [index, List.isPrefixOf]
  | b :: l, r, h => by
    have ih := index_cc l r (fun k hk => h (k + 1) (by simpa using hk))
    have hb : ([58, 58] : List UInt8).isPrefixOf (b :: (l ++ 58 :: 58 :: r)) = false := by
      by_cases hb : b = 58
      · subst hb
        obtain ⟨c, hc, hne⟩ := h 0 (by simp)
        cases l with
        | nil => simp at hc
        | cons d l =>
          simp only [Nat.zero_add, List.getElem?_cons_succ, List.getElem?_cons_zero, Option.some.injEq] at hc
          subst hc
          simp [List.isPrefixOf, Ne.symm hne]
      · simp [List.isPrefixOf, Ne.symm hb]
    rw [List.cons_append, index, if_neg (by simp [hb]), ih, if_neg (by simp)]
    simp
theorem index_cc_no : ∀ (l : List UInt8), (∀ (k : Nat), l[k]? = some 58 → ∃ c, l[k + 1]? = some c ∧ c ≠ 58) → index l [58, 58] = -1
  | [], _ => by simp [index]
  | b :: l, h => by
    have ih := index_cc_no l (fun k hk => h (k + 1) (by simpa using hk))
    have hb : ([58, 58] : List UInt8).isPrefixOf (b :: l) = false := by
      by_cases hb : b = 58
      · subst hb
        obtain ⟨c, hc, hne⟩ := h 0 (by simp)
        cases l with
        | nil => simp at hc
        | cons d l =>
          simp only [Nat.zero_add, List.getElem?_cons_succ, List.getElem?_cons_zero, Option.some.injEq] at hc
          subst hc
          simp [List.isPrefixOf, Ne.symm hne]
      · simp [List.isPrefixOf, Ne.symm hb]
    rw [index, if_neg (by simp [hb]), ih]; rfl
theorem hjoin_sep : ∀ (g : List Nat) (k : Nat), (hjoin g)[k]? = some 58 → ∃ c, (hjoin g)[k + 1]? = some c ∧ c ≠ 58
  | [], k, h => by simp [hjoin_nil] at h
  | [x], k, h => by
    rw [hjoin_one] at h
    exact absurd (List.mem_of_getElem? h) (hexD_no x 58 (by decide))
  | x :: y :: r, k, h => by
    rw [hjoin_cons] at h ⊢
    rcases Nat.lt_trichotomy k (hexD x).length with hk | hk | hk
    · rw [List.getElem?_append_left hk] at h
      exact absurd (List.mem_of_getElem? h) (hexD_no x 58 (by decide))
    · subst hk
      rw [List.getElem?_append_right (by omega), show (hexD x).length + 1 - (hexD x).length = 0 + 1 by omega, List.getElem?_cons_succ]
      obtain ⟨c, l, hc⟩ : ∃ c l, hjoin (y :: r) = c :: l := by
        cases hj : hjoin (y :: r) with
        | nil => exact absurd hj (hjoin_ne _ (by simp))
        | cons c l => exact ⟨c, l, rfl⟩
      have hd : ∃ l', hexD y ++ l' = hjoin (y :: r) := by
        cases r with
        | nil => exact ⟨[], by rw [hjoin_one, List.append_nil]⟩
        | cons z r => exact ⟨_, (hjoin_cons y z r).symm⟩
      obtain ⟨l', hl'⟩ := hd
      rw [hc] at hl' ⊢
      cases hy : hexD y with
      | nil => exact absurd hy (hexD_ne y)
      | cons d m =>
        rw [hy] at hl'
        simp only [List.cons_append, List.cons.injEq] at hl'
        refine ⟨c, rfl, ?_⟩
        rw [← hl'.1]
        intro e
        exact hexD_no y 58 (by decide) (by rw [hy, e]; simp)
    · rw [List.getElem?_append_right (by omega)] at h ⊢
      obtain ⟨j, hj⟩ : ∃ j, k - (hexD x).length = j + 1 := ⟨k - (hexD x).length - 1, by omega⟩
      rw [hj, List.getElem?_cons_succ] at h
      rw [show k + 1 - (hexD x).length = (j + 1) + 1 by omega, List.getElem?_cons_succ]
      exact hjoin_sep (y :: r) j h
theorem cut_cc (l r : List UInt8) (h : ∀ (k : Nat), l[k]? = some 58 → ∃ c, l[k + 1]? = some c ∧ c ≠ 58) : cut (l ++ ([58, 58] ++ r)) [58, 58] = (l, r, true) := by
  unfold cut
  rw [show [58, 58] ++ r = (58 : UInt8) :: 58 :: r from rfl, index_cc l r h, if_pos (by omega)]
  have e1 : (l ++ (58 : UInt8) :: 58 :: r).take l.length = l := by rw [List.take_left']; rfl
  have e2 : (l ++ (58 : UInt8) :: 58 :: r).drop (l.length + 2) = r := by
    rw [show l ++ (58 : UInt8) :: 58 :: r = (l ++ [58, 58]) ++ r by simp]
    exact List.drop_left' (by simp)
  rw [Int.toNat_natCast, e1]
  exact congrArg (fun z => (l, z, true)) e2
theorem cut_no (l : List UInt8) (h : ∀ (k : Nat), l[k]? = some 58 → ∃ c, l[k + 1]? = some c ∧ c ≠ 58) : cut l [58, 58] = (l, [], false) := by
  unfold cut
  rw [index_cc_no l h, if_neg (by omega)]

/-- All of a list, or none. -/
def allP (f : List UInt8 → Option Nat) : List (List UInt8) → Option (List Nat)
  | [] => some []
  | l :: r => match f l with
    | none => none
    | some v => match allP f r with
      | none => none
      | some vs => some (v :: vs)
theorem allP_map {f : List UInt8 → Option Nat} {e : Nat → List UInt8} : ∀ g : List Nat, (∀ x ∈ g, f (e x) = some x) → allP f (g.map e) = some g
  | [], _ => rfl
  | x :: r, h => by rw [List.map_cons, allP, h x (by simp), allP_map r (fun y hy => h y (by simp [hy]))]
theorem allP_snoc {f : List UInt8 → Option Nat} : ∀ (a b : List (List UInt8)) (vs : List Nat), allP f a = some vs → allP f (a ++ b) = match allP f b with | none => none | some ws => some (vs ++ ws)
  | [], b, vs, h => by
    simp only [allP, Option.some.injEq] at h
    subst h
    rw [List.nil_append]
    cases allP f b <;> rfl
  | l :: a, b, vs, h => by
    rw [allP] at h
    rw [List.cons_append, allP]
    cases hf : f l with
    | none => rw [hf] at h; cases h
    | some v =>
      rw [hf] at h
      simp only at h
      cases ha : allP f a with
      | none => rw [ha] at h; cases h
      | some us =>
        rw [ha] at h
        simp only [Option.some.injEq] at h
        subst h
        simp only
        rw [allP_snoc a b us ha]
        cases allP f b <;> rfl
theorem allP_one {f : List UInt8 → Option Nat} {a : List (List UInt8)} {vs : List Nat} {y : List UInt8} {v : Nat} (h : allP f a = some vs) (hy : f y = some v) : allP f (a ++ [y]) = some (vs ++ [v]) := by
  rw [allP_snoc a [y] vs h, allP, hy]; rfl
theorem allP_bad {f : List UInt8 → Option Nat} {a : List (List UInt8)} {vs : List Nat} {y : List UInt8} (r : List (List UInt8)) (h : allP f a = some vs) (hy : f y = none) : allP f (a ++ y :: r) = none := by
  rw [allP_snoc a (y :: r) vs h, allP, hy]
theorem allP_length {f : List UInt8 → Option Nat} : ∀ (a : List (List UInt8)) (vs : List Nat), allP f a = some vs → vs.length = a.length
  | [], vs, h => by simp only [allP, Option.some.injEq] at h; subst h; rfl
  | l :: a, vs, h => by
    rw [allP] at h
    cases hf : f l with
    | none => rw [hf] at h; cases h
    | some v =>
      rw [hf] at h
      simp only at h
      cases ha : allP f a with
      | none => rw [ha] at h; cases h
      | some us =>
        rw [ha] at h
        simp only [Option.some.injEq] at h
        subst h
        simp [allP_length a us ha]

/-- What parseGroups finds. -/
def pgs (l : List UInt8) : Option (List Nat) := if l = [] then some [] else allP pu16w (splb 58 [] l)
theorem pgs_hjoin (g : List Nat) (h : ∀ x ∈ g, x < 65536) : pgs (hjoin g) = some g := by
  unfold pgs
  cases g with
  | nil => rfl
  | cons x r =>
    rw [if_neg (hjoin_ne _ (by simp))]
    unfold hjoin
    rw [List.map_cons, splb_join 58 (hexD x) (r.map hexD) (fun m hm c hc e => by
      rw [← List.map_cons] at hm
      obtain ⟨y, _, rfl⟩ := List.mem_map.1 hm
      subst e
      exact hexD_no y 58 (by decide) hc), ← List.map_cons]
    exact allP_map _ (fun y hy => pu16w_hex y (h y hy))
def join6 (a c : List Nat) (sh : Bool) : List UInt8 :=
  if 16 < 2 * a.length + 2 * c.length ∨ (2 * a.length + 2 * c.length < 16 ∧ sh = false) then [] else wbs a ++ (List.replicate (16 - (2 * a.length + 2 * c.length)) 0 ++ wbs c)
def jn6 (p q : Option (List Nat)) (sh : Bool) : List UInt8 := match p, q with
  | some a, some c => join6 a c sh
  | _, _ => []
def cand6m (m : List UInt8) : List UInt8 := jn6 (pgs (cut m [58, 58]).1) (pgs (cut m [58, 58]).2.1) (cut m [58, 58]).2.2
/-- What parseIPv6 finds. -/
def cand6 (s : List UInt8) : List UInt8 := if s.length < 2 ∨ 41 < s.length then [] else cand6m ((s.drop 1).take (s.length - 2))
def words4 (s : List UInt8) : List (List UInt8) := splitK [46] 0 (min 5 (s.length + 1) - 1) s
def cand4 (s : List UInt8) : List UInt8 := match allP pu8w (words4 s) with | none => [] | some v => v.map UInt8.ofNat
def hostP : List UInt8 := [104, 111, 115, 116, 47]
def cnd (s : List UInt8) : Int × List UInt8 := if hostP.isPrefixOf s then (20, s.drop 5) else if [91].isPrefixOf s then (24, cand6 s) else (2, cand4 s)
def prsA (s : List UInt8) : Option (Int × List UInt8) := if okA (cnd s).1 (cnd s).2 = true ∧ txtA (cnd s).1 (cnd s).2 = s then some (cnd s) else none
theorem prsA_some {s : List UInt8} {k : Int} {b : List UInt8} (h : prsA s = some (k, b)) : okA k b = true ∧ txtA k b = s := by
  unfold prsA at h
  split at h
  · next hc => injection h with h; rw [h] at hc; exact hc
  · cases h
theorem okA_kinds {k : Int} {b : List UInt8} (h : okA k b = true) : (k = 2 ∧ b.length = 4) ∨ (k = 24 ∧ b.length = 16) ∨ (k = 20 ∧ (1 ≤ b.length ∧ b.length ≤ 16) ∧ b.all visB = true) := by
  unfold okA at h
  split at h
  · next e => exact .inl ⟨e, by simpa using h⟩
  · split at h
    · next e => exact .inr (.inl ⟨e, by simpa using h⟩)
    · split at h
      · next e => simp only [Bool.and_eq_true, decide_eq_true_eq] at h; exact .inr (.inr ⟨e, h.1, h.2⟩)
      · cases h
theorem list4 {α : Type} {l : List α} (h : l.length = 4) : ∃ a b c d, l = [a, b, c, d] := by
  match l, h with
  | [a, b, c, d], _ => exact ⟨a, b, c, d, rfl⟩
theorem txt4_eq (a b c d : UInt8) : txt4 [a, b, c, d] = decDigits a.toNat ++ 46 :: (decDigits b.toNat ++ 46 :: (decDigits c.toNat ++ 46 :: decDigits d.toNat)) := by
  simp [txt4, join, List.intercalate, List.intersperse]
theorem dec_pos (n : Nat) : 1 ≤ (decDigits n).length := by
  have := dec_ne n
  cases h : decDigits n with
  | nil => exact absurd h this
  | cons c r => simp
theorem cand4_txt {b : List UInt8} (h : b.length = 4) : cand4 (txt4 b) = b := by
  obtain ⟨p, q, r, t, rfl⟩ := list4 h
  have n (x : UInt8) : (46 : UInt8) ∉ decDigits x.toNat := dec_no _ _ (by decide)
  have l1 := dec_pos p.toNat
  have l2 := dec_pos q.toNat
  have l3 := dec_pos r.toNat
  have l4 := dec_pos t.toNat
  have hl : min 5 ((txt4 [p, q, r, t]).length + 1) - 1 = 4 := by
    rw [txt4_eq]; simp only [List.length_append, List.length_cons]; omega
  have hw : words4 (txt4 [p, q, r, t]) = [p.toNat, q.toNat, r.toNat, t.toNat].map decDigits := by
    unfold words4
    rw [hl, txt4_eq, splitK_hit 46 3 _ _ (n p), splitK_hit 46 2 _ _ (n q), splitK_hit 46 1 _ _ (n r), splitK_miss 46 1 _ (n t)]
    rfl
  unfold cand4
  rw [hw, allP_map _ (fun x hx => by
    refine pu8w_dec x ?_
    simp only [List.mem_cons, List.not_mem_nil, or_false] at hx
    rcases hx with rfl | rfl | rfl | rfl <;> exact UInt8.toNat_lt _)]
  simp
theorem txt4_head (b : List UInt8) (h : b.length = 4) : ∃ c r, txt4 b = c :: r ∧ 48 ≤ c.toNat ∧ c.toNat ≤ 57 := by
  obtain ⟨p, q, r, t, rfl⟩ := list4 h
  rw [txt4_eq]
  have hd := dec_dig p.toNat
  cases hp : decDigits p.toNat with
  | nil => exact absurd hp (dec_ne _)
  | cons c m => exact ⟨c, _, rfl, hd c (by rw [hp]; simp)⟩
/-- The two shapes of an IPv6 address's string, and its bytes. -/
theorem txt6_shape {b : List UInt8} (h : b.length = 16) : (∃ g, txt6 b = [91] ++ (hjoin g ++ [93]) ∧ g.length = 8 ∧ (∀ x ∈ g, x < 65536) ∧ wbs g = b) ∨
    (∃ a c, txt6 b = [91] ++ (hjoin a ++ ([58, 58] ++ (hjoin c ++ [93]))) ∧ a.length + c.length ≤ 6 ∧ (∀ x ∈ a, x < 65536) ∧ (∀ x ∈ c, x < 65536) ∧ wbs a ++ (List.replicate (16 - (2 * a.length + 2 * c.length)) 0 ++ wbs c) = b ∧
      wbs (a ++ List.replicate (8 - (a.length + c.length)) 0 ++ c) = b) := by
  have hl := wds_length b 8 (by omega)
  have hb := wbs_wds b 8 (by omega)
  have hlt := wds_lt b
  obtain ⟨h1, h2⟩ := bst_ok (wds b) (wds b) 0 0 0 rfl (by omega) rfl
  have ht : txt6 b = txt6w (wds b) (bst 0 (wds b) 0 0).1 (bst 0 (wds b) 0 0).2 := rfl
  rw [ht]
  generalize bst 0 (wds b) 0 0 = x at h1 h2 ⊢
  obtain ⟨bg, ln⟩ := x
  simp only at h1 h2 ⊢
  generalize wds b = g at *
  clear ht
  unfold txt6w
  by_cases hln : ln < 2
  · rw [if_pos hln]
    exact .inl ⟨g, rfl, hl, hlt, hb⟩
  · rw [if_neg hln]
    have hs := split3 h1 h2
    have la : (g.take bg).length = bg := by rw [List.length_take]; omega
    have lc : (g.drop (bg + ln)).length = 8 - (bg + ln) := by rw [List.length_drop]; omega
    refine .inr ⟨g.take bg, g.drop (bg + ln), rfl, by omega, fun x hx => hlt x (List.mem_of_mem_take hx), fun x hx => hlt x (List.mem_of_mem_drop hx), ?_, ?_⟩
    · rw [la, lc, show 16 - (2 * bg + 2 * (8 - (bg + ln))) = 2 * ln by omega, ← wbs_zeros, ← wbs_append, ← wbs_append, hs, hb]
    · rw [la, lc, show 8 - (bg + (8 - (bg + ln))) = ln by omega, List.append_assoc, hs, hb]
theorem mid_of (m : List UInt8) : (([91] ++ (m ++ [93])).drop 1).take (([91] ++ (m ++ [93])).length - 2) = m := by
  rw [show ([91] ++ (m ++ [93]) : List UInt8) = 91 :: (m ++ [93]) from rfl, List.drop_succ_cons, List.drop_zero, show (91 :: (m ++ [93]) : List UInt8).length - 2 = m.length by simp, List.take_left']
  rfl
theorem txt6_len {b : List UInt8} (h : b.length = 16) : 2 ≤ (txt6 b).length ∧ (txt6 b).length ≤ 41 := by
  rcases txt6_shape h with ⟨g, e, hl, hlt, _⟩ | ⟨a, c, e, hl, ha, hc, _⟩
  · rw [e]
    have := hjoin_len1 g (by intro h; rw [h] at hl; cases hl) hlt
    simp only [List.length_append, List.length_cons, List.length_nil]
    omega
  · rw [e]
    have := hjoin_len a ha
    have := hjoin_len c hc
    simp only [List.length_append, List.length_cons, List.length_nil]
    omega
theorem cand6_txt {b : List UInt8} (h : b.length = 16) : cand6 (txt6 b) = b := by
  have hL := txt6_len h
  unfold cand6
  rw [if_neg (by omega)]
  rcases txt6_shape h with ⟨g, e, hl, hlt, hb⟩ | ⟨a, c, e, hl, ha, hc, hb, _⟩
  · rw [e, mid_of]
    unfold cand6m
    rw [cut_no _ (hjoin_sep g)]
    simp only
    rw [pgs_hjoin g hlt, show pgs [] = some [] from rfl]
    show join6 g [] false = b
    unfold join6
    rw [if_neg (by simp only [List.length_nil]; omega), hl]
    simp [wbs, hb]
  · rw [e, show hjoin a ++ ([58, 58] ++ (hjoin c ++ [93])) = (hjoin a ++ ([58, 58] ++ hjoin c)) ++ [93] by simp, mid_of]
    unfold cand6m
    rw [cut_cc _ _ (hjoin_sep a)]
    simp only
    rw [pgs_hjoin a ha, pgs_hjoin c hc]
    show join6 a c true = b
    unfold join6
    rw [if_neg (by simp; omega), hb]
theorem cnd_txt {k : Int} {b : List UInt8} (h : okA k b = true) : cnd (txtA k b) = (k, b) := by
  rcases okA_kinds h with ⟨rfl, hl⟩ | ⟨rfl, hl⟩ | ⟨rfl, hl, _⟩
  · show cnd (txt4 b) = _
    obtain ⟨c, r, e, hc⟩ := txt4_head b hl
    have h1 : hostP.isPrefixOf (txt4 b) = false := by
      rw [e]
      have : (104 : UInt8) ≠ c := fun e => by subst e; simp at hc
      simp [hostP, List.isPrefixOf, this]
    have h2 : ([91] : List UInt8).isPrefixOf (txt4 b) = false := by
      rw [e]
      have : (91 : UInt8) ≠ c := fun e => by subst e; simp at hc
      simp [List.isPrefixOf, this]
    unfold cnd
    rw [h1, h2, cand4_txt hl]
    rfl
  · show cnd (txt6 b) = _
    have h1 : hostP.isPrefixOf (txt6 b) = false := by
      rcases txt6_shape hl with ⟨g, e, _⟩ | ⟨a, c, e, _⟩ <;> (rw [e]; simp [hostP, List.isPrefixOf])
    have h2 : ([91] : List UInt8).isPrefixOf (txt6 b) = true := by
      rcases txt6_shape hl with ⟨g, e, _⟩ | ⟨a, c, e, _⟩ <;> (rw [e]; simp [List.isPrefixOf])
    unfold cnd
    rw [h1, h2, cand6_txt hl]
    rfl
  · show cnd (txtH b) = _
    have h1 : hostP.isPrefixOf (txtH b) = true := by simp [hostP, txtH, List.isPrefixOf]
    unfold cnd
    rw [h1]
    rfl
theorem prsA_txt {k : Int} {b : List UInt8} (h : okA k b = true) : prsA (txtA k b) = some (k, b) := by
  unfold prsA
  rw [cnd_txt h, if_pos ⟨h, rfl⟩]
theorem txtA_inj {k k' : Int} {b b' : List UInt8} (h : okA k b = true) (h' : okA k' b' = true) (e : txtA k b = txtA k' b') : k = k' ∧ b = b' := by
  have h1 := prsA_txt h
  rw [e, prsA_txt h'] at h1
  injection h1 with h1
  injection h1 with h1 h2
  exact ⟨h1.symm, h2.symm⟩

/-! The reference's way of parsing. -/
def dgv (c : UInt8) : Nat := if 48 ≤ c.toNat ∧ c.toNat ≤ 57 then c.toNat - 48 else if 97 ≤ c.toNat ∧ c.toNat ≤ 102 then c.toNat - 87 else 99
def dgs (base : Nat) : List UInt8 → Nat → Nat × List UInt8
  | [], v => (v, [])
  | c :: r, v => if v < 65536 ∧ dgv c < base then dgs base r (base * v + dgv c) else (v, c :: r)
theorem dgs_len (base : Nat) : ∀ (l : List UInt8) (v : Nat), (dgs base l v).2.length ≤ l.length
  | [], v => Nat.le_refl _
  | c :: r, v => by
    rw [dgs]
    split
    · have := dgs_len base r (base * v + dgv c); simp; omega
    · exact Nat.le_refl _
def rd6 (l : List UInt8) (db : Bool) (bf af : List Nat) : Option (List Nat × List Nat × Bool) :=
  match l with
  | [] => some (bf, af, db)
  | c :: r =>
    if c = 93 ∨ ¬ bf.length + af.length < 9 then some (bf, af, db)
    else if c = 58 then rd6 r (db || r.head? == some 58) bf af
    else if h : (dgs 16 (c :: r) 0).2.length < (c :: r).length then
      (if db then rd6 (dgs 16 (c :: r) 0).2 db bf (af ++ [(dgs 16 (c :: r) 0).1 % 65536]) else rd6 (dgs 16 (c :: r) 0).2 db (bf ++ [(dgs 16 (c :: r) 0).1 % 65536]) af)
    else none
termination_by l.length
decreasing_by
  · simp
  · exact h
  · exact h
def pad6 (bf af : List Nat) (db : Bool) : List Nat := (if db then bf ++ List.replicate (8 - (bf.length + af.length)) 0 else bf) ++ af
def rd4 : Nat → List UInt8 → List UInt8
  | 0, _ => []
  | f + 1, l => UInt8.ofNat ((dgs 10 l 0).1 % 256) :: match (dgs 10 l 0).2 with | [] => [] | _ :: r => rd4 f r
def rcnd (s : List UInt8) : Option (Int × List UInt8) := if hostP.isPrefixOf s then some (20, s.drop 5) else if [91].isPrefixOf s then (match rd6 (s.drop 1) false [] [] with | none => none | some (bf, af, db) => some (24, wbs (pad6 bf af db))) else some (2, rd4 4 s)
def rprs (s : List UInt8) : Option (Int × List UInt8) := match rcnd s with | none => none | some x => if okA x.1 x.2 = true ∧ txtA x.1 x.2 = s then some x else none

theorem dgv_hxc (d : Nat) (h : d < 16) : dgv (hxc d) = d := by
  have e := hxc_lt d h
  unfold dgv
  rw [e]
  split at e
  · next hd => rw [if_pos hd, if_pos (by omega)]; omega
  · next hd => rw [if_neg hd, if_neg (by omega), if_pos (by omega)]; omega
theorem dgs_hex (n : Nat) (h : n < 65536) (r : List UInt8) : dgs 16 (hexD n ++ r) 0 = dgs 16 r n := by
  induction n using Nat.strongRecOn generalizing r with
  | _ n ih =>
    by_cases h16 : n < 16
    · rw [hexD_lo h16, List.singleton_append, dgs, dgv_hxc n h16, if_pos (by omega)]
      congr 1; omega
    · rw [hexD_hi h16, List.append_assoc, ih (n / 16) (by omega) (by omega), List.singleton_append, dgs, dgv_hxc _ (by omega), if_pos (by omega)]
      congr 1; omega
theorem dgs_stop (base n : Nat) (c : UInt8) (r : List UInt8) (h : base ≤ dgv c) : dgs base (c :: r) n = (n, c :: r) := by
  rw [dgs, if_neg (by omega)]
theorem dgs_hexc (n : Nat) (h : n < 65536) (c : UInt8) (hc : 16 ≤ dgv c) (r : List UInt8) : dgs 16 (hexD n ++ c :: r) 0 = (n, c :: r) := by
  rw [dgs_hex n h, dgs_stop 16 n c r hc]
theorem dgs_dec (n : Nat) (h : n < 256) (r : List UInt8) : dgs 10 (decDigits n ++ r) 0 = dgs 10 r n := by
  have dd (d : Nat) (h : d < 10) : dgv (UInt8.ofNat (48 + d)) = d := by
    unfold dgv; rw [u8_dig d h, if_pos (by omega)]; omega
  induction n using Nat.strongRecOn generalizing r with
  | _ n ih =>
    by_cases h10 : n < 10
    · rw [dec_lo n h10, List.singleton_append, dgs, dd n h10, if_pos (by omega)]
      congr 1; omega
    · rw [dec_hi n h10, List.append_assoc, ih (n / 10) (by omega) (by omega), List.singleton_append, dgs, dd _ (by omega), if_pos (by omega)]
      congr 1; omega
theorem rd4_txt {b : List UInt8} (h : b.length = 4) : rd4 4 (txt4 b) = b := by
  obtain ⟨p, q, r, t, rfl⟩ := list4 h
  have st (x : UInt8) (l : List UInt8) : dgs 10 (decDigits x.toNat ++ 46 :: l) 0 = (x.toNat, 46 :: l) := by rw [dgs_dec _ x.toNat_lt, dgs_stop 10 _ 46 l (by decide)]
  have en : dgs 10 (decDigits t.toNat) 0 = (t.toNat, []) := by
    have := dgs_dec t.toNat t.toNat_lt []
    rw [List.append_nil] at this
    rw [this]; rfl
  have ob (x : UInt8) : UInt8.ofNat (x.toNat % 256) = x := by rw [Nat.mod_eq_of_lt x.toNat_lt, UInt8.ofNat_toNat]
  rw [txt4_eq, rd4, st]
  simp only
  rw [rd4, st]
  simp only
  rw [rd4, st]
  simp only
  rw [rd4, en]
  simp only [ob]
/-- One word is read. -/
theorem rd6_word (x : Nat) (hx : x < 65536) (c : UInt8) (hc : 16 ≤ dgv c) (r : List UInt8) (db : Bool) (bf af : List Nat) (hl : bf.length + af.length < 9) :
    rd6 (hexD x ++ c :: r) db bf af = rd6 (c :: r) db (if db then bf else bf ++ [x]) (if db then af ++ [x] else af) := by
  have hd := dgs_hexc x hx c hc r
  have hdig := hexD_dig x
  cases hh : hexD x with
  | nil => exact absurd hh (hexD_ne x)
  | cons d m =>
    have h1 := hdig d (by rw [hh]; simp)
    rw [hh] at hd
    rw [List.cons_append] at hd ⊢
    rw [rd6, if_neg (by
      rintro (e | e)
      · subst e; simp at h1
      · exact e hl), if_neg (by intro e; subst e; simp at h1)]
    rw [hd]
    simp only
    rw [dif_pos (by simp; omega), Nat.mod_eq_of_lt hx]
    cases db <;> rfl
theorem rd6_colon (r : List UInt8) (db : Bool) (bf af : List Nat) (hl : bf.length + af.length < 9) : rd6 (58 :: r) db bf af = rd6 r (db || r.head? == some 58) bf af := by
  rw [rd6, if_neg (by
    rintro (e | e)
    · exact absurd e (by decide)
    · exact e hl), if_pos rfl]
theorem rd6_end (r : List UInt8) (db : Bool) (bf af : List Nat) : rd6 (93 :: r) db bf af = some (bf, af, db) := by
  rw [rd6, if_pos (.inl rfl)]
theorem hjoin_head (x : Nat) (r : List Nat) : ∃ d m, hjoin (x :: r) = d :: m ∧ d ≠ 58 := by
  have hdig := hexD_dig x
  cases hh : hexD x with
  | nil => exact absurd hh (hexD_ne x)
  | cons d m =>
    have h1 := hdig d (by rw [hh]; simp)
    cases r with
    | nil => exact ⟨d, m, by rw [hjoin_one, hh], by rintro rfl; simp at h1⟩
    | cons y r => exact ⟨d, _, by rw [hjoin_cons, hh]; rfl, by rintro rfl; simp at h1⟩
theorem rd6_words : ∀ (g : List Nat), (∀ x ∈ g, x < 65536) → ∀ (c : UInt8), 16 ≤ dgv c → ∀ (r : List UInt8) (db : Bool) (bf af : List Nat), bf.length + af.length + g.length ≤ 8 → g ≠ [] →
    rd6 (hjoin g ++ c :: r) db bf af = rd6 (c :: r) db (if db then bf else bf ++ g) (if db then af ++ g else af)
  | [], _, _, _, _, _, _, _, _, h => absurd rfl h
  | [x], hx, c, hc, r, db, bf, af, hl, _ => by rw [hjoin_one]; exact rd6_word x (hx x (by simp)) c hc r db bf af (by simp at hl; omega)
  | x :: y :: g, hx, c, hc, r, db, bf, af, hl, _ => by
    simp only [List.length_cons] at hl
    rw [hjoin_cons, List.append_assoc, List.cons_append, rd6_word x (hx x (by simp)) 58 (by decide) _ db bf af (by omega), rd6_colon _ _ _ _ (by cases db <;> simp <;> omega)]
    obtain ⟨d, m, e, hd⟩ := hjoin_head y g
    have hh : (db || (hjoin (y :: g) ++ c :: r).head? == some 58) = db := by
      rw [e]
      simp [hd]
    rw [hh, rd6_words (y :: g) (fun z hz => hx z (by simp [hz])) c hc r db _ _ (by cases db <;> simp <;> omega) (by simp)]
    cases db <;> simp
theorem rd6_words' (g : List Nat) (hx : ∀ x ∈ g, x < 65536) (c : UInt8) (hc : 16 ≤ dgv c) (r : List UInt8) (db : Bool) (bf af : List Nat) (hl : bf.length + af.length + g.length ≤ 8) :
    rd6 (hjoin g ++ c :: r) db bf af = rd6 (c :: r) db (if db then bf else bf ++ g) (if db then af ++ g else af) := by
  cases g with
  | nil => rw [hjoin_nil]; cases db <;> simp
  | cons x g => exact rd6_words (x :: g) hx c hc r db bf af hl (by simp)
theorem rcnd_txt {k : Int} {b : List UInt8} (h : okA k b = true) : rcnd (txtA k b) = some (k, b) := by
  rcases okA_kinds h with ⟨rfl, hl⟩ | ⟨rfl, hl⟩ | ⟨rfl, hl, _⟩
  · show rcnd (txt4 b) = _
    obtain ⟨c, r, e, hc⟩ := txt4_head b hl
    have h1 : hostP.isPrefixOf (txt4 b) = false := by
      rw [e]
      have : (104 : UInt8) ≠ c := fun e => by subst e; simp at hc
      simp [hostP, List.isPrefixOf, this]
    have h2 : ([91] : List UInt8).isPrefixOf (txt4 b) = false := by
      rw [e]
      have : (91 : UInt8) ≠ c := fun e => by subst e; simp at hc
      simp [List.isPrefixOf, this]
    unfold rcnd
    rw [h1, h2, rd4_txt hl]
    rfl
  · show rcnd (txt6 b) = _
    have h1 : hostP.isPrefixOf (txt6 b) = false := by
      rcases txt6_shape hl with ⟨g, e, _⟩ | ⟨a, c, e, _⟩ <;> (rw [e]; simp [hostP, List.isPrefixOf])
    have h2 : ([91] : List UInt8).isPrefixOf (txt6 b) = true := by
      rcases txt6_shape hl with ⟨g, e, _⟩ | ⟨a, c, e, _⟩ <;> (rw [e]; simp [List.isPrefixOf])
    unfold rcnd
    rw [h1, h2]
    rcases txt6_shape hl with ⟨g, e, hg, hlt, hb⟩ | ⟨a, c, e, hg, ha, hc, _, hb⟩
    · have e1 : (txt6 b).drop 1 = hjoin g ++ [93] := by rw [e]; rfl
      rw [e1, rd6_words' g hlt 93 (by decide) [] false [] [] (by simp; omega), rd6_end]
      simp [pad6, hb]
    · have e1 : (txt6 b).drop 1 = hjoin a ++ (58 : UInt8) :: (58 :: (hjoin c ++ [93])) := by rw [e]; rfl
      rw [e1, rd6_words' a ha 58 (by decide) _ false [] [] (by simp; omega), rd6_colon _ _ _ _ (by simp; omega)]
      rw [show (false || (58 :: (hjoin c ++ [93]) : List UInt8).head? == some 58) = true from rfl, rd6_colon _ _ _ _ (by simp; omega), Bool.true_or, rd6_words' c hc 93 (by decide) [] true _ _ (by simp; omega), rd6_end]
      simp only [Bool.false_eq_true, if_false, if_true, List.nil_append]
      unfold pad6
      rw [if_pos rfl, hb]
  · show rcnd (txtH b) = _
    have h1 : hostP.isPrefixOf (txtH b) = true := by simp [hostP, txtH, List.isPrefixOf]
    unfold rcnd
    rw [h1]
    rfl
theorem rprs_txt {k : Int} {b : List UInt8} (h : okA k b = true) : rprs (txtA k b) = some (k, b) := by
  unfold rprs
  rw [rcnd_txt h]
  exact if_pos ⟨h, rfl⟩
theorem rprs_some {s : List UInt8} {k : Int} {b : List UInt8} (h : rprs s = some (k, b)) : okA k b = true ∧ txtA k b = s := by
  unfold rprs at h
  cases hc : rcnd s with
  | none => rw [hc] at h; cases h
  | some x =>
    rw [hc] at h
    simp only at h
    split at h
    · next hc => injection h with h; rw [h] at hc; exact hc
    · cases h
/-- Both parse alike. -/
theorem rprs_eq (s : List UInt8) : rprs s = prsA s := by
  cases h : prsA s with
  | some x =>
    obtain ⟨k, b⟩ := x
    obtain ⟨h1, h2⟩ := prsA_some h
    rw [← h2, rprs_txt h1]
  | none =>
    cases h' : rprs s with
    | none => rfl
    | some x =>
      obtain ⟨k, b⟩ := x
      obtain ⟨h1, h2⟩ := rprs_some h'
      rw [← h2, prsA_txt h1] at h
      cases h
end Go.Proofs.YthpfomjibfbiiaaGreatDoor
