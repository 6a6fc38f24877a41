/- Texts laid together (wip/tools/automerge.py): PoPure2, Po3, NmPure, Nm1, Po4, Po5. -/
import Derived.Test.YtgfjmmdkdhodiaaGreatDoorMg2
import Derived.Test.YtgfjmmdkdhodiaaGreatDoorMg3
import Derived.Test.YtgfjmmdkdhodiaaGreatDoorMg0
import Derived.Handy
namespace Go.Proofs.YtgfjmmdkdhodiaaGreatDoor

theorem cls_bd (c : UInt8) : 1 ≤ cls c ∧ cls c ≤ 5 := by unfold cls; constructor <;> (repeat' split) <;> omega
/-- A byte of a name. -/
def nmc (c : UInt8) : Bool := decide (cls c ≤ 3) || c == 45 || c == 95 || c == 46
def inB (v lo hi : Int) : Bool := decide (lo ≤ v) && decide (v ≤ hi)
def tmB (v : Int) : Bool := inB v 0 1099511627776
def nmB' (l : List UInt8) : Bool := l.all nmc && inB l.length 1 32
/-- A policy. -/
structure Pol where
  nm : ByteArray
  len : Int
  cla : Int
  dis : Int
  his : Int
  mina : Int
  maxa : Int
  fai : Int
  win : Int
  loc : Int
def Pol.ok (p : Pol) : Bool := nmB' p.nm.data.toList && inB p.len 1 64 && inB p.cla 1 5 && inB p.dis 0 p.len && inB p.his 0 16 && tmB p.mina && tmB p.maxa && (decide (p.maxa = 0) || decide (p.mina ≤ p.maxa)) && inB p.fai 0 1000 && tmB p.win && tmB p.loc
structure Pol.Bd (p : Pol) : Prop where
  nm : nmB' p.nm.data.toList = true
  len : 1 ≤ p.len ∧ p.len ≤ 64
  cla : 1 ≤ p.cla ∧ p.cla ≤ 5
  dis : 0 ≤ p.dis ∧ p.dis ≤ p.len
  his : 0 ≤ p.his ∧ p.his ≤ 16
  mina : 0 ≤ p.mina ∧ p.mina ≤ 1099511627776
  maxa : 0 ≤ p.maxa ∧ p.maxa ≤ 1099511627776
  age : p.maxa = 0 ∨ p.mina ≤ p.maxa
  fai : 0 ≤ p.fai ∧ p.fai ≤ 1000
  win : 0 ≤ p.win ∧ p.win ≤ 1099511627776
  loc : 0 ≤ p.loc ∧ p.loc ≤ 1099511627776
theorem Pol.ok_iff (p : Pol) : p.ok = true ↔ p.Bd := by
  unfold Pol.ok inB tmB inB
  simp only [Bool.and_eq_true, Bool.or_eq_true, decide_eq_true_eq]
  constructor
  · rintro ⟨⟨⟨⟨⟨⟨⟨⟨⟨⟨h1, h2⟩, h3⟩, h4⟩, h5⟩, h6⟩, h7⟩, h8⟩, h9⟩, h10⟩, h11⟩
    exact ⟨h1, h2, h3, h4, h5, h6, h7, h8, h9, h10, h11⟩
  · rintro ⟨h1, h2, h3, h4, h5, h6, h7, h8, h9, h10, h11⟩
    exact ⟨⟨⟨⟨⟨⟨⟨⟨⟨⟨h1, h2⟩, h3⟩, h4⟩, h5⟩, h6⟩, h7⟩, h8⟩, h9⟩, h10⟩, h11⟩
theorem nmB_len {l : List UInt8} (h : nmB' l = true) : 1 ≤ l.length ∧ l.length ≤ 32 := by
  unfold nmB' inB at h
  simp only [Bool.and_eq_true, decide_eq_true_eq] at h
  omega
theorem nmB_all {l : List UInt8} (h : nmB' l = true) : ∀ c ∈ l, nmc c = true := by
  unfold nmB' at h
  simp only [Bool.and_eq_true, List.all_eq_true] at h
  exact h.1
theorem nmc_not32 {c : UInt8} (h : nmc c = true) : c.toNat ≠ 32 := fun e => by
  have : c = 32 := UInt8.toNat_inj.1 e
  subst this
  revert h
  decide

/-- How many of the numbers below n are in the list. -/
def kindsN (n : Nat) (l : List Nat) : Nat := ((List.range n).filter (fun i => l.contains i)).length
theorem filter_one (n x : Nat) : ∀ m, n ≤ m → x < n → ((List.range n).filter (fun i => i == x)).length = 1 := by
  intro m _ hx
  induction n with
  | zero => omega
  | succ n ih =>
    rw [List.range_succ, List.filter_append, List.length_append]
    by_cases h : x = n
    · subst h
      have : (List.range x).filter (fun i => i == x) = [] := by
        rw [List.filter_eq_nil_iff]
        intro a ha
        have := List.mem_range.1 ha
        simp; omega
      rw [this]
      simp
    · rw [ih (by omega) (by omega)]
      have : (n == x) = false := by simp; omega
      simp [this]
theorem filter_or {p q r : Nat → Bool} (hr : ∀ i, r i = (p i || q i)) (hpq : ∀ i, p i = true → q i = false) : ∀ (l : List Nat), (l.filter r).length = (l.filter p).length + (l.filter q).length
  | [] => rfl
  | a :: l => by
    have ih := filter_or hr hpq l
    have h1 := hr a
    have h2 := hpq a
    cases hp : p a <;> cases hq : q a <;> simp [h1, hp, hq, ih] <;> first | omega | (rw [h2 hp] at hq; cases hq)
theorem kindsN_old {n x : Nat} {l : List Nat} (h : l.contains x = true) : kindsN n (l ++ [x]) = kindsN n l := by
  unfold kindsN
  congr 1
  apply List.filter_congr
  intro i _
  rw [Bool.eq_iff_iff]
  simp only [List.contains_iff_mem, List.mem_append, List.mem_singleton] at h ⊢
  constructor
  · rintro (h' | rfl)
    · exact h'
    · exact h
  · exact fun h' => .inl h'
theorem kindsN_new {n x : Nat} {l : List Nat} (hx : x < n) (h : l.contains x = false) : kindsN n (l ++ [x]) = kindsN n l + 1 := by
  unfold kindsN
  rw [filter_or (p := fun i => l.contains i) (q := fun i => i == x), filter_one n x n (Nat.le_refl _) hx]
  · intro i
    rw [Bool.eq_iff_iff]
    simp
  · intro i hi
    rw [beq_eq_false_iff_ne]
    rintro rfl
    rw [hi] at h
    cases h
theorem kindsN_le (n : Nat) (l : List Nat) : kindsN n l ≤ n := by
  unfold kindsN
  exact Nat.le_trans (List.length_filter_le _ _) (by simp)
theorem kindsN_nil (n : Nat) : kindsN n [] = 0 := by simp [kindsN]

/-- Whether the bytes contain the others, capital letters as small ones. -/
def smlL (l : List UInt8) : List UInt8 := l.map sml
def occ (b s : List UInt8) (i : Nat) : Bool := ((smlL b).drop i).take s.length == smlL s
def hasL (b s : List UInt8) : Bool := (List.range (b.length + 1 - s.length)).any (occ b s)
theorem occ_iff (b s : List UInt8) (i : Nat) (h : i + s.length ≤ b.length) : occ b s i = true ↔ ∀ j (hj : j < s.length), sml (b[i + j]'(by omega)) = sml s[j] := by
  unfold occ smlL
  rw [beq_iff_eq]
  constructor
  · intro he j hj
    have h1 := congrArg (fun l => l[j]?) he
    simp only [List.getElem?_take, hj, if_true, List.getElem?_drop, List.getElem?_map] at h1
    rw [List.getElem?_eq_getElem (show i + j < b.length by omega), List.getElem?_eq_getElem hj] at h1
    simpa using h1
  · intro hj
    apply List.ext_getElem?
    intro j
    by_cases hjs : j < s.length
    · simp only [List.getElem?_take, hjs, if_true, List.getElem?_drop, List.getElem?_map]
      rw [List.getElem?_eq_getElem (show i + j < b.length by omega), List.getElem?_eq_getElem hjs]
      simp [hj j hjs]
    · simp [List.getElem?_take, hjs]
theorem occ_yes {b s : List UInt8} {i : Nat} (h : i + s.length ≤ b.length) (hj : ∀ j (hj : j < s.length), sml (b[i + j]'(by omega)) = sml s[j]) : hasL b s = true := by
  unfold hasL
  rw [List.any_eq_true]
  exact ⟨i, List.mem_range.2 (by omega), (occ_iff b s i h).2 hj⟩
theorem occ_no {b s : List UInt8} (h : ∀ i, i + s.length ≤ b.length → occ b s i = false) : hasL b s = false := by
  unfold hasL
  rw [List.any_eq_false]
  intro i hi
  have := List.mem_range.1 hi
  rw [h i (by omega)]
  simp
theorem occ_at {b s : List UInt8} {i j : Nat} (h : i + s.length ≤ b.length) (hj : j < s.length) (hne : sml (b[i + j]'(by omega)) ≠ sml s[j]) : occ b s i = false := by
  cases ho : occ b s i with
  | false => rfl
  | true => exact absurd ((occ_iff b s i h).1 ho j hj) hne
theorem hasL_append {b s : List UInt8} (m : List UInt8) (h : hasL b s = true) : hasL (b ++ m) s = true := by
  unfold hasL at h
  rw [List.any_eq_true] at h
  obtain ⟨i, hi, ho⟩ := h
  have hi := List.mem_range.1 hi
  have h1 : i + s.length ≤ b.length := by omega
  refine occ_yes (i := i) (by rw [List.length_append]; omega) (fun j hj => ?_)
  rw [List.getElem_append_left (by omega)]
  exact (occ_iff b s i h1).1 ho j hj

/-- How long the run is that ends at an index. -/
def runAt (b : List UInt8) (d : Int) : Nat → Nat
  | 0 => 1
  | i + 1 => if ((b.getD (i + 1) 0).toNat : Int) - ((b.getD i 0).toNat : Int) = d then runAt b d i + 1 else 1
def runB (b : List UInt8) (d : Int) : Bool := (List.range b.length).any (fun i => decide (5 ≤ runAt b d i))
theorem runAt_le (b : List UInt8) (d : Int) : ∀ i, 1 ≤ runAt b d i
  | 0 => Nat.le_refl _
  | i + 1 => by unfold runAt; split <;> omega
theorem runAt_append (b m : List UInt8) (d : Int) : ∀ i, i < b.length → runAt (b ++ m) d i = runAt b d i
  | 0, _ => rfl
  | i + 1, h => by
    unfold runAt
    rw [runAt_append b m d i (by omega)]
    have e1 : (b ++ m).getD (i + 1) 0 = b.getD (i + 1) 0 := by simp [List.getD_eq_getElem?_getD, List.getElem?_append_left h]
    have e2 : (b ++ m).getD i 0 = b.getD i 0 := by simp [List.getD_eq_getElem?_getD, List.getElem?_append_left (show i < b.length by omega)]
    rw [e1, e2]
theorem runB_append {b : List UInt8} (m : List UInt8) {d : Int} (h : runB b d = true) : runB (b ++ m) d = true := by
  unfold runB at h ⊢
  rw [List.any_eq_true] at h ⊢
  obtain ⟨i, hi, ho⟩ := h
  have hi := List.mem_range.1 hi
  exact ⟨i, List.mem_range.2 (by rw [List.length_append]; omega), by rw [runAt_append b m d i hi]; exact ho⟩
theorem runB_no {b : List UInt8} {d : Int} (h : ∀ i, i < b.length → runAt b d i < 5) : runB b d = false := by
  unfold runB
  rw [List.any_eq_false]
  intro i hi
  have := h i (List.mem_range.1 hi)
  simp; omega
theorem runB_yes {b : List UInt8} {d : Int} {i : Nat} (hi : i < b.length) (h : 5 ≤ runAt b d i) : runB b d = true := by
  unfold runB
  rw [List.any_eq_true]
  exact ⟨i, List.mem_range.2 hi, decide_eq_true h⟩

/-- A control byte. -/
def ctl (c : UInt8) : Bool := decide (c.toNat < 32) || decide (c.toNat = 127)
def partIn (b s : List UInt8) : Bool := decide (3 ≤ s.length) && hasL b s
/-- Which rules are broken, one by one. -/
def bsP (len cla dis : Int) (parts : List (List UInt8)) (b : List UInt8) : List Bool :=
  [decide ((b.length : Int) < len), decide (128 < b.length), b.any ctl, decide ((kindsN 6 (b.map cls) : Int) < cla), decide ((kindsN 256 (b.map UInt8.toNat) : Int) < dis), parts.any (partIn b), runB b 0 || runB b 1 || runB b (-1)]
/-- The numbers of the rules that are broken. -/
def rls : Nat → List Bool → List Nat
  | _, [] => []
  | k, true :: l => k :: rls (k + 1) l
  | k, false :: l => rls (k + 1) l
theorem rls_append : ∀ (k : Nat) (l m : List Bool), rls k (l ++ m) = rls k l ++ rls (k + l.length) m
  | k, [], m => rfl
  | k, true :: l, m => by simp [rls, rls_append (k + 1) l m, Nat.add_assoc, Nat.add_comm 1]
  | k, false :: l, m => by simp [rls, rls_append (k + 1) l m, Nat.add_assoc, Nat.add_comm 1]
def brk (len cla dis : Int) (parts : List (List UInt8)) (b : List UInt8) : List Nat := rls 1 (bsP len cla dis parts b)
theorem rls_mem : ∀ (k : Nat) (l : List Bool) (x : Nat), x ∈ rls k l ↔ k ≤ x ∧ l[x - k]? = some true
  | k, [], x => by simp [rls]
  | k, b :: l, x => by
    have ih := rls_mem (k + 1) l x
    rcases Nat.lt_trichotomy x k with h | rfl | h
    · have a1 : ¬ (k + 1 ≤ x) := by omega
      have a2 : ¬ (k ≤ x) := by omega
      have a3 : ¬ (x = k) := by omega
      cases b <;> simp [rls, ih, a1, a2, a3]
    · have a1 : ¬ (x + 1 ≤ x) := by omega
      have a2 : x - x = 0 := by omega
      cases b
      · simp only [rls]
        rw [ih, a2]
        simp [a1]
      · simp [rls]
    · have a1 : k + 1 ≤ x := by omega
      have a2 : k ≤ x := by omega
      have a3 : ¬ (x = k) := by omega
      rw [show x - k = (x - (k + 1)) + 1 by omega, List.getElem?_cons_succ]
      cases b <;> simp [rls, ih, a1, a2, a3]
theorem rls_len : ∀ (k : Nat) (l : List Bool), (rls k l).length ≤ l.length
  | _, [] => Nat.le_refl _
  | k, true :: l => by have := rls_len (k + 1) l; simp [rls]; omega
  | k, false :: l => by have := rls_len (k + 1) l; simp [rls]; omega
theorem brk_len (len cla dis : Int) (parts : List (List UInt8)) (b : List UInt8) : (brk len cla dis parts b).length ≤ 7 := Nat.le_trans (rls_len _ _) (Nat.le_refl _)
theorem brk_bd {len cla dis : Int} {parts : List (List UInt8)} {b : List UInt8} {x : Nat} (h : x ∈ brk len cla dis parts b) : 1 ≤ x ∧ x ≤ 7 := by
  obtain ⟨h1, h2⟩ := (rls_mem _ _ _).1 h
  have := (List.getElem?_eq_some_iff.1 h2).1
  simp [bsP] at this
  omega
/-- Lower requirements break no more. -/
theorem brk_low {len cla dis len' cla' dis' : Int} {parts : List (List UInt8)} {b : List UInt8} (h1 : len' ≤ len) (h2 : cla' ≤ cla) (h3 : dis' ≤ dis) (h : brk len cla dis parts b = []) : brk len' cla' dis' parts b = [] := by
  rw [List.eq_nil_iff_forall_not_mem] at h ⊢
  intro x hx
  apply h x
  unfold brk at hx ⊢
  rw [rls_mem] at hx ⊢
  refine ⟨hx.1, ?_⟩
  obtain ⟨_, hx⟩ := hx
  generalize x - 1 = y at hx ⊢
  unfold bsP at hx ⊢
  rcases y with _ | _ | _ | _ | _ | _ | _ | y <;> simp_all <;> omega
/-- What content breaks stays broken, if bytes are appended. -/
theorem brk_more {len cla dis : Int} {parts : List (List UInt8)} {b : List UInt8} (m : List UInt8) {x : Nat} (hx : x = 2 ∨ x = 3 ∨ x = 6 ∨ x = 7) (h : x ∈ brk len cla dis parts b) : x ∈ brk len cla dis parts (b ++ m) := by
  unfold brk at h ⊢
  rw [rls_mem] at h ⊢
  refine ⟨h.1, ?_⟩
  obtain ⟨_, h⟩ := h
  unfold bsP at h ⊢
  rcases hx with rfl | rfl | rfl | rfl
  · simp only [Nat.reduceSub, List.getElem?_cons_succ, List.getElem?_cons_zero, Option.some.injEq, decide_eq_true_eq, List.length_append] at h ⊢
    omega
  · simp only [Nat.reduceSub, List.getElem?_cons_succ, List.getElem?_cons_zero, Option.some.injEq, List.any_append, Bool.or_eq_true] at h ⊢
    exact .inl h
  · simp only [Nat.reduceSub, List.getElem?_cons_succ, List.getElem?_cons_zero, Option.some.injEq, List.any_eq_true] at h ⊢
    obtain ⟨s, hs, hp⟩ := h
    refine ⟨s, hs, ?_⟩
    unfold partIn at hp ⊢
    simp only [Bool.and_eq_true] at hp ⊢
    exact ⟨hp.1, hasL_append m hp.2⟩
  · simp only [Nat.reduceSub, List.getElem?_cons_succ, List.getElem?_cons_zero, Option.some.injEq, Bool.or_eq_true] at h ⊢
    rcases h with (h | h) | h
    · exact .inl (.inl (runB_append m h))
    · exact .inl (.inr (runB_append m h))
    · exact .inr (runB_append m h)
end Go.Proofs.YtgfjmmdkdhodiaaGreatDoor
namespace Go.Proofs.YtgfjmmdkdhodiaaGreatDoor
open Go Go.RowKit
set_option linter.unusedVariables false

theorem between_at (v lo hi : Int) (w : World) :
    Calls Tryz.prog 29 #[.int .i64 v, .int .i64 lo, .int .i64 hi] w fun e w' => e = .returned (.bool (inB v lo hi)) ∧ w = w' := by
  by_cases h1 : lo ≤ v
  · by_cases h2 : v ≤ hi
    · have H : inB v lo hi = true := by unfold inB; rw [decide_eq_true h1, decide_eq_true h2]; rfl
      rw [H]
      clear H
      go_enter Tryz.func29, Tryz.ntmps29
      go_wp2_with fail
      go_ret
      exact ⟨rfl, rfl⟩
    · have H : inB v lo hi = false := by unfold inB; rw [decide_eq_false h2, Bool.and_false]
      rw [H]
      clear H
      go_enter Tryz.func29, Tryz.ntmps29
      go_wp2_with fail
      go_ret
      exact ⟨rfl, rfl⟩
  · have H : inB v lo hi = false := by unfold inB; rw [decide_eq_false h1]; rfl
    rw [H]
    clear H
    go_enter Tryz.func29, Tryz.ntmps29
    go_wp2_with fail
    go_ret
    exact ⟨rfl, rfl⟩
theorem time_at (v : Int) (w : World) :
    Calls Tryz.prog 28 #[.int .i64 v] w fun e w' => e = .returned (.bool (tmB v)) ∧ w = w' := by
  have H := Lib.hid (between_at v 0 1099511627776)
  go_enter Tryz.func28, Tryz.ntmps28
  go_wp2_with fail
  refine (H.out _).mono ?_
  rintro _ w1 ⟨rfl, rfl⟩
  go_wp2_with fail
  go_ret
  exact ⟨rfl, rfl⟩
end Go.Proofs.YtgfjmmdkdhodiaaGreatDoor
namespace Go.Proofs.YtgfjmmdkdhodiaaGreatDoor
set_option linter.unusedVariables false

/-- A byte of a realm's label. -/
def okc (c : UInt8) : Bool := decide (65 ≤ c.toNat ∧ c.toNat ≤ 90 ∨ 48 ≤ c.toNat ∧ c.toNat ≤ 57 ∨ c.toNat = 45)
/-- Labels, of which the first has n bytes already. -/
def labB : Nat → List UInt8 → Bool
  | n, [] => decide (0 < n)
  | n, c :: r => if c.toNat = 46 then decide (0 < n) && labB 0 r else okc c && labB (n + 1) r
def sizedB (l : List UInt8) : Bool := decide (1 ≤ l.length ∧ l.length ≤ 32)
def realmB (l : List UInt8) : Bool := sizedB l && labB 0 l
def prtc (c : UInt8) : Bool := decide (33 ≤ c.toNat ∧ c.toNat ≤ 126)
def partB (l : List UInt8) : Bool := sizedB l && l.all prtc
def nameB (parts : List (List UInt8)) (realm : List UInt8) : Bool := decide (1 ≤ parts.length ∧ parts.length ≤ 4) && realmB realm && parts.all partB
/-- A label. -/
def labelB (l : List UInt8) : Bool := !l.isEmpty && l.all okc
/-- What lies between the dots. -/
def spl : List UInt8 → List UInt8 → List (List UInt8)
  | acc, [] => [acc]
  | acc, c :: r => if c.toNat = 46 then acc :: spl [] r else spl (acc ++ [c]) r
theorem spl_labels : ∀ (s acc : List UInt8), (acc.all okc && labB acc.length s) = (spl acc s).all labelB
  | [], acc => by
    simp only [labB, spl, List.all_cons, List.all_nil, Bool.and_true, labelB]
    cases acc <;> simp
  | c :: r, acc => by
    unfold labB spl
    split
    · have h := spl_labels r []
      simp only [List.all_nil, Bool.true_and, List.length_nil] at h
      rw [List.all_cons, ← h, labelB]
      cases acc <;> simp [Bool.and_assoc]
    · have h := spl_labels r (acc ++ [c])
      rw [← h, List.length_append, List.length_singleton, List.all_append, List.all_cons, List.all_nil, Bool.and_true, Bool.and_assoc]
theorem realm_labels (s : List UInt8) : realmB s = (sizedB s && (spl [] s).all labelB) := by
  unfold realmB
  rw [← spl_labels s []]
  simp
theorem spl_acc : ∀ (s acc : List UInt8), (∀ c ∈ s, c.toNat ≠ 46) → spl acc s = [acc ++ s]
  | [], acc, _ => by simp [spl]
  | c :: r, acc, h => by
    rw [spl, if_neg (h c (by simp)), spl_acc r _ (fun d hd => h d (by simp [hd]))]
    simp
theorem spl_hit : ∀ (s acc r : List UInt8), (∀ c ∈ s, c.toNat ≠ 46) → spl acc (s ++ 46 :: r) = (acc ++ s) :: spl [] r
  | [], acc, r, _ => by rw [List.nil_append, spl, if_pos (by decide)]; simp
  | c :: s, acc, r, h => by
    rw [List.cons_append, spl, if_neg (h c (by simp)), spl_hit s _ r (fun d hd => h d (by simp [hd]))]
    simp

/-! The string of a name. -/
def spc (c : UInt8) : Bool := decide (c.toNat = 47 ∨ c.toNat = 64 ∨ c.toNat = 92)
def esc : List UInt8 → List UInt8
  | [] => []
  | c :: r => if spc c then 92 :: c :: esc r else c :: esc r
theorem esc_append (a b : List UInt8) : esc (a ++ b) = esc a ++ esc b := by
  induction a with
  | nil => rfl
  | cons c r ih =>
    rw [List.cons_append, esc, esc, ih]
    split <;> simp
def partsT : List (List UInt8) → List UInt8
  | [] => []
  | [p] => esc p
  | p :: q :: r => esc p ++ 47 :: partsT (q :: r)
theorem partsT_snoc : ∀ (ls : List (List UInt8)) (p : List UInt8), partsT (ls ++ [p]) = if ls = [] then esc p else partsT ls ++ 47 :: esc p
  | [], p => by simp [partsT]
  | [a], p => by simp [partsT]
  | a :: b :: r, p => by
    have h := partsT_snoc (b :: r) p
    rw [if_neg (by simp)] at h
    rw [if_neg (by simp)]
    show esc a ++ 47 :: partsT (b :: r ++ [p]) = _
    rw [h, partsT]
    simp
def textN (parts : List (List UInt8)) (realm : List UInt8) : List UInt8 := partsT parts ++ 64 :: realm
/-- What the program's Parse reads: the components so far, the bytes of the one under way, what is left. -/
def scan (parts : List (List UInt8)) (part : List UInt8) : List UInt8 → Option (List (List UInt8) × List UInt8)
  | [] => none
  | c :: r =>
    if c.toNat = 92 then
      match r with
      | [] => none
      | d :: r' => if spc d then scan parts (part ++ [d]) r' else none
    else if c.toNat = 47 then scan (parts ++ [part]) [] r
    else if c.toNat = 64 then some (parts ++ [part], r)
    else scan parts (part ++ [c]) r
/-- What the reference's reads: an escape may stand before any byte. -/
def scanR (parts : List (List UInt8)) (part : List UInt8) : List UInt8 → Option (List (List UInt8) × List UInt8)
  | [] => none
  | c :: r =>
    if c.toNat = 64 then some (parts ++ [part], r)
    else if c.toNat = 47 then scanR (parts ++ [part]) [] r
    else if c.toNat = 92 then
      match r with
      | [] => none
      | d :: r' => scanR parts (part ++ [d]) r'
    else scanR parts (part ++ [c]) r
theorem scan_cons (parts : List (List UInt8)) (part : List UInt8) (c : UInt8) (r : List UInt8) : scan parts part (c :: r) = (if c.toNat = 92 then
      match r with
      | [] => none
      | d :: r' => if spc d then scan parts (part ++ [d]) r' else none
    else if c.toNat = 47 then scan (parts ++ [part]) [] r
    else if c.toNat = 64 then some (parts ++ [part], r)
    else scan parts (part ++ [c]) r) := by rw [scan.eq_def]
theorem scanR_cons (parts : List (List UInt8)) (part : List UInt8) (c : UInt8) (r : List UInt8) : scanR parts part (c :: r) = (if c.toNat = 64 then some (parts ++ [part], r)
    else if c.toNat = 47 then scanR (parts ++ [part]) [] r
    else if c.toNat = 92 then
      match r with
      | [] => none
      | d :: r' => scanR parts (part ++ [d]) r'
    else scanR parts (part ++ [c]) r) := by rw [scanR.eq_def]
theorem scan_bs {parts : List (List UInt8)} {part : List UInt8} {c d : UInt8} {r : List UInt8} (h : c.toNat = 92) : scan parts part (c :: d :: r) = if spc d then scan parts (part ++ [d]) r else none := by rw [scan_cons, if_pos h]
theorem scan_end {parts : List (List UInt8)} {part : List UInt8} {c : UInt8} (h : c.toNat = 92) : scan parts part [c] = none := by rw [scan_cons, if_pos h]
theorem scan_sl {parts : List (List UInt8)} {part : List UInt8} {c : UInt8} {r : List UInt8} (h : c.toNat = 47) : scan parts part (c :: r) = scan (parts ++ [part]) [] r := by rw [scan_cons, if_neg (by omega), if_pos h]
theorem scan_at {parts : List (List UInt8)} {part : List UInt8} {c : UInt8} {r : List UInt8} (h : c.toNat = 64) : scan parts part (c :: r) = some (parts ++ [part], r) := by rw [scan_cons, if_neg (by omega), if_neg (by omega), if_pos h]
theorem scan_ch {parts : List (List UInt8)} {part : List UInt8} {c : UInt8} {r : List UInt8} (h1 : c.toNat ≠ 92) (h2 : c.toNat ≠ 47) (h3 : c.toNat ≠ 64) : scan parts part (c :: r) = scan parts (part ++ [c]) r := by rw [scan_cons, if_neg h1, if_neg h2, if_neg h3]
theorem scanR_bs {parts : List (List UInt8)} {part : List UInt8} {c d : UInt8} {r : List UInt8} (h : c.toNat = 92) : scanR parts part (c :: d :: r) = scanR parts (part ++ [d]) r := by rw [scanR_cons, if_neg (by omega), if_neg (by omega), if_pos h]
theorem scanR_end {parts : List (List UInt8)} {part : List UInt8} {c : UInt8} (h : c.toNat = 92) : scanR parts part [c] = none := by rw [scanR_cons, if_neg (by omega), if_neg (by omega), if_pos h]
theorem scanR_sl {parts : List (List UInt8)} {part : List UInt8} {c : UInt8} {r : List UInt8} (h : c.toNat = 47) : scanR parts part (c :: r) = scanR (parts ++ [part]) [] r := by rw [scanR_cons, if_neg (by omega), if_pos h]
theorem scanR_at {parts : List (List UInt8)} {part : List UInt8} {c : UInt8} {r : List UInt8} (h : c.toNat = 64) : scanR parts part (c :: r) = some (parts ++ [part], r) := by rw [scanR_cons, if_pos h]
theorem scanR_ch {parts : List (List UInt8)} {part : List UInt8} {c : UInt8} {r : List UInt8} (h1 : c.toNat ≠ 92) (h2 : c.toNat ≠ 47) (h3 : c.toNat ≠ 64) : scanR parts part (c :: r) = scanR parts (part ++ [c]) r := by rw [scanR_cons, if_neg h3, if_neg h2, if_neg h1]
theorem spc_no {c : UInt8} (h : ¬ spc c = true) : c.toNat ≠ 47 ∧ c.toNat ≠ 64 ∧ c.toNat ≠ 92 := by
  unfold spc at h
  simp only [decide_eq_true_eq] at h
  omega
theorem scan_esc : ∀ (q parts : List (UInt8)) (ps : List (List UInt8)) (rest : List UInt8), scan ps parts (esc q ++ rest) = scan ps (parts ++ q) rest
  | [], part, ps, rest => by simp [esc]
  | c :: r, part, ps, rest => by
    rw [esc]
    split
    · rename_i h
      rw [List.cons_append, List.cons_append, scan_bs (by decide), if_pos h, scan_esc r]
      simp
    · rename_i h
      have hs := spc_no h
      rw [List.cons_append, scan_ch hs.2.2 hs.1 hs.2.1, scan_esc r]
      simp
theorem scanR_esc : ∀ (q parts : List (UInt8)) (ps : List (List UInt8)) (rest : List UInt8), scanR ps parts (esc q ++ rest) = scanR ps (parts ++ q) rest
  | [], part, ps, rest => by simp [esc]
  | c :: r, part, ps, rest => by
    rw [esc]
    split
    · rename_i h
      rw [List.cons_append, List.cons_append, scanR_bs (by decide), scanR_esc r]
      simp
    · rename_i h
      have hs := spc_no h
      rw [List.cons_append, scanR_ch hs.2.2 hs.1 hs.2.1, scanR_esc r]
      simp
theorem scan_parts : ∀ (ls ps : List (List UInt8)) (realm : List UInt8), ls ≠ [] → scan ps [] (partsT ls ++ 64 :: realm) = some (ps ++ ls, realm)
  | [], _, _, h => absurd rfl h
  | [p], ps, realm, _ => by
    rw [partsT, scan_esc, List.nil_append, scan_at (by decide)]
  | p :: q :: r, ps, realm, _ => by
    rw [partsT, List.append_assoc, scan_esc, List.nil_append, List.cons_append, scan_sl (by decide), scan_parts (q :: r) _ _ (by simp)]
    simp
theorem scanR_parts : ∀ (ls ps : List (List UInt8)) (realm : List UInt8), ls ≠ [] → scanR ps [] (partsT ls ++ 64 :: realm) = some (ps ++ ls, realm)
  | [], _, _, h => absurd rfl h
  | [p], ps, realm, _ => by
    rw [partsT, scanR_esc, List.nil_append, scanR_at (by decide)]
  | p :: q :: r, ps, realm, _ => by
    rw [partsT, List.append_assoc, scanR_esc, List.nil_append, List.cons_append, scanR_sl (by decide), scanR_parts (q :: r) _ _ (by simp)]
    simp
theorem u8_of {c : UInt8} {n : Nat} (hn : n < 256) (h : c.toNat = n) : c = UInt8.ofNat n := by
  apply UInt8.toNat_inj.1
  rw [h, UInt8.toNat_ofNat']
  omega
theorem esc_one {c : UInt8} (h : ¬ spc c = true) : esc [c] = [c] := by rw [esc, if_neg h]; rfl
theorem esc_spc {c : UInt8} (h : spc c = true) : esc [c] = [92, c] := by rw [esc, if_pos h]; rfl
theorem partsT_open (parts : List (List UInt8)) (part q : List UInt8) : partsT (parts ++ [part ++ q]) = partsT (parts ++ [part]) ++ esc q := by
  rw [partsT_snoc, partsT_snoc, esc_append]
  split <;> simp
theorem scan_text : ∀ (n : Nat) (l : List UInt8) (parts : List (List UInt8)) (part : List UInt8) (p : List (List UInt8)) (r : List UInt8), l.length ≤ n → scan parts part l = some (p, r) → partsT (parts ++ [part]) ++ l = textN p r
  | _, [], parts, part, p, r, _, h => by simp [scan] at h
  | 0, c :: l, _, _, _, _, hl, _ => by simp at hl
  | n + 1, c :: l, parts, part, p, r, hl, h => by
    have hl' : l.length ≤ n := by simpa using hl
    unfold scan at h
    split at h
    · rename_i h92
      cases l with
      | nil => cases h
      | cons d l' =>
        simp only at h
        split at h
        · rename_i hd
          have hl2 : l'.length ≤ n := by simp at hl'; omega
          have ih := scan_text n l' parts (part ++ [d]) p r hl2 h
          rw [partsT_open, esc_spc hd] at ih
          rw [← ih, u8_of (by omega) h92]
          simp
        · cases h
    · split at h
      · rename_i h92 h47
        have ih := scan_text n l (parts ++ [part]) [] p r hl' h
        rw [partsT_snoc, if_neg (by simp), esc] at ih
        rw [← ih, u8_of (by omega) h47]
        simp
      · split at h
        · rename_i h92 h47 h64
          simp only [Option.some.injEq, Prod.mk.injEq] at h
          obtain ⟨rfl, rfl⟩ := h
          rw [u8_of (by omega) h64]; rfl
        · rename_i h92 h47 h64
          have hs : ¬ spc c = true := by unfold spc; simp only [decide_eq_true_eq]; omega
          have ih := scan_text n l parts (part ++ [c]) p r hl' h
          rw [partsT_open, esc_one hs] at ih
          rw [← ih]
          simp
theorem nameB_ne {parts : List (List UInt8)} {realm : List UInt8} (h : nameB parts realm = true) : parts ≠ [] := by
  rintro rfl
  simp [nameB] at h
theorem textN_inj {p q : List (List UInt8)} {r t : List UInt8} (hp : p ≠ []) (hq : q ≠ []) (h : textN p r = textN q t) : p = q ∧ r = t := by
  have a := scan_parts p [] r hp
  have b := scan_parts q [] t hq
  unfold textN at h
  rw [h, b] at a
  simp only [List.nil_append, Option.some.injEq, Prod.mk.injEq] at a
  exact ⟨a.1.symm, a.2.symm⟩
end Go.Proofs.YtgfjmmdkdhodiaaGreatDoor
namespace Go.Proofs.YtgfjmmdkdhodiaaGreatDoor
open Go Go.RowKit
set_option linter.unusedVariables false

theorem size_list (s : ByteArray) : s.data.toList.length = s.size := by rw [Array.length_toList]; rfl
theorem take_at (s : ByteArray) (k : Nat) (h : k < s.size) : s.data.toList.take (k + 1) = s.data.toList.take k ++ [s[k]] := by
  rw [List.take_succ_eq_append_getElem (by rw [Array.length_toList]; exact h)]; rfl
theorem all_take_no {p : UInt8 → Bool} {s : ByteArray} {k : Nat} (h : k < s.size) (hp : p s[k] = false) : s.data.toList.all p = false := by
  rw [List.all_eq_false]
  exact ⟨s[k], Array.getElem_mem_toList _, by rw [hp]; simp⟩
theorem all_take_yes {p : UInt8 → Bool} {s : ByteArray} {k : Nat} (h : k < s.size) (ha : (s.data.toList.take k).all p = true) (hp : p s[k] = true) : (s.data.toList.take (k + 1)).all p = true := by
  rw [take_at s k h, List.all_append, ha]; simp [hp]
theorem prtc_no {c : UInt8} (h : (c.toNat : Int) < 33 ∨ 126 < (c.toNat : Int)) : prtc c = false := by unfold prtc; exact decide_eq_false (by omega)
theorem prtc_yes {c : UInt8} (h : 33 ≤ (c.toNat : Int)) (h2 : (c.toNat : Int) ≤ 126) : prtc c = true := by unfold prtc; exact decide_eq_true (by omega)

end Go.Proofs.YtgfjmmdkdhodiaaGreatDoor
namespace Go.Proofs.YtgfjmmdkdhodiaaGreatDoor
open Go Go.RowKit
set_option linter.unusedVariables false

theorem nmc_cases (c : UInt8) : (nmc c = true ∧ (cls c : Int) ≤ 3) ∨ (nmc c = true ∧ ¬ (cls c : Int) ≤ 3 ∧ c.toNat = 45) ∨ (nmc c = true ∧ ¬ (cls c : Int) ≤ 3 ∧ c.toNat = 95) ∨ (nmc c = true ∧ ¬ (cls c : Int) ≤ 3 ∧ c.toNat = 46) ∨
    (nmc c = false ∧ ¬ (cls c : Int) ≤ 3 ∧ c.toNat ≠ 45 ∧ c.toNat ≠ 95 ∧ c.toNat ≠ 46) := by
  have e (n : UInt8) : (c == n) = decide (c.toNat = n.toNat) := by
    rw [Bool.eq_iff_iff, beq_iff_eq, decide_eq_true_eq, UInt8.toNat_inj]
  unfold nmc
  rw [e 45, e 95, e 46]
  by_cases h1 : (cls c : Int) ≤ 3
  · exact .inl ⟨by simp; omega, h1⟩
  · have h1' : decide (cls c ≤ 3) = false := decide_eq_false (by omega)
    rw [h1']
    by_cases h2 : c.toNat = 45
    · exact .inr (.inl ⟨by simp [h2], h1, h2⟩)
    · by_cases h3 : c.toNat = 95
      · exact .inr (.inr (.inl ⟨by simp [h3], h1, h3⟩))
      · by_cases h4 : c.toNat = 46
        · exact .inr (.inr (.inr (.inl ⟨by simp [h4], h1, h4⟩)))
        · exact .inr (.inr (.inr (.inr ⟨by simp [h2, h3, h4], h1, h2, h3, h4⟩)))
set_option maxRecDepth 100000 in
theorem validName_at (s : ByteArray) (hs : s.size ≤ 4294967280) (w : World) :
    Calls Tryz.prog 30 #[.string s] w fun e w' => e = .returned (.bool (nmB' s.data.toList)) ∧ w = w' := by
  have HL := Lib.hid (between_at s.size 1 32)
  have HQ := Lib.hid (show nmB' s.data.toList = (s.data.toList.all nmc && inB s.size 1 32) by unfold nmB'; rw [size_list])
  go_enter Tryz.func30, Tryz.ntmps30
  go_wp2_with fail
  go_loop [3, 4, 7] (fun _ _ i => ∃ k : Nat, k ≤ s.size ∧ i = .int .i64 k ∧ (s.data.toList.take k).all nmc = true) (fun _ _ i => s.size - (intOf i).toNat)
  case atStart => exact ⟨0, Nat.zero_le _, rfl, by simp⟩
  case round =>
    obtain ⟨k, hk, rfl, ha⟩ := hrel
    have HA := Lib.hid ha; clear ha
    by_cases hlt : k < s.size
    · have hy : nmc s[k] = true → (s.data.toList.take (k + 1)).all nmc = true := all_take_yes hlt HA.out
      have hn : nmc s[k] = false → s.data.toList.all nmc = false := all_take_no hlt
      have HY := Lib.hid hy; have HN := Lib.hid hn
      have HC := Lib.hid (Class_at s[k])
      clear hy hn
      have hcase := nmc_cases s[k]
      rcases hcase with ⟨hq, h1⟩ | ⟨hq, h1, h2⟩ | ⟨hq, h1, h2⟩ | ⟨hq, h1, h2⟩ | ⟨hq, h1, h2, h3, h4⟩
      · have HY2 := Lib.hid (HY.out hq)
        clear hq HY HN
        go_wp2_with fail
        refine (HC.out _).mono ?_
        rintro _ w1 ⟨rfl, rfl⟩
        go_wp2_with fail
        go_round
        case rel => exact ⟨k + 1, by omega, by go_num, HY2.out⟩
        case measure => simp [intOf]; omega
      · have HY2 := Lib.hid (HY.out hq)
        have q2 : ((s[k].toNat : Int) != 45) = false := by rw [bne_eq_false_iff_eq]; omega
        clear hq HY HN h2
        go_wp2_with fail
        refine (HC.out _).mono ?_
        rintro _ w1 ⟨rfl, rfl⟩
        go_wp2_with fail
        go_round
        case rel => exact ⟨k + 1, by omega, by go_num, HY2.out⟩
        case measure => simp [intOf]; omega
      · have HY2 := Lib.hid (HY.out hq)
        have q2 : ((s[k].toNat : Int) != 45) = true := by rw [bne_iff_ne]; omega
        have q3 : ((s[k].toNat : Int) != 95) = false := by rw [bne_eq_false_iff_eq]; omega
        clear hq HY HN h2
        go_wp2_with fail
        refine (HC.out _).mono ?_
        rintro _ w1 ⟨rfl, rfl⟩
        go_wp2_with fail
        go_round
        case rel => exact ⟨k + 1, by omega, by go_num, HY2.out⟩
        case measure => simp [intOf]; omega
      · have HY2 := Lib.hid (HY.out hq)
        have q2 : ((s[k].toNat : Int) != 45) = true := by rw [bne_iff_ne]; omega
        have q3 : ((s[k].toNat : Int) != 95) = true := by rw [bne_iff_ne]; omega
        have q4 : ((s[k].toNat : Int) != 46) = false := by rw [bne_eq_false_iff_eq]; omega
        clear hq HY HN h2
        go_wp2_with fail
        refine (HC.out _).mono ?_
        rintro _ w1 ⟨rfl, rfl⟩
        go_wp2_with fail
        go_round
        case rel => exact ⟨k + 1, by omega, by go_num, HY2.out⟩
        case measure => simp [intOf]; omega
      · have HN2 := Lib.hid (show nmB' s.data.toList = false by rw [HQ.out, HN.out hq]; rfl)
        have q2 : ((s[k].toNat : Int) != 45) = true := by rw [bne_iff_ne]; omega
        have q3 : ((s[k].toNat : Int) != 95) = true := by rw [bne_iff_ne]; omega
        have q4 : ((s[k].toNat : Int) != 46) = true := by rw [bne_iff_ne]; omega
        clear hq HY HN h2 h3 h4
        go_wp2_with fail
        refine (HC.out _).mono ?_
        rintro _ w1 ⟨rfl, rfl⟩
        go_wp2_with fail
        go_ret
        exact ⟨by rw [HN2.out]; rfl, rfl⟩
    · have HF := Lib.hid (show nmB' s.data.toList = inB s.size 1 32 by
        have := HA.out
        rw [List.take_of_length_le (by rw [size_list]; omega)] at this
        rw [HQ.out, this]; rfl)
      go_wp2_with fail
      refine (HL.out _).mono ?_
      rintro _ w1 ⟨rfl, rfl⟩
      go_wp2_with fail
      go_ret
      exact ⟨by rw [HF.out]; rfl, rfl⟩
end Go.Proofs.YtgfjmmdkdhodiaaGreatDoor
namespace Go.Proofs.YtgfjmmdkdhodiaaGreatDoor
open Go Go.RowKit
set_option linter.unusedVariables false

/-- A policy as a value. -/
def Pol.v (p : Pol) : Value := .agg #[.string p.nm, .int .i64 p.len, .int .i64 p.cla, .int .i64 p.dis, .int .i64 p.his, .int .i64 p.mina, .int .i64 p.maxa, .int .i64 p.fai, .int .i64 p.win, .int .i64 p.loc]
def Pol.cs (p : Pol) : Array Value := #[.string p.nm, .int .i64 p.len, .int .i64 p.cla, .int .i64 p.dis, .int .i64 p.his, .int .i64 p.mina, .int .i64 p.maxa, .int .i64 p.fai, .int .i64 p.win, .int .i64 p.loc]
/-- A policy in memory. -/
def PL (w : World) (g : Nat) (p : Pol) : Prop := w.heap[g]? = some (.cells p.cs 23 (0, 0))
structure PL.C (w : World) (g : Nat) (p : Pol) : Prop where
  c0 : w.cell? ⟨g, 0, none⟩ = some (.string p.nm)
  c1 : w.cell? ⟨g, 1, none⟩ = some (.int .i64 p.len)
  c2 : w.cell? ⟨g, 2, none⟩ = some (.int .i64 p.cla)
  c3 : w.cell? ⟨g, 3, none⟩ = some (.int .i64 p.dis)
  c4 : w.cell? ⟨g, 4, none⟩ = some (.int .i64 p.his)
  c5 : w.cell? ⟨g, 5, none⟩ = some (.int .i64 p.mina)
  c6 : w.cell? ⟨g, 6, none⟩ = some (.int .i64 p.maxa)
  c7 : w.cell? ⟨g, 7, none⟩ = some (.int .i64 p.fai)
  c8 : w.cell? ⟨g, 8, none⟩ = some (.int .i64 p.win)
  c9 : w.cell? ⟨g, 9, none⟩ = some (.int .i64 p.loc)
theorem PL.cells {w : World} {g : Nat} {p : Pol} (h : PL w g p) : PL.C w g p := by
  constructor <;> first
    | (rw [cell_of_row _ _ 0 _ _ (0, 0) h]; rfl) | (rw [cell_of_row _ _ 1 _ _ (0, 0) h]; rfl) | (rw [cell_of_row _ _ 2 _ _ (0, 0) h]; rfl) | (rw [cell_of_row _ _ 3 _ _ (0, 0) h]; rfl) | (rw [cell_of_row _ _ 4 _ _ (0, 0) h]; rfl)
    | (rw [cell_of_row _ _ 5 _ _ (0, 0) h]; rfl) | (rw [cell_of_row _ _ 6 _ _ (0, 0) h]; rfl) | (rw [cell_of_row _ _ 7 _ _ (0, 0) h]; rfl) | (rw [cell_of_row _ _ 8 _ _ (0, 0) h]; rfl) | (rw [cell_of_row _ _ 9 _ _ (0, 0) h]; rfl)
theorem PL.ext {w w' : World} {g : Nat} {p : Pol} (h : PL w g p) (hx : Ext w w') : PL w' g p := hx.heap h
end Go.Proofs.YtgfjmmdkdhodiaaGreatDoor
