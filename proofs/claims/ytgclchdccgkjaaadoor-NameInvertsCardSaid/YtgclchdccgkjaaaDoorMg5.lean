/- Texts laid together (wip/tools/automerge.py): NmPure, LtPure, Lt1. -/
import Derived.Lib.Hide
import Derived.Test.YtgclchdccgkjaaaDoorProg
import Derived.Test.YtgclchdccgkjaaaDoorMem
import Derived.WalkLawsBesides
import Derived.WalkSpells
import Derived.Deep.LoopGhost
import Derived.StillTailTactics
import Derived.BigQuiet
namespace Go.Proofs.YtgclchdccgkjaaaDoor
set_option linter.unusedVariables false

/-- A byte of a realm's label. -/
def okc (c : UInt8) : Bool := decide (65 ≤ c.toNat ∧ c.toNat ≤ 90 ∨ 48 ≤ c.toNat ∧ c.toNat ≤ 57 ∨ c.toNat = 45)
/-- Labels, of which the first has n bytes already. -/
def labB : Nat → List UInt8 → Bool
  | n, [] => decide (0 < n)
  | n, c :: r => if c.toNat = 46 then decide (0 < n) && labB 0 r else okc c && labB (n + 1) r
def sizedB (l : List UInt8) : Bool := decide (1 ≤ l.length ∧ l.length ≤ 32)
def realmB (l : List UInt8) : Bool := sizedB l && labB 0 l
def prtc (c : UInt8) : Bool := decide (33 ≤ c.toNat ∧ c.toNat ≤ 126)
def partB (l : List UInt8) : Bool := sizedB l && l.all prtc
def nameB (parts : List (List UInt8)) (realm : List UInt8) : Bool := decide (1 ≤ parts.length ∧ parts.length ≤ 4) && realmB realm && parts.all partB
/-- A label. -/
def labelB (l : List UInt8) : Bool := !l.isEmpty && l.all okc
/-- What lies between the dots. -/
def spl : List UInt8 → List UInt8 → List (List UInt8)
  | acc, [] => [acc]
  | acc, c :: r => if c.toNat = 46 then acc :: spl [] r else spl (acc ++ [c]) r
theorem spl_labels : ∀ (s acc : List UInt8), (acc.all okc && labB acc.length s) = (spl acc s).all labelB
  | [], acc => by
    simp only [labB, spl, List.all_cons, List.all_nil, Bool.and_true, labelB]
    cases acc <;> simp
  | c :: r, acc => by
    unfold labB spl
    split
    · have h := spl_labels r []
      simp only [List.all_nil, Bool.true_and, List.length_nil] at h
      rw [List.all_cons, ← h, labelB]
      cases acc <;> simp [Bool.and_assoc]
    · have h := spl_labels r (acc ++ [c])
      rw [← h, List.length_append, List.length_singleton, List.all_append, List.all_cons, List.all_nil, Bool.and_true, Bool.and_assoc]
theorem realm_labels (s : List UInt8) : realmB s = (sizedB s && (spl [] s).all labelB) := by
  unfold realmB
  rw [← spl_labels s []]
  simp
theorem spl_acc : ∀ (s acc : List UInt8), (∀ c ∈ s, c.toNat ≠ 46) → spl acc s = [acc ++ s]
  | [], acc, _ => by simp [spl]
  | c :: r, acc, h => by
    rw [spl, if_neg (h c (by simp)), spl_acc r _ (fun d hd => h d (by simp [hd]))]
    simp
theorem spl_hit : ∀ (s acc r : List UInt8), (∀ c ∈ s, c.toNat ≠ 46) → spl acc (s ++ 46 :: r) = (acc ++ s) :: spl [] r
  | [], acc, r, _ => by rw [List.nil_append, spl, if_pos (by decide)]; simp
  | c :: s, acc, r, h => by
    rw [List.cons_append, spl, if_neg (h c (by simp)), spl_hit s _ r (fun d hd => h d (by simp [hd]))]
    simp

/-! The string of a name. -/
def spc (c : UInt8) : Bool := decide (c.toNat = 47 ∨ c.toNat = 64 ∨ c.toNat = 92)
def esc : List UInt8 → List UInt8
  | [] => []
  | c :: r => if spc c then 92 :: c :: esc r else c :: esc r
theorem esc_append (a b : List UInt8) : esc (a ++ b) = esc a ++ esc b := by
  induction a with
  | nil => rfl
  | cons c r ih =>
    rw [List.cons_append, esc, esc, ih]
    split <;> simp
def partsT : List (List UInt8) → List UInt8
  | [] => []
  | [p] => esc p
  | p :: q :: r => esc p ++ 47 :: partsT (q :: r)
theorem partsT_snoc : ∀ (ls : List (List UInt8)) (p : List UInt8), partsT (ls ++ [p]) = if ls = [] then esc p else partsT ls ++ 47 :: esc p
  | [], p => by simp [partsT]
  | [a], p => by simp [partsT]
  | a :: b :: r, p => by
    have h := partsT_snoc (b :: r) p
    rw [if_neg (by simp)] at h
    rw [if_neg (by simp)]
    show esc a ++ 47 :: partsT (b :: r ++ [p]) = _
    rw [h, partsT]
    simp
def textN (parts : List (List UInt8)) (realm : List UInt8) : List UInt8 := partsT parts ++ 64 :: realm
/-- What the program's Parse reads: the components so far, the bytes of the one under way, what is left. -/
def scan (parts : List (List UInt8)) (part : List UInt8) : List UInt8 → Option (List (List UInt8) × List UInt8)
  | [] => none
  | c :: r =>
    if c.toNat = 92 then
      match r with
      | [] => none
      | d :: r' => if spc d then scan parts (part ++ [d]) r' else none
    else if c.toNat = 47 then scan (parts ++ [part]) [] r
    else if c.toNat = 64 then some (parts ++ [part], r)
    else scan parts (part ++ [c]) r
/-- What the reference's reads: an escape may stand before any byte. -/
def scanR (parts : List (List UInt8)) (part : List UInt8) : List UInt8 → Option (List (List UInt8) × List UInt8)
  | [] => none
  | c :: r =>
    if c.toNat = 64 then some (parts ++ [part], r)
    else if c.toNat = 47 then scanR (parts ++ [part]) [] r
    else if c.toNat = 92 then
      match r with
      | [] => none
      | d :: r' => scanR parts (part ++ [d]) r'
    else scanR parts (part ++ [c]) r
theorem scan_cons (parts : List (List UInt8)) (part : List UInt8) (c : UInt8) (r : List UInt8) : scan parts part (c :: r) = (if c.toNat = 92 then
      match r with
      | [] => none
      | d :: r' => if spc d then scan parts (part ++ [d]) r' else none
    else if c.toNat = 47 then scan (parts ++ [part]) [] r
    else if c.toNat = 64 then some (parts ++ [part], r)
    else scan parts (part ++ [c]) r) := by rw [scan.eq_def]
theorem scanR_cons (parts : List (List UInt8)) (part : List UInt8) (c : UInt8) (r : List UInt8) : scanR parts part (c :: r) = (if c.toNat = 64 then some (parts ++ [part], r)
    else if c.toNat = 47 then scanR (parts ++ [part]) [] r
    else if c.toNat = 92 then
      match r with
      | [] => none
      | d :: r' => scanR parts (part ++ [d]) r'
    else scanR parts (part ++ [c]) r) := by rw [scanR.eq_def]
theorem scan_bs {parts : List (List UInt8)} {part : List UInt8} {c d : UInt8} {r : List UInt8} (h : c.toNat = 92) : scan parts part (c :: d :: r) = if spc d then scan parts (part ++ [d]) r else none := by rw [scan_cons, if_pos h]
theorem scan_end {parts : List (List UInt8)} {part : List UInt8} {c : UInt8} (h : c.toNat = 92) : scan parts part [c] = none := by rw [scan_cons, if_pos h]
theorem scan_sl {parts : List (List UInt8)} {part : List UInt8} {c : UInt8} {r : List UInt8} (h : c.toNat = 47) : scan parts part (c :: r) = scan (parts ++ [part]) [] r := by rw [scan_cons, if_neg (by omega), if_pos h]
theorem scan_at {parts : List (List UInt8)} {part : List UInt8} {c : UInt8} {r : List UInt8} (h : c.toNat = 64) : scan parts part (c :: r) = some (parts ++ [part], r) := by rw [scan_cons, if_neg (by omega), if_neg (by omega), if_pos h]
theorem scan_ch {parts : List (List UInt8)} {part : List UInt8} {c : UInt8} {r : List UInt8} (h1 : c.toNat ≠ 92) (h2 : c.toNat ≠ 47) (h3 : c.toNat ≠ 64) : scan parts part (c :: r) = scan parts (part ++ [c]) r := by rw [scan_cons, if_neg h1, if_neg h2, if_neg h3]
theorem scanR_bs {parts : List (List UInt8)} {part : List UInt8} {c d : UInt8} {r : List UInt8} (h : c.toNat = 92) : scanR parts part (c :: d :: r) = scanR parts (part ++ [d]) r := by rw [scanR_cons, if_neg (by omega), if_neg (by omega), if_pos h]
theorem scanR_end {parts : List (List UInt8)} {part : List UInt8} {c : UInt8} (h : c.toNat = 92) : scanR parts part [c] = none := by rw [scanR_cons, if_neg (by omega), if_neg (by omega), if_pos h]
theorem scanR_sl {parts : List (List UInt8)} {part : List UInt8} {c : UInt8} {r : List UInt8} (h : c.toNat = 47) : scanR parts part (c :: r) = scanR (parts ++ [part]) [] r := by rw [scanR_cons, if_neg (by omega), if_pos h]
theorem scanR_at {parts : List (List UInt8)} {part : List UInt8} {c : UInt8} {r : List UInt8} (h : c.toNat = 64) : scanR parts part (c :: r) = some (parts ++ [part], r) := by rw [scanR_cons, if_pos h]
theorem scanR_ch {parts : List (List UInt8)} {part : List UInt8} {c : UInt8} {r : List UInt8} (h1 : c.toNat ≠ 92) (h2 : c.toNat ≠ 47) (h3 : c.toNat ≠ 64) : scanR parts part (c :: r) = scanR parts (part ++ [c]) r := by rw [scanR_cons, if_neg h3, if_neg h2, if_neg h1]
theorem spc_no {c : UInt8} (h : ¬ spc c = true) : c.toNat ≠ 47 ∧ c.toNat ≠ 64 ∧ c.toNat ≠ 92 := by
  unfold spc at h
  simp only [decide_eq_true_eq] at h
  omega
theorem scan_esc : ∀ (q parts : List (UInt8)) (ps : List (List UInt8)) (rest : List UInt8), scan ps parts (esc q ++ rest) = scan ps (parts ++ q) rest
  | [], part, ps, rest => by simp [esc]
  | c :: r, part, ps, rest => by
    rw [esc]
    split
    · rename_i h
      rw [List.cons_append, List.cons_append, scan_bs (by decide), if_pos h, scan_esc r]
      simp
    · rename_i h
      have hs := spc_no h
      rw [List.cons_append, scan_ch hs.2.2 hs.1 hs.2.1, scan_esc r]
      simp
theorem scanR_esc : ∀ (q parts : List (UInt8)) (ps : List (List UInt8)) (rest : List UInt8), scanR ps parts (esc q ++ rest) = scanR ps (parts ++ q) rest
  | [], part, ps, rest => by simp [esc]
  | c :: r, part, ps, rest => by
    rw [esc]
    split
    · rename_i h
      rw [List.cons_append, List.cons_append, scanR_bs (by decide), scanR_esc r]
      simp
    · rename_i h
      have hs := spc_no h
      rw [List.cons_append, scanR_ch hs.2.2 hs.1 hs.2.1, scanR_esc r]
      simp
theorem scan_parts : ∀ (ls ps : List (List UInt8)) (realm : List UInt8), ls ≠ [] → scan ps [] (partsT ls ++ 64 :: realm) = some (ps ++ ls, realm)
  | [], _, _, h => absurd rfl h
  | [p], ps, realm, _ => by
    rw [partsT, scan_esc, List.nil_append, scan_at (by decide)]
  | p :: q :: r, ps, realm, _ => by
    rw [partsT, List.append_assoc, scan_esc, List.nil_append, List.cons_append, scan_sl (by decide), scan_parts (q :: r) _ _ (by simp)]
    simp
theorem scanR_parts : ∀ (ls ps : List (List UInt8)) (realm : List UInt8), ls ≠ [] → scanR ps [] (partsT ls ++ 64 :: realm) = some (ps ++ ls, realm)
  | [], _, _, h => absurd rfl h
  | [p], ps, realm, _ => by
    rw [partsT, scanR_esc, List.nil_append, scanR_at (by decide)]
  | p :: q :: r, ps, realm, _ => by
    rw [partsT, List.append_assoc, scanR_esc, List.nil_append, List.cons_append, scanR_sl (by decide), scanR_parts (q :: r) _ _ (by simp)]
    simp
theorem u8_of {c : UInt8} {n : Nat} (hn : n < 256) (h : c.toNat = n) : c = UInt8.ofNat n := by
  apply UInt8.toNat_inj.1
  rw [h, UInt8.toNat_ofNat']
  omega
theorem esc_one {c : UInt8} (h : ¬ spc c = true) : esc [c] = [c] := by rw [esc, if_neg h]; rfl
theorem esc_spc {c : UInt8} (h : spc c = true) : esc [c] = [92, c] := by rw [esc, if_pos h]; rfl
theorem partsT_open (parts : List (List UInt8)) (part q : List UInt8) : partsT (parts ++ [part ++ q]) = partsT (parts ++ [part]) ++ esc q := by
  rw [partsT_snoc, partsT_snoc, esc_append]
  split <;> simp
theorem scan_text : ∀ (n : Nat) (l : List UInt8) (parts : List (List UInt8)) (part : List UInt8) (p : List (List UInt8)) (r : List UInt8), l.length ≤ n → scan parts part l = some (p, r) → partsT (parts ++ [part]) ++ l = textN p r
  | _, [], parts, part, p, r, _, h => by simp [scan] at h
  | 0, c :: l, _, _, _, _, hl, _ => by simp at hl
  | n + 1, c :: l, parts, part, p, r, hl, h => by
    have hl' : l.length ≤ n := by simpa using hl
    unfold scan at h
    split at h
    · rename_i h92
      cases l with
      | nil => cases h
      | cons d l' =>
        simp only at h
        split at h
        · rename_i hd
          have hl2 : l'.length ≤ n := by simp at hl'; omega
          have ih := scan_text n l' parts (part ++ [d]) p r hl2 h
          rw [partsT_open, esc_spc hd] at ih
          rw [← ih, u8_of (by omega) h92]
          simp
        · cases h
    · split at h
      · rename_i h92 h47
        have ih := scan_text n l (parts ++ [part]) [] p r hl' h
        rw [partsT_snoc, if_neg (by simp), esc] at ih
        rw [← ih, u8_of (by omega) h47]
        simp
      · split at h
        · rename_i h92 h47 h64
          simp only [Option.some.injEq, Prod.mk.injEq] at h
          obtain ⟨rfl, rfl⟩ := h
          rw [u8_of (by omega) h64]; rfl
        · rename_i h92 h47 h64
          have hs : ¬ spc c = true := by unfold spc; simp only [decide_eq_true_eq]; omega
          have ih := scan_text n l parts (part ++ [c]) p r hl' h
          rw [partsT_open, esc_one hs] at ih
          rw [← ih]
          simp
theorem nameB_ne {parts : List (List UInt8)} {realm : List UInt8} (h : nameB parts realm = true) : parts ≠ [] := by
  rintro rfl
  simp [nameB] at h
theorem textN_inj {p q : List (List UInt8)} {r t : List UInt8} (hp : p ≠ []) (hq : q ≠ []) (h : textN p r = textN q t) : p = q ∧ r = t := by
  have a := scan_parts p [] r hp
  have b := scan_parts q [] t hq
  unfold textN at h
  rw [h, b] at a
  simp only [List.nil_append, Option.some.injEq, Prod.mk.injEq] at a
  exact ⟨a.1.symm, a.2.symm⟩
end Go.Proofs.YtgclchdccgkjaaaDoor
namespace Go.Proofs.YtgclchdccgkjaaaDoor

/-- The greatest time. -/
def MT : Int := 1099511627776
def momB (v : Int) : Bool := decide (0 ≤ v ∧ v ≤ 1099511627776)
def skwB (v : Int) : Bool := decide (0 ≤ v ∧ v ≤ 86400)
def limB (l r : Int) : Bool := decide (1 ≤ l ∧ l ≤ 2147483648 ∧ 0 ≤ r ∧ r ≤ 2147483648)
def wshB (f t r : Int) : Bool := decide ((0 ≤ f ∧ f ≤ 1099511627776) ∧ (0 ≤ t ∧ t ≤ 1099511627776) ∧ 0 ≤ r ∧ r ≤ 1099511627776)
def validB (a s e r : Int) : Bool := decide (0 ≤ a ∧ a ≤ s ∧ s < e ∧ e ≤ 1099511627776 ∧ (r = 0 ∨ e ≤ r ∧ r ≤ 1099511627776))
/-- A range. -/
def wiB (v a b : Int) : Bool := decide (a ≤ v ∧ v ≤ b)
def leftF (a s e r now : Int) : Int := if validB a s e r = true ∧ momB now = true then max 0 (e - now) else 0
def nearB (a b skew : Int) : Bool := momB a && momB b && skwB skew && wiB (a - b) (-skew) skew
def usableF (a s e r now skew : Int) : Int := if validB a s e r = true ∧ momB now = true ∧ skwB skew = true then (if now < s - skew then 140 else if e + skew < now then 141 else 0) else 2
def renewableB (a s e r now skew : Int) : Bool := decide (usableF a s e r now skew = 0 ∧ r ≠ 0 ∧ now ≤ r + skew)
/-- The times that the rules give: auth, start, end, renewed until, error. -/
def freshF (auth start till wish life renew last longest : Int) : Int × Int × Int × Int × Int :=
  let e1 := min (min (start + life) 1099511627776) last
  let e := if till = 0 then e1 else min e1 till
  if e ≤ start then (0, 0, 0, 0, 143) else
    let r := if wish = 0 ∨ renew = 0 ∨ longest = 0 then 0 else (let q := min (min (min wish (start + renew)) 1099511627776) longest; if q < e then 0 else q)
    (auth, start, e, r, 0)
def initF (f t r life renew now skew : Int) : Int × Int × Int × Int × Int :=
  if wshB f t r = true ∧ limB life renew = true ∧ momB now = true ∧ skwB skew = true then
    freshF now (if now + skew < f then f else now) t r life renew 1099511627776 1099511627776
  else (0, 0, 0, 0, 2)
def deriveF (ba bs be br f t r life renew now skew : Int) : Int × Int × Int × Int × Int :=
  if wshB f t r = true ∧ limB life renew = true then
    if usableF ba bs be br now skew = 0 then freshF ba (if now + skew < f then f else max now ba) t r life renew be br
    else (0, 0, 0, 0, usableF ba bs be br now skew)
  else (0, 0, 0, 0, 2)
def renewF (a s e r now skew : Int) : Int × Int × Int × Int × Int :=
  if usableF a s e r now skew = 0 then
    if renewableB a s e r now skew = true then
      let st := max now a
      let en := min (st + e - s) r
      if en ≤ st then (0, 0, 0, 0, 143) else (a, st, en, r, 0)
    else (0, 0, 0, 0, 142)
  else (0, 0, 0, 0, usableF a s e r now skew)
theorem momB_bd {v : Int} (h : momB v = true) : 0 ≤ v ∧ v ≤ 1099511627776 := by simpa [momB] using h
theorem skwB_bd {v : Int} (h : skwB v = true) : 0 ≤ v ∧ v ≤ 86400 := by simpa [skwB] using h
theorem limB_bd {l r : Int} (h : limB l r = true) : 1 ≤ l ∧ l ≤ 2147483648 ∧ 0 ≤ r ∧ r ≤ 2147483648 := by simpa [limB] using h
theorem wshB_bd {f t r : Int} (h : wshB f t r = true) : (0 ≤ f ∧ f ≤ 1099511627776) ∧ (0 ≤ t ∧ t ≤ 1099511627776) ∧ 0 ≤ r ∧ r ≤ 1099511627776 := by simpa [wshB] using h
theorem validB_bd {a s e r : Int} (h : validB a s e r = true) : 0 ≤ a ∧ a ≤ s ∧ s < e ∧ e ≤ 1099511627776 ∧ 0 ≤ r ∧ r ≤ 1099511627776 ∧ (r = 0 ∨ e ≤ r) := by
  unfold validB at h
  simp only [decide_eq_true_eq] at h
  omega
theorem usableF_cases (a s e r now skew : Int) : usableF a s e r now skew = 2 ∨ (usableF a s e r now skew = 140 ∨ usableF a s e r now skew = 141 ∨ usableF a s e r now skew = 0) ∧ (validB a s e r = true ∧ momB now = true ∧ skwB skew = true) := by
  unfold usableF
  by_cases h : validB a s e r = true ∧ momB now = true ∧ skwB skew = true
  · rw [if_pos h]
    right
    refine ⟨?_, h⟩
    split
    · exact .inl rfl
    · split
      · exact .inr (.inl rfl)
      · exact .inr (.inr rfl)
  · rw [if_neg h]; exact .inl rfl
end Go.Proofs.YtgclchdccgkjaaaDoor
namespace Go.Proofs.YtgclchdccgkjaaaDoor
open Go Go.RowKit

/-- Reads and quiet calls before a tail: the draw under its own name. -/
theorem still_tail {P : Program} {id : Nat} {Q : Exit → Act → World → Prop} {a : Act} {w : World} {l : List Oper} (n : Nat) (hm : P.follows .mixedOrders = true) (hB : Region.lexTailB .any l.toArray n = true)
    (h : wpStill P l.toArray w.drew (fun a' => wpList P l.toArray Q (l.drop n) a' w.drew) (l.take n) a) : (Code.region id l.toArray true).wp P Q a w := wp_region_still_tail n hm hB h

/-- Bools as values. -/
def blv (bs : List Bool) : List Value := bs.map Value.bool
theorem blv_length (bs : List Bool) : (blv bs).length = bs.length := by simp [blv]
theorem blv_get (bs : List Bool) (j : Nat) (h : j < bs.length) : (blv bs)[j]? = some (.bool bs[j]) := by simp [blv, h]

set_option maxRecDepth 100000 in
theorem index_bools (A : Option Addr) (c : Nat) (bs : List Bool) (w : World) (h : RS w (.slice A bs.length c) (blv bs)) :
    Calls Tryd.prog 76 #[.slice A bs.length c, .bool false] w fun e w' => ∃ r : Int, e = .returned (.int .i64 r) ∧ (decide (0 ≤ r) = !(bs.all id)) ∧ w = w' := by
  obtain ⟨A', c', he, h1, h2, h3⟩ := h
  rw [blv_length] at h1 h3 he
  injection he with e1 _ e3
  subst e1; subst e3
  unfold maxLen at h2
  have H3 := Lib.hid h3; clear h3
  go_enter Tryd.func76, Tryd.ntmps76
  go_wp2
  go_loop [5, 8] (fun _ i => ∃ k : Nat, k ≤ bs.length ∧ i = .int .i64 k ∧ ∀ j (hj : j < bs.length), j < k → bs[j] = true) (fun _ i => bs.length - (intOf i).toNat)
  case atStart => exact ⟨0, Nat.zero_le _, rfl, fun j _ hj => absurd hj (Nat.not_lt_zero _)⟩
  case round =>
    obtain ⟨k, hk, rfl, hall⟩ := hrel
    have HA := Lib.hid hall; clear hall
    by_cases hlt : k < bs.length
    · obtain ⟨ad, rfl, hb, hc⟩ := H3.out (by omega)
      have hck := hc k _ (blv_get bs k hlt)
      have HB := Lib.hid hb; clear hb hc
      cases hbk : bs[k]
      · rw [hbk] at hck
        have HK := Lib.hid hbk; clear hbk
        go_wp2
        go_ret
        refine ⟨k, rfl, ?_, rfl⟩
        have h0 : bs.all id = false := by
          rw [List.all_eq_false]
          exact ⟨bs[k], List.getElem_mem hlt, by simp [HK.out]⟩
        rw [h0]
        simp
      · rw [hbk] at hck
        have HK := Lib.hid hbk; clear hbk
        go_wp2
        go_round
        case rel => exact ⟨k + 1, by omega, by go_num, fun j hj hj2 => by
          rcases Nat.lt_or_ge j k with h5 | h5
          · exact HA.out j hj h5
          · obtain rfl : j = k := by omega
            exact HK.out⟩
        case measure => simp [intOf]; omega
    · obtain rfl : k = bs.length := by omega
      go_wp2
      go_ret
      refine ⟨-1, rfl, ?_, rfl⟩
      have h0 : bs.all id = true := by
        rw [List.all_eq_true]
        intro b hb
        obtain ⟨j, hj, rfl⟩ := List.getElem_of_mem hb
        exact HA.out j hj hj
      rw [h0]
      decide

set_option maxRecDepth 100000 in
theorem contains_bools (A : Option Addr) (c : Nat) (bs : List Bool) (w : World) (h : RS w (.slice A bs.length c) (blv bs)) :
    Calls Tryd.prog 57 #[.slice A bs.length c, .bool false] w fun e w' => e = .returned (.bool (!(bs.all id))) ∧ w = w' := by
  obtain ⟨v, hv⟩ : ∃ v, v = bs.all id := ⟨_, rfl⟩
  have hidx := index_bools A c bs w h
  rw [← hv] at hidx ⊢
  have HI := Lib.hid hidx; clear hidx hv h
  go_enter Tryd.func57, Tryd.ntmps57
  go_wp2_with fail
  refine HI.out.mono ?_
  rintro e w' ⟨r, rfl, hr, rfl⟩
  go_wp2_with fail
  go_ret
  exact ⟨rfl, rfl⟩

end Go.Proofs.YtgclchdccgkjaaaDoor
