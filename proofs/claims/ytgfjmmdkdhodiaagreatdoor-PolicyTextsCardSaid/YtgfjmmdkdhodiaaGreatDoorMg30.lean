/- Texts laid together (wip/tools/automerge.py): PoR9, Det. -/
import Derived.Test.YtgfjmmdkdhodiaaGreatDoorMg13
import Derived.Test.YtgfjmmdkdhodiaaGreatDoorMg4
import Derived.Test.YtgfjmmdkdhodiaaGreatDoorMg0
import Derived.Laws.DeepStrings4
namespace Go.Proofs.YtgfjmmdkdhodiaaGreatDoor
open Go Go.RowKit
set_option linter.unusedVariables false

/-- Digits are read as long as the number is not too large: the number and what is left. -/
def numL : Int → List UInt8 → Int × List UInt8
  | n, [] => (n, [])
  | n, c :: r => if 48 ≤ c.toNat ∧ c.toNat ≤ 57 ∧ n < 4398046511104 then numL (10 * n + ((c.toNat : Int) - 48)) r else (n, c :: r)
theorem numL_yes {n : Int} {c : UInt8} {r : List UInt8} (h1 : 48 ≤ c.toNat) (h2 : c.toNat ≤ 57) (h3 : n < 4398046511104) : numL n (c :: r) = numL (10 * n + ((c.toNat : Int) - 48)) r := by rw [numL, if_pos ⟨h1, h2, h3⟩]
theorem numL_no {n : Int} {c : UInt8} {r : List UInt8} (h : ¬ (48 ≤ c.toNat ∧ c.toNat ≤ 57 ∧ n < 4398046511104)) : numL n (c :: r) = (n, c :: r) := by rw [numL, if_neg h]
theorem numL_dec (u : Nat) (h : u ≤ 1099511627776) (r : List UInt8) : numL 0 (Lib.decDigits u ++ r) = numL (u : Int) r := by
  induction u using Nat.strongRecOn generalizing r with
  | _ u ih =>
    by_cases h10 : u < 10
    · rw [dec_lo u h10, List.singleton_append, numL_yes (by rw [u8_dig u h10]; omega) (by rw [u8_dig u h10]; omega) (by omega), u8_dig u h10]
      congr 1; omega
    · rw [dec_hi u h10, List.append_assoc, ih (u / 10) (by omega) (by omega), List.singleton_append, numL_yes (by rw [u8_dig _ (by omega)]; omega) (by rw [u8_dig _ (by omega)]; omega) (by omega), u8_dig _ (by omega)]
      congr 1; omega
theorem numL_itoa {x : Int} (h0 : 0 ≤ x) (h1 : x ≤ 1099511627776) (c : UInt8) (r : List UInt8) (hc : c.toNat < 48 ∨ 57 < c.toNat) : numL 0 (Lib.itoa x ++ c :: r) = (x, c :: r) := by
  rw [itoaP h0, numL_dec _ (by omega), numL_no (by omega)]
  congr 1; omega
theorem numL_end {x : Int} (h0 : 0 ≤ x) (h1 : x ≤ 1099511627776) : numL 0 (Lib.itoa x) = (x, []) := by
  have := numL_dec x.toNat (by omega) []
  rw [List.append_nil] at this
  rw [itoaP h0, this]
  show ((x.toNat : Int), ([] : List UInt8)) = _
  congr 1; omega
theorem dropAt (s : ByteArray) (k : Nat) (h : k < s.size) : s.data.toList.drop k = s[k] :: s.data.toList.drop (k + 1) := by
  rw [List.drop_eq_getElem_cons (by rw [Array.length_toList]; exact h)]; rfl
/-- What number says: the number and where it ends, or that there is none. -/
def NumAt (s : ByteArray) (a : Nat) (e : Ending) : Prop := ∃ (n : Int) (k : Nat), a ≤ k ∧ k ≤ s.size ∧ 0 ≤ n ∧ n ≤ 43980465111050 ∧ numL 0 (s.data.toList.drop a) = (n, s.data.toList.drop k) ∧ ((k = a ∧ e = .returned (.tuple #[.int .i64 0, .int .i64 (-1)])) ∨ (a < k ∧ e = .returned (.tuple #[.int .i64 n, .int .i64 (k : Int)])))
set_option maxRecDepth 100000 in
set_option maxHeartbeats 2000000 in
theorem number_at' (s : ByteArray) (hs : s.size ≤ 1000) (a : Nat) (ha : a ≤ s.size) (w : World) :
    Calls Tryz.prog 52 #[.string s, .int .i64 (a : Int)] w fun e w' => NumAt s a e ∧ w = w' := by
  go_enter Tryz.func52, Tryz.ntmps52
  go_wp2_with fail
  go_loop [6, 7] (fun n i => ∃ (k : Nat) (v : Int), a ≤ k ∧ k ≤ s.size ∧ i = .int .i64 k ∧ n = .int .i64 v ∧ 0 ≤ v ∧ v ≤ 43980465111050 ∧ Hid (numL 0 (s.data.toList.drop a) = numL v (s.data.toList.drop k))) (fun _ i => s.size - (intOf i).toNat)
  case atStart => exact ⟨a, 0, Nat.le_refl _, ha, rfl, rfl, by omega, by omega, Lib.hid rfl⟩
  case round =>
    obtain ⟨k, v, hak, hk, rfl, rfl, hv0, hv1, HN⟩ := hrel
    have hend : ∀ (h : numL v (s.data.toList.drop k) = (v, s.data.toList.drop k)), (k = a → NumAt s a (.returned (.tuple #[.int .i64 0, .int .i64 (-1)]))) ∧ (k ≠ a → NumAt s a (.returned (.tuple #[.int .i64 v, .int .i64 (k : Int)]))) := fun h =>
      ⟨fun he => ⟨v, k, hak, hk, hv0, hv1, HN.out.trans h, .inl ⟨he, rfl⟩⟩, fun he => ⟨v, k, hak, hk, hv0, hv1, HN.out.trans h, .inr ⟨by omega, rfl⟩⟩⟩
    have HE := Lib.hid hend
    clear hend
    by_cases hlt : k < s.size
    · have hd := dropAt s k hlt
      have hcl := s[k].toNat_lt
      rcases (show (s[k].toNat < 48) ∨ (48 ≤ s[k].toNat ∧ 57 < s[k].toNat) ∨ (48 ≤ s[k].toNat ∧ s[k].toNat ≤ 57 ∧ ¬ v < 4398046511104) ∨ (48 ≤ s[k].toNat ∧ s[k].toNat ≤ 57 ∧ v < 4398046511104) by omega) with h | ⟨h, h'⟩ | ⟨h, h', h''⟩ | ⟨h, h', h''⟩
      · have HF := Lib.hid (HE.out (by rw [hd]; exact numL_no (by omega)))
        have q1 : decide ((48 : Int) ≤ (s[k].toNat : Int)) = false := decide_eq_false (by omega)
        clear hd h
        by_cases hka : k = a
        · subst hka
          have q3 : ((k : Int) == (k : Int)) = true := beq_self_eq_true _
          go_wp2_with fail
          go_ret2
          exact ⟨HF.out.1 (by trivial), rfl⟩
        · have q3 : ((k : Int) == (a : Int)) = false := by rw [beq_eq_false_iff_ne]; omega
          go_wp2_with fail
          go_ret2
          exact ⟨HF.out.2 hka, rfl⟩
      · have HF := Lib.hid (HE.out (by rw [hd]; exact numL_no (by omega)))
        have q1 : decide ((48 : Int) ≤ (s[k].toNat : Int)) = true := decide_eq_true (by omega)
        have q2 : decide ((s[k].toNat : Int) ≤ 57) = false := decide_eq_false (by omega)
        clear hd h h'
        by_cases hka : k = a
        · subst hka
          have q3 : ((k : Int) == (k : Int)) = true := beq_self_eq_true _
          go_wp2_with fail
          go_ret2
          exact ⟨HF.out.1 (by trivial), rfl⟩
        · have q3 : ((k : Int) == (a : Int)) = false := by rw [beq_eq_false_iff_ne]; omega
          go_wp2_with fail
          go_ret2
          exact ⟨HF.out.2 hka, rfl⟩
      · have HF := Lib.hid (HE.out (by rw [hd]; exact numL_no (by omega)))
        have q1 : decide ((48 : Int) ≤ (s[k].toNat : Int)) = true := decide_eq_true (by omega)
        have q2 : decide ((s[k].toNat : Int) ≤ 57) = true := decide_eq_true (by omega)
        clear hd h h'
        by_cases hka : k = a
        · subst hka
          have q3 : ((k : Int) == (k : Int)) = true := beq_self_eq_true _
          go_wp2_with fail
          go_ret2
          exact ⟨HF.out.1 (by trivial), rfl⟩
        · have q3 : ((k : Int) == (a : Int)) = false := by rw [beq_eq_false_iff_ne]; omega
          go_wp2_with fail
          go_ret2
          exact ⟨HF.out.2 hka, rfl⟩
      · have HN2 := Lib.hid (show numL 0 (s.data.toList.drop a) = numL (10 * v + ((s[k].toNat : Int) - 48)) (s.data.toList.drop (k + 1)) by rw [HN.out, hd]; exact numL_yes h h' h'')
        have q1 : (48 : Int) ≤ (s[k].toNat : Int) := by omega
        have q2 : (s[k].toNat : Int) ≤ 57 := by omega
        clear hd h h'
        go_wp2_with fail
        go_round
        case rel => exact ⟨k + 1, 10 * v + ((s[k].toNat : Int) - 48), by omega, by omega, by go_num, rfl, by omega, by omega, HN2⟩
        case measure => simp [intOf]; omega
    · obtain rfl : k = s.size := by omega
      have HF := Lib.hid (HE.out (by rw [List.drop_eq_nil_of_le (by rw [size_list]; exact Nat.le_refl _)]; rfl))
      have hnx : ¬ (s.size : Int) < (s.size : Int) := by omega
      clear hlt
      by_cases hka : s.size = a
      · have q3 : ((s.size : Int) == (a : Int)) = true := by rw [beq_iff_eq]; omega
        have HKA := Lib.hid hka
        clear hka
        go_wp2_with fail
        go_ret2
        exact ⟨HF.out.1 HKA.out, rfl⟩
      · have q3 : ((s.size : Int) == (a : Int)) = false := by rw [beq_eq_false_iff_ne]; omega
        go_wp2_with fail
        go_ret2
        exact ⟨HF.out.2 hka, rfl⟩
theorem extr_list (s : ByteArray) (a b : Nat) (h : b ≤ s.size) : (s.extract a b).data.toList = (s.data.toList.drop a).take (b - a) := by
  rw [ByteArray.data_extract, Array.toList_extract, List.extract_eq_take_drop]
theorem pre_take {p l : List UInt8} : p.isPrefixOf l = true ↔ l.take p.length = p := by
  rw [List.isPrefixOf_iff_prefix]
  constructor
  · rintro ⟨t, rfl⟩
    exact List.take_left
  · intro h
    have := List.take_append_drop p.length l
    rw [h] at this
    exact ⟨_, this⟩
/-- What after says: where the part ends, or that it is not there. -/
def AfterAt (s part : ByteArray) (a : Nat) (e : Ending) : Prop := (part.data.toList.isPrefixOf (s.data.toList.drop a) = true ∧ a + part.size ≤ s.size ∧ e = .returned (.int .i64 ((a : Int) + (part.size : Int)))) ∨ (part.data.toList.isPrefixOf (s.data.toList.drop a) = false ∧ e = .returned (.int .i64 (-1)))
set_option maxRecDepth 100000 in
theorem after_at (s part : ByteArray) (hs : s.size ≤ 1000) (hp : part.size ≤ 1000) (a : Nat) (ha : a ≤ s.size) (w : World) :
    Calls Tryz.prog 51 #[.string s, .int .i64 (a : Int), .string part] w fun e w' => AfterAt s part a e ∧ w = w' := by
  have hpl := size_list part
  have hsl := size_list s
  by_cases hfit : a + part.size ≤ s.size
  · have hsc : ∀ W', (Instr.slice 9 (.string s) (some (.int .i64 (a : Int))) (some (.int .i64 ((a : Int) + (part.size : Int)))) none).run Tryz.prog W' = .ok (.string (s.extract a (a + part.size))) W' := fun W' => by
      rw [run_slice_string_if W' _ _ _ _ _ _ Tryz.underlying9, if_pos (by omega), if_pos (by omega), show ((a : Int)).toNat = a by omega, show ((a : Int) + (part.size : Int)).toNat = a + part.size by omega]
    have hex := extr_list s a (a + part.size) hfit
    rw [show a + part.size - a = part.data.toList.length by omega] at hex
    have hle : ¬ (s.size : Int) < (a : Int) + (part.size : Int) := by omega
    cases hpre : part.data.toList.isPrefixOf (s.data.toList.drop a) with
    | true =>
      have heq : ((s.extract a (a + part.size)).toList == part.toList) = true := by
        rw [ByteArray.toList_eq, ByteArray.toList_eq, hex, pre_take.1 hpre]; exact beq_self_eq_true _
      have hne : ((s.extract a (a + part.size)).toList != part.toList) = false := by rw [bne, heq]; rfl
      have HPR := Lib.hid hpre; have HFT := Lib.hid hfit
      clear hpre hex hpl hsl
      go_enter Tryz.func51, Tryz.ntmps51
      go_wp2_with fail
      go_ret
      exact ⟨.inl ⟨HPR.out, HFT.out, rfl⟩, rfl⟩
    | false =>
      have heq : ((s.extract a (a + part.size)).toList == part.toList) = false := by
        rw [ByteArray.toList_eq, ByteArray.toList_eq, hex, beq_eq_false_iff_ne]
        intro h
        rw [pre_take.2 h] at hpre
        cases hpre
      have hne : ((s.extract a (a + part.size)).toList != part.toList) = true := by rw [bne, heq]; rfl
      have HPR := Lib.hid hpre
      clear hpre hex hpl hsl
      go_enter Tryz.func51, Tryz.ntmps51
      go_wp2_with fail
      go_ret
      exact ⟨.inr ⟨HPR.out, rfl⟩, rfl⟩
  · have HNP := Lib.hid (show part.data.toList.isPrefixOf (s.data.toList.drop a) = false by
      cases hpre : part.data.toList.isPrefixOf (s.data.toList.drop a) with
      | false => rfl
      | true =>
        have := congrArg List.length (pre_take.1 hpre)
        rw [List.length_take, List.length_drop] at this
        omega)
    have hle : (s.size : Int) < (a : Int) + (part.size : Int) := by omega
    clear hpl hsl
    go_enter Tryz.func51, Tryz.ntmps51
    go_wp2_with fail
    go_ret
    exact ⟨.inr ⟨HNP.out, rfl⟩, rfl⟩
end Go.Proofs.YtgfjmmdkdhodiaaGreatDoor
namespace Go.Proofs.YtgfjmmdkdhodiaaGreatDoor
open Go Go.RowKit
set_option linter.unusedVariables false
section
variable {P : Program}
/-- The slots that an operation reads. -/
def tmpsOf (o : Oper) : List Tmp := o.op.operands.toList.filterMap fun | .tmp t => some t | _ => none
/-- What is asked of the operations: no guard; what binds lies ahead; a slot that is read and written is written ahead; the slots RD are written by none. -/
def detB (ops : Array Oper) (RD : List Tmp) : Bool :=
  Region.noSelect ops && (List.range ops.size).all fun i => match ops[i]? with
    | none => true
    | some o => o.guard.isNone && (o.after.all fun e => !Region.binds .any e || decide (e.on < i)) &&
      (tmpsOf o).all fun t => (RD.contains t && (List.range ops.size).all fun j => match ops[j]? with | some oj => !(oj.dst == some t) | none => true) ||
        (!RD.contains t && (List.range ops.size).any (fun j => match ops[j]? with | some oj => oj.dst == some t | none => false) && (List.range ops.size).all fun j => match ops[j]? with | some oj => !(oj.dst == some t) || o.after.any (fun e => Region.binds .any e && e.on == j) | none => true)
/-- The frame behind the operations. -/
def endAct (V : Tmp → Value) (l : List Oper) (a : Act) : Act := l.foldl (fun a o => a.put o.dst (match o.dst with | some d => V d | none => undef)) a
def WR (ops : Array Oper) (L : Array Bool) (t : Tmp) : Prop := ∃ i o, ops[i]? = some o ∧ L.getD i false = true ∧ o.dst = some t
structure DI (ops : Array Oper) (V : Tmp → Value) (a0 : Act) (L : Array Bool) (a : Act) : Prop where
  lsz : L.size = ops.size
  def_ : a.defers = a0.defers
  sz : a.tmps.size = a0.tmps.size
  yes : ∀ t, t < a0.tmps.size → WR ops L t → a.tmps.getD t undef = V t
  no : ∀ t, ¬ WR ops L t → a.tmps.getD t undef = a0.tmps.getD t undef
theorem put_getD (a : Act) (d : Tmp) (v : Value) (t : Tmp) : (a.put (some d) v).tmps.getD t undef = if d = t ∧ t < a.tmps.size then v else a.tmps.getD t undef := by
  simp only [Act.put, Array.getD_eq_getD_getElem?, Array.getElem?_setIfInBounds]
  by_cases h1 : d = t
  · subst h1
    by_cases h2 : d < a.tmps.size
    · simp [h2]
    · simp [h2]
  · simp [h1]
theorem put_size (a : Act) (d : Option Tmp) (v : Value) : (a.put d v).tmps.size = a.tmps.size := by
  cases d <;> simp [Act.put]
theorem put_def (a : Act) (d : Option Tmp) (v : Value) : (a.put d v).defers = a.defers := by
  cases d <;> rfl
theorem getD_set (L : Array Bool) (i j : Nat) (h : i < L.size) : (L.setIfInBounds i true).getD j false = (decide (i = j) || L.getD j false) := by
  simp only [Array.getD_eq_getD_getElem?, Array.getElem?_setIfInBounds]
  by_cases h1 : i = j
  · subst h1; simp [h]
  · simp [h1]
theorem DI.step {ops : Array Oper} {V : Tmp → Value} {a0 a : Act} {L : Array Bool} (h : DI ops V a0 L a) {i : Nat} {o : Oper} (hi : ops[i]? = some o) {v : Value} (hv : ∀ d, o.dst = some d → v = V d) : DI ops V a0 (L.setIfInBounds i true) (a.put o.dst v) := by
  have hil : i < L.size := by rw [h.lsz]; exact (Array.getElem?_eq_some_iff.1 hi).1
  have hwr : ∀ t, WR ops (L.setIfInBounds i true) t ↔ o.dst = some t ∨ WR ops L t := by
    intro t
    constructor
    · rintro ⟨j, oj, hj, hl, hd⟩
      rw [getD_set L i j hil] at hl
      by_cases hij : i = j
      · subst hij
        rw [hi] at hj
        injection hj with hj
        subst hj
        exact .inl hd
      · simp only [hij, decide_false, Bool.false_or] at hl
        exact .inr ⟨j, oj, hj, hl, hd⟩
    · rintro (hd | ⟨j, oj, hj, hl, hd⟩)
      · exact ⟨i, o, hi, by rw [getD_set L i i hil]; simp, hd⟩
      · exact ⟨j, oj, hj, by rw [getD_set L i j hil, hl]; simp, hd⟩
  refine ⟨by simp [h.lsz], (put_def _ _ _).trans h.def_, (put_size _ _ _).trans h.sz, fun t ht hw => ?_, fun t hw => ?_⟩
  · cases hd : o.dst with
    | none =>
      have hw' : WR ops L t := by
        rcases (hwr t).1 hw with h1 | h1
        · rw [hd] at h1; cases h1
        · exact h1
      exact h.yes t ht hw'
    | some d =>
      rw [put_getD]
      by_cases hdt : d = t
      · rw [if_pos ⟨hdt, by rw [h.sz]; exact ht⟩, hv d hd, hdt]
      · rw [if_neg (fun hh => hdt hh.1)]
        rcases (hwr t).1 hw with h1 | h1
        · rw [hd] at h1; injection h1 with h1; exact absurd h1 hdt
        · exact h.yes t ht h1
  · have h1 : ¬ (o.dst = some t) := fun hh => hw ((hwr t).2 (.inl hh))
    have h2 : ¬ WR ops L t := fun hh => hw ((hwr t).2 (.inr hh))
    cases hd : o.dst with
    | none => exact h.no t h2
    | some d =>
      rw [put_getD, if_neg (fun hh => h1 (by rw [hd, hh.1]))]
      exact h.no t h2
theorem foldl_act (V : Tmp → Value) : ∀ (l : List Oper) (a : Act), (endAct V l a).defers = a.defers ∧ (endAct V l a).tmps.size = a.tmps.size ∧ ∀ t, (endAct V l a).tmps.getD t undef = if t < a.tmps.size ∧ ∃ o ∈ l, o.dst = some t then V t else a.tmps.getD t undef
  | [], a => ⟨rfl, rfl, fun t => by simp [endAct]⟩
  | o :: l, a => by
    obtain ⟨h1, h2, h3⟩ := foldl_act V l (a.put o.dst (match o.dst with | some d => V d | none => undef))
    refine ⟨h1.trans (put_def _ _ _), h2.trans (put_size _ _ _), fun t => ?_⟩
    show (endAct V l (a.put o.dst (match o.dst with | some d => V d | none => undef))).tmps.getD t undef = _
    rw [h3 t, put_size]
    by_cases ht : t < a.tmps.size
    · by_cases hl : ∃ o' ∈ l, o'.dst = some t
      · rw [if_pos ⟨ht, hl⟩, if_pos ⟨ht, by obtain ⟨o', h4, h5⟩ := hl; exact ⟨o', List.mem_cons_of_mem _ h4, h5⟩⟩]
      · rw [if_neg (fun hh => hl hh.2)]
        cases hd : o.dst with
        | none =>
          rw [if_neg]
          · rfl
          · rintro ⟨_, o', h4, h5⟩
            rcases List.mem_cons.1 h4 with rfl | h4
            · rw [hd] at h5; cases h5
            · exact hl ⟨o', h4, h5⟩
        | some d =>
          rw [put_getD]
          by_cases hdt : d = t
          · subst hdt
            rw [if_pos ⟨rfl, ht⟩, if_pos ⟨ht, o, List.mem_cons_self .., hd⟩]
          · rw [if_neg (fun hh => hdt hh.1), if_neg]
            rintro ⟨_, o', h4, h5⟩
            rcases List.mem_cons.1 h4 with rfl | h4
            · rw [hd] at h5; injection h5 with h5; exact hdt h5
            · exact hl ⟨o', h4, h5⟩
    · rw [if_neg (fun hh => ht hh.1), if_neg (fun hh => ht hh.1)]
      cases hd : o.dst with
      | none => rfl
      | some d => rw [put_getD, if_neg (fun hh => ht hh.2)]
theorem DI.end_ {ops : Array Oper} {V : Tmp → Value} {a0 a : Act} {L : Array Bool} (h : DI ops V a0 L a) (hall : ∀ i, i < ops.size → L.getD i false = true) : a = endAct V ops.toList a0 := by
  obtain ⟨h1, h2, h3⟩ := foldl_act V ops.toList a0
  have e2 : a.tmps = (endAct V ops.toList a0).tmps := by
    apply Array.ext (by rw [h.sz, h2])
    intro t ht1 ht2
    have hg := h3 t
    have e : a.tmps.getD t undef = (endAct V ops.toList a0).tmps.getD t undef := by
      rw [hg]
      have hts : t < a0.tmps.size := by rw [← h.sz]; exact ht1
      by_cases hw : WR ops L t
      · rw [h.yes t hts hw, if_pos]
        obtain ⟨i, o, hi, _, hd⟩ := hw
        exact ⟨hts, o, List.mem_of_getElem? (by rw [Array.getElem?_toList]; exact hi), hd⟩
      · rw [h.no t hw, if_neg]
        rintro ⟨_, o, ho, hd⟩
        obtain ⟨i, hi, rfl⟩ := List.mem_iff_getElem.1 ho
        have hi' : i < ops.size := by simpa using hi
        exact hw ⟨i, ops[i], Array.getElem?_eq_getElem hi', hall i hi', by simpa using hd⟩
    simpa [Array.getD, ht1, ht2] using e
  have e1 : a.defers = (endAct V ops.toList a0).defers := h.def_.trans h1.symm
  have : ∀ x y : Act, x.tmps = y.tmps → x.defers = y.defers → x = y := fun x y hx hy => by cases x; cases y; simp_all
  exact this _ _ e2 e1
/-- THE RULE. -/
theorem wp_region_det (V : Tmp → Value) (WI : Array Bool → World → Prop) (RD : List Tmp) {id : Nat} {Q : Exit → Act → World → Prop} {a : Act} {w : World} {l : List Oper} (hm : P.follows .mixedOrders = true) (hB : detB l.toArray RD = true)
    (hRD : ∀ t ∈ RD, a.tmps.getD t undef = V t) (hsz : ∀ o ∈ l, ∀ d, o.dst = some d → d < a.tmps.size) (h0 : WI (Array.replicate l.length false) w.drew)
    (hop : ∀ (i : Nat) (o : Oper) (L : Array Bool) (a' : Act) (W : World), l[i]? = some o → L.size = l.length → L.getD i false = false → WI L W → (∀ t ∈ tmpsOf o, a'.eval (.tmp t) = V t) →
      ∃ n W', (execOp a'.eval o).run P W = .ok n W' ∧ ((∃ d, o.dst = some d ∧ n = .value (V d)) ∨ (o.dst = none ∧ n = .skip)) ∧ WI (L.setIfInBounds i true) W')
    (hQ : ∀ W, WI (Array.replicate l.length true) W → Q .normal (endAct V l a) W) : (Code.region id l.toArray true).wp P Q a w := by
  simp only [detB, Bool.and_eq_true, List.all_eq_true, List.mem_range] at hB
  obtain ⟨hns, hall⟩ := hB
  have hget : ∀ {i : Nat} {o : Oper}, l.toArray[i]? = some o → i < l.toArray.size := fun h => (Array.getElem?_eq_some_iff.1 h).1
  have hpt : ∀ {i : Nat} {o : Oper}, l.toArray[i]? = some o → o.guard = none ∧ (∀ e ∈ o.after, Region.binds .any e = true → e.on < i) ∧ ∀ t ∈ tmpsOf o,
      (t ∈ RD ∧ ∀ (j : Nat) (oj : Oper), l.toArray[j]? = some oj → oj.dst ≠ some t) ∨ ((∃ (j : Nat) (oj : Oper), l.toArray[j]? = some oj ∧ oj.dst = some t) ∧ ∀ (j : Nat) (oj : Oper), l.toArray[j]? = some oj → oj.dst = some t → ∃ e ∈ o.after, Region.binds .any e = true ∧ e.on = j) := by
    intro i o hi
    have h := hall i (hget hi)
    rw [hi] at h
    simp only [Bool.and_eq_true, List.all_eq_true, Array.all_eq_true', Option.isNone_iff_eq_none] at h
    obtain ⟨⟨h1, h2⟩, h3⟩ := h
    refine ⟨h1, fun e he hb => ?_, fun t ht => ?_⟩
    · have := h2 e he
      rw [hb] at this
      simpa using this
    · have := h3 t ht
      simp only [Bool.or_eq_true, Bool.and_eq_true, List.all_eq_true, List.any_eq_true, List.mem_range, List.contains_iff_mem] at this
      rcases this with ⟨hr, hj⟩ | ⟨⟨_, j, hjl, hj⟩, hk⟩
      · refine .inl ⟨hr, fun j oj hjo hd => ?_⟩
        have := hj j (hget hjo)
        rw [hjo] at this
        simp [hd] at this
      · refine .inr ⟨?_, fun j oj hjo hd => ?_⟩
        · cases hjo : l.toArray[j]? with
          | none => rw [hjo] at hj; cases hj
          | some oj => rw [hjo] at hj; exact ⟨j, oj, hjo, by simpa using hj⟩
        · have := hk j (hget hjo)
          rw [hjo] at this
          simp only [hd, beq_self_eq_true, Bool.not_true, Bool.false_or, Array.any_eq_true', Bool.and_eq_true, beq_iff_eq] at this
          obtain ⟨e, he, hb, hon⟩ := this
          exact ⟨e, he, hb, hon⟩
  have key : ∀ (fuel : Nat) (L : Array Bool) (a' : Act) (W : World), DI l.toArray V a L a' → WI L W → (∀ k, k < l.length → L.getD k false = true ∨ True) → fuel + (List.range l.length).countP (fun k => L.getD k false) = l.length →
      wpAny P .any l.toArray Q fuel L a' W := by
    intro fuel
    have hready : ∀ (L : Array Bool), L.size = l.toArray.size → Region.ready .any l.toArray L = [] → ∀ i, i < l.length → L.getD i false = true := by
      intro L hLs hr i
      induction i using Nat.strongRecOn with
      | _ i ih =>
        intro hi
        cases hL : L.getD i false with
        | true => rfl
        | false =>
          exfalso
          have hio : l.toArray[i]? = some l[i] := by simp [hi]
          have : i ∈ Region.ready .any l.toArray L := by
            rw [mem_ready]
            refine ⟨?_, l[i], hio, fun e he hb => ?_⟩
            · have hil : i < L.size := by rw [hLs]; simpa using hi
              simp only [Array.getD, hil, dite_true] at hL ⊢
              exact hL
            · have hlt := (hpt hio).2.1 e he hb
              exact ih e.on hlt (by omega)
          rw [hr] at this
          cases this
    have hfin : ∀ (L : Array Bool) (a' : Act) (W : World), DI l.toArray V a L a' → WI L W → (∀ i, i < l.length → L.getD i false = true) → Q .normal a' W := by
      intro L a' W hD hW hL
      have e1 := hD.end_ (fun i hi => hL i (by simpa using hi))
      have e2 : L = Array.replicate l.length true := by
        apply Array.ext (by rw [hD.lsz]; simp)
        intro i h1 h2
        have := hL i (by simpa using h2)
        simp only [Array.getD, h1, dite_true] at this
        simpa using this
      rw [e1]
      rw [e2] at hW
      exact hQ W hW
    induction fuel with
    | zero =>
      intro L a' W hD hW _ hc
      have hL : ∀ i, i < l.length → L.getD i false = true := by
        intro i hi
        have hcc : (List.range l.length).countP (fun k => L.getD k false) = (List.range l.length).length := by simpa using hc
        rw [List.countP_eq_length] at hcc
        exact hcc i (List.mem_range.2 hi)
      refine ⟨?_, hfin L a' W hD hW hL⟩
      rw [List.eq_nil_iff_forall_not_mem]
      intro i hi
      obtain ⟨hu, o, ho, _⟩ := mem_ready.1 hi
      have hil := hget ho
      have := hL i (by simpa using hil)
      have hil' : i < L.size := by rw [hD.lsz]; exact hil
      simp only [Array.getD, hil', dite_true] at this hu
      rw [this] at hu
      cases hu
    | succ fuel ih =>
      intro L a' W hD hW _ hc
      refine ⟨fun hr => hfin L a' W hD hW (hready L hD.lsz hr), fun i hi => ?_⟩
      obtain ⟨hu, o, ho, hdep⟩ := mem_ready.1 hi
      have hil : i < L.size := by rw [hD.lsz]; exact hget ho
      have hLi : L.getD i false = false := by
        simp only [Array.getD, hil, dite_true] at hu ⊢
        exact hu
      have hol : l[i]? = some o := by simpa using ho
      obtain ⟨hg, hbd, htm⟩ := hpt ho
      have hev : ∀ t ∈ tmpsOf o, a'.eval (.tmp t) = V t := by
        intro t ht
        show a'.tmps.getD t undef = V t
        rcases htm t ht with ⟨hr, hno⟩ | ⟨⟨j, oj, hj, hd⟩, hyes⟩
        · rw [hD.no t (by rintro ⟨j, oj, hj, _, hd⟩; exact hno j oj hj hd)]
          exact hRD t hr
        · obtain ⟨e, he, hb, hon⟩ := hyes j oj hj hd
          have hlj := hdep e he hb
          rw [hon] at hlj
          exact hD.yes t (hsz oj (List.mem_of_getElem? (by simpa using hj)) t hd) ⟨j, oj, hj, hlj, hd⟩
      obtain ⟨n, W', hrun, hn, hWI⟩ := hop i o L a' W hol (by rw [hD.lsz]; simp) hLi hW hev
      have hcnt : fuel + (List.range l.length).countP (fun k => (L.setIfInBounds i true).getD k false) = l.length := by
        have hi' : i < l.length := by simpa using hget ho
        have hcp : (List.range l.length).countP (fun k => (L.setIfInBounds i true).getD k false) = (List.range l.length).countP (fun k => L.getD k false) + 1 := by
          have hfe : (fun k => (L.setIfInBounds i true).getD k false) = (fun k => (L.getD k false || k == i)) := by
            funext k
            rw [getD_set L i k hil, Bool.or_comm]
            congr 1
            rw [Bool.eq_iff_iff]; simp; exact eq_comm
          rw [hfe]
          have hc1 : ∀ (n : Nat), (List.range n).countP (fun k => (L.getD k false || k == i)) = (List.range n).countP (fun k => L.getD k false) + if i < n then 1 else 0 := by
            intro n
            induction n with
            | zero => simp
            | succ n ihn =>
              rw [List.range_succ, List.countP_append, List.countP_append, ihn]
              by_cases hin : n = i
              · subst hin
                simp only [List.countP_singleton, hLi, beq_self_eq_true, Bool.false_or, if_true, if_neg (Nat.lt_irrefl n), if_pos (Nat.lt_succ_self n)]
                simp
              · by_cases hlt : i < n
                · simp [hin, hlt, show i < n + 1 by omega]; omega
                · simp [hin, hlt, show ¬ i < n + 1 by omega]
          rw [hc1, if_pos hi']
        omega
      unfold wpOp
      simp only [ho]
      have hwd : Region.wanted o (yielded l.toArray a'.tmps) = true := by unfold Region.wanted; rw [hg]
      rw [if_pos hwd]
      refine .inl ?_
      unfold Oper.wp
      rw [hrun]
      rcases hn with ⟨d, hd, rfl⟩ | ⟨hd, rfl⟩
      · exact ih _ _ _ (hD.step ho (v := V d) (fun d' hd' => by rw [hd] at hd'; injection hd' with hd'; rw [hd'])) hWI (fun _ _ => .inr trivial) hcnt
      · exact ih _ _ _ (hD.step ho (v := undef) (fun d' hd' => by rw [hd] at hd'; cases hd')) hWI (fun _ _ => .inr trivial) hcnt
  refine wp_region_any hm (key _ _ _ _ ⟨by simp, rfl, rfl, ?_, fun t _ => rfl⟩ h0 (fun _ _ => .inr trivial) ?_)
  · rintro t _ ⟨i, o, hi, hl, hd⟩
    simp [Array.getD] at hl
  · have : (List.range l.length).countP (fun k => (Array.replicate l.length false).getD k false) = 0 := by
      rw [List.countP_eq_zero]
      intro k hk
      simp [Array.getD]
    rw [List.size_toArray, this]
    omega
end
#print axioms wp_region_det
end Go.Proofs.YtgfjmmdkdhodiaaGreatDoor
