/- Texts laid together (wip/tools/automerge.py): Ov, LtT, Dec, LtP0. -/
import Derived.Test.YthpfomjibfbiiaaGreatDoorMg1
import Derived.Test.YthpfomjibfbiiaaGreatDoorShelf
import Derived.WalkSmall
import Derived.Lib.ItoaLen
import Derived.Lib.AtoiAllCases
import Derived.Lib.ItoaMem
import Derived.Lib.Split
import Derived.Lib.ConvBytes
namespace Go.Proofs.YthpfomjibfbiiaaGreatDoor
open Go Go.RowKit

/-- Values that read as lists of bytes, none of them in the row's own block. -/
def BSA (w : World) (k : Option Nat) (vs : List Value) (ls : List (List UInt8)) : Prop :=
  vs.length = ls.length ∧ ∀ i (h : i < vs.length) (h' : i < ls.length), BS w vs[i] ls[i] ∧ (ls[i] ≠ [] → ∀ b, vs[i].ownBlock = some b → k ≠ some b)
/-- The call's own row of byte slices. -/
def OV (e : TypeId) (w : World) (B : Nat) (v : Value) (ls : List (List UInt8)) : Prop := ∃ vs, w.ownsRow B e 1 v vs.length vs ∧ BSA w v.ownBlock vs ls
theorem OV.nil (e : TypeId) (w : World) (B : Nat) : OV e w B (.slice none 0 0) [] := ⟨[], World.ownsRow_nil _ _ _ _, rfl, fun i h => absurd h (by simp)⟩
theorem BS.apart {w w' : World} {v : Value} {l : List UInt8} {k : Option Nat} (h : BS w v l) (hk : l ≠ [] → ∀ b, v.ownBlock = some b → k ≠ some b) (hb : w.grownBy w' k) : BS w' v l := by
  obtain ⟨A, c, rfl, h1, h2, h3⟩ := h.open_
  refine ⟨A, c, by rw [bv_length], by rw [bv_length]; exact h1, h2, fun hp => ?_⟩
  rw [bv_length] at hp
  obtain ⟨ad, rfl, hlt, hc⟩ := h3 hp
  have hne : l ≠ [] := by intro e; rw [e] at hp; simp at hp
  have hk' := hk hne ad.block rfl
  refine ⟨ad, rfl, Nat.lt_of_lt_of_le hlt hb.size, fun j u hu => ?_⟩
  have hj : j < l.length := by
    have := (List.getElem?_eq_some_iff.1 hu).1
    rwa [bv_length] at this
  rw [bv_get l j hj] at hu
  rw [← hu]
  exact (World.cell?_of_block (hb.block _ (by rw [block_of_add]; exact hlt) (by rw [block_of_add]; exact fun e => hk' e.symm))).trans (hc j hj)
theorem BS.blockLt {w : World} {v : Value} {l : List UInt8} (h : BS w v l) (hne : l ≠ []) : ∀ b, v.ownBlock = some b → b < w.heap.size := by
  obtain ⟨A, c, rfl, h1, h2, h3⟩ := h.open_
  obtain ⟨ad, rfl, hlt, _⟩ := h3 (List.length_pos_iff.2 hne)
  intro b hb
  simp only [Value.ownBlock, Option.some.injEq] at hb
  rw [← hb]; exact hlt
theorem OV.bss {e : TypeId} {w : World} {B : Nat} {v : Value} {ls : List (List UInt8)} (h : OV e w B v ls) : BSS w v ls := by
  obtain ⟨vs, h1, h2, h3⟩ := h
  exact ⟨vs, RS.of_own h1, h2, fun i hi hi' => (h3 i hi hi').1⟩
theorem OV.lt {e : TypeId} {w : World} {B : Nat} {v : Value} {ls : List (List UInt8)} (h : OV e w B v ls) : ∀ k, v.ownBlock = some k → B ≤ k ∧ k < w.heap.size := by
  obtain ⟨vs, h1, _⟩ := h
  exact World.ownsRow.lt h1
theorem OV.ext {e : TypeId} {w w' : World} {B : Nat} {v : Value} {ls : List (List UInt8)} (h : OV e w B v ls) (he : Ext w w') : OV e w' B v ls := by
  obtain ⟨vs, h1, h2, h3⟩ := h
  exact ⟨vs, h1.kept (he.but none) (by cases hv : v.ownBlock <;> simp), h2, fun i hi hi' => ⟨(h3 i hi hi').1.ext he, (h3 i hi hi').2⟩⟩
theorem OV.shape {e : TypeId} {w : World} {B : Nat} {v : Value} {ls : List (List UInt8)} (h : OV e w B v ls) : ∃ A c, v = .slice A ls.length c := by
  obtain ⟨A, c, rfl, _⟩ := h.bss.open_
  exact ⟨A, c, rfl⟩
theorem RS.one (w : World) (e : TypeId) (v : Value) {z : Nat} (hz : z = w.heap.size := by first | rfl | simp) : RS (w.alloc (.cells #[v] e)) (.slice (some ⟨z, 0, none⟩) 1 1) [v] := by
  subst hz
  exact RS.new w e [v] (by simp [maxLen])

theorem OV.grow {e : TypeId} {w w' : World} {B : Nat} {v v' u : Value} {vs : List Value} {ls : List (List UInt8)} {l : List UInt8} (h : w.ownsRow B e 1 v vs.length vs ∧ BSA w v.ownBlock vs ls) 
    (g1 : w'.ownsRow B e 1 v' (vs ++ [u]).length (vs ++ [u])) (g2 : w.grownBy w' v.ownBlock) (g3 : v'.ownBlock = v.ownBlock ∨ v'.ownBlock = some w.heap.size) (hu : BS w u l) (hap : l ≠ [] → ∀ b, u.ownBlock = some b → v.ownBlock ≠ some b) : OV e w' B v' (ls ++ [l]) := by
  obtain ⟨h1, h2, h3⟩ := h
  refine ⟨vs ++ [u], g1, by simp [h2], fun i hi hi' => ?_⟩
  have key : ∀ (y : Value) (m : List UInt8), BS w y m → (m ≠ [] → ∀ b, y.ownBlock = some b → v.ownBlock ≠ some b) → BS w' y m ∧ (m ≠ [] → ∀ b, y.ownBlock = some b → v'.ownBlock ≠ some b) := by
    intro y m hy ha
    refine ⟨hy.apart ha g2, fun hne b hb => ?_⟩
    rcases g3 with g | g
    · rw [g]; exact ha hne b hb
    · rw [g]
      have := hy.blockLt hne b hb
      intro e; injection e with e; omega
  by_cases hlt : i < vs.length
  · have e1 : (vs ++ [u])[i] = vs[i] := List.getElem_append_left hlt
    have e2 : (ls ++ [l])[i] = ls[i]'(by omega) := List.getElem_append_left (by omega)
    rw [e1, e2]
    exact key _ _ (h3 i hlt (by omega)).1 (h3 i hlt (by omega)).2
  · have hi2 : i = vs.length := by simp at hi; omega
    subst hi2
    have e1 : (vs ++ [u])[vs.length] = u := by simp
    have e2 : (ls ++ [l])[vs.length]'hi' = l := by simp [h2]
    rw [e1, e2]
    exact key _ _ hu hap
section
variable {P : Program}
/-- append of one byte slice onto such a row. -/
theorem wpList_append_ov (w : World) {ops : Array Oper} {rest : List Oper} {o : Oper} {a : Act} {Q : Exit → Act → World → Prop} (hgd : o.guard = none) (s x : Operand) (t : TypeId)
    (ho : o.op = .call { callee := .builtin .append, args := #[s, x], argTypes := #[t, t] })
    (base : Nat) (e : TypeId) (i : TypeInfo) (z : Value) (bytes : Nat) (ht : P.underlying t = some (.slice e)) (hi : P.info? e = some i) (hz : i.zero = some z)
    (hsize : i.size = 1) (hby : i.bytes = bytes) (hzs : z.cells.size = 1)
    (v : Value) (ls : List (List UInt8)) (hs : a.eval s = v) (hown : OV e w base v ls)
    (sv : Value) (u : Value) (l : List UInt8) (hx : a.eval x = sv) (hr : RS w sv [u]) (hu : BS w u l) (hap : l ≠ [] → ∀ b, u.ownBlock = some b → v.ownBlock ≠ some b)
    (hbytes : (ls.length + 1) * bytes ≤ 140737488355328) (hby0 : 0 < bytes) (hbase : base ≤ w.heap.size)
    (h : ∀ v' w', OV e w' base v' (ls ++ [l]) → w.grownBy w' v.ownBlock → wpList P ops Q rest (a.put o.dst v') w') : wpList P ops Q (o :: rest) a w := by
  obtain ⟨vs, h1, h2, h3⟩ := hown
  have hone : ∀ u' ∈ [u], u'.oneCell' = true := by
    intro u' hm
    obtain ⟨A, c, rfl, _⟩ := hu.open_
    simp only [List.mem_singleton] at hm
    subst hm; rfl
  refine wpList_append_rs w hgd s x t ho base e i z bytes ht hi hz hsize hby hzs v vs hs h1 sv [u] hx hr hone (by simpa [h2] using hbytes) hby0 hbase ?_
  intro v' w' g1 g2 g3
  refine h v' w' ⟨vs ++ [u], g1, by simp [h2], fun i hi hi' => ?_⟩ g2
  have key : ∀ (y : Value) (m : List UInt8), BS w y m → (m ≠ [] → ∀ b, y.ownBlock = some b → v.ownBlock ≠ some b) → BS w' y m ∧ (m ≠ [] → ∀ b, y.ownBlock = some b → v'.ownBlock ≠ some b) := by
    intro y m hy ha
    refine ⟨hy.apart ha g2, fun hne b hb => ?_⟩
    rcases g3 with g | g
    · rw [g]; exact ha hne b hb
    · rw [g]
      have := hy.blockLt hne b hb
      intro e; injection e with e; omega
  by_cases hlt : i < vs.length
  · have e1 : (vs ++ [u])[i] = vs[i] := List.getElem_append_left hlt
    have e2 : (ls ++ [l])[i] = ls[i]'(by omega) := List.getElem_append_left (by omega)
    rw [e1, e2]
    exact key _ _ (h3 i hlt (by omega)).1 (h3 i hlt (by omega)).2
  · have hi2 : i = vs.length := by simp at hi; omega
    subst hi2
    have e1 : (vs ++ [u])[vs.length] = u := by simp
    have e2 : (ls ++ [l])[vs.length]'hi' = l := by simp [h2]
    rw [e1, e2]
    exact key _ _ hu hap
/-- The same at a step of a region that draws. -/
theorem step_append_ov (w : World) {ops : Array Oper} {o : Oper} {a : Act} {K : Act → World → Prop} {Q : Exit → Act → World → Prop} {E : Prop} (hgd : o.guard = none) (s x : Operand) (t : TypeId)
    (ho : o.op = .call { callee := .builtin .append, args := #[s, x], argTypes := #[t, t] })
    (base : Nat) (e : TypeId) (i : TypeInfo) (z : Value) (bytes : Nat) (ht : P.underlying t = some (.slice e)) (hi : P.info? e = some i) (hz : i.zero = some z)
    (hsize : i.size = 1) (hby : i.bytes = bytes) (hzs : z.cells.size = 1)
    (v : Value) (ls : List (List UInt8)) (hs : a.eval s = v) (hown : OV e w base v ls)
    (sv : Value) (u : Value) (l : List UInt8) (hx : a.eval x = sv) (hr : RS w sv [u]) (hu : BS w u l) (hap : l ≠ [] → ∀ b, u.ownBlock = some b → v.ownBlock ≠ some b)
    (hbytes : (ls.length + 1) * bytes ≤ 140737488355328) (hby0 : 0 < bytes) (hbase : base ≤ w.heap.size)
    (h : ∀ v' w', OV e w' base v' (ls ++ [l]) → w.grownBy w' v.ownBlock → K (a.put o.dst v') w') : if Region.wanted o (yielded ops a.tmps) = true then Oper.wp P o a w K Q else E := by
  have hw : Region.wanted o (yielded ops a.tmps) = true := by simp [Region.wanted, hgd]
  rw [if_pos hw]
  obtain ⟨vs, h1, h2, h3⟩ := hown
  have hone : ∀ u' ∈ [u], u'.oneCell' = true := by
    intro u' hm
    obtain ⟨A, c, rfl, _⟩ := hu.open_
    simp only [List.mem_singleton] at hm
    subst hm; rfl
  obtain ⟨v', w', hrun, g1, g2, g3⟩ := run_append_rs (P := P) w base t o.type e i z bytes ht hi hz hsize hby hzs v vs h1 sv [u] hr hone (by simpa [h2] using hbytes) hby0 hbase
  unfold Oper.wp execOp
  simp only [ho, resolve, invoke, builtin, Sem.run_bind, Sem.run_pure, Result.andThen_ok, List.map_toArray, List.map_cons, List.map_nil, hs, hx, hrun]
  refine h v' w' (OV.grow ⟨h1, h2, h3⟩ g1 g2 g3 hu hap) g2
/-- bytes onto bytes, at a step of a region that draws. -/
theorem step_append_bs (w : World) {ops : Array Oper} {o : Oper} {a : Act} {K : Act → World → Prop} {Q : Exit → Act → World → Prop} {E : Prop} (hgd : o.guard = none) (s x : Operand) (t : TypeId)
    (ho : o.op = .call { callee := .builtin .append, args := #[s, x], argTypes := #[t, t] })
    (base : Nat) (e : TypeId) (i : TypeInfo) (z : Value) (ht : P.underlying t = some (.slice e)) (hi : P.info? e = some i) (hz : i.zero = some z)
    (hsize : i.size = 1) (hby : i.bytes = 1) (hzs : z.cells.size = 1)
    (v : Value) (l : List UInt8) (hs : a.eval s = v) (hown : OB e w base v l)
    (sv : Value) (m : List UInt8) (hx : a.eval x = sv) (hr : BS w sv m)
    (hbytes : l.length + m.length ≤ 140737488355328) (hbase : base ≤ w.heap.size)
    (h : ∀ v' w', OB e w' base v' (l ++ m) → w.grownBy w' v.ownBlock → K (a.put o.dst v') w') : if Region.wanted o (yielded ops a.tmps) = true then Oper.wp P o a w K Q else E := by
  have hw : Region.wanted o (yielded ops a.tmps) = true := by simp [Region.wanted, hgd]
  rw [if_pos hw]
  obtain ⟨v', w', hrun, g1, g2, g3⟩ := run_append_rs (P := P) w base t o.type e i z 1 ht hi hz hsize hby hzs v (bv l) (by unfold OB at hown; simpa using hown) sv (bv m) hr (bv_one m) (by simpa using hbytes) (by omega) hbase
  unfold Oper.wp execOp
  simp only [ho, resolve, invoke, builtin, Sem.run_bind, Sem.run_pure, Result.andThen_ok, List.map_toArray, List.map_cons, List.map_nil, hs, hx, hrun]
  exact h v' w' (by unfold OB; simpa using g1) g2
end
end Go.Proofs.YthpfomjibfbiiaaGreatDoor
namespace Go.Proofs.YthpfomjibfbiiaaGreatDoor
open Go Go.RowKit

theorem ext_grow {w w' : World} (h : Ext w w') (k : Nat) (os : Array Obj) : Ext w (Go.Sort.grow (w'.drewN k) os) :=
  ⟨h.os, h.tape, h.output, Nat.le_trans h.size (by simp [Go.Sort.grow, World.drewN]), fun j hj => by
    have h1 : j < w'.heap.size := Nat.lt_of_lt_of_le hj h.size
    rw [← h.block j hj]
    show ((w'.drewN k).heap ++ os)[j]? = _
    rw [Array.getElem?_append_left (by simpa [World.drewN] using h1)]
    rfl⟩

/-- The table that the library's numerals read. -/
def Pow (w : World) : Prop := Lib.TabIs Tryz.prog w "internal/strconv.uint64pow10" .u64 Lib.pow10Tab
theorem gPow : (Tryz.prog.globalNamed "internal/strconv.uint64pow10").isSome = true := by kernel_rfl
theorem Pow.ext {w w' : World} (h : Pow w) (hx : Ext w w') : Pow w' := by
  obtain ⟨g, hg⟩ := Option.isSome_iff_exists.1 gPow
  unfold Pow Lib.TabIs at h ⊢
  have hlt : g < w.heap.size := by
    unfold World.var? at h
    simp only [hg, Option.bind_some] at h
    by_cases hh : g < w.heap.size
    · exact hh
    · rw [Array.getElem?_eq_none (by omega)] at h
      cases h
  exact var?_below hx hg hlt h

theorem ownsRow_ext {w w' : World} {B : Nat} {e : TypeId} {v : Value} {n : Nat} {xs : List Value} (h : w.ownsRow B e 1 v n xs) (he : Ext w w') : w'.ownsRow B e 1 v n xs :=
  h.kept (he.but none) (by cases hv : v.ownBlock <;> simp)
/-- Strings as values. -/
def stv (ls : List (List UInt8)) : List Value := ls.map fun l => .string ⟨l.toArray⟩
theorem stv_length (ls : List (List UInt8)) : (stv ls).length = ls.length := by simp [stv]
theorem strinfo : (Tryz.prog.info? 9).map (fun i => (i.zero, i.size, i.bytes)) = some (some (.string ⟨#[]⟩), 1, 16) := by kernel_rfl

/-- The words of times, their string. -/
def wordsT (a s e r : Int) : List (List UInt8) := [Lib.itoa a, Lib.itoa s, Lib.itoa e, Lib.itoa r]
def textT (a s e r : Int) : List UInt8 := Lib.join (wordsT a s e r) [32]

end Go.Proofs.YthpfomjibfbiiaaGreatDoor
namespace Go.Proofs.YthpfomjibfbiiaaGreatDoor
open Go.Lib

theorem u8_dig (d : Nat) (h : d < 10) : (UInt8.ofNat (48 + d)).toNat = 48 + d := by
  simp [UInt8.toNat_ofNat']; omega
theorem dec_lo (u : Nat) (h : u < 10) : decDigits u = [UInt8.ofNat (48 + u)] := by rw [decDigits, dif_pos h]
theorem dec_hi (u : Nat) (h : ¬ u < 10) : decDigits u = decDigits (u / 10) ++ [UInt8.ofNat (48 + u % 10)] := by rw [decDigits, dif_neg h]
theorem dec_dig (u : Nat) : ∀ c ∈ decDigits u, 48 ≤ c.toNat ∧ c.toNat ≤ 57 := by
  induction u using Nat.strongRecOn with
  | _ u ih =>
    intro c hc
    by_cases h : u < 10
    · rw [dec_lo u h] at hc
      simp only [List.mem_singleton] at hc
      subst hc
      rw [u8_dig u h]; omega
    · rw [dec_hi u h] at hc
      rcases List.mem_append.1 hc with hc | hc
      · exact ih (u / 10) (by omega) c hc
      · simp only [List.mem_singleton] at hc
        subst hc
        rw [u8_dig _ (by omega)]; omega
theorem dec_ne (u : Nat) : decDigits u ≠ [] := by
  by_cases h : u < 10
  · rw [dec_lo u h]; simp
  · rw [dec_hi u h]; simp
/-- The number of a row of digits. -/
def valD (acc : Nat) : List UInt8 → Nat
  | [] => acc
  | c :: r => valD (10 * acc + (c.toNat - 48)) r
theorem valD_append (acc : Nat) (a b : List UInt8) : valD acc (a ++ b) = valD (valD acc a) b := by
  induction a generalizing acc with
  | nil => rfl
  | cons c r ih => exact ih _
theorem valD_one (acc : Nat) (c : UInt8) : valD acc [c] = 10 * acc + (c.toNat - 48) := rfl
theorem valD_dec (u : Nat) : valD 0 (decDigits u) = u := by
  induction u using Nat.strongRecOn with
  | _ u ih =>
    by_cases h : u < 10
    · rw [dec_lo u h, valD_one, u8_dig u h]; omega
    · rw [dec_hi u h, valD_append, ih (u / 10) (by omega), valD_one, u8_dig _ (by omega)]; omega
theorem dec_inj {u v : Nat} (h : decDigits u = decDigits v) : u = v := by rw [← valD_dec u, h, valD_dec]
theorem parse_dec (u : Nat) (h : u < 1844674407370955162) (r : List UInt8) : parseUint10 0 (decDigits u ++ r) = parseUint10 u r := by
  induction u using Nat.strongRecOn generalizing r with
  | _ u ih =>
    by_cases h10 : u < 10
    · rw [dec_lo u h10, List.singleton_append, parseUint10, u8_dig u h10, if_pos (by omega), if_neg (by omega), if_neg (by omega)]
      congr 1; omega
    · rw [dec_hi u h10, List.append_assoc, ih (u / 10) (by omega) (by omega), List.singleton_append, parseUint10, u8_dig _ (by omega), if_pos (by omega), if_neg (by omega), if_neg (by omega)]
      congr 1; omega
theorem atoi_dec (u : Nat) (h : u < 1844674407370955162) : atoiAll (decDigits u) = .ok (u : Int) := by
  have hp : parseMag (decDigits u) = .ok u := by
    have := parse_dec u h []
    rw [List.append_nil] at this
    rw [parseMag, if_neg (dec_ne u), this]; rfl
  obtain ⟨c, r, hcr⟩ : ∃ c r, decDigits u = c :: r := by
    cases hd : decDigits u with
    | nil => exact absurd hd (dec_ne u)
    | cons c r => exact ⟨c, r, rfl⟩
  have hc := dec_dig u c (by rw [hcr]; simp)
  have hne : ¬ (c.toNat = 43 ∨ c.toNat = 45) := by omega
  rw [hcr] at hp ⊢
  rw [atoiAll_plain c r (by omega) (by omega), hp]
  unfold signless
  simp only
  rw [if_neg (by omega)]

/-! Words between separators. -/
theorem index_hit (c : UInt8) : ∀ (l r : List UInt8), c ∉ l → index (l ++ c :: r) [c] = (l.length : Int)
  | [], r, _ => by simp [index, List.isPrefixOf]
  | b :: l, r, h => by
    have hb : c ≠ b := fun e => h (by simp [e])
    have ih := index_hit c l r (fun e => h (by simp [e]))
    rw [List.cons_append, index, if_neg (by simp [List.isPrefixOf, hb]), ih, if_neg (by simp)]
    simp
theorem index_miss (c : UInt8) : ∀ (l : List UInt8), c ∉ l → index l [c] = -1
  | [], _ => by simp [index]
  | b :: l, h => by
    have hb : c ≠ b := fun e => h (by simp [e])
    rw [index, if_neg (by simp [List.isPrefixOf, hb]), index_miss c l (fun e => h (by simp [e]))]; rfl
theorem splitK_hit (c : UInt8) (k : Nat) (l r : List UInt8) (h : c ∉ l) : splitK [c] 0 (k + 1) (l ++ c :: r) = l :: splitK [c] 0 k r := by
  rw [splitK, index_hit c l r h, if_neg (by simp)]
  simp
theorem splitK_miss (c : UInt8) (k : Nat) (l : List UInt8) (h : c ∉ l) : splitK [c] 0 k l = [l] := by
  cases k with
  | zero => rfl
  | succ k => rw [splitK, index_miss c l h]; rfl
theorem dec_no (u : Nat) (c : UInt8) (hc : c.toNat < 48 ∨ 57 < c.toNat) : c ∉ decDigits u := fun h => by
  have := dec_dig u c h; omega
end Go.Proofs.YthpfomjibfbiiaaGreatDoor
namespace Go.Proofs.YthpfomjibfbiiaaGreatDoor
open Go Go.RowKit
set_option linter.unusedVariables false

theorem textT_eq (a s e r : Int) : textT a s e r = Lib.itoa a ++ 32 :: (Lib.itoa s ++ 32 :: (Lib.itoa e ++ 32 :: Lib.itoa r)) := by
  simp [textT, wordsT, Lib.join, List.intercalate]
theorem itoa_of {x : Int} (h : 0 ≤ x) : Lib.itoa x = Lib.decDigits x.toNat := by unfold Lib.itoa; rw [if_neg (by omega)]
theorem atoi_itoa {x : Int} (h0 : 0 ≤ x) (h1 : x ≤ 1099511627776) : Lib.atoiAll (Lib.itoa x) = .ok x := by
  rw [itoa_of h0, atoi_dec _ (by omega)]; congr 1; omega
theorem itoa_no {x : Int} (h : 0 ≤ x) : (32 : UInt8) ∉ Lib.itoa x := by rw [itoa_of h]; exact dec_no _ _ (by decide)
theorem itoa_pos {x : Int} (h : 0 ≤ x) : 1 ≤ (Lib.itoa x).length := by
  rw [itoa_of h]
  cases hd : Lib.decDigits x.toNat with
  | nil => exact absurd hd (dec_ne _)
  | cons c r => simp
/-- The words of a string. -/
def wordsB (s : ByteArray) : List ByteArray := Lib.splitB ⟨#[32]⟩ 0 (min 5 (s.size + 1) - 1) s
theorem wordsB_text {a st e r : Int} (hv : validB a st e r = true) (s : ByteArray) (hs : textT a st e r = s.data.toList) : (wordsB s).map (·.data.toList) = [Lib.itoa a, Lib.itoa st, Lib.itoa e, Lib.itoa r] := by
  obtain ⟨v1, v2, v3, v4, v5, v6, _⟩ := validB_bd hv
  have l1 := itoa_pos (x := a) (by omega)
  have l2 := itoa_pos (x := st) (by omega)
  have hsz : s.size = s.data.toList.length := by rw [Array.length_toList]; rfl
  have hL : 4 ≤ s.data.toList.length := by rw [← hs, textT_eq]; simp only [List.length_append, List.length_cons]; omega
  have hl : min 5 (s.size + 1) - 1 = 4 := by omega
  unfold wordsB
  rw [Lib.splitB_data, hl, ← hs, textT_eq]
  rw [show (⟨#[32]⟩ : ByteArray).data.toList = [32] from rfl, splitK_hit 32 3 _ _ (itoa_no (by omega)), splitK_hit 32 2 _ _ (itoa_no (by omega)), splitK_hit 32 1 _ _ (itoa_no (by omega)), splitK_miss 32 1 _ (itoa_no (by omega))]
/-- The number of a word. -/
def av (b : ByteArray) : Int := match Lib.atoiAll b.data.toList with | .ok v => v | _ => 0
theorem av_ok {b : ByteArray} {v : Int} (h : Lib.atoiAll b.data.toList = .ok v) : av b = v := by unfold av; rw [h]
theorem words_nums {a st e r : Int} (hv : validB a st e r = true) (s : ByteArray) (hs : textT a st e r = s.data.toList) : ∃ b0 b1 b2 b3, wordsB s = [b0, b1, b2, b3] ∧ Lib.atoiAll b0.data.toList = .ok a ∧ Lib.atoiAll b1.data.toList = .ok st ∧ Lib.atoiAll b2.data.toList = .ok e ∧ Lib.atoiAll b3.data.toList = .ok r := by
  obtain ⟨v1, v2, v3, v4, v5, v6, _⟩ := validB_bd hv
  have h := wordsB_text hv s hs
  generalize wordsB s = ws at h
  match ws, h with
  | [b0, b1, b2, b3], h =>
    simp only [List.map_cons, List.map_nil, List.cons.injEq, and_true] at h
    obtain ⟨h0, h1, h2, h3⟩ := h
    exact ⟨b0, b1, b2, b3, rfl, by rw [h0]; exact atoi_itoa (by omega) (by omega), by rw [h1]; exact atoi_itoa (by omega) (by omega), by rw [h2]; exact atoi_itoa (by omega) (by omega), by rw [h3]; exact atoi_itoa (by omega) (by omega)⟩
  | [], h => simp at h
  | [_], h => simp at h
  | [_, _], h => simp at h
  | [_, _, _], h => simp at h
  | _ :: _ :: _ :: _ :: _ :: _, h => simp at h
/-- What is read out of a string: the times whose string it is, or the error. -/
def PRes (l : List UInt8) (en : Ending) : Prop :=
  (∃ a st e r, validB a st e r = true ∧ textT a st e r = l ∧ en = .returned (.tuple #[.agg #[.int .i64 a, .int .i64 st, .int .i64 e, .int .i64 r], .int .i64 0])) ∨
  ((∀ a st e r, validB a st e r = true → textT a st e r ≠ l) ∧ en = .returned (.tuple #[.agg #[.int .i64 0, .int .i64 0, .int .i64 0, .int .i64 0], .int .i64 6]))
theorem textT_inj {a st e r a' st' e' r' : Int} (hv : validB a st e r = true) (hv' : validB a' st' e' r' = true) (h : textT a st e r = textT a' st' e' r') : a = a' ∧ st = st' ∧ e = e' ∧ r = r' := by
  obtain ⟨b0, b1, b2, b3, hb, h0, h1, h2, h3⟩ := words_nums hv ⟨(textT a st e r).toArray⟩ (by simp)
  obtain ⟨c0, c1, c2, c3, hc, k0, k1, k2, k3⟩ := words_nums hv' ⟨(textT a st e r).toArray⟩ (by simp [h])
  rw [hb] at hc
  simp only [List.cons.injEq, and_true] at hc
  obtain ⟨rfl, rfl, rfl, rfl⟩ := hc
  rw [h0] at k0; rw [h1] at k1; rw [h2] at k2; rw [h3] at k3
  injection k0; injection k1; injection k2; injection k3
  exact ⟨‹_›, ‹_›, ‹_›, ‹_›⟩
theorem PRes.uniq {l : List UInt8} {e e' : Ending} (h : PRes l e) (h' : PRes l e') : e = e' := by
  rcases h with ⟨a, s, x, r, hv, ht, rfl⟩ | ⟨hn, rfl⟩
  · rcases h' with ⟨a', s', x', r', hv', ht', rfl⟩ | ⟨hn', rfl⟩
    · obtain ⟨rfl, rfl, rfl, rfl⟩ := textT_inj hv hv' (ht.trans ht'.symm)
      rfl
    · exact absurd ht (hn' _ _ _ _ hv)
  · rcases h' with ⟨a', s', x', r', hv', ht', rfl⟩ | ⟨hn', rfl⟩
    · exact absurd ht' (hn _ _ _ _ hv')
    · rfl

/-! What the library's functions read. -/
def MaxL (w : World) : Prop := ∀ g, Tryz.prog.globalNamed "internal/bytealg.MaxLen" = some g → ∃ m, w.cell? ⟨g, 0, none⟩ = some (.int .i64 m)
theorem MaxL.ext {w w' : World} (h : MaxL w) (hx : Ext w w') : MaxL w' := fun g hg => let ⟨m, hm⟩ := h g hg; ⟨m, hx.cell hm⟩
def IfVar (n : String) (w : World) : Prop := ∃ tp p, w.var? Tryz.prog n = some #[.iface tp p]
theorem IfVar.ext {n : String} {w w' : World} (h : IfVar n w) (hx : Ext w w') : IfVar n w' := by
  obtain ⟨tp, p, h⟩ := h
  refine ⟨tp, p, ?_⟩
  unfold World.var? at h
  cases hg : Tryz.prog.globalNamed n with
  | none => rw [hg] at h; simp at h
  | some g =>
    have h' : w.var? Tryz.prog n = some #[.iface tp p] := by unfold World.var?; exact h
    rw [hg] at h
    simp only [Option.bind_some] at h
    have hlt : g < w.heap.size := by
      by_cases hh : g < w.heap.size
      · exact hh
      · rw [Array.getElem?_eq_none (by omega)] at h
        cases h
    exact var?_below hx hg hlt h'
structure Env (w : World) : Prop where
  pow : Pow w
  maxl : MaxL w
  syn : IfVar "strconv.ErrSyntax" w
  rng : IfVar "strconv.ErrRange" w
theorem Env.ext {w w' : World} (h : Env w) (hx : Ext w w') : Env w' := ⟨h.pow.ext hx, h.maxl.ext hx, h.syn.ext hx, h.rng.ext hx⟩

theorem SplitN_at (s : ByteArray) (hs : s.size ≤ 1000) (w : World) (hm : MaxL w) :
    Calls Tryz.prog 77 #[.string s, .string ⟨#[32]⟩, .int .i64 5] w fun e w' => ∃ n cap cs, e = .returned (.slice (some ⟨w.heap.size, 0, none⟩) n cap) ∧ n = (wordsB s).length ∧ w' = w.alloc (.cells cs 9) ∧ ∀ (j : Nat) b, (wordsB s)[j]? = some b → cs[j]? = some (.string b) := by
  obtain ⟨m, hm⟩ := hm 0 (by kernel_rfl)
  refine (Tryz.strings_SplitN s ⟨#[32]⟩ 5 m w (by omega) hm (by decide) (by omega) (by omega)).mono ?_
  rintro e w' ⟨rfl, rfl⟩
  refine ⟨_, _, _, rfl, rfl, rfl, fun j b hb => ?_⟩
  have hlt := (List.getElem?_eq_some_iff.1 hb).1
  unfold wordsB at hb hlt
  unfold Lib.cellsOf
  rw [List.getElem?_toArray, List.getElem?_append_left (by simpa using hlt), List.getElem?_map, hb]
  rfl
theorem ext_bytesWorld (w : World) (e : TypeId) (s : ByteArray) : Ext w (Lib.bytesWorld w e s) :=
  ⟨rfl, rfl, rfl, by rw [Lib.bytesWorld_size]; omega, fun k hk => Lib.bytesWorld_at_old w e s k (by omega)⟩
end Go.Proofs.YthpfomjibfbiiaaGreatDoor
