/- Texts laid together (wip/tools/automerge.py): LtPure, Lt1, Lt2, Str, Rd, Lt3. -/
import Derived.Lib.Hide
import Derived.Test.YthpfomjibfbiiaaGreatDoorProg
import Derived.Test.YthpfomjibfbiiaaGreatDoorMg0
import Derived.WalkLawsBesides
import Derived.WalkSpells
import Derived.Deep.LoopGhost
import Derived.StillTailTactics
import Derived.BigQuiet
import Derived.Laws.IdiomStrings
import Derived.OpenShut
import Derived.Deep.RegionHeld
namespace Go.Proofs.YthpfomjibfbiiaaGreatDoor

/-- The greatest time. -/
def MT : Int := 1099511627776
def momB (v : Int) : Bool := decide (0 ≤ v ∧ v ≤ 1099511627776)
def skwB (v : Int) : Bool := decide (0 ≤ v ∧ v ≤ 86400)
def limB (l r : Int) : Bool := decide (1 ≤ l ∧ l ≤ 2147483648 ∧ 0 ≤ r ∧ r ≤ 2147483648)
def wshB (f t r : Int) : Bool := decide ((0 ≤ f ∧ f ≤ 1099511627776) ∧ (0 ≤ t ∧ t ≤ 1099511627776) ∧ 0 ≤ r ∧ r ≤ 1099511627776)
def validB (a s e r : Int) : Bool := decide (0 ≤ a ∧ a ≤ s ∧ s < e ∧ e ≤ 1099511627776 ∧ (r = 0 ∨ e ≤ r ∧ r ≤ 1099511627776))
/-- A range. -/
def wiB (v a b : Int) : Bool := decide (a ≤ v ∧ v ≤ b)
def leftF (a s e r now : Int) : Int := if validB a s e r = true ∧ momB now = true then max 0 (e - now) else 0
def nearB (a b skew : Int) : Bool := momB a && momB b && skwB skew && wiB (a - b) (-skew) skew
def usableF (a s e r now skew : Int) : Int := if validB a s e r = true ∧ momB now = true ∧ skwB skew = true then (if now < s - skew then 140 else if e + skew < now then 141 else 0) else 2
def renewableB (a s e r now skew : Int) : Bool := decide (usableF a s e r now skew = 0 ∧ r ≠ 0 ∧ now ≤ r + skew)
/-- The times that the rules give: auth, start, end, renewed until, error. -/
def freshF (auth start till wish life renew last longest : Int) : Int × Int × Int × Int × Int :=
  let e1 := min (min (start + life) 1099511627776) last
  let e := if till = 0 then e1 else min e1 till
  if e ≤ start then (0, 0, 0, 0, 143) else
    let r := if wish = 0 ∨ renew = 0 ∨ longest = 0 then 0 else (let q := min (min (min wish (start + renew)) 1099511627776) longest; if q < e then 0 else q)
    (auth, start, e, r, 0)
def initF (f t r life renew now skew : Int) : Int × Int × Int × Int × Int :=
  if wshB f t r = true ∧ limB life renew = true ∧ momB now = true ∧ skwB skew = true then
    freshF now (if now + skew < f then f else now) t r life renew 1099511627776 1099511627776
  else (0, 0, 0, 0, 2)
def deriveF (ba bs be br f t r life renew now skew : Int) : Int × Int × Int × Int × Int :=
  if wshB f t r = true ∧ limB life renew = true then
    if usableF ba bs be br now skew = 0 then freshF ba (if now + skew < f then f else max now ba) t r life renew be br
    else (0, 0, 0, 0, usableF ba bs be br now skew)
  else (0, 0, 0, 0, 2)
def renewF (a s e r now skew : Int) : Int × Int × Int × Int × Int :=
  if usableF a s e r now skew = 0 then
    if renewableB a s e r now skew = true then
      let st := max now a
      let en := min (st + e - s) r
      if en ≤ st then (0, 0, 0, 0, 143) else (a, st, en, r, 0)
    else (0, 0, 0, 0, 142)
  else (0, 0, 0, 0, usableF a s e r now skew)
theorem momB_bd {v : Int} (h : momB v = true) : 0 ≤ v ∧ v ≤ 1099511627776 := by simpa [momB] using h
theorem skwB_bd {v : Int} (h : skwB v = true) : 0 ≤ v ∧ v ≤ 86400 := by simpa [skwB] using h
theorem limB_bd {l r : Int} (h : limB l r = true) : 1 ≤ l ∧ l ≤ 2147483648 ∧ 0 ≤ r ∧ r ≤ 2147483648 := by simpa [limB] using h
theorem wshB_bd {f t r : Int} (h : wshB f t r = true) : (0 ≤ f ∧ f ≤ 1099511627776) ∧ (0 ≤ t ∧ t ≤ 1099511627776) ∧ 0 ≤ r ∧ r ≤ 1099511627776 := by simpa [wshB] using h
theorem validB_bd {a s e r : Int} (h : validB a s e r = true) : 0 ≤ a ∧ a ≤ s ∧ s < e ∧ e ≤ 1099511627776 ∧ 0 ≤ r ∧ r ≤ 1099511627776 ∧ (r = 0 ∨ e ≤ r) := by
  unfold validB at h
  simp only [decide_eq_true_eq] at h
  omega
theorem usableF_cases (a s e r now skew : Int) : usableF a s e r now skew = 2 ∨ (usableF a s e r now skew = 140 ∨ usableF a s e r now skew = 141 ∨ usableF a s e r now skew = 0) ∧ (validB a s e r = true ∧ momB now = true ∧ skwB skew = true) := by
  unfold usableF
  by_cases h : validB a s e r = true ∧ momB now = true ∧ skwB skew = true
  · rw [if_pos h]
    right
    refine ⟨?_, h⟩
    split
    · exact .inl rfl
    · split
      · exact .inr (.inl rfl)
      · exact .inr (.inr rfl)
  · rw [if_neg h]; exact .inl rfl
end Go.Proofs.YthpfomjibfbiiaaGreatDoor
namespace Go.Proofs.YthpfomjibfbiiaaGreatDoor
open Go Go.RowKit

/-- Reads and quiet calls before a tail: the draw under its own name. -/
theorem still_tail {P : Program} {id : Nat} {Q : Exit → Act → World → Prop} {a : Act} {w : World} {l : List Oper} (n : Nat) (hm : P.follows .mixedOrders = true) (hB : Region.lexTailB .any l.toArray n = true)
    (h : wpStill P l.toArray w.drew (fun a' => wpList P l.toArray Q (l.drop n) a' w.drew) (l.take n) a) : (Code.region id l.toArray true).wp P Q a w := wp_region_still_tail n hm hB h

/-- Bools as values. -/
def blv (bs : List Bool) : List Value := bs.map Value.bool
theorem blv_length (bs : List Bool) : (blv bs).length = bs.length := by simp [blv]
theorem blv_get (bs : List Bool) (j : Nat) (h : j < bs.length) : (blv bs)[j]? = some (.bool bs[j]) := by simp [blv, h]

end Go.Proofs.YthpfomjibfbiiaaGreatDoor
namespace Go.Proofs.YthpfomjibfbiiaaGreatDoor
open Go Go.RowKit

end Go.Proofs.YthpfomjibfbiiaaGreatDoor
namespace Go.Proofs.YthpfomjibfbiiaaGreatDoor
open Go Go.RowKit

/-- A literal row of bytes is owned. -/
theorem OB.lit (w : World) (e : TypeId) (B : Nat) (xs : List Value) (l : List UInt8) (h : xs = bv l) (n : Nat) (hn : n = l.length) (hl : l.length ≤ maxLen) (hB : B ≤ w.heap.size) {z : Nat} (hk : z = w.heap.size := by first | rfl | simp) :
    OB e (w.alloc (.cells xs.toArray e)) B (.slice (some ⟨z, 0, none⟩) n n) l := by
  subst h; subst hn; subst hk
  exact ⟨by simp, .inr ⟨w.heap.size, l.length, (bv l).toArray, rfl, hB, heap_alloc_new w _, Nat.le_refl _, hl, by simp, by
    simp only [Nat.mul_one]
    exact List.take_of_length_le (by simp)⟩⟩

section
variable {P : Program}
/-- 'string(b)'. -/
theorem run_str (w : World) (src dst e : TypeId) (v : Value) (l : List UInt8) (hs : P.underlying src = some (.slice e)) (he : P.underlying e = some (.int .u8)) (hd : P.underlying dst = some .string)
    (h : BS w v l) : (convert src dst v).run P w = .ok (.string ⟨l.toArray⟩) w := by
  obtain ⟨A, c, rfl, _, _, hc⟩ := h.open_
  rcases A with _ | ad
  · have hl : l = [] := by
      rcases Nat.eq_zero_or_pos l.length with h0 | h0
      · exact List.eq_nil_of_length_eq_zero h0
      · obtain ⟨ad, ha, _⟩ := hc h0; cases ha
    subst hl
    rw [run_convert_bytes_string w src dst e none _ c hs he hd]
    simp only [Conv.bytesToString, Sem.run_pure]
    rfl
  · refine run_convert_bytes_back w src dst e ad c l hs he hd (fun j hj => ?_)
    obtain ⟨ad', ha, _, hc'⟩ := hc (by omega)
    injection ha with ha
    subst ha
    exact hc' j hj

theorem BS.bytesRow (w : World) (l : List UInt8) (cap : Nat) (e : TypeId) (fr : Nat × Nat) (hl : l.length ≤ cap) (hm : cap ≤ maxLen) :
    BS (w.alloc (.cells (bytesRow ⟨l.toArray⟩ cap) e fr)) (.slice (some ⟨w.heap.size, 0, none⟩) l.length cap) l := by
  refine ⟨some ⟨w.heap.size, 0, none⟩, cap, by simp, by simpa using hl, hm, fun _ => ⟨⟨w.heap.size, 0, none⟩, rfl, by simp, fun j u hu => ?_⟩⟩
  have hadd : (⟨w.heap.size, 0, none⟩ : Addr).add j = ⟨w.heap.size, j, none⟩ := by unfold Addr.add; split <;> simp_all
  have hj : j < l.length := by
    have := (List.getElem?_eq_some_iff.1 hu).1
    simpa using this
  rw [hadd, World.cell?_alloc_mark, bytesRow_at _ _ _ (by simpa using hj)]
  rw [bv_get l j hj] at hu
  rw [← hu]
  simp

/-- '[]byte(s)'. -/
theorem run_bytes (w : World) (src dst e : TypeId) (l : List UInt8) (hs : P.underlying src = some .string) (hd : P.underlying dst = some (.slice e)) (he : P.underlying e = some (.int .u8)) (hl : l.length ≤ maxLen) :
    ∃ c w', (convert src dst (.string ⟨l.toArray⟩)).run P w = .ok (.slice (some ⟨w.heap.size, 0, none⟩) l.length c) w' ∧ BS w' (.slice (some ⟨w.heap.size, 0, none⟩) l.length c) l ∧ Ext w w' ∧ w'.heap.size = w.heap.size + 1 := by
  have hsz : (⟨l.toArray⟩ : ByteArray).size = l.length := by simp [ByteArray.size]
  have hr := run_bytes_of_string (P := P) w src dst e ⟨l.toArray⟩ hs hd he
  rw [hsz] at hr
  refine ⟨_, _, hr, BS.bytesRow w.drew l _ e _ (grownCap_ge w _ _ _) (grownCap_le_maxLen w _ _ _ hl), ((Ext.refl w).drew').alloc _, by simp⟩

theorem wpList_bytes (w : World) {ops : Array Oper} {rest : List Oper} {o : Oper} {a : Act} {Q : Exit → Act → World → Prop} (hgd : o.guard = none) (x : Operand) (src dst e : TypeId) (ho : o.op = .convert src dst x)
    (hs : P.underlying src = some .string) (hd : P.underlying dst = some (.slice e)) (he : P.underlying e = some (.int .u8)) (l : List UInt8) (hx : a.eval x = .string ⟨l.toArray⟩) (hl : l.length ≤ maxLen)
    (h : ∀ c w', BS w' (.slice (some ⟨w.heap.size, 0, none⟩) l.length c) l → Ext w w' → w'.heap.size = w.heap.size + 1 → wpList P ops Q rest (a.put o.dst (.slice (some ⟨w.heap.size, 0, none⟩) l.length c)) w') : wpList P ops Q (o :: rest) a w := by
  refine wpList_plain hgd fun K hK => ?_
  obtain ⟨c, w', hrun, h1, h2, h3⟩ := run_bytes (P := P) w src dst e l hs hd he hl
  unfold Oper.wp execOp
  simp only [ho, Sem.run_bind, hx, hrun, Result.andThen_ok, Sem.run_pure]
  exact hK _ _ (h c w' h1 h2 h3)
theorem wpList_str (w : World) {ops : Array Oper} {rest : List Oper} {o : Oper} {a : Act} {Q : Exit → Act → World → Prop} (hgd : o.guard = none) (x : Operand) (src dst e : TypeId) (ho : o.op = .convert src dst x)
    (hs : P.underlying src = some (.slice e)) (he : P.underlying e = some (.int .u8)) (hd : P.underlying dst = some .string) (v : Value) (l : List UInt8) (hx : a.eval x = v) (hl : BS w v l)
    (h : wpList P ops Q rest (a.put o.dst (.string ⟨l.toArray⟩)) w) : wpList P ops Q (o :: rest) a w := by
  refine wpList_plain hgd fun K hK => ?_
  unfold Oper.wp execOp
  simp only [ho, Sem.run_bind, hx, run_str w src dst e v l hs he hd hl, Result.andThen_ok, Sem.run_pure]
  exact hK _ _ h
end
end Go.Proofs.YthpfomjibfbiiaaGreatDoor
namespace Go.Proofs.YthpfomjibfbiiaaGreatDoor
open Go Go.RowKit

/-- Block g holds no byte. -/
def NoU8 (w : World) (g : Nat) : Prop := ∀ p : Addr, p.block = g → ∀ n, w.cell? p ≠ some (.int .u8 n)

theorem grown_refl (w : World) (g : Option Nat) : w.grownBy w g := World.grownBy.refl w g
theorem grown_trans {a b c : World} {g : Option Nat} (h : a.grownBy b g) (k : b.grownBy c g) : a.grownBy c g := World.grownBy.trans h k
theorem Ext.but {w w' : World} (h : Ext w w') (g : Option Nat) : w.grownBy w' g := ⟨h.os, h.tape, h.output, h.size, fun k hk _ => h.block k hk⟩
theorem grown_set {w w' : World} {g : Nat} (h : w.grownBy w' (some g)) (i : Nat) (u : Value) : w.grownBy (w'.setCell ⟨g, i, none⟩ u) (some g) :=
  ⟨h.os, h.tape, h.output, by simpa [World.setCell] using h.size, fun k hk hne => (Below.heap_setCell w' ⟨g, i, none⟩ u k (fun e => hne (by rw [e]))).trans (h.block k hk hne)⟩
theorem grown_ext {w w1 w' : World} {g : Option Nat} (h : w.grownBy w1 g) (k : Ext w1 w') : w.grownBy w' g := grown_trans h (k.but g)
/-- The block lies behind what was there: nothing that was there has turned. -/
theorem Ext.of_grown {w0 w w' : World} {g : Nat} (hx : Ext w0 w) (h : w.grownBy w' (some g)) (hg : w0.heap.size ≤ g) : Ext w0 w' := hx.grown h (fun k hk => by cases hk; exact hg)

theorem BS.but {w w' : World} {v : Value} {l : List UInt8} {g : Nat} (h : BS w v l) (hn : NoU8 w g) (hb : w.grownBy w' (some g)) : BS w' v l := by
  obtain ⟨A, c, hv, h1, h2, h3⟩ := h
  refine ⟨A, c, hv, h1, h2, fun hp => ?_⟩
  obtain ⟨ad, ha, hbl, hc⟩ := h3 hp
  have hne : ad.block ≠ g := by
    intro e
    have h0 := hc 0 _ (List.getElem?_eq_getElem hp)
    have hu : (bv l)[0] ∈ bv l := List.getElem_mem _
    simp only [bv, List.mem_map] at hu
    obtain ⟨b, _, hb'⟩ := hu
    rw [show (bv l)[0] = .int .u8 (b.toNat : Int) from hb'.symm] at h0
    exact hn (ad.add 0) (by rw [block_of_add]; exact e) _ h0
  refine ⟨ad, ha, Nat.lt_of_lt_of_le hbl hb.size, fun j u hu => ?_⟩
  exact (World.cell?_of_block (hb.block _ (by rw [block_of_add]; exact hbl) (by rw [block_of_add]; intro e; exact hne (by injection e)))).trans (hc j u hu)

/-- Block g is a reader of the bytes l, at k. -/
def RD (T : TypeId) (w : World) (g : Nat) (l : List UInt8) (k : Nat) : Prop :=
  k ≤ l.length ∧ ∃ A c, w.heap[g]? = some (.cells #[.slice A l.length c, .int .i64 (k : Int), .bool true] T (0, 0)) ∧ BS w (.slice A l.length c) l
theorem RD.noU8 {T : TypeId} {w : World} {g : Nat} {l : List UInt8} {k : Nat} (h : RD T w g l k) : NoU8 w g := by
  obtain ⟨_, A, c, hg, _⟩ := h
  intro p hp n hc
  unfold World.cell? at hc
  rw [hp, hg] at hc
  simp only at hc
  split at hc
  · cases hc
  · obtain ⟨hlt, he⟩ := Array.getElem?_eq_some_iff.1 hc
    have h3 : p.off = 0 ∨ p.off = 1 ∨ p.off = 2 := by simp at hlt; omega
    rcases h3 with h | h | h <;> simp [h] at he
theorem RD.cells {T : TypeId} {w : World} {g : Nat} {l : List UInt8} {k : Nat} (h : RD T w g l k) :
    ∃ A c, BS w (.slice A l.length c) l ∧ w.cell? ⟨g, 0, none⟩ = some (.slice A l.length c) ∧ w.cell? ⟨g, 1, none⟩ = some (.int .i64 (k : Int)) ∧ w.cell? ⟨g, 2, none⟩ = some (.bool true) ∧ w.frozen? ⟨g, 1, none⟩ = false := by
  obtain ⟨_, A, c, hg, hb⟩ := h
  exact ⟨A, c, hb, by rw [cell_of_row w g 0 _ T (0, 0) hg]; rfl, by rw [cell_of_row w g 1 _ T (0, 0) hg]; rfl, by rw [cell_of_row w g 2 _ T (0, 0) hg]; rfl, frozen_of_row w g 1 _ T hg⟩
theorem RD.lt {T : TypeId} {w : World} {g : Nat} {l : List UInt8} {k : Nat} (h : RD T w g l k) : g < w.heap.size := by
  obtain ⟨_, A, c, hg, _⟩ := h
  exact (Array.getElem?_eq_some_iff.1 hg).1
theorem RD.le {T : TypeId} {w : World} {g : Nat} {l : List UInt8} {k : Nat} (h : RD T w g l k) : k ≤ l.length := h.1
theorem RD.ext {T : TypeId} {w w' : World} {g : Nat} {l : List UInt8} {k : Nat} (h : RD T w g l k) (hx : Ext w w') : RD T w' g l k := by
  obtain ⟨h1, A, c, hg, hb⟩ := h
  exact ⟨h1, A, c, hx.heap hg, hb.ext hx⟩
/-- The offset is moved. -/
theorem RD.moved {T : TypeId} {w : World} {g : Nat} {l : List UInt8} {k : Nat} (h : RD T w g l k) (j : Nat) (hj : j ≤ l.length) (x : Int) (hx : x = (j : Int)) : RD T (w.setCell ⟨g, 1, none⟩ (.int .i64 x)) g l j := by
  subst hx
  have hn := h.noU8
  obtain ⟨_, A, c, hg, hb⟩ := h
  refine ⟨hj, A, c, ?_, hb.but hn (grown_set (grown_refl w _) 1 _)⟩
  rw [heap_setCell_same w g 1 _ T _ hg]
  rfl
/-- Another reader's block, while block g' is written. -/
theorem RD.but {T T' : TypeId} {w w' : World} {g g' : Nat} {l m : List UInt8} {k k' : Nat} (h : RD T w g l k) (h' : RD T' w g' m k') (hne : g ≠ g') (hb : w.grownBy w' (some g')) : RD T w' g l k := by
  obtain ⟨h1, A, c, hg, hbs⟩ := h
  exact ⟨h1, A, c, (hb.block g (Array.getElem?_eq_some_iff.1 hg).1 (by intro e; exact hne (by injection e))).trans hg, hbs.but h'.noU8 hb⟩
/-- A new reader. -/
theorem RD.new (T : TypeId) (w : World) (A : Option Addr) (c : Nat) (l : List UInt8) (h : BS w (.slice A l.length c) l) : RD T (w.alloc (.cells #[.slice A l.length c, .int .i64 0, .bool true] T)) w.heap.size l 0 :=
  ⟨Nat.zero_le _, A, c, heap_alloc_new w _, h.ext ((Ext.refl w).alloc _)⟩

section
variable {P : Program}
/-- 'b[lo:hi:hi]', at every later world. -/
theorem run_slice3 (w : World) (t : TypeId) (A : Option Addr) (c : Nat) (l : List UInt8) (lo hi : Nat) (m : List UInt8) (hm : (l.take hi).drop lo = m) (h1 : lo ≤ hi) (h2 : hi ≤ l.length) (ht : P.underlying t = some (.slice (P.elem t))) (_h1c : P.cellsOf (P.elem t) = 1) (hs : ∃ i, P.info? (P.elem t) = some i ∧ i.size = 1)
    (h : BS w (.slice A l.length c) l) :
    ∃ A' c', BS w (.slice A' m.length c') m ∧ ∀ w' : World, (Instr.slice t (.slice A l.length c) (some (.int .i64 (lo : Int))) (some (.int .i64 (hi : Int))) (some (.int .i64 (hi : Int)))).run P w' = .ok (.slice A' m.length c') w' := by
  obtain ⟨i, hi0, hi1⟩ := hs
  obtain ⟨A0, c0, he, k1, k2, k3⟩ := h.open_
  injection he with e1 e2 e3
  subst e1; subst e3
  have hml : m.length = hi - lo := by subst hm; simp; omega
  refine ⟨if hi = lo then A else A.map (·.add (lo * 1)), hi - lo, ?_, fun w' => ?_⟩
  · refine ⟨if hi = lo then A else A.map (·.add (lo * 1)), hi - lo, by simp, by simp [hml], by unfold maxLen at *; omega, fun hp => ?_⟩
    simp only [bv_length, hml] at hp
    rw [if_neg (by omega)]
    obtain ⟨ad, rfl, hb, hc⟩ := k3 (by omega)
    refine ⟨ad.add (lo * 1), rfl, by rw [block_of_add]; exact hb, fun j u hu => ?_⟩
    have hj : j < m.length := by
      have := (List.getElem?_eq_some_iff.1 hu).1
      simpa using this
    rw [add_of_add, Nat.mul_one, hc (lo + j) (by omega)]
    rw [bv_get m j hj] at hu
    rw [← hu]
    subst hm
    simp
  · rw [run_slice_lhm w' t A l.length c ht .i64 .i64 .i64 lo hi hi (by omega) (by omega) (by omega) (by omega)]
    simp [sizeOf, typeInfo, hi0, hi1, sliced, hml]
/-- 'b[lo:]'. -/
theorem run_slice1 (w : World) (t : TypeId) (A : Option Addr) (c : Nat) (l : List UInt8) (lo : Nat) (m : List UInt8) (hm : l.drop lo = m) (h1 : lo ≤ l.length) (ht : P.underlying t = some (.slice (P.elem t))) (hs : ∃ i, P.info? (P.elem t) = some i ∧ i.size = 1)
    (h : BS w (.slice A l.length c) l) :
    ∃ A' c', BS w (.slice A' m.length c') m ∧ ∀ w' : World, (Instr.slice t (.slice A l.length c) (some (.int .i64 (lo : Int))) none none).run P w' = .ok (.slice A' m.length c') w' := by
  obtain ⟨i, hi0, hi1⟩ := hs
  obtain ⟨A0, c0, he, k1, k2, k3⟩ := h.open_
  injection he with e1 e2 e3
  subst e1; subst e3
  have hml : m.length = l.length - lo := by subst hm; simp
  refine ⟨if c = lo then A else A.map (·.add (lo * 1)), c - lo, ?_, fun w' => ?_⟩
  · refine ⟨if c = lo then A else A.map (·.add (lo * 1)), c - lo, by simp, by simp [hml]; omega, by unfold maxLen at *; omega, fun hp => ?_⟩
    simp only [bv_length, hml] at hp
    rw [if_neg (by omega)]
    obtain ⟨ad, rfl, hb, hc⟩ := k3 (by omega)
    refine ⟨ad.add (lo * 1), rfl, by rw [block_of_add]; exact hb, fun j u hu => ?_⟩
    have hj : j < m.length := by
      have := (List.getElem?_eq_some_iff.1 hu).1
      simpa using this
    rw [add_of_add, Nat.mul_one, hc (lo + j) (by omega)]
    rw [bv_get m j hj] at hu
    rw [← hu]
    subst hm
    simp
  · rw [run_slice_l w' t A l.length c ht .i64 lo (by omega) (by omega)]
    simp [sizeOf, typeInfo, hi0, hi1, sliced, hml]
/-- 'b[:hi]'. -/
theorem run_slice2 (w : World) (t : TypeId) (A : Option Addr) (c : Nat) (l : List UInt8) (hi : Nat) (m : List UInt8) (hm : l.take hi = m) (h1 : hi ≤ l.length) (ht : P.underlying t = some (.slice (P.elem t))) (hs : ∃ i, P.info? (P.elem t) = some i ∧ i.size = 1)
    (h : BS w (.slice A l.length c) l) :
    ∃ A' c', BS w (.slice A' m.length c') m ∧ ∀ w' : World, (Instr.slice t (.slice A l.length c) none (some (.int .i64 (hi : Int))) none).run P w' = .ok (.slice A' m.length c') w' := by
  obtain ⟨i, hi0, hi1⟩ := hs
  obtain ⟨A0, c0, he, k1, k2, k3⟩ := h.open_
  injection he with e1 e2 e3
  subst e1; subst e3
  have hml : m.length = hi := by subst hm; simp; omega
  refine ⟨if c = 0 then A else A.map (·.add (0 * 1)), c, ?_, fun w' => ?_⟩
  · refine ⟨if c = 0 then A else A.map (·.add (0 * 1)), c, by simp, by simp [hml]; omega, k2, fun hp => ?_⟩
    simp only [bv_length, hml] at hp
    rw [if_neg (by omega)]
    obtain ⟨ad, rfl, hb, hc⟩ := k3 (by omega)
    refine ⟨ad.add (0 * 1), rfl, by rw [block_of_add]; exact hb, fun j u hu => ?_⟩
    have hj : j < m.length := by
      have := (List.getElem?_eq_some_iff.1 hu).1
      simpa using this
    rw [add_of_add, Nat.zero_mul, Nat.zero_add, hc j (by omega)]
    rw [bv_get m j hj] at hu
    rw [← hu]
    subst hm
    simp
  · rw [run_slice_h w' t A l.length c ht .i64 hi (by omega) (by omega)]
    simp [sizeOf, typeInfo, hi0, hi1, sliced, hml]
/-- 'b[lo:hi]'. -/
theorem run_slice12 (w : World) (t : TypeId) (A : Option Addr) (c : Nat) (l : List UInt8) (lo hi : Nat) (m : List UInt8) (hm : (l.take hi).drop lo = m) (h0 : lo ≤ hi) (h1 : hi ≤ l.length) (ht : P.underlying t = some (.slice (P.elem t))) (hs : ∃ i, P.info? (P.elem t) = some i ∧ i.size = 1)
    (h : BS w (.slice A l.length c) l) :
    ∃ A' c', BS w (.slice A' m.length c') m ∧ ∀ w' : World, (Instr.slice t (.slice A l.length c) (some (.int .i64 (lo : Int))) (some (.int .i64 (hi : Int))) none).run P w' = .ok (.slice A' m.length c') w' := by
  obtain ⟨i, hi0, hi1⟩ := hs
  obtain ⟨A0, c0, he, k1, k2, k3⟩ := h.open_
  injection he with e1 e2 e3
  subst e1; subst e3
  have hml : m.length = hi - lo := by subst hm; simp; omega
  refine ⟨if c = lo then A else A.map (·.add (lo * 1)), c - lo, ?_, fun w' => ?_⟩
  · refine ⟨if c = lo then A else A.map (·.add (lo * 1)), c - lo, by simp, by simp [hml]; omega, by unfold maxLen at *; omega, fun hp => ?_⟩
    simp only [bv_length, hml] at hp
    rw [if_neg (by omega)]
    obtain ⟨ad, rfl, hb, hc⟩ := k3 (by omega)
    refine ⟨ad.add (lo * 1), rfl, by rw [block_of_add]; exact hb, fun j u hu => ?_⟩
    have hj : j < m.length := by
      have := (List.getElem?_eq_some_iff.1 hu).1
      simpa using this
    rw [add_of_add, Nat.mul_one, hc (lo + j) (by omega)]
    rw [bv_get m j hj] at hu
    rw [← hu]
    subst hm
    simp
  · rw [run_slice_lh w' t A l.length c ht .i64 .i64 lo hi (by omega) (by omega) (by omega)]
    simp [sizeOf, typeInfo, hi0, hi1, sliced, hml]
end
end Go.Proofs.YthpfomjibfbiiaaGreatDoor
namespace Go.Proofs.YthpfomjibfbiiaaGreatDoor
open Go Go.RowKit
set_option linter.unusedVariables false

section
variable {w w' : World} {T R : Nat} {a s e r f t n l m now skew : Int} {B : Option Addr}
end

def bp (B : Option Nat) : Option Addr := B.map fun b => ⟨b, 0, none⟩

theorem cell_apart {w : World} {T R : Nat} (hne : R ≠ T) (i k : Nat) (u v : Value) (h : w.cell? ⟨R, k, none⟩ = some v) : (w.setCell ⟨T, i, none⟩ u).cell? ⟨R, k, none⟩ = some v := by
  rw [World.cell?_setCell_far _ _ _ _ (fun h => hne h.symm)]; exact h

/-- The end: the rule without a base. -/
def endF (s l t : Int) : Int := if t = 0 then min (s + l) 1099511627776 else min (min (s + l) 1099511627776) t

/-- The renewal: what is written at last. -/
def renF (n m s e q : Int) : Int := if min (min (min n (s + m)) 1099511627776) q < e then 0 else min (min (min n (s + m)) 1099511627776) q

end Go.Proofs.YthpfomjibfbiiaaGreatDoor
