/- A reader in memory; a slice cut; the world but for one block. No program. -/
import Derived.Test.YthpfomjibfbiiaaGreatDoorStr
namespace Go.Proofs.YthpfomjibfbiiaaGreatDoor
open Go Go.RowKit

/-- Block g holds no byte. -/
def NoU8 (w : World) (g : Nat) : Prop := ∀ p : Addr, p.block = g → ∀ n, w.cell? p ≠ some (.int .u8 n)

theorem grown_refl (w : World) (g : Option Nat) : w.grownBy w g := World.grownBy.refl w g
theorem grown_trans {a b c : World} {g : Option Nat} (h : a.grownBy b g) (k : b.grownBy c g) : a.grownBy c g := World.grownBy.trans h k
theorem Ext.but {w w' : World} (h : Ext w w') (g : Option Nat) : w.grownBy w' g := ⟨h.os, h.tape, h.output, h.size, fun k hk _ => h.block k hk⟩
theorem grown_set {w w' : World} {g : Nat} (h : w.grownBy w' (some g)) (i : Nat) (u : Value) : w.grownBy (w'.setCell ⟨g, i, none⟩ u) (some g) :=
  ⟨h.os, h.tape, h.output, by simpa [World.setCell] using h.size, fun k hk hne => (Below.heap_setCell w' ⟨g, i, none⟩ u k (fun e => hne (by rw [e]))).trans (h.block k hk hne)⟩
theorem grown_ext {w w1 w' : World} {g : Option Nat} (h : w.grownBy w1 g) (k : Ext w1 w') : w.grownBy w' g := grown_trans h (k.but g)
/-- The block lies behind what was there: nothing that was there has turned. -/
theorem Ext.of_grown {w0 w w' : World} {g : Nat} (hx : Ext w0 w) (h : w.grownBy w' (some g)) (hg : w0.heap.size ≤ g) : Ext w0 w' := hx.grown h (fun k hk => by cases hk; exact hg)

theorem BS.but {w w' : World} {v : Value} {l : List UInt8} {g : Nat} (h : BS w v l) (hn : NoU8 w g) (hb : w.grownBy w' (some g)) : BS w' v l := by
  obtain ⟨A, c, hv, h1, h2, h3⟩ := h
  refine ⟨A, c, hv, h1, h2, fun hp => ?_⟩
  obtain ⟨ad, ha, hbl, hc⟩ := h3 hp
  have hne : ad.block ≠ g := by
    intro e
    have h0 := hc 0 _ (List.getElem?_eq_getElem hp)
    have hu : (bv l)[0] ∈ bv l := List.getElem_mem _
    simp only [bv, List.mem_map] at hu
    obtain ⟨b, _, hb'⟩ := hu
    rw [show (bv l)[0] = .int .u8 (b.toNat : Int) from hb'.symm] at h0
    exact hn (ad.add 0) (by rw [block_of_add]; exact e) _ h0
  refine ⟨ad, ha, Nat.lt_of_lt_of_le hbl hb.size, fun j u hu => ?_⟩
  exact (World.cell?_of_block (hb.block _ (by rw [block_of_add]; exact hbl) (by rw [block_of_add]; intro e; exact hne (by injection e)))).trans (hc j u hu)

/-- Block g is a reader of the bytes l, at k. -/
def RD (T : TypeId) (w : World) (g : Nat) (l : List UInt8) (k : Nat) : Prop :=
  k ≤ l.length ∧ ∃ A c, w.heap[g]? = some (.cells #[.slice A l.length c, .int .i64 (k : Int), .bool true] T (0, 0)) ∧ BS w (.slice A l.length c) l
theorem RD.noU8 {T : TypeId} {w : World} {g : Nat} {l : List UInt8} {k : Nat} (h : RD T w g l k) : NoU8 w g := by
  obtain ⟨_, A, c, hg, _⟩ := h
  intro p hp n hc
  unfold World.cell? at hc
  rw [hp, hg] at hc
  simp only at hc
  split at hc
  · cases hc
  · obtain ⟨hlt, he⟩ := Array.getElem?_eq_some_iff.1 hc
    have h3 : p.off = 0 ∨ p.off = 1 ∨ p.off = 2 := by simp at hlt; omega
    rcases h3 with h | h | h <;> simp [h] at he
theorem RD.cells {T : TypeId} {w : World} {g : Nat} {l : List UInt8} {k : Nat} (h : RD T w g l k) :
    ∃ A c, BS w (.slice A l.length c) l ∧ w.cell? ⟨g, 0, none⟩ = some (.slice A l.length c) ∧ w.cell? ⟨g, 1, none⟩ = some (.int .i64 (k : Int)) ∧ w.cell? ⟨g, 2, none⟩ = some (.bool true) ∧ w.frozen? ⟨g, 1, none⟩ = false := by
  obtain ⟨_, A, c, hg, hb⟩ := h
  exact ⟨A, c, hb, by rw [cell_of_row w g 0 _ T (0, 0) hg]; rfl, by rw [cell_of_row w g 1 _ T (0, 0) hg]; rfl, by rw [cell_of_row w g 2 _ T (0, 0) hg]; rfl, frozen_of_row w g 1 _ T hg⟩
theorem RD.lt {T : TypeId} {w : World} {g : Nat} {l : List UInt8} {k : Nat} (h : RD T w g l k) : g < w.heap.size := by
  obtain ⟨_, A, c, hg, _⟩ := h
  exact (Array.getElem?_eq_some_iff.1 hg).1
theorem RD.le {T : TypeId} {w : World} {g : Nat} {l : List UInt8} {k : Nat} (h : RD T w g l k) : k ≤ l.length := h.1
theorem RD.ext {T : TypeId} {w w' : World} {g : Nat} {l : List UInt8} {k : Nat} (h : RD T w g l k) (hx : Ext w w') : RD T w' g l k := by
  obtain ⟨h1, A, c, hg, hb⟩ := h
  exact ⟨h1, A, c, hx.heap hg, hb.ext hx⟩
/-- The offset is moved. -/
theorem RD.moved {T : TypeId} {w : World} {g : Nat} {l : List UInt8} {k : Nat} (h : RD T w g l k) (j : Nat) (hj : j ≤ l.length) (x : Int) (hx : x = (j : Int)) : RD T (w.setCell ⟨g, 1, none⟩ (.int .i64 x)) g l j := by
  subst hx
  have hn := h.noU8
  obtain ⟨_, A, c, hg, hb⟩ := h
  refine ⟨hj, A, c, ?_, hb.but hn (grown_set (grown_refl w _) 1 _)⟩
  rw [heap_setCell_same w g 1 _ T _ hg]
  rfl
/-- Another reader's block, while block g' is written. -/
theorem RD.but {T T' : TypeId} {w w' : World} {g g' : Nat} {l m : List UInt8} {k k' : Nat} (h : RD T w g l k) (h' : RD T' w g' m k') (hne : g ≠ g') (hb : w.grownBy w' (some g')) : RD T w' g l k := by
  obtain ⟨h1, A, c, hg, hbs⟩ := h
  exact ⟨h1, A, c, (hb.block g (Array.getElem?_eq_some_iff.1 hg).1 (by intro e; exact hne (by injection e))).trans hg, hbs.but h'.noU8 hb⟩
/-- A new reader. -/
theorem RD.new (T : TypeId) (w : World) (A : Option Addr) (c : Nat) (l : List UInt8) (h : BS w (.slice A l.length c) l) : RD T (w.alloc (.cells #[.slice A l.length c, .int .i64 0, .bool true] T)) w.heap.size l 0 :=
  ⟨Nat.zero_le _, A, c, heap_alloc_new w _, h.ext ((Ext.refl w).alloc _)⟩

section
variable {P : Program}
/-- 'b[lo:hi:hi]', at every later world. -/
theorem run_slice3 (w : World) (t : TypeId) (A : Option Addr) (c : Nat) (l : List UInt8) (lo hi : Nat) (m : List UInt8) (hm : (l.take hi).drop lo = m) (h1 : lo ≤ hi) (h2 : hi ≤ l.length) (ht : P.underlying t = some (.slice (P.elem t))) (_h1c : P.cellsOf (P.elem t) = 1) (hs : ∃ i, P.info? (P.elem t) = some i ∧ i.size = 1)
    (h : BS w (.slice A l.length c) l) :
    ∃ A' c', BS w (.slice A' m.length c') m ∧ ∀ w' : World, (Instr.slice t (.slice A l.length c) (some (.int .i64 (lo : Int))) (some (.int .i64 (hi : Int))) (some (.int .i64 (hi : Int)))).run P w' = .ok (.slice A' m.length c') w' := by
  obtain ⟨i, hi0, hi1⟩ := hs
  obtain ⟨A0, c0, he, k1, k2, k3⟩ := h.open_
  injection he with e1 e2 e3
  subst e1; subst e3
  have hml : m.length = hi - lo := by subst hm; simp; omega
  refine ⟨if hi = lo then A else A.map (·.add (lo * 1)), hi - lo, ?_, fun w' => ?_⟩
  · refine ⟨if hi = lo then A else A.map (·.add (lo * 1)), hi - lo, by simp, by simp [hml], by unfold maxLen at *; omega, fun hp => ?_⟩
    simp only [bv_length, hml] at hp
    rw [if_neg (by omega)]
    obtain ⟨ad, rfl, hb, hc⟩ := k3 (by omega)
    refine ⟨ad.add (lo * 1), rfl, by rw [block_of_add]; exact hb, fun j u hu => ?_⟩
    have hj : j < m.length := by
      have := (List.getElem?_eq_some_iff.1 hu).1
      simpa using this
    rw [add_of_add, Nat.mul_one, hc (lo + j) (by omega)]
    rw [bv_get m j hj] at hu
    rw [← hu]
    subst hm
    simp
  · rw [run_slice_lhm w' t A l.length c ht .i64 .i64 .i64 lo hi hi (by omega) (by omega) (by omega) (by omega)]
    simp [sizeOf, typeInfo, hi0, hi1, sliced, hml]
/-- 'b[lo:]'. -/
theorem run_slice1 (w : World) (t : TypeId) (A : Option Addr) (c : Nat) (l : List UInt8) (lo : Nat) (m : List UInt8) (hm : l.drop lo = m) (h1 : lo ≤ l.length) (ht : P.underlying t = some (.slice (P.elem t))) (hs : ∃ i, P.info? (P.elem t) = some i ∧ i.size = 1)
    (h : BS w (.slice A l.length c) l) :
    ∃ A' c', BS w (.slice A' m.length c') m ∧ ∀ w' : World, (Instr.slice t (.slice A l.length c) (some (.int .i64 (lo : Int))) none none).run P w' = .ok (.slice A' m.length c') w' := by
  obtain ⟨i, hi0, hi1⟩ := hs
  obtain ⟨A0, c0, he, k1, k2, k3⟩ := h.open_
  injection he with e1 e2 e3
  subst e1; subst e3
  have hml : m.length = l.length - lo := by subst hm; simp
  refine ⟨if c = lo then A else A.map (·.add (lo * 1)), c - lo, ?_, fun w' => ?_⟩
  · refine ⟨if c = lo then A else A.map (·.add (lo * 1)), c - lo, by simp, by simp [hml]; omega, by unfold maxLen at *; omega, fun hp => ?_⟩
    simp only [bv_length, hml] at hp
    rw [if_neg (by omega)]
    obtain ⟨ad, rfl, hb, hc⟩ := k3 (by omega)
    refine ⟨ad.add (lo * 1), rfl, by rw [block_of_add]; exact hb, fun j u hu => ?_⟩
    have hj : j < m.length := by
      have := (List.getElem?_eq_some_iff.1 hu).1
      simpa using this
    rw [add_of_add, Nat.mul_one, hc (lo + j) (by omega)]
    rw [bv_get m j hj] at hu
    rw [← hu]
    subst hm
    simp
  · rw [run_slice_l w' t A l.length c ht .i64 lo (by omega) (by omega)]
    simp [sizeOf, typeInfo, hi0, hi1, sliced, hml]
/-- 'b[:hi]'. -/
theorem run_slice2 (w : World) (t : TypeId) (A : Option Addr) (c : Nat) (l : List UInt8) (hi : Nat) (m : List UInt8) (hm : l.take hi = m) (h1 : hi ≤ l.length) (ht : P.underlying t = some (.slice (P.elem t))) (hs : ∃ i, P.info? (P.elem t) = some i ∧ i.size = 1)
    (h : BS w (.slice A l.length c) l) :
    ∃ A' c', BS w (.slice A' m.length c') m ∧ ∀ w' : World, (Instr.slice t (.slice A l.length c) none (some (.int .i64 (hi : Int))) none).run P w' = .ok (.slice A' m.length c') w' := by
  obtain ⟨i, hi0, hi1⟩ := hs
  obtain ⟨A0, c0, he, k1, k2, k3⟩ := h.open_
  injection he with e1 e2 e3
  subst e1; subst e3
  have hml : m.length = hi := by subst hm; simp; omega
  refine ⟨if c = 0 then A else A.map (·.add (0 * 1)), c, ?_, fun w' => ?_⟩
  · refine ⟨if c = 0 then A else A.map (·.add (0 * 1)), c, by simp, by simp [hml]; omega, k2, fun hp => ?_⟩
    simp only [bv_length, hml] at hp
    rw [if_neg (by omega)]
    obtain ⟨ad, rfl, hb, hc⟩ := k3 (by omega)
    refine ⟨ad.add (0 * 1), rfl, by rw [block_of_add]; exact hb, fun j u hu => ?_⟩
    have hj : j < m.length := by
      have := (List.getElem?_eq_some_iff.1 hu).1
      simpa using this
    rw [add_of_add, Nat.zero_mul, Nat.zero_add, hc j (by omega)]
    rw [bv_get m j hj] at hu
    rw [← hu]
    subst hm
    simp
  · rw [run_slice_h w' t A l.length c ht .i64 hi (by omega) (by omega)]
    simp [sizeOf, typeInfo, hi0, hi1, sliced, hml]
/-- 'b[lo:hi]'. -/
theorem run_slice12 (w : World) (t : TypeId) (A : Option Addr) (c : Nat) (l : List UInt8) (lo hi : Nat) (m : List UInt8) (hm : (l.take hi).drop lo = m) (h0 : lo ≤ hi) (h1 : hi ≤ l.length) (ht : P.underlying t = some (.slice (P.elem t))) (hs : ∃ i, P.info? (P.elem t) = some i ∧ i.size = 1)
    (h : BS w (.slice A l.length c) l) :
    ∃ A' c', BS w (.slice A' m.length c') m ∧ ∀ w' : World, (Instr.slice t (.slice A l.length c) (some (.int .i64 (lo : Int))) (some (.int .i64 (hi : Int))) none).run P w' = .ok (.slice A' m.length c') w' := by
  obtain ⟨i, hi0, hi1⟩ := hs
  obtain ⟨A0, c0, he, k1, k2, k3⟩ := h.open_
  injection he with e1 e2 e3
  subst e1; subst e3
  have hml : m.length = hi - lo := by subst hm; simp; omega
  refine ⟨if c = lo then A else A.map (·.add (lo * 1)), c - lo, ?_, fun w' => ?_⟩
  · refine ⟨if c = lo then A else A.map (·.add (lo * 1)), c - lo, by simp, by simp [hml]; omega, by unfold maxLen at *; omega, fun hp => ?_⟩
    simp only [bv_length, hml] at hp
    rw [if_neg (by omega)]
    obtain ⟨ad, rfl, hb, hc⟩ := k3 (by omega)
    refine ⟨ad.add (lo * 1), rfl, by rw [block_of_add]; exact hb, fun j u hu => ?_⟩
    have hj : j < m.length := by
      have := (List.getElem?_eq_some_iff.1 hu).1
      simpa using this
    rw [add_of_add, Nat.mul_one, hc (lo + j) (by omega)]
    rw [bv_get m j hj] at hu
    rw [← hu]
    subst hm
    simp
  · rw [run_slice_lh w' t A l.length c ht .i64 .i64 lo hi (by omega) (by omega) (by omega)]
    simp [sizeOf, typeInfo, hi0, hi1, sliced, hml]
end
end Go.Proofs.YthpfomjibfbiiaaGreatDoor
