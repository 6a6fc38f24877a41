/- Texts laid together (wip/tools/automerge.py): LgM, Nm5. -/
import Derived.Test.YtnjmndofcpnmeaaGreatDoorBa8
import Derived.Test.YtnjmndofcpnmeaaGreatDoorBa10
namespace Go.Proofs.YtnjmndofcpnmeaaGreatDoor
open Go Go.RowKit
set_option linter.unusedVariables false

/-- A fact as it lies in memory. -/
structure FV where
  t : Int
  mi : Int
  kd : Int
  fk : Int
  FA : Option Addr
  fb : List UInt8
  fc : Nat
  CA : Option Addr
  cp : List ByteArray
  cc : Nat
  cr : ByteArray
  SA : Option Addr
  sp : List ByteArray
  sc : Nat
  sr : ByteArray
  co : Int
  pr : Int
  fl : W32
def FV.cs (f : FV) : List Value := [.int .i64 f.t, .int .i64 f.mi, .int .i64 f.kd, .int .i64 f.fk, .slice f.FA f.fb.length f.fc, .slice f.CA f.cp.length f.cc, .string f.cr, .slice f.SA f.sp.length f.sc, .string f.sr, .int .i64 f.co, .int .i64 f.pr, .int .u32 (f.fl.toNat : Int)]
def FV.val (f : FV) : Value := .agg #[.int .i64 f.t, .int .i64 f.mi, .int .i64 f.kd, .int .i64 f.fk, .slice f.FA f.fb.length f.fc, .slice f.CA f.cp.length f.cc, .string f.cr, .slice f.SA f.sp.length f.sc, .string f.sr, .int .i64 f.co, .int .i64 f.pr, .int .u32 (f.fl.toNat : Int)]
/-- What it says. -/
def FV.fct (f : FV) : Fct := ⟨f.t, f.mi, f.kd, f.fk, f.fb, dat f.cp, f.cr.data.toList, dat f.sp, f.sr.data.toList, f.co, f.pr, f.fl⟩
/-- Its memory. -/
structure FV.In (w : World) (f : FV) : Prop where
  fb : BS w (.slice f.FA f.fb.length f.fc) f.fb
  cp : RS w (.slice f.CA f.cp.length f.cc) (sv f.cp)
  sp : RS w (.slice f.SA f.sp.length f.sc) (sv f.sp)
theorem FV.In.ext {w w' : World} {f : FV} (h : f.In w) (hx : Ext w w') : f.In w' := ⟨h.fb.ext hx, h.cp.ext hx, h.sp.ext hx⟩
/-- Its sizes. -/
structure FV.Sz (f : FV) : Prop where
  fb : f.fb.length ≤ 1000
  cp : f.cp.length ≤ 1000
  cps : ∀ p ∈ f.cp, p.size ≤ 1000
  cr : f.cr.size ≤ 1000
  sp : f.sp.length ≤ 1000
  sps : ∀ p ∈ f.sp, p.size ≤ 1000
  sr : f.sr.size ≤ 1000
/-- An int of Go's. -/
def i64B (x : Int) : Prop := -9223372036854775808 ≤ x ∧ x ≤ 9223372036854775807
structure FV.Wf (f : FV) : Prop where
  t : i64B f.t
  mi : i64B f.mi
  kd : i64B f.kd
  fk : i64B f.fk
  co : i64B f.co
  pr : i64B f.pr
/-- A fact in a block of its own. -/
def FBx (w : World) (g : Nat) (f : FV) : Prop := w.heap[g]? = some (.cells #[.int .i64 f.t, .int .i64 f.mi, .int .i64 f.kd, .int .i64 f.fk, .slice f.FA f.fb.length f.fc, .slice f.CA f.cp.length f.cc, .string f.cr, .slice f.SA f.sp.length f.sc, .string f.sr, .int .i64 f.co, .int .i64 f.pr, .int .u32 (f.fl.toNat : Int)] 41 (0, 0))
theorem FBx.new (w : World) (f : FV) : FBx (w.alloc (.cells #[.int .i64 f.t, .int .i64 f.mi, .int .i64 f.kd, .int .i64 f.fk, .slice f.FA f.fb.length f.fc, .slice f.CA f.cp.length f.cc, .string f.cr, .slice f.SA f.sp.length f.sc, .string f.sr, .int .i64 f.co, .int .i64 f.pr, .int .u32 (f.fl.toNat : Int)] 41)) w.heap.size f := heap_alloc_new w _
theorem FBx.ext {w w' : World} {g : Nat} {f : FV} (h : FBx w g f) (hx : Ext w w') : FBx w' g f := hx.heap h
theorem FBx.cells {w : World} {g : Nat} {t mi kd fk : Int} {FA : Option Addr} {fb : List UInt8} {fc : Nat} {CA : Option Addr} {cp : List ByteArray} {cc : Nat} {cr : ByteArray} {SA : Option Addr} {sp : List ByteArray} {sc : Nat} {sr : ByteArray} {co pr : Int} {fl : W32}
    (h : FBx w g ⟨t, mi, kd, fk, FA, fb, fc, CA, cp, cc, cr, SA, sp, sc, sr, co, pr, fl⟩) : w.cell? ⟨g, 0, none⟩ = some (.int .i64 t) ∧ w.cell? ⟨g, 1, none⟩ = some (.int .i64 mi) ∧ w.cell? ⟨g, 2, none⟩ = some (.int .i64 kd) ∧ w.cell? ⟨g, 3, none⟩ = some (.int .i64 fk) ∧ w.cell? ⟨g, 4, none⟩ = some (.slice FA fb.length fc) ∧ w.cell? ⟨g, 5, none⟩ = some (.slice CA cp.length cc) ∧ w.cell? ⟨g, 6, none⟩ = some (.string cr) ∧ w.cell? ⟨g, 7, none⟩ = some (.slice SA sp.length sc) ∧ w.cell? ⟨g, 8, none⟩ = some (.string sr) ∧ w.cell? ⟨g, 9, none⟩ = some (.int .i64 co) ∧ w.cell? ⟨g, 10, none⟩ = some (.int .i64 pr) ∧ w.cell? ⟨g, 11, none⟩ = some (.int .u32 (fl.toNat : Int)) := by
  unfold FBx at h
  refine ⟨?_, ?_, ?_, ?_, ?_, ?_, ?_, ?_, ?_, ?_, ?_, ?_⟩ <;> (rw [cell_of_row _ _ _ _ _ (0, 0) h]; rfl)
/-- A list of facts. -/
def FS (w : World) (v : Value) (xs : List FV) : Prop :=
  ∃ A c, v = .slice A xs.length c ∧ xs.length ≤ c ∧ c ≤ maxLen ∧ ∀ i (h : i < xs.length), xs[i].In w ∧ ∃ ad, A = some ad ∧ ∀ j u, xs[i].cs[j]? = some u → w.cell? (ad.add (i * 12 + j)) = some u
theorem FS.ext {w w' : World} {v : Value} {xs : List FV} (h : FS w v xs) (hx : Ext w w') : FS w' v xs := by
  obtain ⟨A, c, h1, h2, h3, h4⟩ := h
  refine ⟨A, c, h1, h2, h3, fun i hi => ?_⟩
  obtain ⟨k1, ad, k2, k3⟩ := h4 i hi
  exact ⟨k1.ext hx, ad, k2, fun j u hu => hx.cell (k3 j u hu)⟩
theorem FS.nil (w : World) : FS w (.slice none 0 0) [] := ⟨none, 0, rfl, Nat.le_refl _, Nat.zero_le _, fun i h => absurd h (Nat.not_lt_zero i)⟩
end Go.Proofs.YtnjmndofcpnmeaaGreatDoor
namespace Go.Proofs.YtnjmndofcpnmeaaGreatDoor
open Go Go.RowKit
set_option linter.unusedVariables false

theorem drop_byte (s : ByteArray) (k : Nat) (h : k < s.size) : s.data.toList.drop k = s[k] :: s.data.toList.drop (k + 1) := by
  rw [List.drop_eq_getElem_cons (by rw [Array.length_toList]; exact h)]; rfl
theorem drop_end (s : ByteArray) (k : Nat) (h : ¬ k < s.size) : s.data.toList.drop k = [] := List.drop_eq_nil_of_le (by rw [size_list]; omega)
end Go.Proofs.YtnjmndofcpnmeaaGreatDoor
