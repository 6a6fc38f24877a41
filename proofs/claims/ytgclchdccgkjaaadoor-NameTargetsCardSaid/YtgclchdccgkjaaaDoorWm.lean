/- The world's shape: internal/bytealg.MaxLen holds some int; what strings.Cut does at a dot. -/
import Derived.Test.YtgclchdccgkjaaaDoorNm2
import Derived.Test.YtgclchdccgkjaaaDoorPl
import Derived.Lib.IndexMore
namespace Go.Proofs.YtgclchdccgkjaaaDoor
open Go Go.RowKit
set_option linter.unusedVariables false

/-- internal/bytealg.MaxLen holds some int. -/
def MaxN (w : World) : Prop := ∃ m, w.cell? ⟨0, 0, none⟩ = some (.int .i64 m)
theorem MaxN.ext {w w' : World} (h : MaxN w) (hx : Ext w w') : MaxN w' := let ⟨m, hm⟩ := h; ⟨m, hx.cell hm⟩

theorem cut_none {l : List UInt8} (h : Lib.indexByte l 46 = -1) : Lib.cut l [46] = (l, [], false) := by
  unfold Lib.cut
  rw [Lib.index_one, h]
  rfl
theorem cut_some {l : List UInt8} {o : Nat} (h : Lib.indexByte l 46 = o) : Lib.cut l [46] = (l.take o, l.drop (o + 1), true) := by
  unfold Lib.cut
  rw [Lib.index_one, h, if_pos (by omega)]
  simp
theorem par_cut_none {l : List UInt8} (h : Lib.indexByte l 46 = -1) : par l = [] := par_none (fun c hc e => by
  obtain ⟨k, hk, rfl⟩ := List.getElem_of_mem hc
  exact Lib.indexByte_none h k (by rw [List.getElem?_eq_getElem hk, Option.some.injEq]; exact u8_of (n := 46) (by omega) e))
theorem par_cut_some {l : List UInt8} {o : Nat} (h : Lib.indexByte l 46 = o) : par l = l.drop (o + 1) :: par (l.drop (o + 1)) := by
  obtain ⟨h1, h2⟩ := Lib.indexByte_some h
  have hlt := (List.getElem?_eq_some_iff.1 h1).1
  have he : l = l.take o ++ 46 :: l.drop (o + 1) := by
    have h3 := (List.getElem?_eq_some_iff.1 h1).2
    conv => lhs; rw [← List.take_append_drop o l, List.drop_eq_getElem_cons hlt, h3]
  conv => lhs; rw [he]
  rw [par_skip _ _ (fun c hc e => by
    obtain ⟨k, hk, hk2⟩ := List.getElem_of_mem hc
    have hk3 : k < o := by simp at hk; omega
    rw [List.getElem_take] at hk2
    refine h2 k hk3 ?_
    rw [List.getElem?_eq_getElem (by omega), hk2, Option.some.injEq]
    exact u8_of (n := 46) (by omega) e), par, if_pos (by decide)]
/-- What strings.Cut finds at a dot: the rest, whether there is one. -/
def CutP (s rest : ByteArray) (found : Bool) : Prop :=
  (found = false ∧ par s.data.toList = [] ∧ rest = ⟨#[]⟩) ∨ (found = true ∧ par s.data.toList = rest.data.toList :: par rest.data.toList ∧ rest.size < s.size)
theorem Cut_dot (s : ByteArray) (hs : s.size ≤ 4294967280) (w : World) (hm : MaxN w) :
    Calls Tryd.prog 47 #[.string s, .string ⟨#[46]⟩] w fun e w' => ∃ a rest found, e = .returned (.tuple #[.string a, .string rest, .bool found]) ∧ CutP s rest found ∧ Ext w w' := by
  obtain ⟨m, hm⟩ := hm
  refine (Tryd.strings_Cut s ⟨#[46]⟩ m w (by omega) hm).mono ?_
  rintro e w' ⟨rfl, n, rfl⟩
  refine ⟨_, _, _, rfl, ?_, (Ext.refl w).drewN n⟩
  have hge := Lib.indexByte_ge s.data.toList 46
  obtain ⟨o, ho⟩ : ∃ o, Lib.indexByte s.data.toList 46 = o := ⟨_, rfl⟩
  rw [ho] at hge
  rcases (show o = -1 ∨ ∃ k : Nat, o = k by exact if h : o = -1 then .inl h else .inr ⟨o.toNat, by omega⟩) with rfl | ⟨k, rfl⟩
  · rw [cut_none ho]
    exact .inl ⟨rfl, par_cut_none ho, rfl⟩
  · have hlt := (List.getElem?_eq_some_iff.1 (Lib.indexByte_some ho).1).1
    rw [size_list] at hlt
    rw [cut_some ho]
    refine .inr ⟨rfl, par_cut_some ho, ?_⟩
    show (s.data.toList.drop (k + 1)).toArray.size < s.size
    rw [List.size_toArray, List.length_drop, size_list]
    omega
end Go.Proofs.YtgclchdccgkjaaaDoor
