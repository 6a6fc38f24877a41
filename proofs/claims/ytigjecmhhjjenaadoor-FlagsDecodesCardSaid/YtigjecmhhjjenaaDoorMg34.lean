/- Texts laid together (wip/tools/automerge.py): None, FlD2. -/
import Derived.Test.YtigjecmhhjjenaaDoorMg32
import Derived.Test.YtigjecmhhjjenaaDoorFlD1
namespace Go.Proofs.YtigjecmhhjjenaaDoor
open Go Go.RowKit

/-- No reader: nil, or a pointer to the zero value. -/
def NoRd (T : TypeId) (w : World) (v : Value) : Prop := v = .pointer none ∨ ∃ g, v = .pointer (some ⟨g, 0, none⟩) ∧ w.heap[g]? = some (.cells #[.slice none 0 0, .int .i64 0, .bool false] T (0, 0))
theorem NoRd.ext {T : TypeId} {w w' : World} {v : Value} (h : NoRd T w v) (hx : Ext w w') : NoRd T w' v := by
  rcases h with h | ⟨g, h, hg⟩
  · exact .inl h
  · exact .inr ⟨g, h, hx.heap hg⟩

set_option maxRecDepth 100000 in
theorem noread_u32 (t : Int) (F : Value) (v : Value) (w : World) (h : NoRd 65 w v) :
    Calls Tryd.prog 72 #[v, .int .u8 t, F] w fun e w' => e = .returned (.tuple #[.int .u32 0, .int .i64 1]) ∧ Ext w w' := by
  rcases h with rfl | ⟨g, rfl, hg⟩
  · go_enter Tryd.func72, Tryd.ntmps72
    go_wp2
    go_ret2
    exact ⟨rfl, Ext.refl _⟩
  · have hc2 : w.cell? ⟨g, 2, none⟩ = some (.bool false) := by rw [cell_of_row w g 2 _ _ (0, 0) hg]; rfl
    go_enter Tryd.func72, Tryd.ntmps72
    go_wp2
    go_ret2
    exact ⟨rfl, Ext.refl _⟩

set_option maxRecDepth 100000 in
theorem NoBits_at (v : Value) (w : World) (h : NoRd 65 w v) :
    Calls Tryd.prog 63 #[v] w fun e w' => e = .returned (.tuple #[.int .u32 0, .int .i64 1]) ∧ Ext w w' := by
  rcases h with rfl | ⟨g, rfl, hg⟩
  · go_enter Tryd.func63, Tryd.ntmps63
    go_wp2_with (go_at_call 72; refine (noread_u32 _ _ _ _ (.inl rfl)).mono ?_; rintro e w1 ⟨rfl, hx1⟩)
    go_ret2
    exact ⟨rfl, hx1⟩
  · have hc2 : w.cell? ⟨g, 2, none⟩ = some (.bool false) := by rw [cell_of_row w g 2 _ _ (0, 0) hg]; rfl
    go_enter Tryd.func63, Tryd.ntmps63
    go_wp2_with (go_at_call 72; refine (noread_u32 _ _ _ _ (.inr ⟨g, rfl, hg⟩)).mono ?_; rintro e w1 ⟨rfl, hx1⟩)
    go_ret2
    exact ⟨rfl, hx1⟩

set_option maxRecDepth 100000 in
theorem NoLeft_at (v : Value) (w : World) (h : NoRd 65 w v) :
    Calls Tryd.prog 35 #[v] w fun e w' => e = .returned (.int .i64 0) ∧ Ext w w' := by
  rcases h with rfl | ⟨g, rfl, hg⟩
  · go_enter Tryd.func35, Tryd.ntmps35
    go_wp2
    go_ret
    exact ⟨rfl, Ext.refl _⟩
  · have hc2 : w.cell? ⟨g, 2, none⟩ = some (.bool false) := by rw [cell_of_row w g 2 _ _ (0, 0) hg]; rfl
    go_enter Tryd.func35, Tryd.ntmps35
    go_wp2
    go_ret
    exact ⟨rfl, Ext.refl _⟩

set_option maxRecDepth 100000 in
theorem NoEnd_at (v : Value) (w : World) (h : NoRd 65 w v) :
    Calls Tryd.prog 59 #[v] w fun e w' => e = .returned (.int .i64 1) ∧ Ext w w' := by
  rcases h with rfl | ⟨g, rfl, hg⟩
  · go_enter Tryd.func59, Tryd.ntmps59
    go_wp2
    go_ret
    exact ⟨rfl, Ext.refl _⟩
  · have hc2 : w.cell? ⟨g, 2, none⟩ = some (.bool false) := by rw [cell_of_row w g 2 _ _ (0, 0) hg]; rfl
    go_enter Tryd.func59, Tryd.ntmps59
    go_wp2
    go_ret
    exact ⟨rfl, Ext.refl _⟩

set_option maxRecDepth 100000 in
theorem NoCopy_at (v : Value) (w : World) (h : NoRd 65 w v) :
    Calls Tryd.prog 62 #[v] w fun e w' => e = .returned (.pointer none) ∧ Ext w w' := by
  rcases h with rfl | ⟨g, rfl, hg⟩
  · go_enter Tryd.func62, Tryd.ntmps62
    go_wp2
    go_ret
    exact ⟨rfl, Ext.refl _⟩
  · have hc2 : w.cell? ⟨g, 2, none⟩ = some (.bool false) := by rw [cell_of_row w g 2 _ _ (0, 0) hg]; rfl
    go_enter Tryd.func62, Tryd.ntmps62
    go_wp2
    go_ret
    exact ⟨rfl, Ext.refl _⟩
end Go.Proofs.YtigjecmhhjjenaaDoor
namespace Go.Proofs.YtigjecmhhjjenaaDoor
open Go Go.RowKit
set_option linter.unusedVariables false

set_option maxRecDepth 100000 in
theorem FNoRead_at (v : Value) (w : World) (h : NoRd 65 w v) :
    Calls Tryd.prog 33 #[v] w fun e w' => e = .returned (.tuple #[.int .u32 0, .int .i64 1]) ∧ Ext w w' := by
  have HN := Lib.hid h
  clear h
  go_enter Tryd.func33, Tryd.ntmps33
  go_wp2_with fail
  refine (NoCopy_at _ _ HN.out).mono ?_
  rintro _ w1 ⟨rfl, hx1⟩
  have HX1 := Lib.hid hx1
  clear hx1
  go_wp2_with fail
  refine (NoBits_at _ _ (HN.out.ext HX1.out)).mono ?_
  rintro _ w2 ⟨rfl, hx2⟩
  have HX2 := Lib.hid (HX1.out.trans hx2)
  clear hx2
  go_wp2_with fail
  go_ret2
  exact ⟨rfl, HX2.out⟩
theorem textF_small (f : W32) : (⟨(textF f).toArray⟩ : ByteArray).size ≤ 1000 := by
  show (textF f).toArray.size ≤ 1000
  rw [List.size_toArray]
  unfold textF
  split
  · decide
  · have := joinTo_len f 32
    have h2 : joinF f = joinTo f 32 := rfl
    rw [h2]; omega
theorem bv_bits (f : Int) : bv (encBits f) = [.int .u8 3, .int .u8 5, .int .u8 0, .int .u8 ((byteAt f 3).toNat : Int), .int .u8 ((byteAt f 2).toNat : Int), .int .u8 ((byteAt f 1).toNat : Int), .int .u8 ((byteAt f 0).toNat : Int)] := rfl
theorem bits_len (f : Int) : (encBits f).length = 7 := rfl
theorem flDec_bd (b : List UInt8) : ∃ f : W32, (flDec b).1 = (f.toNat : Int) := by
  unfold flDec
  split
  · exact ⟨0#32, rfl⟩
  · rcases flRd_cases b with ⟨er, _, _, hf⟩ | ⟨f, us, _, _, hf⟩ | ⟨f, us, _, _, hf⟩
    · rw [hf]; exact ⟨0#32, rfl⟩
    · rw [hf]; exact ⟨0#32, rfl⟩
    · rw [hf]; exact ⟨f, rfl⟩
theorem flDec_enc (f : W32) (hv : nmB f = true) : flDec (encBits (f.toNat : Int)) = ((f.toNat : Int), 0) := by
  have h := readBits_enc (f.toNat : Int) (by omega) (by have := f.isLt; omega) []
  rw [List.append_nil] at h
  have hr : flRd (encBits (f.toNat : Int)) = ((f.toNat : Int), 0, (encBits (f.toNat : Int)).length) := by
    unfold flRd
    rw [h, if_neg (fun hh => by have := hh.2; simp only at this; rw [wOf_nat, hv] at this; cases this)]
  unfold flDec
  rw [hr, if_neg (fun hh => by have := hh.2; simp only at this; omega)]
theorem flDec_inv (b : List UInt8) (v : Int) (h : flDec b = (v, 0)) : ∃ f : W32, v = (f.toNat : Int) ∧ nmB f = true ∧ encBits (f.toNat : Int) = b := by
  unfold flDec at h
  split at h
  · simp at h
  · rename_i hn
    rcases flRd_cases b with ⟨er, hne, _, hf⟩ | ⟨f, us, _, _, hf⟩ | ⟨f, us, hv, hr, hf⟩
    · rw [hf] at h; simp only [Prod.mk.injEq] at h; exact absurd h.2 hne
    · rw [hf] at h; simp at h
    · rw [hf] at h hn
      simp only [Prod.mk.injEq] at h
      obtain ⟨hu, ht⟩ := readBits_inv b _ _ hr
      have hus : us = b.length := by
        by_cases hl : us < b.length
        · exact absurd ⟨rfl, hl⟩ hn
        · omega
      refine ⟨f, h.1.symm, hv, ?_⟩
      rw [← ht, hus, List.take_length]
end Go.Proofs.YtigjecmhhjjenaaDoor
