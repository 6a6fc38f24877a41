/- Without a reader: nil, or the zero value. -/
import Derived.Test.YtmbmhepmeajnoaaDer12
namespace Go.Proofs.Ytmbmhepmeajnoaa
open Go Go.RowKit

/-- No reader: nil, or a pointer to the zero value. -/
def NoRd (T : TypeId) (w : World) (v : Value) : Prop := v = .pointer none ∨ ∃ g, v = .pointer (some ⟨g, 0, none⟩) ∧ w.heap[g]? = some (.cells #[.slice none 0 0, .int .i64 0, .bool false] T (0, 0))
theorem NoRd.ext {T : TypeId} {w w' : World} {v : Value} (h : NoRd T w v) (hx : Ext w w') : NoRd T w' v := by
  rcases h with h | ⟨g, h, hg⟩
  · exact .inl h
  · exact .inr ⟨g, h, hx.heap hg⟩

set_option maxRecDepth 100000 in
theorem noread_bool (t : Int) (F : Value) (v : Value) (w : World) (h : NoRd 62 w v) :
    Calls Try.prog 67 #[v, .int .u8 t, F] w fun e w' => e = .returned (.tuple #[.bool false, .int .i64 1]) ∧ Ext w w' := by
  rcases h with rfl | ⟨g, rfl, hg⟩
  · go_enter Try.func67, Try.ntmps67
    go_wp2
    go_ret2
    exact ⟨rfl, Ext.refl _⟩
  · have hc2 : w.cell? ⟨g, 2, none⟩ = some (.bool false) := by rw [cell_of_row w g 2 _ _ (0, 0) hg]; rfl
    go_enter Try.func67, Try.ntmps67
    go_wp2
    go_ret2
    exact ⟨rfl, Ext.refl _⟩

set_option maxRecDepth 100000 in
theorem noread_int (t : Int) (F : Value) (v : Value) (w : World) (h : NoRd 62 w v) :
    Calls Try.prog 69 #[v, .int .u8 t, F] w fun e w' => e = .returned (.tuple #[.int .i64 0, .int .i64 1]) ∧ Ext w w' := by
  rcases h with rfl | ⟨g, rfl, hg⟩
  · go_enter Try.func69, Try.ntmps69
    go_wp2
    go_ret2
    exact ⟨rfl, Ext.refl _⟩
  · have hc2 : w.cell? ⟨g, 2, none⟩ = some (.bool false) := by rw [cell_of_row w g 2 _ _ (0, 0) hg]; rfl
    go_enter Try.func69, Try.ntmps69
    go_wp2
    go_ret2
    exact ⟨rfl, Ext.refl _⟩

set_option maxRecDepth 100000 in
theorem noread_u32 (t : Int) (F : Value) (v : Value) (w : World) (h : NoRd 62 w v) :
    Calls Try.prog 72 #[v, .int .u8 t, F] w fun e w' => e = .returned (.tuple #[.int .u32 0, .int .i64 1]) ∧ Ext w w' := by
  rcases h with rfl | ⟨g, rfl, hg⟩
  · go_enter Try.func72, Try.ntmps72
    go_wp2
    go_ret2
    exact ⟨rfl, Ext.refl _⟩
  · have hc2 : w.cell? ⟨g, 2, none⟩ = some (.bool false) := by rw [cell_of_row w g 2 _ _ (0, 0) hg]; rfl
    go_enter Try.func72, Try.ntmps72
    go_wp2
    go_ret2
    exact ⟨rfl, Ext.refl _⟩

set_option maxRecDepth 100000 in
theorem noread_bytes (t : Int) (F : Value) (v : Value) (w : World) (h : NoRd 62 w v) :
    Calls Try.prog 62 #[v, .int .u8 t, F] w fun e w' => e = .returned (.tuple #[.slice none 0 0, .int .i64 1]) ∧ Ext w w' := by
  rcases h with rfl | ⟨g, rfl, hg⟩
  · go_enter Try.func62, Try.ntmps62
    go_wp2
    go_ret2
    exact ⟨rfl, Ext.refl _⟩
  · have hc2 : w.cell? ⟨g, 2, none⟩ = some (.bool false) := by rw [cell_of_row w g 2 _ _ (0, 0) hg]; rfl
    go_enter Try.func62, Try.ntmps62
    go_wp2
    go_ret2
    exact ⟨rfl, Ext.refl _⟩

set_option maxRecDepth 100000 in
theorem noread_string (t : Int) (F : Value) (v : Value) (w : World) (h : NoRd 62 w v) :
    Calls Try.prog 76 #[v, .int .u8 t, F] w fun e w' => e = .returned (.tuple #[.string ⟨#[]⟩, .int .i64 1]) ∧ Ext w w' := by
  rcases h with rfl | ⟨g, rfl, hg⟩
  · go_enter Try.func76, Try.ntmps76
    go_wp2
    go_ret2
    exact ⟨rfl, Ext.refl _⟩
  · have hc2 : w.cell? ⟨g, 2, none⟩ = some (.bool false) := by rw [cell_of_row w g 2 _ _ (0, 0) hg]; rfl
    go_enter Try.func76, Try.ntmps76
    go_wp2
    go_ret2
    exact ⟨rfl, Ext.refl _⟩

set_option maxRecDepth 100000 in
theorem noread_reader (t : Int) (F : Value) (v : Value) (w : World) (h : NoRd 62 w v) :
    Calls Try.prog 78 #[v, .int .u8 t, F] w fun e w' => e = .returned (.tuple #[.pointer none, .int .i64 1]) ∧ Ext w w' := by
  rcases h with rfl | ⟨g, rfl, hg⟩
  · go_enter Try.func78, Try.ntmps78
    go_wp2
    go_ret2
    exact ⟨rfl, Ext.refl _⟩
  · have hc2 : w.cell? ⟨g, 2, none⟩ = some (.bool false) := by rw [cell_of_row w g 2 _ _ (0, 0) hg]; rfl
    go_enter Try.func78, Try.ntmps78
    go_wp2
    go_ret2
    exact ⟨rfl, Ext.refl _⟩

set_option maxRecDepth 100000 in
theorem NoBool_at (v : Value) (w : World) (h : NoRd 62 w v) :
    Calls Try.prog 39 #[v] w fun e w' => e = .returned (.tuple #[.bool false, .int .i64 1]) ∧ Ext w w' := by
  rcases h with rfl | ⟨g, rfl, hg⟩
  · go_enter Try.func39, Try.ntmps39
    go_wp2_with (go_at_call 67; refine (noread_bool _ _ _ _ (.inl rfl)).mono ?_; rintro e w1 ⟨rfl, hx1⟩)
    go_ret2
    exact ⟨rfl, hx1⟩
  · have hc2 : w.cell? ⟨g, 2, none⟩ = some (.bool false) := by rw [cell_of_row w g 2 _ _ (0, 0) hg]; rfl
    go_enter Try.func39, Try.ntmps39
    go_wp2_with (go_at_call 67; refine (noread_bool _ _ _ _ (.inr ⟨g, rfl, hg⟩)).mono ?_; rintro e w1 ⟨rfl, hx1⟩)
    go_ret2
    exact ⟨rfl, hx1⟩

set_option maxRecDepth 100000 in
theorem NoInteger_at (v : Value) (w : World) (h : NoRd 62 w v) :
    Calls Try.prog 40 #[v] w fun e w' => e = .returned (.tuple #[.int .i64 0, .int .i64 1]) ∧ Ext w w' := by
  rcases h with rfl | ⟨g, rfl, hg⟩
  · go_enter Try.func40, Try.ntmps40
    go_wp2_with (go_at_call 69; refine (noread_int _ _ _ _ (.inl rfl)).mono ?_; rintro e w1 ⟨rfl, hx1⟩)
    go_ret2
    exact ⟨rfl, hx1⟩
  · have hc2 : w.cell? ⟨g, 2, none⟩ = some (.bool false) := by rw [cell_of_row w g 2 _ _ (0, 0) hg]; rfl
    go_enter Try.func40, Try.ntmps40
    go_wp2_with (go_at_call 69; refine (noread_int _ _ _ _ (.inr ⟨g, rfl, hg⟩)).mono ?_; rintro e w1 ⟨rfl, hx1⟩)
    go_ret2
    exact ⟨rfl, hx1⟩

set_option maxRecDepth 100000 in
theorem NoBits_at (v : Value) (w : World) (h : NoRd 62 w v) :
    Calls Try.prog 41 #[v] w fun e w' => e = .returned (.tuple #[.int .u32 0, .int .i64 1]) ∧ Ext w w' := by
  rcases h with rfl | ⟨g, rfl, hg⟩
  · go_enter Try.func41, Try.ntmps41
    go_wp2_with (go_at_call 72; refine (noread_u32 _ _ _ _ (.inl rfl)).mono ?_; rintro e w1 ⟨rfl, hx1⟩)
    go_ret2
    exact ⟨rfl, hx1⟩
  · have hc2 : w.cell? ⟨g, 2, none⟩ = some (.bool false) := by rw [cell_of_row w g 2 _ _ (0, 0) hg]; rfl
    go_enter Try.func41, Try.ntmps41
    go_wp2_with (go_at_call 72; refine (noread_u32 _ _ _ _ (.inr ⟨g, rfl, hg⟩)).mono ?_; rintro e w1 ⟨rfl, hx1⟩)
    go_ret2
    exact ⟨rfl, hx1⟩

set_option maxRecDepth 100000 in
theorem NoOctets_at (v : Value) (w : World) (h : NoRd 62 w v) :
    Calls Try.prog 32 #[v] w fun e w' => e = .returned (.tuple #[.slice none 0 0, .int .i64 1]) ∧ Ext w w' := by
  rcases h with rfl | ⟨g, rfl, hg⟩
  · go_enter Try.func32, Try.ntmps32
    go_wp2_with (go_at_call 62; refine (noread_bytes _ _ _ _ (.inl rfl)).mono ?_; rintro e w1 ⟨rfl, hx1⟩)
    go_ret2
    exact ⟨rfl, hx1⟩
  · have hc2 : w.cell? ⟨g, 2, none⟩ = some (.bool false) := by rw [cell_of_row w g 2 _ _ (0, 0) hg]; rfl
    go_enter Try.func32, Try.ntmps32
    go_wp2_with (go_at_call 62; refine (noread_bytes _ _ _ _ (.inr ⟨g, rfl, hg⟩)).mono ?_; rintro e w1 ⟨rfl, hx1⟩)
    go_ret2
    exact ⟨rfl, hx1⟩

set_option maxRecDepth 100000 in
theorem NoString_at (v : Value) (w : World) (h : NoRd 62 w v) :
    Calls Try.prog 43 #[v] w fun e w' => e = .returned (.tuple #[.string ⟨#[]⟩, .int .i64 1]) ∧ Ext w w' := by
  rcases h with rfl | ⟨g, rfl, hg⟩
  · go_enter Try.func43, Try.ntmps43
    go_wp2_with (go_at_call 76; refine (noread_string _ _ _ _ (.inl rfl)).mono ?_; rintro e w1 ⟨rfl, hx1⟩)
    go_ret2
    exact ⟨rfl, hx1⟩
  · have hc2 : w.cell? ⟨g, 2, none⟩ = some (.bool false) := by rw [cell_of_row w g 2 _ _ (0, 0) hg]; rfl
    go_enter Try.func43, Try.ntmps43
    go_wp2_with (go_at_call 76; refine (noread_string _ _ _ _ (.inr ⟨g, rfl, hg⟩)).mono ?_; rintro e w1 ⟨rfl, hx1⟩)
    go_ret2
    exact ⟨rfl, hx1⟩

set_option maxRecDepth 100000 in
theorem NoSequence_at (v : Value) (w : World) (h : NoRd 62 w v) :
    Calls Try.prog 44 #[v] w fun e w' => e = .returned (.tuple #[.pointer none, .int .i64 1]) ∧ Ext w w' := by
  rcases h with rfl | ⟨g, rfl, hg⟩
  · go_enter Try.func44, Try.ntmps44
    go_wp2_with (go_at_call 78; refine (noread_reader _ _ _ _ (.inl rfl)).mono ?_; rintro e w1 ⟨rfl, hx1⟩)
    go_ret2
    exact ⟨rfl, hx1⟩
  · have hc2 : w.cell? ⟨g, 2, none⟩ = some (.bool false) := by rw [cell_of_row w g 2 _ _ (0, 0) hg]; rfl
    go_enter Try.func44, Try.ntmps44
    go_wp2_with (go_at_call 78; refine (noread_reader _ _ _ _ (.inr ⟨g, rfl, hg⟩)).mono ?_; rintro e w1 ⟨rfl, hx1⟩)
    go_ret2
    exact ⟨rfl, hx1⟩

set_option maxRecDepth 100000 in
theorem NoTime_at (v : Value) (w : World) (h : NoRd 62 w v) :
    Calls Try.prog 42 #[v] w fun e w' => e = .returned (.tuple #[.int .i64 0, .int .i64 1]) ∧ Ext w w' := by
  rcases h with rfl | ⟨g, rfl, hg⟩
  · go_enter Try.func42, Try.ntmps42
    go_wp2_with (go_at_call 69; refine (noread_int _ _ _ _ (.inl rfl)).mono ?_; rintro e w1 ⟨rfl, hx1⟩)
    go_ret2
    exact ⟨rfl, hx1⟩
  · have hc2 : w.cell? ⟨g, 2, none⟩ = some (.bool false) := by rw [cell_of_row w g 2 _ _ (0, 0) hg]; rfl
    go_enter Try.func42, Try.ntmps42
    go_wp2_with (go_at_call 69; refine (noread_int _ _ _ _ (.inr ⟨g, rfl, hg⟩)).mono ?_; rintro e w1 ⟨rfl, hx1⟩)
    go_ret2
    exact ⟨rfl, hx1⟩

set_option maxRecDepth 100000 in
theorem NoApplication_at (n : Int) (v : Value) (w : World) (h : NoRd 62 w v) :
    Calls Try.prog 45 #[v, .int .i64 n] w fun e w' => e = .returned (.tuple #[.pointer none, .int .i64 1]) ∧ Ext w w' := by
  rcases h with rfl | ⟨g, rfl, hg⟩
  · go_enter Try.func45, Try.ntmps45
    go_wp2
    go_ret2
    exact ⟨rfl, Ext.refl _⟩
  · have hc2 : w.cell? ⟨g, 2, none⟩ = some (.bool false) := by rw [cell_of_row w g 2 _ _ (0, 0) hg]; rfl
    go_enter Try.func45, Try.ntmps45
    go_wp2
    go_ret2
    exact ⟨rfl, Ext.refl _⟩

set_option maxRecDepth 100000 in
theorem NoTagged_at (n : Int) (v : Value) (w : World) (h : NoRd 62 w v) :
    Calls Try.prog 46 #[v, .int .i64 n] w fun e w' => e = .returned (.tuple #[.pointer none, .bool false, .int .i64 1]) ∧ Ext w w' := by
  rcases h with rfl | ⟨g, rfl, hg⟩
  · go_enter Try.func46, Try.ntmps46
    go_wp2
    go_ret3
    exact ⟨rfl, Ext.refl _⟩
  · have hc2 : w.cell? ⟨g, 2, none⟩ = some (.bool false) := by rw [cell_of_row w g 2 _ _ (0, 0) hg]; rfl
    go_enter Try.func46, Try.ntmps46
    go_wp2
    go_ret3
    exact ⟨rfl, Ext.refl _⟩

set_option maxRecDepth 100000 in
theorem NoLeft_at (v : Value) (w : World) (h : NoRd 62 w v) :
    Calls Try.prog 50 #[v] w fun e w' => e = .returned (.int .i64 0) ∧ Ext w w' := by
  rcases h with rfl | ⟨g, rfl, hg⟩
  · go_enter Try.func50, Try.ntmps50
    go_wp2
    go_ret
    exact ⟨rfl, Ext.refl _⟩
  · have hc2 : w.cell? ⟨g, 2, none⟩ = some (.bool false) := by rw [cell_of_row w g 2 _ _ (0, 0) hg]; rfl
    go_enter Try.func50, Try.ntmps50
    go_wp2
    go_ret
    exact ⟨rfl, Ext.refl _⟩

set_option maxRecDepth 100000 in
theorem NoEnd_at (v : Value) (w : World) (h : NoRd 62 w v) :
    Calls Try.prog 33 #[v] w fun e w' => e = .returned (.int .i64 1) ∧ Ext w w' := by
  rcases h with rfl | ⟨g, rfl, hg⟩
  · go_enter Try.func33, Try.ntmps33
    go_wp2
    go_ret
    exact ⟨rfl, Ext.refl _⟩
  · have hc2 : w.cell? ⟨g, 2, none⟩ = some (.bool false) := by rw [cell_of_row w g 2 _ _ (0, 0) hg]; rfl
    go_enter Try.func33, Try.ntmps33
    go_wp2
    go_ret
    exact ⟨rfl, Ext.refl _⟩

set_option maxRecDepth 100000 in
theorem NoCopy_at (v : Value) (w : World) (h : NoRd 62 w v) :
    Calls Try.prog 51 #[v] w fun e w' => e = .returned (.pointer none) ∧ Ext w w' := by
  rcases h with rfl | ⟨g, rfl, hg⟩
  · go_enter Try.func51, Try.ntmps51
    go_wp2
    go_ret
    exact ⟨rfl, Ext.refl _⟩
  · have hc2 : w.cell? ⟨g, 2, none⟩ = some (.bool false) := by rw [cell_of_row w g 2 _ _ (0, 0) hg]; rfl
    go_enter Try.func51, Try.ntmps51
    go_wp2
    go_ret
    exact ⟨rfl, Ext.refl _⟩
end Go.Proofs.Ytmbmhepmeajnoaa
