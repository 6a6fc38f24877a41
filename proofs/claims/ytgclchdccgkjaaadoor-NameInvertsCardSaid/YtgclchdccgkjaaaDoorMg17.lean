/- Texts laid together (wip/tools/automerge.py): Der10, Pure5, Der11, Der12. -/
import Derived.Test.YtgclchdccgkjaaaDoorDer9
import Derived.Test.YtgclchdccgkjaaaDoorMg15
namespace Go.Proofs.YtgclchdccgkjaaaDoor
open Go Go.RowKit

end Go.Proofs.YtgclchdccgkjaaaDoor
namespace Go.Proofs.YtgclchdccgkjaaaDoor
def boolOk (l : List UInt8) : Bool := decide (l.length = 1) && (l[0]?.getD 0 == 255 || l[0]?.getD 0 == 0)
def boolVal (l : List UInt8) : Bool := l[0]?.getD 0 == 255
def bitsOk (l : List UInt8) : Bool := decide (l.length = 5) && l[0]?.getD 0 == 0
def bitsVal (l : List UInt8) : Int := (beNat (l.drop 1) : Int)
def tmOk (l : List UInt8) : Bool := decide (l.length = 6) && decide ((beNat l : Int) ≤ 1099511627776)
def tmVal (l : List UInt8) : Int := (beNat l : Int)
def readBoolF : List UInt8 → Bool × Nat × Nat := readF 1 false boolOk boolVal
def readBitsF : List UInt8 → Int × Nat × Nat := readF 3 0 bitsOk bitsVal
def readOctetsF : List UInt8 → List UInt8 × Nat × Nat := readF 4 [] (fun _ => true) id
def readTimeF : List UInt8 → Int × Nat × Nat := readF 24 0 tmOk tmVal
def readStringF : List UInt8 → List UInt8 × Nat × Nat := readF 27 [] (fun _ => true) id
/-- A reader of contents: none, or the contents. -/
def readInF (tag : UInt8) : List UInt8 → Option (List UInt8) × Nat × Nat := readF tag none (fun _ => true) some
theorem readF_used {α : Type} (tag : UInt8) (z : α) (ok : List UInt8 → Bool) (val : List UInt8 → α) (m : List UInt8) (v : α) (er used : Nat) (h : readF tag z ok val m = (v, er, used)) : used ≤ m.length := by
  unfold readF at h
  have hu := takeF_used tag m (takeF tag m).1 (takeF tag m).2.1 (takeF tag m).2.2 rfl
  split at h
  · simp only [Prod.mk.injEq] at h; omega
  · split at h
    · simp only [Prod.mk.injEq] at h; omega
    · simp only [Prod.mk.injEq] at h; omega
end Go.Proofs.YtgclchdccgkjaaaDoor
namespace Go.Proofs.YtgclchdccgkjaaaDoor
open Go Go.RowKit

set_option maxRecDepth 100000 in
theorem stringClo_says (cont : List UInt8) (B : Nat) : CloSays Tryd.prog 86 cont true (fun v _ => v = .string ⟨cont.toArray⟩) B := by
  intro A c w1 _ hb
  have hs := run_str (P := Tryd.prog) w1 38 9 5 _ cont Tryd.underlying38 Tryd.underlying5 Tryd.underlying9 hb
  go_enter Tryd.func86, Tryd.ntmps86
  go_wp2
  go_ret2
  exact ⟨⟨_, rfl, fun _ => rfl⟩, Ext.refl _⟩

set_option maxRecDepth 100000 in
theorem contained_says (cont : List UInt8) (B : Nat) : CloSays Tryd.prog 82 cont true (fun v w' => ∃ g', v = .pointer (some ⟨g', 0, none⟩) ∧ B ≤ g' ∧ RD 86 w' g' cont 0) B := by
  intro A c w1 hB hb
  go_enter Tryd.func82, Tryd.ntmps82
  go_wp2_with (go_at_call 65; refine (inner_at A c cont _ hb).mono ?_; rintro e w2 ⟨rfl, hr2, hx2⟩)
  go_ret2
  exact ⟨⟨_, rfl, fun _ => ⟨_, rfl, hB, hr2⟩⟩, hx2⟩
end Go.Proofs.YtgclchdccgkjaaaDoor
namespace Go.Proofs.YtgclchdccgkjaaaDoor
open Go Go.RowKit

set_option maxRecDepth 100000 in
theorem RdString_at (g : Nat) (l : List UInt8) (k : Nat) (m : List UInt8) (hm : l.drop k = m) (v : List UInt8) (er used : Nat) (hr : readStringF m = (v, er, used)) (w : World) (h : RD 86 w g l k) :
    Calls Tryd.prog 74 #[.pointer (some ⟨g, 0, none⟩)] w fun e w' => e = .returned (.tuple #[.string ⟨v.toArray⟩, .int .i64 (er : Int)]) ∧ RD 86 w' g l (k + used) ∧ w.grownBy w' (some g) := by
  have hrd := read_string_at g l k 27 27 rfl m hm (takeF 27 m).1 (takeF 27 m).2.1 (takeF 27 m).2.2 rfl _ _ w (stringClo_says _ _) h
  have HRD := Lib.hid hrd; have HR := Lib.hid hr
  clear hrd hr hm
  go_enter Tryd.func74, Tryd.ntmps74
  go_wp2_with fail
  refine HRD.out.mono ?_
  have hr := HR.out
  unfold readStringF readF at hr
  rintro e w1 ⟨hg, ⟨her, rfl, hr1⟩ | ⟨her, hok, rfl, hr1⟩ | ⟨her, hok, v', rfl, hv, hr1⟩⟩
  · rw [if_pos her] at hr
    simp only [Prod.mk.injEq] at hr
    obtain ⟨rfl, rfl, rfl⟩ := hr
    go_wp2_with fail
    go_ret2
    exact ⟨rfl, hr1, hg⟩
  · cases hok
  · rw [if_neg (by omega), if_pos rfl] at hr
    simp only [Prod.mk.injEq] at hr
    obtain ⟨rfl, rfl, rfl⟩ := hr
    subst hv
    go_wp2_with fail
    go_ret2
    exact ⟨rfl, hr1, hg⟩

/-- What a method that hands back a reader of contents leaves. -/
def InPost (w : World) (g : Nat) (l : List UInt8) (k : Nat) (v : Option (List UInt8)) (er used : Nat) (p : Value) (w' : World) : Prop :=
  w.grownBy w' (some g) ∧ RD 86 w' g l (k + used) ∧ ((v = none ∧ er ≠ 0 ∧ p = .pointer none) ∨ ∃ x g', v = some x ∧ er = 0 ∧ p = .pointer (some ⟨g', 0, none⟩) ∧ w.heap.size ≤ g' ∧ RD 86 w' g' x 0)

set_option maxRecDepth 100000 in
theorem RdSequence_at (g : Nat) (l : List UInt8) (k : Nat) (m : List UInt8) (hm : l.drop k = m) (v : Option (List UInt8)) (er used : Nat) (hr : readInF 48 m = (v, er, used)) (w : World) (h : RD 86 w g l k) :
    Calls Tryd.prog 70 #[.pointer (some ⟨g, 0, none⟩)] w fun e w' => ∃ p, e = .returned (.tuple #[p, .int .i64 (er : Int)]) ∧ InPost w g l k v er used p w' := by
  have hrd := read_reader_at g l k 48 48 rfl m hm (takeF 48 m).1 (takeF 48 m).2.1 (takeF 48 m).2.2 rfl _ _ w (contained_says _ _) h
  have HRD := Lib.hid hrd; have HR := Lib.hid hr
  clear hrd hr hm
  go_enter Tryd.func70, Tryd.ntmps70
  go_wp2_with fail
  refine HRD.out.mono ?_
  have hr := HR.out
  unfold readInF readF at hr
  rintro e w1 ⟨hg, ⟨her, rfl, hr1⟩ | ⟨her, hok, rfl, hr1⟩ | ⟨her, hok, v', rfl, ⟨g', rfl, hB', hv⟩, hr1⟩⟩
  · rw [if_pos her] at hr
    simp only [Prod.mk.injEq] at hr
    obtain ⟨rfl, rfl, rfl⟩ := hr
    go_wp2_with fail
    go_ret2
    exact ⟨_, rfl, hg, hr1, .inl ⟨rfl, her, rfl⟩⟩
  · cases hok
  · rw [if_neg (by omega), if_pos rfl] at hr
    simp only [Prod.mk.injEq] at hr
    obtain ⟨rfl, rfl, rfl⟩ := hr
    go_wp2_with fail
    go_ret2
    exact ⟨_, rfl, hg, hr1, .inr ⟨_, g', rfl, rfl, rfl, hB', hv⟩⟩

set_option maxRecDepth 100000 in
theorem Left_at (g : Nat) (l : List UInt8) (k : Nat) (w : World) (h : RD 86 w g l k) :
    Calls Tryd.prog 72 #[.pointer (some ⟨g, 0, none⟩)] w fun e w' => e = .returned (.int .i64 ((l.length - k : Nat) : Int)) ∧ Ext w w' := by
  obtain ⟨Ax, cx, hbx, k0, k1, k2, kf⟩ := h.cells
  have hk := h.le
  obtain ⟨m, hm⟩ : ∃ m, m = l.drop k := ⟨_, rfl⟩
  have hml : l.length - k = m.length := by rw [hm]; simp
  rw [hml]
  have HM := Lib.hid hm; clear hm hml
  go_enter Tryd.func72, Tryd.ntmps72
  go_wp2_with (go_at_call 84; refine (rest_at g l k m HM.out.symm _ h).mono ?_; rintro e w1 ⟨A1, c1, rfl, hb1, hx1⟩)
  go_ret
  exact ⟨rfl, hx1⟩

set_option maxRecDepth 100000 in
theorem End_at (g : Nat) (l : List UInt8) (k : Nat) (w : World) (h : RD 86 w g l k) :
    Calls Tryd.prog 56 #[.pointer (some ⟨g, 0, none⟩)] w fun e w' => e = .returned (.int .i64 (if k < l.length then 5 else 0)) ∧ Ext w w' := by
  obtain ⟨Ax, cx, hbx, k0, k1, k2, kf⟩ := h.cells
  have hk := h.le
  obtain ⟨n, hn⟩ : ∃ n, n = l.length - k := ⟨_, rfl⟩
  have HL := Lib.hid (Left_at g l k)
  by_cases hlt : k < l.length
  · have h0 : (0 : Int) < n := by omega
    rw [if_pos hlt]
    have HN := Lib.hid hn; clear hn hlt
    go_enter Tryd.func56, Tryd.ntmps56
    go_wp2_with (go_at_call 72; refine (HL.out _ h).mono ?_; rintro e w1 ⟨rfl, hx1⟩; rw [← HN.out])
    go_ret
    exact ⟨rfl, hx1⟩
  · have h0 : ¬ (0 : Int) < n := by omega
    rw [if_neg hlt]
    have HN := Lib.hid hn; clear hn hlt
    go_enter Tryd.func56, Tryd.ntmps56
    go_wp2_with (go_at_call 72; refine (HL.out _ h).mono ?_; rintro e w1 ⟨rfl, hx1⟩; rw [← HN.out])
    go_ret
    exact ⟨rfl, hx1⟩
end Go.Proofs.YtgclchdccgkjaaaDoor
