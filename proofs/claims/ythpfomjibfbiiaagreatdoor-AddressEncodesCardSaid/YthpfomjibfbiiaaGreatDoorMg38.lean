/- Texts laid together (wip/tools/automerge.py): Der10, Der11, Der12. -/
import Derived.Test.YthpfomjibfbiiaaGreatDoorDer9
import Derived.Test.YthpfomjibfbiiaaGreatDoorMg10
namespace Go.Proofs.YthpfomjibfbiiaaGreatDoor
open Go Go.RowKit

theorem intClo_says (cont : List UInt8) (B : Nat) : CloSays Tryz.prog 94 cont (intOk cont) (fun v _ => v = .int .i64 (sInt cont)) B := by
  intro A c w1 _ hb
  refine (IntClo_at A c cont w1 hb).mono ?_
  rintro e w' ⟨⟨v, rfl, hv⟩, hx⟩
  exact ⟨⟨_, rfl, fun h => by rw [hv h]⟩, hx⟩

set_option maxRecDepth 100000 in
theorem RdInteger_at (g : Nat) (l : List UInt8) (k : Nat) (m : List UInt8) (hm : l.drop k = m) (v : Int) (er used : Nat) (hr : readIntF m = (v, er, used)) (w : World) (h : RD 72 w g l k) :
    Calls Tryz.prog 68 #[.pointer (some ⟨g, 0, none⟩)] w fun e w' => e = .returned (.tuple #[.int .i64 v, .int .i64 (er : Int)]) ∧ RD 72 w' g l (k + used) ∧ w.grownBy w' (some g) := by
  have hrd := read_int_at g l k 2 2 rfl m hm (takeF 2 m).1 (takeF 2 m).2.1 (takeF 2 m).2.2 rfl _ _ w (intClo_says _ _) h
  have HRD := Lib.hid hrd; have HR := Lib.hid hr
  clear hrd hr hm
  go_enter Tryz.func68, Tryz.ntmps68
  go_wp2_with fail
  refine HRD.out.mono ?_
  have hr := HR.out
  unfold readIntF readF at hr
  rintro e w1 ⟨hg, ⟨her, rfl, hr1⟩ | ⟨her, hok, rfl, hr1⟩ | ⟨her, hok, v', rfl, hv, hr1⟩⟩
  · rw [if_pos her] at hr
    simp only [Prod.mk.injEq] at hr
    obtain ⟨rfl, rfl, rfl⟩ := hr
    go_wp2_with fail
    go_ret2
    exact ⟨rfl, hr1, hg⟩
  · rw [if_neg (by omega), if_neg (by rw [hok]; simp)] at hr
    simp only [Prod.mk.injEq] at hr
    obtain ⟨rfl, rfl, rfl⟩ := hr
    go_wp2_with fail
    go_ret2
    exact ⟨rfl, hr1, hg⟩
  · rw [if_neg (by omega), if_pos hok] at hr
    simp only [Prod.mk.injEq] at hr
    obtain ⟨rfl, rfl, rfl⟩ := hr
    subst hv
    go_wp2_with fail
    go_ret2
    exact ⟨rfl, hr1, hg⟩
#print axioms RdInteger_at
end Go.Proofs.YthpfomjibfbiiaaGreatDoor
namespace Go.Proofs.YthpfomjibfbiiaaGreatDoor
open Go Go.RowKit

set_option maxRecDepth 100000 in
theorem octetsClo_says (cont : List UInt8) (B : Nat) (hl : cont.length ≤ 140737488355328) : CloSays Tryz.prog 97 cont true (fun v w' => ∃ A c, v = .slice A cont.length c ∧ OB 5 w' B (.slice A cont.length c) cont) B := by
  intro A c w1 hB hb
  go_enter Tryz.func97, Tryz.ntmps97
  go_wp2_with (go_at_call 41; refine (Clone_at A c cont _ hb hl).mono ?_; rintro e w2 ⟨A2, c2, rfl, hb2, hx2⟩)
  go_ret2
  exact ⟨⟨_, rfl, fun _ => ⟨A2, c2, rfl, hb2.mono hB⟩⟩, hx2⟩

set_option maxRecDepth 100000 in
theorem contained_says (cont : List UInt8) (B : Nat) : CloSays Tryz.prog 90 cont true (fun v w' => ∃ g', v = .pointer (some ⟨g', 0, none⟩) ∧ B ≤ g' ∧ RD 72 w' g' cont 0) B := by
  intro A c w1 hB hb
  go_enter Tryz.func90, Tryz.ntmps90
  go_wp2_with (go_at_call 40; refine (inner_at A c cont _ hb).mono ?_; rintro e w2 ⟨rfl, hr2, hx2⟩)
  go_ret2
  exact ⟨⟨_, rfl, fun _ => ⟨_, rfl, hB, hr2⟩⟩, hx2⟩
end Go.Proofs.YthpfomjibfbiiaaGreatDoor
namespace Go.Proofs.YthpfomjibfbiiaaGreatDoor
open Go Go.RowKit

set_option maxRecDepth 100000 in
theorem RdOctets_at (g : Nat) (l : List UInt8) (k : Nat) (m : List UInt8) (hm : l.drop k = m) (v : List UInt8) (er used : Nat) (hr : readOctetsF m = (v, er, used)) (hl : m.length ≤ 140737488355328) (w : World) (h : RD 72 w g l k) :
    Calls Tryz.prog 70 #[.pointer (some ⟨g, 0, none⟩)] w fun e w' => ∃ A c, e = .returned (.tuple #[.slice A v.length c, .int .i64 (er : Int)]) ∧ OB 5 w' w.heap.size (.slice A v.length c) v ∧ RD 72 w' g l (k + used) ∧ w.grownBy w' (some g) := by
  have hlc : (takeF 4 m).1.length ≤ 140737488355328 := Nat.le_trans (takeF_cont 4 m _ _ _ rfl) hl
  have hrd := read_bytes_at g l k 4 4 rfl m hm (takeF 4 m).1 (takeF 4 m).2.1 (takeF 4 m).2.2 rfl _ _ w (octetsClo_says _ _ hlc) h
  have HRD := Lib.hid hrd; have HR := Lib.hid hr
  clear hrd hr hm hlc
  go_enter Tryz.func70, Tryz.ntmps70
  go_wp2_with fail
  refine HRD.out.mono ?_
  have hr := HR.out
  unfold readOctetsF readF at hr
  rintro e w1 ⟨hg, ⟨her, rfl, hr1⟩ | ⟨her, hok, rfl, hr1⟩ | ⟨her, hok, v', rfl, ⟨A3, c3, rfl, hv⟩, hr1⟩⟩
  · rw [if_pos her] at hr
    simp only [Prod.mk.injEq] at hr
    obtain ⟨rfl, rfl, rfl⟩ := hr
    go_wp2_with fail
    go_ret2
    exact ⟨none, 0, rfl, OB.nil _ _ _, hr1, hg⟩
  · cases hok
  · rw [if_neg (by omega), if_pos rfl] at hr
    simp only [Prod.mk.injEq, id] at hr
    obtain ⟨rfl, rfl, rfl⟩ := hr
    go_wp2_with fail
    go_ret2
    exact ⟨A3, c3, rfl, hv, hr1, hg⟩

/-- What a method that hands back a reader of contents leaves. -/
def InPost (w : World) (g : Nat) (l : List UInt8) (k : Nat) (v : Option (List UInt8)) (er used : Nat) (p : Value) (w' : World) : Prop :=
  w.grownBy w' (some g) ∧ RD 72 w' g l (k + used) ∧ ((v = none ∧ er ≠ 0 ∧ p = .pointer none) ∨ ∃ x g', v = some x ∧ er = 0 ∧ p = .pointer (some ⟨g', 0, none⟩) ∧ w.heap.size ≤ g' ∧ RD 72 w' g' x 0)

set_option maxRecDepth 100000 in
theorem RdSequence_at (g : Nat) (l : List UInt8) (k : Nat) (m : List UInt8) (hm : l.drop k = m) (v : Option (List UInt8)) (er used : Nat) (hr : readInF 48 m = (v, er, used)) (w : World) (h : RD 72 w g l k) :
    Calls Tryz.prog 66 #[.pointer (some ⟨g, 0, none⟩)] w fun e w' => ∃ p, e = .returned (.tuple #[p, .int .i64 (er : Int)]) ∧ InPost w g l k v er used p w' := by
  have hrd := read_reader_at g l k 48 48 rfl m hm (takeF 48 m).1 (takeF 48 m).2.1 (takeF 48 m).2.2 rfl _ _ w (contained_says _ _) h
  have HRD := Lib.hid hrd; have HR := Lib.hid hr
  clear hrd hr hm
  go_enter Tryz.func66, Tryz.ntmps66
  go_wp2_with fail
  refine HRD.out.mono ?_
  have hr := HR.out
  unfold readInF readF at hr
  rintro e w1 ⟨hg, ⟨her, rfl, hr1⟩ | ⟨her, hok, rfl, hr1⟩ | ⟨her, hok, v', rfl, ⟨g', rfl, hB', hv⟩, hr1⟩⟩
  · rw [if_pos her] at hr
    simp only [Prod.mk.injEq] at hr
    obtain ⟨rfl, rfl, rfl⟩ := hr
    go_wp2_with fail
    go_ret2
    exact ⟨_, rfl, hg, hr1, .inl ⟨rfl, her, rfl⟩⟩
  · cases hok
  · rw [if_neg (by omega), if_pos rfl] at hr
    simp only [Prod.mk.injEq] at hr
    obtain ⟨rfl, rfl, rfl⟩ := hr
    go_wp2_with fail
    go_ret2
    exact ⟨_, rfl, hg, hr1, .inr ⟨_, g', rfl, rfl, rfl, hB', hv⟩⟩

set_option maxRecDepth 100000 in
theorem Left_at (g : Nat) (l : List UInt8) (k : Nat) (w : World) (h : RD 72 w g l k) :
    Calls Tryz.prog 23 #[.pointer (some ⟨g, 0, none⟩)] w fun e w' => e = .returned (.int .i64 ((l.length - k : Nat) : Int)) ∧ Ext w w' := by
  obtain ⟨Ax, cx, hbx, k0, k1, k2, kf⟩ := h.cells
  have hk := h.le
  obtain ⟨m, hm⟩ : ∃ m, m = l.drop k := ⟨_, rfl⟩
  have hml : l.length - k = m.length := by rw [hm]; simp
  rw [hml]
  have HM := Lib.hid hm; clear hm hml
  go_enter Tryz.func23, Tryz.ntmps23
  go_wp2_with (go_at_call 45; refine (rest_at g l k m HM.out.symm _ h).mono ?_; rintro e w1 ⟨A1, c1, rfl, hb1, hx1⟩)
  go_ret
  exact ⟨rfl, hx1⟩

end Go.Proofs.YthpfomjibfbiiaaGreatDoor
