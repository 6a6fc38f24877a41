/- The methods of Reader. -/
import Derived.Test.YtmbmhepmeajnoaaDer11
namespace Go.Proofs.Ytmbmhepmeajnoaa
open Go Go.RowKit

set_option maxRecDepth 100000 in
theorem RdBool_at (g : Nat) (l : List UInt8) (k : Nat) (m : List UInt8) (hm : l.drop k = m) (v : Bool) (er used : Nat) (hr : readBoolF m = (v, er, used)) (w : World) (h : RD 62 w g l k) :
    Calls Try.prog 39 #[.pointer (some ⟨g, 0, none⟩)] w fun e w' => e = .returned (.tuple #[.bool v, .int .i64 (er : Int)]) ∧ RD 62 w' g l (k + used) ∧ w.grownBy w' (some g) := by
  have hrd := read_bool_at g l k 1 1 rfl m hm (takeF 1 m).1 (takeF 1 m).2.1 (takeF 1 m).2.2 rfl _ _ w (boolClo_says _ _) h
  have HRD := Lib.hid hrd; have HR := Lib.hid hr
  clear hrd hr hm
  go_enter Try.func39, Try.ntmps39
  go_wp2_with fail
  refine HRD.out.mono ?_
  have hr := HR.out
  unfold readBoolF readF at hr
  rintro e w1 ⟨hg, ⟨her, rfl, hr1⟩ | ⟨her, hok, rfl, hr1⟩ | ⟨her, hok, v', rfl, hv, hr1⟩⟩
  · rw [if_pos her] at hr
    simp only [Prod.mk.injEq] at hr
    obtain ⟨rfl, rfl, rfl⟩ := hr
    go_wp2_with fail
    go_ret2
    exact ⟨rfl, hr1, hg⟩
  · rw [if_neg (by omega), if_neg (by rw [hok]; simp)] at hr
    simp only [Prod.mk.injEq] at hr
    obtain ⟨rfl, rfl, rfl⟩ := hr
    go_wp2_with fail
    go_ret2
    exact ⟨rfl, hr1, hg⟩
  · rw [if_neg (by omega), if_pos hok] at hr
    simp only [Prod.mk.injEq] at hr
    obtain ⟨rfl, rfl, rfl⟩ := hr
    subst hv
    go_wp2_with fail
    go_ret2
    exact ⟨rfl, hr1, hg⟩

set_option maxRecDepth 100000 in
theorem RdBits_at (g : Nat) (l : List UInt8) (k : Nat) (m : List UInt8) (hm : l.drop k = m) (v : Int) (er used : Nat) (hr : readBitsF m = (v, er, used)) (w : World) (h : RD 62 w g l k) :
    Calls Try.prog 41 #[.pointer (some ⟨g, 0, none⟩)] w fun e w' => e = .returned (.tuple #[.int .u32 v, .int .i64 (er : Int)]) ∧ RD 62 w' g l (k + used) ∧ w.grownBy w' (some g) := by
  have hrd := read_u32_at g l k 3 3 rfl m hm (takeF 3 m).1 (takeF 3 m).2.1 (takeF 3 m).2.2 rfl _ _ w (bitsClo_says _ _) h
  have HRD := Lib.hid hrd; have HR := Lib.hid hr
  clear hrd hr hm
  go_enter Try.func41, Try.ntmps41
  go_wp2_with fail
  refine HRD.out.mono ?_
  have hr := HR.out
  unfold readBitsF readF at hr
  rintro e w1 ⟨hg, ⟨her, rfl, hr1⟩ | ⟨her, hok, rfl, hr1⟩ | ⟨her, hok, v', rfl, hv, hr1⟩⟩
  · rw [if_pos her] at hr
    simp only [Prod.mk.injEq] at hr
    obtain ⟨rfl, rfl, rfl⟩ := hr
    go_wp2_with fail
    go_ret2
    exact ⟨rfl, hr1, hg⟩
  · rw [if_neg (by omega), if_neg (by rw [hok]; simp)] at hr
    simp only [Prod.mk.injEq] at hr
    obtain ⟨rfl, rfl, rfl⟩ := hr
    go_wp2_with fail
    go_ret2
    exact ⟨rfl, hr1, hg⟩
  · rw [if_neg (by omega), if_pos hok] at hr
    simp only [Prod.mk.injEq] at hr
    obtain ⟨rfl, rfl, rfl⟩ := hr
    subst hv
    go_wp2_with fail
    go_ret2
    exact ⟨rfl, hr1, hg⟩

set_option maxRecDepth 100000 in
theorem RdTime_at (g : Nat) (l : List UInt8) (k : Nat) (m : List UInt8) (hm : l.drop k = m) (v : Int) (er used : Nat) (hr : readTimeF m = (v, er, used)) (w : World) (h : RD 62 w g l k) :
    Calls Try.prog 42 #[.pointer (some ⟨g, 0, none⟩)] w fun e w' => e = .returned (.tuple #[.int .i64 v, .int .i64 (er : Int)]) ∧ RD 62 w' g l (k + used) ∧ w.grownBy w' (some g) := by
  have hrd := read_time_at g l k 24 24 rfl m hm (takeF 24 m).1 (takeF 24 m).2.1 (takeF 24 m).2.2 rfl _ _ w (timeClo_says _ _) h
  have HRD := Lib.hid hrd; have HR := Lib.hid hr
  clear hrd hr hm
  go_enter Try.func42, Try.ntmps42
  go_wp2_with fail
  refine HRD.out.mono ?_
  have hr := HR.out
  unfold readTimeF readF at hr
  rintro e w1 ⟨hg, ⟨her, rfl, hr1⟩ | ⟨her, hok, rfl, hr1⟩ | ⟨her, hok, v', rfl, hv, hr1⟩⟩
  · rw [if_pos her] at hr
    simp only [Prod.mk.injEq] at hr
    obtain ⟨rfl, rfl, rfl⟩ := hr
    go_wp2_with fail
    go_ret2
    exact ⟨rfl, hr1, hg⟩
  · rw [if_neg (by omega), if_neg (by rw [hok]; simp)] at hr
    simp only [Prod.mk.injEq] at hr
    obtain ⟨rfl, rfl, rfl⟩ := hr
    go_wp2_with fail
    go_ret2
    exact ⟨rfl, hr1, hg⟩
  · rw [if_neg (by omega), if_pos hok] at hr
    simp only [Prod.mk.injEq] at hr
    obtain ⟨rfl, rfl, rfl⟩ := hr
    subst hv
    go_wp2_with fail
    go_ret2
    exact ⟨rfl, hr1, hg⟩

set_option maxRecDepth 100000 in
theorem RdString_at (g : Nat) (l : List UInt8) (k : Nat) (m : List UInt8) (hm : l.drop k = m) (v : List UInt8) (er used : Nat) (hr : readStringF m = (v, er, used)) (w : World) (h : RD 62 w g l k) :
    Calls Try.prog 43 #[.pointer (some ⟨g, 0, none⟩)] w fun e w' => e = .returned (.tuple #[.string ⟨v.toArray⟩, .int .i64 (er : Int)]) ∧ RD 62 w' g l (k + used) ∧ w.grownBy w' (some g) := by
  have hrd := read_string_at g l k 27 27 rfl m hm (takeF 27 m).1 (takeF 27 m).2.1 (takeF 27 m).2.2 rfl _ _ w (stringClo_says _ _) h
  have HRD := Lib.hid hrd; have HR := Lib.hid hr
  clear hrd hr hm
  go_enter Try.func43, Try.ntmps43
  go_wp2_with fail
  refine HRD.out.mono ?_
  have hr := HR.out
  unfold readStringF readF at hr
  rintro e w1 ⟨hg, ⟨her, rfl, hr1⟩ | ⟨her, hok, rfl, hr1⟩ | ⟨her, hok, v', rfl, hv, hr1⟩⟩
  · rw [if_pos her] at hr
    simp only [Prod.mk.injEq] at hr
    obtain ⟨rfl, rfl, rfl⟩ := hr
    go_wp2_with fail
    go_ret2
    exact ⟨rfl, hr1, hg⟩
  · cases hok
  · rw [if_neg (by omega), if_pos rfl] at hr
    simp only [Prod.mk.injEq] at hr
    obtain ⟨rfl, rfl, rfl⟩ := hr
    subst hv
    go_wp2_with fail
    go_ret2
    exact ⟨rfl, hr1, hg⟩

set_option maxRecDepth 100000 in
theorem RdOctets_at (g : Nat) (l : List UInt8) (k : Nat) (m : List UInt8) (hm : l.drop k = m) (v : List UInt8) (er used : Nat) (hr : readOctetsF m = (v, er, used)) (hl : m.length ≤ 140737488355328) (w : World) (h : RD 62 w g l k) :
    Calls Try.prog 32 #[.pointer (some ⟨g, 0, none⟩)] w fun e w' => ∃ A c, e = .returned (.tuple #[.slice A v.length c, .int .i64 (er : Int)]) ∧ OB 5 w' w.heap.size (.slice A v.length c) v ∧ RD 62 w' g l (k + used) ∧ w.grownBy w' (some g) := by
  have hlc : (takeF 4 m).1.length ≤ 140737488355328 := Nat.le_trans (takeF_cont 4 m _ _ _ rfl) hl
  have hrd := read_bytes_at g l k 4 4 rfl m hm (takeF 4 m).1 (takeF 4 m).2.1 (takeF 4 m).2.2 rfl _ _ w (octetsClo_says _ _ hlc) h
  have HRD := Lib.hid hrd; have HR := Lib.hid hr
  clear hrd hr hm hlc
  go_enter Try.func32, Try.ntmps32
  go_wp2_with fail
  refine HRD.out.mono ?_
  have hr := HR.out
  unfold readOctetsF readF at hr
  rintro e w1 ⟨hg, ⟨her, rfl, hr1⟩ | ⟨her, hok, rfl, hr1⟩ | ⟨her, hok, v', rfl, ⟨A3, c3, rfl, hv⟩, hr1⟩⟩
  · rw [if_pos her] at hr
    simp only [Prod.mk.injEq] at hr
    obtain ⟨rfl, rfl, rfl⟩ := hr
    go_wp2_with fail
    go_ret2
    exact ⟨none, 0, rfl, OB.nil _ _ _, hr1, hg⟩
  · cases hok
  · rw [if_neg (by omega), if_pos rfl] at hr
    simp only [Prod.mk.injEq, id] at hr
    obtain ⟨rfl, rfl, rfl⟩ := hr
    go_wp2_with fail
    go_ret2
    exact ⟨A3, c3, rfl, hv, hr1, hg⟩

/-- What a method that hands back a reader of contents leaves. -/
def InPost (w : World) (g : Nat) (l : List UInt8) (k : Nat) (v : Option (List UInt8)) (er used : Nat) (p : Value) (w' : World) : Prop :=
  w.grownBy w' (some g) ∧ RD 62 w' g l (k + used) ∧ ((v = none ∧ er ≠ 0 ∧ p = .pointer none) ∨ ∃ x g', v = some x ∧ er = 0 ∧ p = .pointer (some ⟨g', 0, none⟩) ∧ w.heap.size ≤ g' ∧ RD 62 w' g' x 0)

set_option maxRecDepth 100000 in
theorem RdSequence_at (g : Nat) (l : List UInt8) (k : Nat) (m : List UInt8) (hm : l.drop k = m) (v : Option (List UInt8)) (er used : Nat) (hr : readInF 48 m = (v, er, used)) (w : World) (h : RD 62 w g l k) :
    Calls Try.prog 44 #[.pointer (some ⟨g, 0, none⟩)] w fun e w' => ∃ p, e = .returned (.tuple #[p, .int .i64 (er : Int)]) ∧ InPost w g l k v er used p w' := by
  have hrd := read_reader_at g l k 48 48 rfl m hm (takeF 48 m).1 (takeF 48 m).2.1 (takeF 48 m).2.2 rfl _ _ w (contained_says _ _) h
  have HRD := Lib.hid hrd; have HR := Lib.hid hr
  clear hrd hr hm
  go_enter Try.func44, Try.ntmps44
  go_wp2_with fail
  refine HRD.out.mono ?_
  have hr := HR.out
  unfold readInF readF at hr
  rintro e w1 ⟨hg, ⟨her, rfl, hr1⟩ | ⟨her, hok, rfl, hr1⟩ | ⟨her, hok, v', rfl, ⟨g', rfl, hB', hv⟩, hr1⟩⟩
  · rw [if_pos her] at hr
    simp only [Prod.mk.injEq] at hr
    obtain ⟨rfl, rfl, rfl⟩ := hr
    go_wp2_with fail
    go_ret2
    exact ⟨_, rfl, hg, hr1, .inl ⟨rfl, her, rfl⟩⟩
  · cases hok
  · rw [if_neg (by omega), if_pos rfl] at hr
    simp only [Prod.mk.injEq] at hr
    obtain ⟨rfl, rfl, rfl⟩ := hr
    go_wp2_with fail
    go_ret2
    exact ⟨_, rfl, hg, hr1, .inr ⟨_, g', rfl, rfl, rfl, hB', hv⟩⟩

set_option maxRecDepth 100000 in
theorem Left_at (g : Nat) (l : List UInt8) (k : Nat) (w : World) (h : RD 62 w g l k) :
    Calls Try.prog 50 #[.pointer (some ⟨g, 0, none⟩)] w fun e w' => e = .returned (.int .i64 ((l.length - k : Nat) : Int)) ∧ Ext w w' := by
  obtain ⟨Ax, cx, hbx, k0, k1, k2, kf⟩ := h.cells
  have hk := h.le
  obtain ⟨m, hm⟩ : ∃ m, m = l.drop k := ⟨_, rfl⟩
  have hml : l.length - k = m.length := by rw [hm]; simp
  rw [hml]
  have HM := Lib.hid hm; clear hm hml
  go_enter Try.func50, Try.ntmps50
  go_wp2_with (go_at_call 80; refine (rest_at g l k m HM.out.symm _ h).mono ?_; rintro e w1 ⟨A1, c1, rfl, hb1, hx1⟩)
  go_ret
  exact ⟨rfl, hx1⟩

set_option maxRecDepth 100000 in
theorem End_at (g : Nat) (l : List UInt8) (k : Nat) (w : World) (h : RD 62 w g l k) :
    Calls Try.prog 33 #[.pointer (some ⟨g, 0, none⟩)] w fun e w' => e = .returned (.int .i64 (if k < l.length then 5 else 0)) ∧ Ext w w' := by
  obtain ⟨Ax, cx, hbx, k0, k1, k2, kf⟩ := h.cells
  have hk := h.le
  obtain ⟨n, hn⟩ : ∃ n, n = l.length - k := ⟨_, rfl⟩
  have HL := Lib.hid (Left_at g l k)
  by_cases hlt : k < l.length
  · have h0 : (0 : Int) < n := by omega
    rw [if_pos hlt]
    have HN := Lib.hid hn; clear hn hlt
    go_enter Try.func33, Try.ntmps33
    go_wp2_with (go_at_call 50; refine (HL.out _ h).mono ?_; rintro e w1 ⟨rfl, hx1⟩; rw [← HN.out])
    go_ret
    exact ⟨rfl, hx1⟩
  · have h0 : ¬ (0 : Int) < n := by omega
    rw [if_neg hlt]
    have HN := Lib.hid hn; clear hn hlt
    go_enter Try.func33, Try.ntmps33
    go_wp2_with (go_at_call 50; refine (HL.out _ h).mono ?_; rintro e w1 ⟨rfl, hx1⟩; rw [← HN.out])
    go_ret
    exact ⟨rfl, hx1⟩
end Go.Proofs.Ytmbmhepmeajnoaa
