/- Flags: the conditions of the rules. (wip/tools/genfl7.py printed this.) -/
import Derived.Test.YtigjecmhhjjenaaDoorFl3
import Derived.Deep.QuietTactic
import Derived.BigQuiet
import Derived.Laws.EntriesVeiled
namespace Go.Proofs.YtigjecmhhjjenaaDoor
open Go Go.RowKit
set_option linter.unusedVariables false

/-- A captured truth value. -/
def BBx (W : World) (b : Nat) (v : Bool) : Prop := W.heap[b]? = some (.cells #[.bool v] 4 (0, 0))
theorem BBx.ext {W W' : World} {b : Nat} {v : Bool} (h : BBx W b v) (hx : Ext W W') : BBx W' b v := hx.heap h
def neW (x y : W32) : Bool := !(x == y)
theorem u32_bne (x y : W32) : ((x.toNat : Int) != (y.toNat : Int)) = neW x y := by
  show (!((x.toNat : Int) == (y.toNat : Int))) = neW x y
  rw [u32_beq]; rfl
set_option maxRecDepth 100000 in
theorem I1_at (p0 p1 : Nat) (o : W32) (a : W32) (W : World) (h0 : FB W p0 o) (h1 : FB W p1 a) :
    Calls Tryd.prog 44 #[.pointer (some ⟨p0, 0, none⟩), .pointer (some ⟨p1, 0, none⟩)] W fun e w' => e = .returned (.bool (!optB o || !tkB a)) ∧ Ext W w' := by
  have c0 := (row1 h0).1
  have c1 := (row1 h1).1
  obtain ⟨x, hx⟩ : ∃ b, optB o = b := ⟨_, rfl⟩
  have Hx := Lib.hid (hx ▸ Options_at o W)
  obtain ⟨y, hy⟩ : ∃ b, tkB a = b := ⟨_, rfl⟩
  have Hy := Lib.hid (hy ▸ Ticket_at a W)
  rw [hx, hy]
  clear h0 h1 hx hy
  have hres : W = W := rfl
  clear hres
  cases x with
  | false =>
    cases y with
    | false =>
      go_enter Tryd.func44, Tryd.ntmps44
      go_wp2_with fail
      refine Hx.out.mono ?_
      rintro _ w1 ⟨rfl, rfl⟩
      go_wp2_with fail
      go_ret
      exact ⟨rfl, Ext.refl _⟩
    | true =>
      go_enter Tryd.func44, Tryd.ntmps44
      go_wp2_with fail
      refine Hx.out.mono ?_
      rintro _ w1 ⟨rfl, rfl⟩
      go_wp2_with fail
      go_ret
      exact ⟨rfl, Ext.refl _⟩
  | true =>
    cases y with
    | false =>
      go_enter Tryd.func44, Tryd.ntmps44
      go_wp2_with fail
      refine Hx.out.mono ?_
      rintro _ w1 ⟨rfl, rfl⟩
      go_wp2_with fail
      refine Hy.out.mono ?_
      rintro _ w1 ⟨rfl, rfl⟩
      go_wp2_with fail
      go_ret
      exact ⟨rfl, Ext.refl _⟩
    | true =>
      go_enter Tryd.func44, Tryd.ntmps44
      go_wp2_with fail
      refine Hx.out.mono ?_
      rintro _ w1 ⟨rfl, rfl⟩
      go_wp2_with fail
      refine Hy.out.mono ?_
      rintro _ w1 ⟨rfl, rfl⟩
      go_wp2_with fail
      go_ret
      exact ⟨rfl, Ext.refl _⟩
set_option maxRecDepth 100000 in
theorem I3_at (p0 p1 : Nat) (o : W32) (a : W32) (W : World) (h0 : FB W p0 o) (h1 : FB W p1 a) :
    Calls Tryd.prog 46 #[.pointer (some ⟨p0, 0, none⟩), .pointer (some ⟨p1, 0, none⟩)] W fun e w' => e = .returned (.bool (hasB o 32#32 && !hasB a 16#32)) ∧ Ext W w' := by
  have c0 := (row1 h0).1
  have c1 := (row1 h1).1
  obtain ⟨x, hx⟩ : ∃ b, hasB o 32#32 = b := ⟨_, rfl⟩
  have Hx := Lib.hid (hx ▸ Has_lit2 32 o 32#32 (by decide) W)
  obtain ⟨y, hy⟩ : ∃ b, hasB a 16#32 = b := ⟨_, rfl⟩
  have Hy := Lib.hid (hy ▸ Has_lit2 16 a 16#32 (by decide) W)
  rw [hx, hy]
  clear h0 h1 hx hy
  have hres : W = W := rfl
  clear hres
  cases x with
  | false =>
    cases y with
    | false =>
      go_enter Tryd.func46, Tryd.ntmps46
      go_wp2_with fail
      refine Hx.out.mono ?_
      rintro _ w1 ⟨rfl, rfl⟩
      go_wp2_with fail
      go_ret
      exact ⟨rfl, Ext.refl _⟩
    | true =>
      go_enter Tryd.func46, Tryd.ntmps46
      go_wp2_with fail
      refine Hx.out.mono ?_
      rintro _ w1 ⟨rfl, rfl⟩
      go_wp2_with fail
      go_ret
      exact ⟨rfl, Ext.refl _⟩
  | true =>
    cases y with
    | false =>
      go_enter Tryd.func46, Tryd.ntmps46
      go_wp2_with fail
      refine Hx.out.mono ?_
      rintro _ w1 ⟨rfl, rfl⟩
      go_wp2_with fail
      refine Hy.out.mono ?_
      rintro _ w1 ⟨rfl, rfl⟩
      go_wp2_with fail
      go_ret
      exact ⟨rfl, Ext.refl _⟩
    | true =>
      go_enter Tryd.func46, Tryd.ntmps46
      go_wp2_with fail
      refine Hx.out.mono ?_
      rintro _ w1 ⟨rfl, rfl⟩
      go_wp2_with fail
      refine Hy.out.mono ?_
      rintro _ w1 ⟨rfl, rfl⟩
      go_wp2_with fail
      go_ret
      exact ⟨rfl, Ext.refl _⟩
set_option maxRecDepth 100000 in
theorem G2_at (p0 p1 p2 : Nat) (o : W32) (t : W32) (a : W32) (W : World) (h0 : FB W p0 o) (h1 : FB W p1 t) (h2 : FB W p2 a) :
    Calls Tryd.prog 52 #[.pointer (some ⟨p0, 0, none⟩), .pointer (some ⟨p1, 0, none⟩), .pointer (some ⟨p2, 0, none⟩)] W fun e w' => e = .returned (.bool (!optB o || !tkB t || !tkB a)) ∧ Ext W w' := by
  have c0 := (row1 h0).1
  have c1 := (row1 h1).1
  have c2 := (row1 h2).1
  obtain ⟨x, hx⟩ : ∃ b, optB o = b := ⟨_, rfl⟩
  have Hx := Lib.hid (hx ▸ Options_at o W)
  obtain ⟨y, hy⟩ : ∃ b, tkB t = b := ⟨_, rfl⟩
  have Hy := Lib.hid (hy ▸ Ticket_at t W)
  obtain ⟨z, hz⟩ : ∃ b, tkB a = b := ⟨_, rfl⟩
  have Hz := Lib.hid (hz ▸ Ticket_at a W)
  rw [hx, hy, hz]
  clear h0 h1 h2 hx hy hz
  have hres : W = W := rfl
  clear hres
  cases x with
  | false =>
    cases y with
    | false =>
      cases z with
      | false =>
        go_enter Tryd.func52, Tryd.ntmps52
        go_wp2_with fail
        refine Hx.out.mono ?_
        rintro _ w1 ⟨rfl, rfl⟩
        go_wp2_with fail
        go_ret
        exact ⟨rfl, Ext.refl _⟩
      | true =>
        go_enter Tryd.func52, Tryd.ntmps52
        go_wp2_with fail
        refine Hx.out.mono ?_
        rintro _ w1 ⟨rfl, rfl⟩
        go_wp2_with fail
        go_ret
        exact ⟨rfl, Ext.refl _⟩
    | true =>
      cases z with
      | false =>
        go_enter Tryd.func52, Tryd.ntmps52
        go_wp2_with fail
        refine Hx.out.mono ?_
        rintro _ w1 ⟨rfl, rfl⟩
        go_wp2_with fail
        go_ret
        exact ⟨rfl, Ext.refl _⟩
      | true =>
        go_enter Tryd.func52, Tryd.ntmps52
        go_wp2_with fail
        refine Hx.out.mono ?_
        rintro _ w1 ⟨rfl, rfl⟩
        go_wp2_with fail
        go_ret
        exact ⟨rfl, Ext.refl _⟩
  | true =>
    cases y with
    | false =>
      cases z with
      | false =>
        go_enter Tryd.func52, Tryd.ntmps52
        go_wp2_with fail
        refine Hx.out.mono ?_
        rintro _ w1 ⟨rfl, rfl⟩
        go_wp2_with fail
        refine Hy.out.mono ?_
        rintro _ w1 ⟨rfl, rfl⟩
        go_wp2_with fail
        go_ret
        exact ⟨rfl, Ext.refl _⟩
      | true =>
        go_enter Tryd.func52, Tryd.ntmps52
        go_wp2_with fail
        refine Hx.out.mono ?_
        rintro _ w1 ⟨rfl, rfl⟩
        go_wp2_with fail
        refine Hy.out.mono ?_
        rintro _ w1 ⟨rfl, rfl⟩
        go_wp2_with fail
        go_ret
        exact ⟨rfl, Ext.refl _⟩
    | true =>
      cases z with
      | false =>
        go_enter Tryd.func52, Tryd.ntmps52
        go_wp2_with fail
        refine Hx.out.mono ?_
        rintro _ w1 ⟨rfl, rfl⟩
        go_wp2_with fail
        refine Hy.out.mono ?_
        rintro _ w1 ⟨rfl, rfl⟩
        go_wp2_with fail
        refine Hz.out.mono ?_
        rintro _ w1 ⟨rfl, rfl⟩
        go_wp2_with fail
        go_ret
        exact ⟨rfl, Ext.refl _⟩
      | true =>
        go_enter Tryd.func52, Tryd.ntmps52
        go_wp2_with fail
        refine Hx.out.mono ?_
        rintro _ w1 ⟨rfl, rfl⟩
        go_wp2_with fail
        refine Hy.out.mono ?_
        rintro _ w1 ⟨rfl, rfl⟩
        go_wp2_with fail
        refine Hz.out.mono ?_
        rintro _ w1 ⟨rfl, rfl⟩
        go_wp2_with fail
        go_ret
        exact ⟨rfl, Ext.refl _⟩
set_option maxRecDepth 100000 in
theorem G5_at (p0 p1 : Nat) (r : Bool) (t : W32) (W : World) (h0 : BBx W p0 r) (h1 : FB W p1 t) :
    Calls Tryd.prog 55 #[.pointer (some ⟨p0, 0, none⟩), .pointer (some ⟨p1, 0, none⟩)] W fun e w' => e = .returned (.bool (r && !hasB t 128#32)) ∧ Ext W w' := by
  have c0 := (row1 h0).1
  have c1 := (row1 h1).1
  obtain ⟨x, hx⟩ : ∃ b, hasB t 128#32 = b := ⟨_, rfl⟩
  have Hx := Lib.hid (hx ▸ Has_lit2 128 t 128#32 (by decide) W)
  rw [hx]
  clear h0 h1 hx
  have hres : W = W := rfl
  clear hres
  cases r with
  | false =>
    cases x with
    | false =>
      go_enter Tryd.func55, Tryd.ntmps55
      go_wp2_with fail
      go_ret
      exact ⟨rfl, Ext.refl _⟩
    | true =>
      go_enter Tryd.func55, Tryd.ntmps55
      go_wp2_with fail
      go_ret
      exact ⟨rfl, Ext.refl _⟩
  | true =>
    cases x with
    | false =>
      go_enter Tryd.func55, Tryd.ntmps55
      go_wp2_with fail
      refine Hx.out.mono ?_
      rintro _ w1 ⟨rfl, rfl⟩
      go_wp2_with fail
      go_ret
      exact ⟨rfl, Ext.refl _⟩
    | true =>
      go_enter Tryd.func55, Tryd.ntmps55
      go_wp2_with fail
      refine Hx.out.mono ?_
      rintro _ w1 ⟨rfl, rfl⟩
      go_wp2_with fail
      go_ret
      exact ⟨rfl, Ext.refl _⟩
set_option maxRecDepth 100000 in
theorem G6_at (p0 p1 p2 : Nat) (p : Bool) (t : W32) (o : W32) (W : World) (h0 : BBx W p0 p) (h1 : FB W p1 t) (h2 : FB W p2 o) :
    Calls Tryd.prog 56 #[.pointer (some ⟨p0, 0, none⟩), .pointer (some ⟨p1, 0, none⟩), .pointer (some ⟨p2, 0, none⟩)] W fun e w' => e = .returned (.bool (p && !hasB t (andW o 149#32))) ∧ Ext W w' := by
  have c0 := (row1 h0).1
  have c1 := (row1 h1).1
  have c2 := (row1 h2).1
  obtain ⟨x, hx⟩ : ∃ b, hasB t (andW o 149#32) = b := ⟨_, rfl⟩
  have Hx := Lib.hid (hx ▸ Has_at t (andW o 149#32) W)
  rw [hx]
  have ha := u32_and o 149#32
  have e1 : ((149#32 : W32).toNat : Int) = 149 := rfl
  rw [e1] at ha
  clear h0 h1 h2 hx
  have hres : W = W := rfl
  clear hres
  cases p with
  | false =>
    cases x with
    | false =>
      go_enter Tryd.func56, Tryd.ntmps56
      go_wp2_with fail
      go_ret
      exact ⟨rfl, Ext.refl _⟩
    | true =>
      go_enter Tryd.func56, Tryd.ntmps56
      go_wp2_with fail
      go_ret
      exact ⟨rfl, Ext.refl _⟩
  | true =>
    cases x with
    | false =>
      go_enter Tryd.func56, Tryd.ntmps56
      go_wp2_with fail
      refine Hx.out.mono ?_
      rintro _ w1 ⟨rfl, rfl⟩
      go_wp2_with fail
      go_ret
      exact ⟨rfl, Ext.refl _⟩
    | true =>
      go_enter Tryd.func56, Tryd.ntmps56
      go_wp2_with fail
      refine Hx.out.mono ?_
      rintro _ w1 ⟨rfl, rfl⟩
      go_wp2_with fail
      go_ret
      exact ⟨rfl, Ext.refl _⟩
set_option maxRecDepth 100000 in
theorem GD_at (p0 p1 p2 p3 p4 p5 : Nat) (p : Bool) (o : W32) (q : W32) (t : W32) (a : W32) (n : W32) (W : World) (h0 : BBx W p0 p) (h1 : FB W p1 o) (h2 : FB W p2 q) (h3 : FB W p3 t) (h4 : FB W p4 a) (h5 : FB W p5 n) :
    Calls Tryd.prog 51 #[.pointer (some ⟨p0, 0, none⟩), .pointer (some ⟨p1, 0, none⟩), .pointer (some ⟨p2, 0, none⟩), .pointer (some ⟨p3, 0, none⟩), .pointer (some ⟨p4, 0, none⟩), .pointer (some ⟨p5, 0, none⟩)] W fun e w' => e = .returned (.bool (p && hasB o q && !hasB (andW t a) n)) ∧ Ext W w' := by
  have c0 := (row1 h0).1
  have c1 := (row1 h1).1
  have c2 := (row1 h2).1
  have c3 := (row1 h3).1
  have c4 := (row1 h4).1
  have c5 := (row1 h5).1
  obtain ⟨x, hx⟩ : ∃ b, hasB o q = b := ⟨_, rfl⟩
  have Hx := Lib.hid (hx ▸ Has_at o q W)
  obtain ⟨y, hy⟩ : ∃ b, hasB (andW t a) n = b := ⟨_, rfl⟩
  have Hy := Lib.hid (hy ▸ Has_at (andW t a) n W)
  rw [hx, hy]
  have ha := u32_and t a
  clear h0 h1 h2 h3 h4 h5 hx hy
  have hres : W = W := rfl
  clear hres
  cases p with
  | false =>
    cases x with
    | false =>
      cases y with
      | false =>
        go_enter Tryd.func51, Tryd.ntmps51
        go_wp2_with fail
        go_ret
        exact ⟨rfl, Ext.refl _⟩
      | true =>
        go_enter Tryd.func51, Tryd.ntmps51
        go_wp2_with fail
        go_ret
        exact ⟨rfl, Ext.refl _⟩
    | true =>
      cases y with
      | false =>
        go_enter Tryd.func51, Tryd.ntmps51
        go_wp2_with fail
        go_ret
        exact ⟨rfl, Ext.refl _⟩
      | true =>
        go_enter Tryd.func51, Tryd.ntmps51
        go_wp2_with fail
        go_ret
        exact ⟨rfl, Ext.refl _⟩
  | true =>
    cases x with
    | false =>
      cases y with
      | false =>
        go_enter Tryd.func51, Tryd.ntmps51
        go_wp2_with fail
        refine Hx.out.mono ?_
        rintro _ w1 ⟨rfl, rfl⟩
        go_wp2_with fail
        go_ret
        exact ⟨rfl, Ext.refl _⟩
      | true =>
        go_enter Tryd.func51, Tryd.ntmps51
        go_wp2_with fail
        refine Hx.out.mono ?_
        rintro _ w1 ⟨rfl, rfl⟩
        go_wp2_with fail
        go_ret
        exact ⟨rfl, Ext.refl _⟩
    | true =>
      cases y with
      | false =>
        go_enter Tryd.func51, Tryd.ntmps51
        go_wp2_with fail
        refine Hx.out.mono ?_
        rintro _ w1 ⟨rfl, rfl⟩
        go_wp2_with fail
        refine Hy.out.mono ?_
        rintro _ w1 ⟨rfl, rfl⟩
        go_wp2_with fail
        go_ret
        exact ⟨rfl, Ext.refl _⟩
      | true =>
        go_enter Tryd.func51, Tryd.ntmps51
        go_wp2_with fail
        refine Hx.out.mono ?_
        rintro _ w1 ⟨rfl, rfl⟩
        go_wp2_with fail
        refine Hy.out.mono ?_
        rintro _ w1 ⟨rfl, rfl⟩
        go_wp2_with fail
        go_ret
        exact ⟨rfl, Ext.refl _⟩
set_option maxRecDepth 100000 in
theorem I2_at (p0 p1 : Nat) (o : W32) (g : W32) (W : World) (h0 : FB W p0 o) (h1 : FB W p1 g) :
    Calls Tryd.prog 45 #[.pointer (some ⟨p0, 0, none⟩), .pointer (some ⟨p1, 0, none⟩)] W fun e w' => e = .returned (.bool (neW (andW o g) 0#32)) ∧ Ext W w' := by
  have c0 := (row1 h0).1
  have c1 := (row1 h1).1
  have ha := u32_and o g
  have hb := u32_bne (andW o g) 0#32
  have hc := u32_beq (andW o g) 0#32
  have e0 : ((0#32 : W32).toNat : Int) = 0 := rfl
  rw [e0] at hb hc
  obtain ⟨x, hx⟩ : ∃ b, neW (andW o g) 0#32 = b := ⟨_, rfl⟩
  rw [hx]
  rw [hx] at hb
  clear hc e0
  clear h0 h1 hx
  have hres : W = W := rfl
  clear hres
  cases x with
  | false =>
    go_enter Tryd.func45, Tryd.ntmps45
    go_wp2_with fail
    go_ret
    exact ⟨rfl, Ext.refl _⟩
  | true =>
    go_enter Tryd.func45, Tryd.ntmps45
    go_wp2_with fail
    go_ret
    exact ⟨rfl, Ext.refl _⟩
set_option maxRecDepth 100000 in
theorem G3_at (p0 p1 p2 : Nat) (o : W32) (v : Bool) (r : Bool) (W : World) (h0 : FB W p0 o) (h1 : BBx W p1 v) (h2 : BBx W p2 r) :
    Calls Tryd.prog 53 #[.pointer (some ⟨p0, 0, none⟩), .pointer (some ⟨p1, 0, none⟩), .pointer (some ⟨p2, 0, none⟩)] W fun e w' => e = .returned (.bool (v && neW (andNotW o 262144#32) 131072#32 || r && neW (andNotW o 262144#32) 65536#32)) ∧ Ext W w' := by
  have c0 := (row1 h0).1
  have c1 := (row1 h1).1
  have c2 := (row1 h2).1
  have ha := u32_andNot o 262144#32
  have hb := u32_bne (andNotW o 262144#32) 131072#32
  have hc := u32_bne (andNotW o 262144#32) 65536#32
  have e0 : ((262144#32 : W32).toNat : Int) = 262144 := rfl
  have e1 : ((131072#32 : W32).toNat : Int) = 131072 := rfl
  have e2 : ((65536#32 : W32).toNat : Int) = 65536 := rfl
  rw [e0] at ha
  rw [e1] at hb
  rw [e2] at hc
  clear e0 e1 e2
  obtain ⟨x, hx⟩ : ∃ b, neW (andNotW o 262144#32) 131072#32 = b := ⟨_, rfl⟩
  obtain ⟨y, hy⟩ : ∃ b, neW (andNotW o 262144#32) 65536#32 = b := ⟨_, rfl⟩
  rw [hx, hy]
  rw [hx] at hb
  rw [hy] at hc
  clear h0 h1 h2 hx hy
  have hres : W = W := rfl
  clear hres
  cases v with
  | false =>
    cases r with
    | false =>
      cases x with
      | false =>
        cases y with
        | false =>
          go_enter Tryd.func53, Tryd.ntmps53
          go_wp2_with fail
          go_ret
          exact ⟨rfl, Ext.refl _⟩
        | true =>
          go_enter Tryd.func53, Tryd.ntmps53
          go_wp2_with fail
          go_ret
          exact ⟨rfl, Ext.refl _⟩
      | true =>
        cases y with
        | false =>
          go_enter Tryd.func53, Tryd.ntmps53
          go_wp2_with fail
          go_ret
          exact ⟨rfl, Ext.refl _⟩
        | true =>
          go_enter Tryd.func53, Tryd.ntmps53
          go_wp2_with fail
          go_ret
          exact ⟨rfl, Ext.refl _⟩
    | true =>
      cases x with
      | false =>
        cases y with
        | false =>
          go_enter Tryd.func53, Tryd.ntmps53
          go_wp2_with fail
          go_ret
          exact ⟨rfl, Ext.refl _⟩
        | true =>
          go_enter Tryd.func53, Tryd.ntmps53
          go_wp2_with fail
          go_ret
          exact ⟨rfl, Ext.refl _⟩
      | true =>
        cases y with
        | false =>
          go_enter Tryd.func53, Tryd.ntmps53
          go_wp2_with fail
          go_ret
          exact ⟨rfl, Ext.refl _⟩
        | true =>
          go_enter Tryd.func53, Tryd.ntmps53
          go_wp2_with fail
          go_ret
          exact ⟨rfl, Ext.refl _⟩
  | true =>
    cases r with
    | false =>
      cases x with
      | false =>
        cases y with
        | false =>
          go_enter Tryd.func53, Tryd.ntmps53
          go_wp2_with fail
          go_ret
          exact ⟨rfl, Ext.refl _⟩
        | true =>
          go_enter Tryd.func53, Tryd.ntmps53
          go_wp2_with fail
          go_ret
          exact ⟨rfl, Ext.refl _⟩
      | true =>
        cases y with
        | false =>
          go_enter Tryd.func53, Tryd.ntmps53
          go_wp2_with fail
          go_ret
          exact ⟨rfl, Ext.refl _⟩
        | true =>
          go_enter Tryd.func53, Tryd.ntmps53
          go_wp2_with fail
          go_ret
          exact ⟨rfl, Ext.refl _⟩
    | true =>
      cases x with
      | false =>
        cases y with
        | false =>
          go_enter Tryd.func53, Tryd.ntmps53
          go_wp2_with fail
          go_ret
          exact ⟨rfl, Ext.refl _⟩
        | true =>
          go_enter Tryd.func53, Tryd.ntmps53
          go_wp2_with fail
          go_ret
          exact ⟨rfl, Ext.refl _⟩
      | true =>
        cases y with
        | false =>
          go_enter Tryd.func53, Tryd.ntmps53
          go_wp2_with fail
          go_ret
          exact ⟨rfl, Ext.refl _⟩
        | true =>
          go_enter Tryd.func53, Tryd.ntmps53
          go_wp2_with fail
          go_ret
          exact ⟨rfl, Ext.refl _⟩

set_option maxRecDepth 100000 in
theorem G4_at (p0 p1 : Nat) (v : Bool) (t : W32) (W : World) (h0 : BBx W p0 v) (h1 : FB W p1 t) :
    Calls Tryd.prog 54 #[.pointer (some ⟨p0, 0, none⟩), .pointer (some ⟨p1, 0, none⟩)] W fun e w' => e = .returned (.bool (v != hasB t 64#32)) ∧ Ext W w' := by
  obtain ⟨x, hx⟩ : ∃ b, hasB t 64#32 = b := ⟨_, rfl⟩
  have H := Lib.hid (fun w => hx ▸ Has_lit2 64 t 64#32 (by decide) w)
  rw [hx]
  clear hx
  have HB0 := Lib.hid h0; have HB1 := Lib.hid h1
  clear h0 h1
  go_enter Tryd.func54, Tryd.ntmps54
  go_wp2_with fail
  refine wp_region_ext (fun i v' w' => match i with | 2 => v' = .bool x | _ => False) (by kernel_rfl) (by kernel_rfl) ?_
  refine wpE_op rfl rfl (fun w' hw' K' hK' => ?_)
  have hE := hw'.1
  have u0 := (row1 (HB0.out.ext ((Ext.drew W).trans hE))).1
  go_step
  refine hK' _ ⟨_, rfl⟩ ?_
  clear hK' K' u0 hE hw' w'
  refine wpE_op rfl rfl (fun w' hw' K' hK' => ?_)
  have hE := hw'.1
  have u0 := (row1 (HB1.out.ext ((Ext.drew W).trans hE))).1
  go_step
  refine hK' _ ⟨_, rfl⟩ ?_
  clear hK' K' u0 hE hw' w'
  refine wpE_call 5 rfl (by simp) rfl (fun w' hw' K' hK' => ?_) ?_
  · have hE := hw'.1
    go_step
    refine (H.out w').mono ?_
    rintro _ w2 ⟨rfl, rfl⟩
    exact hK' _ _ ⟨_, rfl, rfl⟩ (Ext.refl _)
  rintro _ w5 _ rfl
  simp only [Act.put, List.setIfInBounds_toArray, List.set_cons_succ, List.set_cons_zero]
  refine wpE_op rfl rfl (fun w' hw' K' hK' => ?_)
  have hE := hw'.1
  go_step
  refine hK' _ ⟨_, rfl⟩ ?_
  clear hK' K' hE hw' w'
  refine wpE_op rfl rfl (fun w' hw' K' hK' => ?_)
  have hE := hw'.1
  go_step
  refine hK' _ ⟨_, rfl⟩ ?_
  clear hK' K' hE hw' w'
  refine wpE_nil (fun w4 hw4 => ?_)
  have HX := Lib.hid ((Ext.drew W).trans hw4.1)
  clear hw4
  go_wp2_with fail
  go_ret
  exact ⟨rfl, HX.out⟩

/-- One of the conditions 'denied'. -/
theorem G1_at (pl pt po pa : Nat) (q n : W32) (W : World) :
    Calls Tryd.prog 50 #[.int .u32 (q.toNat : Int), .int .u32 (n.toNat : Int), .pointer (some ⟨pl, 0, none⟩), .pointer (some ⟨po, 0, none⟩), .pointer (some ⟨pt, 0, none⟩), .pointer (some ⟨pa, 0, none⟩)] W fun e w' =>
      ∃ b1 b2, e = .returned (.agg #[.int .i64 151, .func (.func 51) #[] #[.pointer (some ⟨pl, 0, none⟩), .pointer (some ⟨po, 0, none⟩), .pointer (some ⟨b1, 0, none⟩), .pointer (some ⟨pt, 0, none⟩), .pointer (some ⟨pa, 0, none⟩), .pointer (some ⟨b2, 0, none⟩)]]) ∧ FB w' b1 q ∧ FB w' b2 n ∧ Ext W w' := by
  have hmf : ∀ (fn : Fn) (first cap : Array Value) (w : World), (Instr.makeFunc fn first cap).run Tryd.prog w = .ok (.func fn first cap) w := fun _ _ _ _ => rfl
  go_enter Tryd.func50, Tryd.ntmps50
  have a1 := heap_alloc_new W (.cells #[.int .u32 (q.toNat : Int)] 24)
  have a2 := heap_alloc_new (W.alloc (.cells #[.int .u32 (q.toNat : Int)] 24)) (.cells #[.int .u32 (n.toNat : Int)] 24)
  rw [World.size_alloc] at a2
  have x1 := (Ext.refl W).alloc (.cells #[.int .u32 (q.toNat : Int)] 24)
  have x2 := (Ext.refl (W.alloc (.cells #[.int .u32 (q.toNat : Int)] 24))).alloc (.cells #[.int .u32 (n.toNat : Int)] 24)
  have HB1 := Lib.hid (x2.heap a1); have HB2 := Lib.hid a2; have HX3 := Lib.hid (x1.trans x2)
  clear a1 a2 x1 x2
  go_wp2_with fail
  refine bodyPost_ret (by simp [results, Tryd.results50, go_sem]; try rfl) rfl ?_
  exact ⟨W.heap.size, W.heap.size + 1, rfl, ((Ext.refl _).alloc _).heap HB1.out, ((Ext.refl _).alloc _).heap HB2.out, HX3.out.alloc _⟩
end Go.Proofs.YtigjecmhhjjenaaDoor
