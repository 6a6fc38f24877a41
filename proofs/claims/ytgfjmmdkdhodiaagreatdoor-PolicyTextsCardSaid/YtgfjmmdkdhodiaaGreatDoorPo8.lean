/- Policy: the conditions of the rules. -/
import Derived.Test.YtgfjmmdkdhodiaaGreatDoorMg4
import Derived.Test.YtgfjmmdkdhodiaaGreatDoorMg5
import Derived.Maps.Own
import Derived.Maps.OwnOps
import Derived.Maps.OwnSet
import Derived.Maps.Views
namespace Go.Proofs.YtgfjmmdkdhodiaaGreatDoor
open Go Go.RowKit Go.Maps
set_option linter.unusedVariables false

/-- What an index says: there is one, or there is none. -/
def IdxR (any : Bool) (v : Int) : Prop := (any = true ∧ 0 ≤ v) ∨ (any = false ∧ v = -1)
def RetIdx (any : Bool) (e : Ending) : Prop := ∃ v : Int, IdxR any v ∧ e = .returned (.int .i64 v)
theorem ctl_at (c : UInt8) (w : World) :
    Calls Tryz.prog 59 #[.int .u8 (c.toNat : Int)] w fun e w' => e = .returned (.bool (ctl c)) ∧ w = w' := by
  have hc := c.toNat_lt
  unfold ctl
  rcases (show c.toNat < 32 ∨ (32 ≤ c.toNat ∧ c.toNat = 127) ∨ (32 ≤ c.toNat ∧ c.toNat ≠ 127) by omega) with h | ⟨h, h'⟩ | ⟨h, h'⟩
  · rw [decide_eq_true h, Bool.true_or]
    go_enter Tryz.func59, Tryz.ntmps59
    go_wp2_with fail
    go_ret
    exact ⟨rfl, rfl⟩
  · rw [decide_eq_false (by omega), Bool.false_or, decide_eq_true h']
    have q : ((c.toNat : Int) == 127) = true := by rw [beq_iff_eq]; omega
    have q2 : decide ((c.toNat : Int) < 32) = false := decide_eq_false (by omega)
    clear h'
    go_enter Tryz.func59, Tryz.ntmps59
    go_wp2_with fail
    go_ret
    exact ⟨rfl, rfl⟩
  · rw [decide_eq_false (by omega), Bool.false_or, decide_eq_false h']
    have q : ((c.toNat : Int) == 127) = false := by rw [beq_eq_false_iff_ne]; omega
    have q2 : decide ((c.toNat : Int) < 32) = false := decide_eq_false (by omega)
    clear h'
    go_enter Tryz.func59, Tryz.ntmps59
    go_wp2_with fail
    go_ret
    exact ⟨rfl, rfl⟩
set_option maxRecDepth 100000 in
theorem idx_ctl (A : Option Addr) (c : Nat) (b : List UInt8) (hb : b.length ≤ 1000) (w : World) (hB : BS w (.slice A b.length c) b) :
    Calls Tryz.prog 76 #[.slice A b.length c, .func (.func 59) #[] #[]] w fun e w' => RetIdx (b.any ctl) e ∧ w = w' := by
  obtain ⟨ad, hcell⟩ : ∃ ad : Addr, ∀ j (hj : j < b.length), A = some ad ∧ w.cell? (ad.add j) = some (.int .u8 (b[j].toNat : Int)) := by
    obtain ⟨A', c', he, k1, k2, k3⟩ := hB.open_
    injection he with e1 _ e3
    subst e1; subst e3
    by_cases h0 : 0 < b.length
    · obtain ⟨ad, h1, _, h3⟩ := k3 h0
      exact ⟨ad, fun j hj => ⟨h1, h3 j hj⟩⟩
    · exact ⟨⟨0, 0, none⟩, fun j hj => by omega⟩
  have HC := Lib.hid hcell
  clear hcell hB
  go_enter Tryz.func76, Tryz.ntmps76
  go_wp2_with fail
  go_loopw [5, 8] (fun _ i wr => ∃ k : Nat, k ≤ b.length ∧ i = .int .i64 k ∧ Hid (∀ j (hj : j < b.length), j < k → ctl b[j] = false) ∧ wr = w) (fun _ i _ => b.length - (intOf i).toNat)
  case atStart => exact ⟨0, Nat.zero_le _, rfl, Lib.hid (fun j _ hj => by omega), rfl⟩
  case round =>
    obtain ⟨k, hk, rfl, HN, rfl⟩ := hrel
    by_cases hlt : k < b.length
    · have hcc := (HC.out k hlt).2
      have hA := (HC.out k hlt).1
      have HA := Lib.hid (ctl_at b[k])
      subst hA
      cases hq : ctl b[k] with
      | true =>
        have HY := Lib.hid (show b.any ctl = true from List.any_eq_true.2 ⟨b[k], List.getElem_mem _, hq⟩)
        rw [hq] at HA
        clear hq
        go_wp2_with fail
        refine (HA.out _).mono ?_
        rintro _ w1 ⟨rfl, rfl⟩
        go_wp2_with fail
        go_ret
        exact ⟨⟨_, .inl ⟨HY.out, by omega⟩, rfl⟩, rfl⟩
      | false =>
        have HQ := Lib.hid hq
        rw [hq] at HA
        clear hq
        go_wp2_with fail
        refine (HA.out _).mono ?_
        rintro _ w1 ⟨rfl, rfl⟩
        go_wp2_with fail
        go_roundw
        case rel => exact ⟨k + 1, by omega, by go_num, Lib.hid (fun j hj hjk => by
          by_cases h : j < k
          · exact HN.out j hj h
          · obtain rfl : j = k := by omega
            exact HQ.out), by first | rfl | trivial⟩
        case measure => simp [intOf]; omega
    · have HY := Lib.hid (show b.any ctl = false from List.any_eq_false.2 fun x hx => by
        obtain ⟨j, hj, rfl⟩ := List.mem_iff_getElem.1 hx
        rw [HN.out j hj (by omega)]; simp)
      go_wp2_with fail
      go_ret
      exact ⟨⟨_, .inr ⟨HY.out, rfl⟩, rfl⟩, rfl⟩
theorem has_ctl (A : Option Addr) (c : Nat) (b : List UInt8) (hb : b.length ≤ 1000) (w : World) (hB : BS w (.slice A b.length c) b) :
    Calls Tryz.prog 58 #[.slice A b.length c, .func (.func 59) #[] #[]] w fun e w' => e = .returned (.bool (b.any ctl)) ∧ w = w' := by
  have HI := Lib.hid (idx_ctl A c b hb w hB)
  generalize b.any ctl = x at HI ⊢
  go_enter Tryz.func58, Tryz.ntmps58
  go_wp2_with fail
  refine HI.out.mono ?_
  rintro _ w1 ⟨⟨v, hv, rfl⟩, rfl⟩
  rcases hv with ⟨rfl, h⟩ | ⟨rfl, rfl⟩
  · go_wp2_with fail
    go_ret
    exact ⟨rfl, rfl⟩
  · go_wp2_with fail
    go_ret
    exact ⟨rfl, rfl⟩
def svP (ps : List ByteArray) : List Value := ps.map Value.string
def datP (ps : List ByteArray) : List (List UInt8) := ps.map fun p => p.data.toList
theorem svP_length (ps : List ByteArray) : (svP ps).length = ps.length := by simp [svP]
theorem svP_get (ps : List ByteArray) (k : Nat) (h : k < ps.length) : (svP ps)[k]? = some (.string ps[k]) := by simp [svP, h]
/-- A name in memory. -/
def NB (w : World) (g : Nat) (v : Value) (r : ByteArray) : Prop := w.heap[g]? = some (.cells #[v, .string r] 30 (0, 0))
theorem NB.cell0 {w : World} {g : Nat} {v : Value} {r : ByteArray} (h : NB w g v r) : w.cell? ⟨g, 0, none⟩ = some v := by rw [cell_of_row _ _ 0 _ _ (0, 0) h]; rfl
theorem NB.ext {w w' : World} {g : Nat} {v : Value} {r : ByteArray} (h : NB w g v r) (hx : Ext w w') : NB w' g v r := hx.heap h
/-- The box of the password. -/
def XB (w : World) (g : Nat) (A : Option Addr) (n c : Nat) : Prop := w.heap[g]? = some (.cells #[.slice A n c] 31 (0, 0))
theorem XB.ext {w w' : World} {g : Nat} {A : Option Addr} {n c : Nat} (h : XB w g A n c) (hx : Ext w w') : XB w' g A n c := hx.heap h
theorem K1_at (g gp : Nat) (A : Option Addr) (c : Nat) (b : List UInt8) (p : Pol) (w : World) (h : XB w g A b.length c) (hp : PL w gp p) :
    Calls Tryz.prog 55 #[.pointer (some ⟨g, 0, none⟩), .pointer (some ⟨gp, 0, none⟩)] w fun e w' => e = .returned (.bool (decide ((b.length : Int) < p.len))) ∧ Ext w w' := by
  have c0 := (row1 h).1
  have c1 := hp.cells.c1
  clear h hp
  go_enter Tryz.func55, Tryz.ntmps55
  go_wp2_with fail
  go_ret
  exact ⟨rfl, Ext.refl _⟩
theorem K2_at (g : Nat) (A : Option Addr) (c : Nat) (b : List UInt8) (w : World) (h : XB w g A b.length c) :
    Calls Tryz.prog 56 #[.pointer (some ⟨g, 0, none⟩)] w fun e w' => e = .returned (.bool (decide (128 < b.length))) ∧ Ext w w' := by
  have c0 := (row1 h).1
  clear h
  go_enter Tryz.func56, Tryz.ntmps56
  go_wp2_with fail
  go_ret
  have e : decide ((128 : Int) < (b.length : Int)) = decide (128 < b.length) := by rw [decide_eq_decide]; omega
  exact ⟨congrArg (fun x => Ending.returned (.bool x)) e, Ext.refl _⟩
theorem K3_at (g : Nat) (A : Option Addr) (c : Nat) (b : List UInt8) (hb : b.length ≤ 1000) (w : World) (h : XB w g A b.length c) (hB : BS w (.slice A b.length c) b) :
    Calls Tryz.prog 57 #[.pointer (some ⟨g, 0, none⟩)] w fun e w' => e = .returned (.bool (b.any ctl)) ∧ Ext w w' := by
  have c0 := (row1 h).1
  have HI := Lib.hid (has_ctl A c b hb w hB)
  clear h hB
  go_enter Tryz.func57, Tryz.ntmps57
  go_wp2_with fail
  refine HI.out.mono ?_
  rintro _ w1 ⟨rfl, rfl⟩
  go_wp2_with fail
  go_ret
  exact ⟨rfl, Ext.refl _⟩
set_option maxRecDepth 100000 in
theorem K7_at (g : Nat) (A : Option Addr) (c : Nat) (b : List UInt8) (hb : b.length ≤ 1000) (w : World) (h : XB w g A b.length c) (hB : BS w (.slice A b.length c) b) :
    Calls Tryz.prog 66 #[.pointer (some ⟨g, 0, none⟩)] w fun e w' => e = .returned (.bool (runB b 0 || runB b 1 || runB b (-1))) ∧ Ext w w' := by
  have H (d : Int) (h1 : -1 ≤ d) (h2 : d ≤ 1) := fun (w' : World) (hx : Ext w w') => runs_at A c b d h1 h2 hb w' (hB.ext hx)
  have H0 := Lib.hid (H 0 (by omega) (by omega))
  have H1 := Lib.hid (H 1 (by omega) (by omega))
  have H2 := Lib.hid (H (-1) (by omega) (by omega))
  have HG := Lib.hid h
  have c0 := (row1 h).1
  clear H h hB
  generalize runB b 0 = x0 at *
  generalize runB b 1 = x1 at *
  generalize runB b (-1) = x2 at *
  cases x0 with
  | true =>
    go_enter Tryz.func66, Tryz.ntmps66
    go_wp2_with fail
    refine (H0.out _ (Ext.refl _)).mono ?_
    rintro _ w1 ⟨rfl, hx⟩
    have HX := Lib.hid hx; clear hx
    go_wp2_with fail
    go_ret
    exact ⟨rfl, HX.out⟩
  | false =>
    cases x1 with
    | true =>
      go_enter Tryz.func66, Tryz.ntmps66
      go_wp2_with fail
      refine (H0.out _ (Ext.refl _)).mono ?_
      rintro _ w1 ⟨rfl, hx⟩
      have c1 := (row1 (HG.out.ext hx)).1
      have HX := Lib.hid hx; clear hx
      go_wp2_with fail
      refine (H1.out _ HX.out).mono ?_
      rintro _ w2 ⟨rfl, hx⟩
      have HX2 := Lib.hid (HX.out.trans hx); clear hx
      go_wp2_with fail
      go_ret
      exact ⟨rfl, HX2.out⟩
    | false =>
      go_enter Tryz.func66, Tryz.ntmps66
      go_wp2_with fail
      refine (H0.out _ (Ext.refl _)).mono ?_
      rintro _ w1 ⟨rfl, hx⟩
      have c1 := (row1 (HG.out.ext hx)).1
      have HX := Lib.hid hx; clear hx
      go_wp2_with fail
      refine (H1.out _ HX.out).mono ?_
      rintro _ w2 ⟨rfl, hx⟩
      have c2 := (row1 (HG.out.ext (HX.out.trans hx))).1
      have HX2 := Lib.hid (HX.out.trans hx); clear hx
      go_wp2_with fail
      refine (H2.out _ HX2.out).mono ?_
      rintro _ w3 ⟨rfl, hx⟩
      have HX3 := Lib.hid (HX2.out.trans hx); clear hx
      go_wp2_with fail
      go_ret
      exact ⟨rfl, HX3.out⟩
theorem K6a_at (g : Nat) (A : Option Addr) (c : Nat) (b : List UInt8) (hb : b.length ≤ 1000) (s : ByteArray) (hs : s.size ≤ 1000) (w : World) (h : XB w g A b.length c) (hB : BS w (.slice A b.length c) b) :
    Calls Tryz.prog 64 #[.string s, .pointer (some ⟨g, 0, none⟩)] w fun e w' => e = .returned (.bool (partIn b s.data.toList)) ∧ Ext w w' := by
  have hsz := size_list s
  have c0 := (row1 h).1
  have HI := Lib.hid (contains_at A c b s hb hs w hB)
  have HP := Lib.hid (show partIn b s.data.toList = (decide (3 ≤ s.size) && hasL b s.data.toList) by unfold partIn; rw [hsz])
  clear h hB hsz
  by_cases h3 : 3 ≤ s.size
  · rw [decide_eq_true h3, Bool.true_and] at HP
    rw [HP.out]
    have h3' : (3 : Int) ≤ (s.size : Int) := by omega
    clear h3
    go_enter Tryz.func64, Tryz.ntmps64
    go_wp2_with fail
    refine HI.out.mono ?_
    rintro _ w1 ⟨rfl, hx⟩
    have HX := Lib.hid hx; clear hx
    go_wp2_with fail
    go_ret
    exact ⟨rfl, HX.out⟩
  · rw [decide_eq_false h3, Bool.false_and] at HP
    rw [HP.out]
    have h3' : ¬ (3 : Int) ≤ (s.size : Int) := by omega
    clear h3
    go_enter Tryz.func64, Tryz.ntmps64
    go_wp2_with fail
    go_ret
    exact ⟨rfl, Ext.refl _⟩
set_option maxRecDepth 100000 in
theorem idx_part (A : Option Addr) (c : Nat) (ps : List ByteArray) (hn : ps.length ≤ 1000) (hps : ∀ p ∈ ps, p.size ≤ 1000) (g : Nat) (B : Option Addr) (d : Nat) (b : List UInt8) (hb : b.length ≤ 1000) (w : World)
    (hR : RS w (.slice A ps.length c) (svP ps)) (h : XB w g B b.length d) (hB : BS w (.slice B b.length d) b) :
    Calls Tryz.prog 77 #[.slice A ps.length c, .func (.func 64) #[] #[.pointer (some ⟨g, 0, none⟩)]] w fun e w' => RetIdx ((datP ps).any (partIn b)) e ∧ Ext w w' := by
  obtain ⟨ad, hcell⟩ : ∃ ad : Addr, ∀ j (hj : j < ps.length), A = some ad ∧ w.cell? (ad.add j) = some (.string ps[j]) := by
    obtain ⟨A', c', he, k1, k2, k3⟩ := hR.open_
    rw [svP_length] at he k1 k3
    injection he with e1 _ e3
    subst e1; subst e3
    by_cases h0 : 0 < ps.length
    · obtain ⟨ad, h1, _, h3⟩ := k3 h0
      exact ⟨ad, fun j hj => ⟨h1, h3 j _ (svP_get ps j hj)⟩⟩
    · exact ⟨⟨0, 0, none⟩, fun j hj => by omega⟩
  have HC := Lib.hid hcell
  have HP := Lib.hid (fun s (hs : s ∈ ps) (w' : World) (hx : Ext w w') => K6a_at g B d b hb s (hps s hs) w' (h.ext hx) (hB.ext hx))
  have HM := Lib.hid (show ∀ j (hj : j < ps.length), ps[j] ∈ ps from fun j hj => List.getElem_mem hj)
  clear hcell hR h hB hps
  go_enter Tryz.func77, Tryz.ntmps77
  go_wp2_with fail
  go_loopw [5, 8] (fun _ i wr => ∃ k : Nat, k ≤ ps.length ∧ i = .int .i64 k ∧ Hid (∀ j (hj : j < ps.length), j < k → partIn b ps[j].data.toList = false) ∧ Hid (Ext w wr)) (fun _ i _ => ps.length - (intOf i).toNat)
  case atStart => exact ⟨0, Nat.zero_le _, rfl, Lib.hid (fun j _ hj => by omega), Lib.hid (Ext.refl _)⟩
  case round =>
    obtain ⟨k, hk, rfl, HN, HX⟩ := hrel
    by_cases hlt : k < ps.length
    · have hcc := HX.out.cell (HC.out k hlt).2
      have hA := (HC.out k hlt).1
      have HA := Lib.hid (HP.out ps[k] (HM.out k hlt) wr HX.out)
      subst hA
      cases hq : partIn b ps[k].data.toList with
      | true =>
        have HY := Lib.hid (show (datP ps).any (partIn b) = true from List.any_eq_true.2 ⟨ps[k].data.toList, List.mem_map.2 ⟨_, HM.out k hlt, rfl⟩, hq⟩)
        rw [hq] at HA
        clear hq
        go_wp2_with fail
        refine HA.out.mono ?_
        rintro _ w1 ⟨rfl, hx⟩
        have HX1 := Lib.hid (HX.out.trans hx); clear hx
        go_wp2_with fail
        go_ret
        exact ⟨⟨_, .inl ⟨HY.out, by omega⟩, rfl⟩, HX1.out⟩
      | false =>
        have HQ := Lib.hid hq
        rw [hq] at HA
        clear hq
        go_wp2_with fail
        refine HA.out.mono ?_
        rintro _ w1 ⟨rfl, hx⟩
        have HX1 := Lib.hid (HX.out.trans hx); clear hx
        go_wp2_with fail
        go_roundw
        case rel => exact ⟨k + 1, by omega, by go_num, Lib.hid (fun j hj hjk => by
          by_cases h : j < k
          · exact HN.out j hj h
          · obtain rfl : j = k := by omega
            exact HQ.out), HX1⟩
        case measure => simp [intOf]; omega
    · have HY := Lib.hid (show (datP ps).any (partIn b) = false from List.any_eq_false.2 fun x hx => by
        obtain ⟨s, hs, rfl⟩ := List.mem_map.1 hx
        obtain ⟨j, hj, rfl⟩ := List.mem_iff_getElem.1 hs
        rw [HN.out j hj (by omega)]; simp)
      go_wp2_with fail
      go_ret
      exact ⟨⟨_, .inr ⟨HY.out, rfl⟩, rfl⟩, HX.out⟩
theorem has_part (A : Option Addr) (c : Nat) (ps : List ByteArray) (hn : ps.length ≤ 1000) (hps : ∀ p ∈ ps, p.size ≤ 1000) (g : Nat) (B : Option Addr) (d : Nat) (b : List UInt8) (hb : b.length ≤ 1000) (w : World)
    (hR : RS w (.slice A ps.length c) (svP ps)) (h : XB w g B b.length d) (hB : BS w (.slice B b.length d) b) :
    Calls Tryz.prog 63 #[.slice A ps.length c, .func (.func 64) #[] #[.pointer (some ⟨g, 0, none⟩)]] w fun e w' => e = .returned (.bool ((datP ps).any (partIn b))) ∧ Ext w w' := by
  have HI := Lib.hid (idx_part A c ps hn hps g B d b hb w hR h hB)
  clear hR h hB hps
  generalize (datP ps).any (partIn b) = x at HI ⊢
  go_enter Tryz.func63, Tryz.ntmps63
  go_wp2_with fail
  refine HI.out.mono ?_
  rintro _ w1 ⟨⟨v, hv, rfl⟩, hx⟩
  have HX1 := Lib.hid hx; clear hx
  rcases hv with ⟨rfl, h⟩ | ⟨rfl, rfl⟩
  · go_wp2_with fail
    go_ret
    exact ⟨rfl, HX1.out⟩
  · go_wp2_with fail
    go_ret
    exact ⟨rfl, HX1.out⟩
theorem K6_at (gn g : Nat) (A : Option Addr) (c : Nat) (ps : List ByteArray) (r : ByteArray) (hn : ps.length ≤ 1000) (hps : ∀ p ∈ ps, p.size ≤ 1000) (B : Option Addr) (d : Nat) (b : List UInt8) (hb : b.length ≤ 1000) (w : World)
    (hN : NB w gn (.slice A ps.length c) r) (hR : RS w (.slice A ps.length c) (svP ps)) (h : XB w g B b.length d) (hB : BS w (.slice B b.length d) b) :
    Calls Tryz.prog 62 #[.pointer (some ⟨gn, 0, none⟩), .pointer (some ⟨g, 0, none⟩)] w fun e w' => e = .returned (.bool ((datP ps).any (partIn b))) ∧ Ext w w' := by
  have hmf : ∀ (fn : Fn) (first cap : Array Value) (w : World), (Instr.makeFunc fn first cap).run Tryz.prog w = .ok (.func fn first cap) w := fun _ _ _ _ => rfl
  have c0 := hN.cell0
  have HI := Lib.hid (has_part A c ps hn hps g B d b hb w hR h hB)
  clear hN hR h hB hps
  go_enter Tryz.func62, Tryz.ntmps62
  go_wp2_with fail
  refine HI.out.mono ?_
  rintro _ w1 ⟨rfl, hx⟩
  have HX1 := Lib.hid hx; clear hx
  go_wp2_with fail
  go_ret
  exact ⟨rfl, HX1.out⟩

/-! The maps that count. -/
/-- A map whose keys are the numbers of a list. -/
def MK (kd : IntKind) (kt : TypeId) (N : Nat) (w : World) (g n : Nat) (l : List Nat) : Prop :=
  ∃ D : DataW Unit, w.ownsMap Tryz.prog kt (plainElem Tryz.prog 3) g n D ∧ Tidy D ∧ (∀ i : Nat, i < N → Maps.has D (.int kd i) = l.contains i) ∧ Maps.size D = kindsN N l
theorem MK.new (kd : IntKind) (kt : TypeId) (N : Nat) (w : World) : MK kd kt N (w.alloc (.map #[] 0)) w.heap.size 0 [] :=
  ⟨.map [], World.ownsMap_made _ _ _ _, tidy_empty, fun i _ => rfl, (kindsN_nil N).symm⟩
theorem MK.kept {kd : IntKind} {kt : TypeId} {N : Nat} {w w' : World} {g n : Nat} {l : List Nat} {row : Option Nat} (h : MK kd kt N w g n l) (hg : w.grownBy w' row) (hne : some g ≠ row) : MK kd kt N w' g n l := by
  obtain ⟨D, h1, h2⟩ := h
  exact ⟨D, h1.kept hg hne, h2⟩
theorem MK.ext {kd : IntKind} {kt : TypeId} {N : Nat} {w w' : World} {g n : Nat} {l : List Nat} (h : MK kd kt N w g n l) (hx : Ext w w') : MK kd kt N w' g n l := h.kept (grown_none hx) (by simp)
theorem has_step {kd : IntKind} {N : Nat} {D : DataW Unit} {l : List Nat} {x : Nat} {d : DataW Unit} (hx : x < N) (hT : Tidy D) (hh : ∀ i : Nat, i < N → Maps.has D (.int kd i) = l.contains i) (hs : Maps.size D = kindsN N l) (hk : WideAt.IsKeyLit (.int kd x)) :
    (∀ i : Nat, i < N → Maps.has (D.put (.int kd x) d) (.int kd i) = (l ++ [x]).contains i) ∧ Maps.size (D.put (.int kd x) d) = kindsN N (l ++ [x]) := by
  refine ⟨fun i hi => ?_, ?_⟩
  · by_cases he : i = x
    · subst he
      rw [has_put_same hT.isMap hk]
      simp
    · rw [has_put_other (by intro e; injection e with _ e; omega), hh i hi, Bool.eq_iff_iff]
      simp [he]
  · rw [size_put hT, hh x hx, hs]
    cases hc : l.contains x with
    | true => rw [if_pos rfl, kindsN_old hc]
    | false => rw [if_neg (by simp), kindsN_new hx hc]
/-- The box of a map. -/
def MB (t : TypeId) (w : World) (g m : Nat) : Prop := w.heap[g]? = some (.cells #[.map (some m)] t (0, 0))
theorem MB.ext {t : TypeId} {w w' : World} {g m : Nat} (h : MB t w g m) (hx : Ext w w') : MB t w' g m := hx.heap h
set_option maxRecDepth 100000 in
theorem K4_at (gm gp m n : Nat) (l : List Nat) (p : Pol) (w : World) (h : MB 96 w gm m) (hm : MK .i64 3 6 w m n l) (hp : PL w gp p) :
    Calls Tryz.prog 60 #[.pointer (some ⟨gm, 0, none⟩), .pointer (some ⟨gp, 0, none⟩)] w fun e w' => e = .returned (.bool (decide ((kindsN 6 l : Int) < p.cla))) ∧ Ext w w' := by
  have c0 := (row1 h).1
  have c1 := hp.cells.c2
  obtain ⟨D, hD, _, _, hs⟩ := hm
  rw [← hs]
  have HD := Lib.hid hD
  clear h hp hD hs
  go_enter Tryz.func60, Tryz.ntmps60
  go_wp2_with (at_len; refine wpList_len_own _ rfl (.tmp 3) 96 rfl 3 3 Tryz.underlying96 (plainElem Tryz.prog 3) m n D rfl HD.out ?_)
  go_ret
  exact ⟨rfl, Ext.refl _⟩
set_option maxRecDepth 100000 in
theorem K5_at (gm gp m n : Nat) (l : List Nat) (p : Pol) (w : World) (h : MB 97 w gm m) (hm : MK .u8 5 256 w m n l) (hp : PL w gp p) :
    Calls Tryz.prog 61 #[.pointer (some ⟨gm, 0, none⟩), .pointer (some ⟨gp, 0, none⟩)] w fun e w' => e = .returned (.bool (decide ((kindsN 256 l : Int) < p.dis))) ∧ Ext w w' := by
  have c0 := (row1 h).1
  have c1 := hp.cells.c3
  obtain ⟨D, hD, _, _, hs⟩ := hm
  rw [← hs]
  have HD := Lib.hid hD
  clear h hp hD hs
  go_enter Tryz.func61, Tryz.ntmps61
  go_wp2_with (at_len; refine wpList_len_own _ rfl (.tmp 3) 97 rfl 5 3 Tryz.underlying97 (plainElem Tryz.prog 3) m n D rfl HD.out ?_)
  go_ret
  exact ⟨rfl, Ext.refl _⟩
end Go.Proofs.YtgfjmmdkdhodiaaGreatDoor
