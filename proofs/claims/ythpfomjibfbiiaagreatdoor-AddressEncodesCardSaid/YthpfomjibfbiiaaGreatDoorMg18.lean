/- Texts laid together (wip/tools/automerge.py): AdPu2, In. -/
import Derived.Test.YthpfomjibfbiiaaGreatDoorAdPu
import Derived.Lib.ParseIntBMem
import Derived.Test.YthpfomjibfbiiaaGreatDoorMg5
import Derived.Test.YthpfomjibfbiiaaGreatDoorMg0
import Derived.OwnWalkIn
namespace Go.Proofs.YthpfomjibfbiiaaGreatDoor
open Go Go.RowKit
set_option linter.unusedVariables false

theorem pu8_ok : ∀ (l : List UInt8) (acc : Nat), acc ≤ 255 → pu8 acc l = match Lib.parseUintM 255 acc l with | .ok v => some v | _ => none
  | [], acc, h => rfl
  | c :: r, acc, h => by
    rw [pu8, Lib.parseUintM]
    by_cases hd : 48 ≤ c.toNat ∧ c.toNat ≤ 57
    · rw [if_pos hd, if_pos hd, if_neg (show ¬ 1844674407370955162 ≤ acc by omega)]
      by_cases ho : 255 < acc * 10 + (c.toNat - 48)
      · rw [if_pos ho, if_pos ho]
      · rw [if_neg ho, if_neg ho]
        exact pu8_ok r _ (by omega)
    · rw [if_neg hd, if_neg hd]
theorem ParseI8_at (t : ByteArray) (hmax : t.size ≤ 1000) (w : World) :
    Calls Tryz.prog 104 #[.string t, .int .i64 10, .int .i64 8] w fun e w' => PUi (pu8w t.data.toList) e ∧ Ext w w' := by
  refine (Tryz.internal_strconv_ParseUint_10_at8 t (by omega) w).mono ?_
  rintro e w' ⟨rfl, hw⟩
  refine ⟨?_, ?_⟩
  · have he : pu8w t.data.toList = match Lib.parseUintB 8 t.data.toList with | .ok v => some v | _ => none := by
      unfold pu8w Lib.parseUintB
      by_cases hn : t.data.toList = []
      · rw [if_pos hn, if_pos hn]
      · rw [if_neg hn, if_neg hn]
        exact pu8_ok _ 0 (by omega)
    rw [he]
    cases Lib.parseUintB 8 t.data.toList with
    | ok n => exact .inl ⟨n, rfl, rfl⟩
    | range => exact .inr ⟨rfl, _, _, .inl rfl, rfl⟩
    | _ => exact .inr ⟨rfl, _, _, .inr rfl, rfl⟩
  · rcases hw with rfl | rfl
    · exact Ext.refl _
    · exact ext_bytesWorld _ _ _
theorem IfVar.cell {n : String} {g : Nat} {w : World} (h : IfVar n w) (hg : Tryz.prog.globalNamed n = some g) : ∃ tp p, w.cell? ⟨g, 0, none⟩ = some (.iface tp p) := by
  obtain ⟨tp, p, h⟩ := h
  exact ⟨tp, p, by have h0 := World.var?_cell hg h 0; simpa using h0⟩
theorem Parse_of (t : ByteArray) (ht : t.size ≤ 1000) (B K : Int) (o : Option Nat) (HI : ∀ w, Calls Tryz.prog 104 #[.string t, .int .i64 B, .int .i64 K] w fun e w' => PUi o e ∧ Ext w w') (w : World) (hE : Env w) :
    Calls Tryz.prog 78 #[.string t, .int .i64 B, .int .i64 K] w fun e w' => PU o e ∧ Ext w w' := by
  have HI := Lib.hid HI
  have HE := Lib.hid hE
  clear hE
  go_enter Tryz.func78, Tryz.ntmps78
  go_wp2_with fail
  refine (HI.out _).mono ?_
  rintro e w1 ⟨hp, hx⟩
  have HX := Lib.hid hx
  clear hx
  rcases hp with ⟨n, rfl, rfl⟩ | ⟨rfl, v, c, hc, rfl⟩
  · go_wp2_with fail
    go_ret2
    exact ⟨.inl ⟨n, rfl, rfl⟩, HX.out⟩
  · rcases hc with rfl | rfl
    · obtain ⟨tp, p, hv⟩ := ((HE.out.ext HX.out).rng).cell (g := 2) (by kernel_rfl)
      have HT := Lib.hid (fun fn => Tryz.strconv_toError_range fn t B K _ w1 (by omega) hv (.inr ⟨tp, p, rfl⟩))
      clear hv
      go_wp2_with fail
      refine (HT.out _).mono ?_
      rintro e w2 ⟨N, rfl, h1, h2, h3⟩
      have HX2 := Lib.hid (HX.out.trans h3)
      clear h1 h2 h3
      go_wp2_with fail
      go_ret2
      exact ⟨.inr ⟨rfl, _, _, rfl⟩, HX2.out⟩
    · obtain ⟨tp, p, hv⟩ := ((HE.out.ext HX.out).syn).cell (g := 1) (by kernel_rfl)
      have HT := Lib.hid (fun fn => Tryz.strconv_toError_syntax fn t B K _ w1 (by omega) hv (.inr ⟨tp, p, rfl⟩))
      clear hv
      go_wp2_with fail
      refine (HT.out _).mono ?_
      rintro e w2 ⟨N, rfl, h1, h2, h3⟩
      have HX2 := Lib.hid (HX.out.trans h3)
      clear h1 h2 h3
      go_wp2_with fail
      go_ret2
      exact ⟨.inr ⟨rfl, _, _, rfl⟩, HX2.out⟩
theorem Parse16_at (t : ByteArray) (ht : t.size ≤ 1000) (w : World) (hE : Env w) :
    Calls Tryz.prog 78 #[.string t, .int .i64 16, .int .i64 16] w fun e w' => PU (pu16w t.data.toList) e ∧ Ext w w' :=
  Parse_of t ht 16 16 _ (fun W => ParseI16_at t ht W) w hE
theorem Parse8_at (t : ByteArray) (ht : t.size ≤ 1000) (w : World) (hE : Env w) :
    Calls Tryz.prog 78 #[.string t, .int .i64 10, .int .i64 8] w fun e w' => PU (pu8w t.data.toList) e ∧ Ext w w' :=
  Parse_of t ht 10 8 _ (fun W => ParseI8_at t ht W) w hE
end Go.Proofs.YthpfomjibfbiiaaGreatDoor
namespace Go.Proofs.YthpfomjibfbiiaaGreatDoor
open Go Go.RowKit
set_option linter.unusedVariables false
theorem wpListIn_append_rs {F : Fence} {n : Nat} {P : Program} (w : World) {ops : Array Oper} {rest : List Oper} {o : Oper} {a : Act} {Q : Exit → Act → World → Prop} (hgd : o.guard = none) (s x : Operand) (t : TypeId)
    (ho : o.op = .call { callee := .builtin .append, args := #[s, x], argTypes := #[t, t] })
    (base : Nat) (e : TypeId) (i : TypeInfo) (z : Value) (bytes : Nat) (ht : P.underlying t = some (.slice e)) (hi : P.info? e = some i) (hz : i.zero = some z)
    (hsize : i.size = 1) (hby : i.bytes = bytes) (hzs : z.cells.size = 1)
    (v : Value) (xs : List Value) (hs : a.eval s = v) (hown : w.ownsRow base e 1 v xs.length xs)
    (sv : Value) (news : List Value) (hx : a.eval x = sv) (hr : RS w sv news) (h1 : ∀ u ∈ news, u.oneCell' = true)
    (hbytes : (xs.length + news.length) * bytes ≤ 140737488355328) (hby0 : 0 < bytes) (hbase : base ≤ w.heap.size)
    (h : ∀ v' w', w'.ownsRow base e 1 v' (xs ++ news).length (xs ++ news) → w.grownBy w' v.ownBlock → (v'.ownBlock = v.ownBlock ∨ v'.ownBlock = some w.heap.size) → wpListIn F n P ops Q rest (a.put o.dst v') w') : wpListIn F n P ops Q (o :: rest) a w := by
  refine wpListIn_plain hgd fun K hK => ?_
  obtain ⟨v', w', hrun, h2, h3, h4⟩ := run_append_rs (P := P) w base t o.type e i z bytes ht hi hz hsize hby hzs v xs hown sv news hr h1 hbytes hby0 hbase
  unfold Oper.wpIn
  refine ⟨?_, ?_⟩
  · simp [Oper.about, ho, resolve, Target.leads, Sem.run_pure]
  · rw [Oper.semAt_plain F _ _ (by rw [ho]; intro c hc'; cases hc')]
    simp [execOp, ho, resolve, invoke, builtin, hs, hx, hrun, Result.andThen]
    exact hK _ _ (h v' w' h2 h3 h4)
theorem Stab.own {B : Nat} (b0 : Nat) (e : TypeId) (v : Value) (n : Nat) (xs : List Value) : Stab B (fun W => W.ownsRow b0 e 1 v n xs) := fun W W' l _ hn hg h => by
  refine ⟨h.1, ?_⟩
  rcases h.2 with hh | ⟨g, cap, cur, hv, hb, hh, r⟩
  · exact .inl hh
  · exact .inr ⟨g, cap, cur, hv, hb, heap_nc hn hg hh, r⟩
theorem own_ext1 {w w' : World} {B : Nat} {e : TypeId} {v : Value} {n : Nat} {xs : List Value} (h : w.ownsRow B e 1 v n xs) (he : Ext w w') : w'.ownsRow B e 1 v n xs :=
  h.kept (he.but none) (by cases hv : v.ownBlock <;> simp)
theorem own_keep {W W' : World} {row : Option Nat} {k B : Nat} {o : Obj} (hg : W.grownBy W' row) (hrow : ∀ j, row = some j → B ≤ j) (hk : k < B) (h : W.heap[k]? = some o) : W'.heap[k]? = some o :=
  (hg.block k (Array.getElem?_eq_some_iff.1 h).1 (fun e => by have := hrow k e.symm; omega)).trans h
/-- A store into one cell, below the row. -/
theorem own_set {w : World} {B : Nat} {e : TypeId} {v : Value} {n : Nat} {xs : List Value} (h : w.ownsRow B e 1 v n xs) {k : Nat} (u : Value) (hk : k < B) : (w.setCell ⟨k, 0, none⟩ u).ownsRow B e 1 v n xs :=
  h.kept (grown_set1 w k u) (by
    cases hv : v.ownBlock with
    | none => exact .inl rfl
    | some j => exact .inr (fun e => by have := (World.ownsRow.lt h j hv).1; injection e with e; omega))
/-- The row's block is one of cells. -/
theorem own_cells {w : World} {B : Nat} {e : TypeId} {v : Value} {n : Nat} {xs : List Value} (h : w.ownsRow B e 1 v n xs) : ∀ j o, v.ownBlock = some j → w.heap[j]? = some o → o.isCells = true := fun j o hj ho => by
  rcases h.2 with ⟨rfl, _⟩ | ⟨g, cap, cur, rfl, hb, hg, _⟩
  · simp [Value.ownBlock] at hj
  · have : g = j := Option.some.inj hj
    subst this
    rw [hg] at ho; injection ho with ho; subst ho; rfl
theorem own_keepsOthers {w W' : World} {B : Nat} {e : TypeId} {v : Value} {n : Nat} {xs : List Value} (h : w.ownsRow B e 1 v n xs) (hg : w.grownBy W' v.ownBlock) : KeepsOthers w W' :=
  KeepsOthers.of_grownBy hg (fun j o hj ho => own_cells h j o hj ho)
theorem own_shape {W : World} {B : Nat} {e : TypeId} {v : Value} {xs : List Value} {x : Value} (h : W.ownsRow B e 1 v (xs ++ [x]).length (xs ++ [x])) : ∃ g cap, v = .slice (some ⟨g, 0, none⟩) (xs.length + 1) cap := by
  rcases h.2 with ⟨_, h0⟩ | ⟨g, cap, cur, rfl, _⟩
  · simp at h0
  · exact ⟨g, cap, by rw [List.length_append]; rfl⟩
end Go.Proofs.YthpfomjibfbiiaaGreatDoor
