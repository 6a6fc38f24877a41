/- Flags: the names. (wip/tools/genfl2.py printed this.) -/
import Derived.Test.YtigjecmhhjjenaaDoorFl1
import Derived.MapKept
import Derived.RangeFuncRecord
namespace Go.Proofs.YtigjecmhhjjenaaDoor
open Go Go.RowKit
set_option linter.unusedVariables false

/-- The flags' names by their bits. -/
def namesL : List (Nat × ByteArray) := [(0, ⟨#[102, 111, 114, 119, 97, 114, 100, 97, 98, 108, 101]⟩), (1, ⟨#[102, 111, 114, 119, 97, 114, 100, 101, 100]⟩), (2, ⟨#[112, 114, 111, 120, 105, 97, 98, 108, 101]⟩), (3, ⟨#[112, 114, 111, 120, 121]⟩), (4, ⟨#[109, 97, 121, 45, 112, 111, 115, 116, 100, 97, 116, 101]⟩), (5, ⟨#[112, 111, 115, 116, 100, 97, 116, 101, 100]⟩), (6, ⟨#[105, 110, 118, 97, 108, 105, 100]⟩), (7, ⟨#[114, 101, 110, 101, 119, 97, 98, 108, 101]⟩), (8, ⟨#[105, 110, 105, 116, 105, 97, 108]⟩), (9, ⟨#[112, 114, 101, 45, 97, 117, 116, 104]⟩), (10, ⟨#[116, 114, 97, 110, 115, 105, 116, 101, 100]⟩), (11, ⟨#[100, 101, 108, 101, 103, 97, 116, 101]⟩), (16, ⟨#[114, 101, 110, 101, 119]⟩), (17, ⟨#[118, 97, 108, 105, 100, 97, 116, 101]⟩), (18, ⟨#[99, 97, 110, 111, 110, 105, 99, 97, 108]⟩), (19, ⟨#[99, 111, 110, 115, 116, 114, 97, 105, 110, 101, 100]⟩), (20, ⟨#[114, 101, 110, 101, 119, 97, 98, 108, 101, 45, 111, 107]⟩)]
def entsN (i : Nat) : List MapEntry := ((namesL.take i).zipIdx).map fun x => { key := .int .i64 (x.1.1 : Int), val := .string x.1.2, born := x.2 }
/-- The map of the names. -/
def NM (W : World) (b : Nat) : Prop := W.heap[b]? = some (.map (entsN 17).toArray 17)
def nameAt (k : Nat) : Option ByteArray := (namesL.find? fun x => x.1 == k).map (·.2)
theorem run_mapNew {P : Program} {W : World} {T K E b n : Nat} {d : TypeDesc} {es : Array MapEntry} {k v : Value} (hT : P.underlying T = some (.map K E)) (hK : P.underlying K = some d) (hk : MapKept.IsKey d k) (h : W.heap[b]? = some (.map es n)) (hf : Instr.findNow d k es.toList 0 = some none) :
    (Instr.mapUpdate T (.map (some b)) k v).run P W = .ok () (W.putObj b (.map (es.push { key := k, val := v, born := n }) (n + 1))) := by
  simp [Instr.mapUpdate, run_underlying hT, MapKept.run_getObj_map h, MapKept.run_checkKey hK hk, MapKept.run_findKey hK hf, MapKept.run_setObj_map _ h, Result.andThen, World.putObj]
theorem ins0 (W : World) (b : Nat) (h : W.heap[b]? = some (.map (entsN 0).toArray 0)) : (Instr.mapUpdate 76 (.map (some b)) (.int .i64 0) (.string ⟨#[102, 111, 114, 119, 97, 114, 100, 97, 98, 108, 101]⟩)).run Tryd.prog W = .ok () (W.putObj b (.map (entsN 1).toArray 1)) :=
  run_mapNew (k := .int .i64 0) Tryd.underlying76 Tryd.underlying3 (d := .int .i64) rfl h (by kernel_rfl)
theorem ins1 (W : World) (b : Nat) (h : W.heap[b]? = some (.map (entsN 1).toArray 1)) : (Instr.mapUpdate 76 (.map (some b)) (.int .i64 1) (.string ⟨#[102, 111, 114, 119, 97, 114, 100, 101, 100]⟩)).run Tryd.prog W = .ok () (W.putObj b (.map (entsN 2).toArray 2)) :=
  run_mapNew (k := .int .i64 1) Tryd.underlying76 Tryd.underlying3 (d := .int .i64) rfl h (by kernel_rfl)
theorem ins2 (W : World) (b : Nat) (h : W.heap[b]? = some (.map (entsN 2).toArray 2)) : (Instr.mapUpdate 76 (.map (some b)) (.int .i64 2) (.string ⟨#[112, 114, 111, 120, 105, 97, 98, 108, 101]⟩)).run Tryd.prog W = .ok () (W.putObj b (.map (entsN 3).toArray 3)) :=
  run_mapNew (k := .int .i64 2) Tryd.underlying76 Tryd.underlying3 (d := .int .i64) rfl h (by kernel_rfl)
theorem ins3 (W : World) (b : Nat) (h : W.heap[b]? = some (.map (entsN 3).toArray 3)) : (Instr.mapUpdate 76 (.map (some b)) (.int .i64 3) (.string ⟨#[112, 114, 111, 120, 121]⟩)).run Tryd.prog W = .ok () (W.putObj b (.map (entsN 4).toArray 4)) :=
  run_mapNew (k := .int .i64 3) Tryd.underlying76 Tryd.underlying3 (d := .int .i64) rfl h (by kernel_rfl)
theorem ins4 (W : World) (b : Nat) (h : W.heap[b]? = some (.map (entsN 4).toArray 4)) : (Instr.mapUpdate 76 (.map (some b)) (.int .i64 4) (.string ⟨#[109, 97, 121, 45, 112, 111, 115, 116, 100, 97, 116, 101]⟩)).run Tryd.prog W = .ok () (W.putObj b (.map (entsN 5).toArray 5)) :=
  run_mapNew (k := .int .i64 4) Tryd.underlying76 Tryd.underlying3 (d := .int .i64) rfl h (by kernel_rfl)
theorem ins5 (W : World) (b : Nat) (h : W.heap[b]? = some (.map (entsN 5).toArray 5)) : (Instr.mapUpdate 76 (.map (some b)) (.int .i64 5) (.string ⟨#[112, 111, 115, 116, 100, 97, 116, 101, 100]⟩)).run Tryd.prog W = .ok () (W.putObj b (.map (entsN 6).toArray 6)) :=
  run_mapNew (k := .int .i64 5) Tryd.underlying76 Tryd.underlying3 (d := .int .i64) rfl h (by kernel_rfl)
theorem ins6 (W : World) (b : Nat) (h : W.heap[b]? = some (.map (entsN 6).toArray 6)) : (Instr.mapUpdate 76 (.map (some b)) (.int .i64 6) (.string ⟨#[105, 110, 118, 97, 108, 105, 100]⟩)).run Tryd.prog W = .ok () (W.putObj b (.map (entsN 7).toArray 7)) :=
  run_mapNew (k := .int .i64 6) Tryd.underlying76 Tryd.underlying3 (d := .int .i64) rfl h (by kernel_rfl)
theorem ins7 (W : World) (b : Nat) (h : W.heap[b]? = some (.map (entsN 7).toArray 7)) : (Instr.mapUpdate 76 (.map (some b)) (.int .i64 7) (.string ⟨#[114, 101, 110, 101, 119, 97, 98, 108, 101]⟩)).run Tryd.prog W = .ok () (W.putObj b (.map (entsN 8).toArray 8)) :=
  run_mapNew (k := .int .i64 7) Tryd.underlying76 Tryd.underlying3 (d := .int .i64) rfl h (by kernel_rfl)
theorem ins8 (W : World) (b : Nat) (h : W.heap[b]? = some (.map (entsN 8).toArray 8)) : (Instr.mapUpdate 76 (.map (some b)) (.int .i64 8) (.string ⟨#[105, 110, 105, 116, 105, 97, 108]⟩)).run Tryd.prog W = .ok () (W.putObj b (.map (entsN 9).toArray 9)) :=
  run_mapNew (k := .int .i64 8) Tryd.underlying76 Tryd.underlying3 (d := .int .i64) rfl h (by kernel_rfl)
theorem ins9 (W : World) (b : Nat) (h : W.heap[b]? = some (.map (entsN 9).toArray 9)) : (Instr.mapUpdate 76 (.map (some b)) (.int .i64 9) (.string ⟨#[112, 114, 101, 45, 97, 117, 116, 104]⟩)).run Tryd.prog W = .ok () (W.putObj b (.map (entsN 10).toArray 10)) :=
  run_mapNew (k := .int .i64 9) Tryd.underlying76 Tryd.underlying3 (d := .int .i64) rfl h (by kernel_rfl)
theorem ins10 (W : World) (b : Nat) (h : W.heap[b]? = some (.map (entsN 10).toArray 10)) : (Instr.mapUpdate 76 (.map (some b)) (.int .i64 10) (.string ⟨#[116, 114, 97, 110, 115, 105, 116, 101, 100]⟩)).run Tryd.prog W = .ok () (W.putObj b (.map (entsN 11).toArray 11)) :=
  run_mapNew (k := .int .i64 10) Tryd.underlying76 Tryd.underlying3 (d := .int .i64) rfl h (by kernel_rfl)
theorem ins11 (W : World) (b : Nat) (h : W.heap[b]? = some (.map (entsN 11).toArray 11)) : (Instr.mapUpdate 76 (.map (some b)) (.int .i64 11) (.string ⟨#[100, 101, 108, 101, 103, 97, 116, 101]⟩)).run Tryd.prog W = .ok () (W.putObj b (.map (entsN 12).toArray 12)) :=
  run_mapNew (k := .int .i64 11) Tryd.underlying76 Tryd.underlying3 (d := .int .i64) rfl h (by kernel_rfl)
theorem ins12 (W : World) (b : Nat) (h : W.heap[b]? = some (.map (entsN 12).toArray 12)) : (Instr.mapUpdate 76 (.map (some b)) (.int .i64 16) (.string ⟨#[114, 101, 110, 101, 119]⟩)).run Tryd.prog W = .ok () (W.putObj b (.map (entsN 13).toArray 13)) :=
  run_mapNew (k := .int .i64 16) Tryd.underlying76 Tryd.underlying3 (d := .int .i64) rfl h (by kernel_rfl)
theorem ins13 (W : World) (b : Nat) (h : W.heap[b]? = some (.map (entsN 13).toArray 13)) : (Instr.mapUpdate 76 (.map (some b)) (.int .i64 17) (.string ⟨#[118, 97, 108, 105, 100, 97, 116, 101]⟩)).run Tryd.prog W = .ok () (W.putObj b (.map (entsN 14).toArray 14)) :=
  run_mapNew (k := .int .i64 17) Tryd.underlying76 Tryd.underlying3 (d := .int .i64) rfl h (by kernel_rfl)
theorem ins14 (W : World) (b : Nat) (h : W.heap[b]? = some (.map (entsN 14).toArray 14)) : (Instr.mapUpdate 76 (.map (some b)) (.int .i64 18) (.string ⟨#[99, 97, 110, 111, 110, 105, 99, 97, 108]⟩)).run Tryd.prog W = .ok () (W.putObj b (.map (entsN 15).toArray 15)) :=
  run_mapNew (k := .int .i64 18) Tryd.underlying76 Tryd.underlying3 (d := .int .i64) rfl h (by kernel_rfl)
theorem ins15 (W : World) (b : Nat) (h : W.heap[b]? = some (.map (entsN 15).toArray 15)) : (Instr.mapUpdate 76 (.map (some b)) (.int .i64 19) (.string ⟨#[99, 111, 110, 115, 116, 114, 97, 105, 110, 101, 100]⟩)).run Tryd.prog W = .ok () (W.putObj b (.map (entsN 16).toArray 16)) :=
  run_mapNew (k := .int .i64 19) Tryd.underlying76 Tryd.underlying3 (d := .int .i64) rfl h (by kernel_rfl)
theorem ins16 (W : World) (b : Nat) (h : W.heap[b]? = some (.map (entsN 16).toArray 16)) : (Instr.mapUpdate 76 (.map (some b)) (.int .i64 20) (.string ⟨#[114, 101, 110, 101, 119, 97, 98, 108, 101, 45, 111, 107]⟩)).run Tryd.prog W = .ok () (W.putObj b (.map (entsN 17).toArray 17)) :=
  run_mapNew (k := .int .i64 20) Tryd.underlying76 Tryd.underlying3 (d := .int .i64) rfl h (by kernel_rfl)
theorem put_same {W : World} {b : Nat} {o o' : Obj} (h : W.heap[b]? = some o) : (W.putObj b o').heap[b]? = some o' := World.putObj_heap_same (Array.getElem?_eq_some_iff.1 h).1
theorem ext_put {w W : World} {b : Nat} {o : Obj} (h : Ext w W) (hb : w.heap.size ≤ b) : Ext w (W.putObj b o) :=
  ⟨h.os, h.tape, h.output, Nat.le_trans h.size (by simp [World.putObj]), fun k hk => (World.putObj_heap_other (by omega)).trans (h.block k hk)⟩

set_option maxRecDepth 100000 in
set_option maxHeartbeats 1000000 in
theorem names_at (w : World) :
    Calls Tryd.prog 42 #[] w fun e w' => e = .returned (.map (some w.heap.size)) ∧ NM w' w.heap.size ∧ Ext w w' := by
  have hmm := @run_makeMap Tryd.prog
  have g0 : (w.alloc (.map #[] 0)).heap[w.heap.size]? = some (.map (entsN 0).toArray 0) := heap_alloc_new w _
  have x0 := (Ext.refl w).alloc (.map #[] 0)
  obtain ⟨W0, hW0⟩ : ∃ W, w.alloc (.map #[] 0) = W := ⟨_, rfl⟩
  rw [hW0] at g0 x0
  have h0 := ins0 W0 _ g0
  have g1 := put_same (o' := .map (entsN 1).toArray 1) g0
  have x1 := ext_put (o := .map (entsN 1).toArray 1) x0 (Nat.le_refl _)
  obtain ⟨W1, hW1⟩ : ∃ W, W0.putObj w.heap.size (.map (entsN 1).toArray 1) = W := ⟨_, rfl⟩
  rw [hW1] at h0 g1 x1
  clear hW1
  have h1 := ins1 W1 _ g1
  have g2 := put_same (o' := .map (entsN 2).toArray 2) g1
  have x2 := ext_put (o := .map (entsN 2).toArray 2) x1 (Nat.le_refl _)
  obtain ⟨W2, hW2⟩ : ∃ W, W1.putObj w.heap.size (.map (entsN 2).toArray 2) = W := ⟨_, rfl⟩
  rw [hW2] at h1 g2 x2
  clear hW2
  have h2 := ins2 W2 _ g2
  have g3 := put_same (o' := .map (entsN 3).toArray 3) g2
  have x3 := ext_put (o := .map (entsN 3).toArray 3) x2 (Nat.le_refl _)
  obtain ⟨W3, hW3⟩ : ∃ W, W2.putObj w.heap.size (.map (entsN 3).toArray 3) = W := ⟨_, rfl⟩
  rw [hW3] at h2 g3 x3
  clear hW3
  have h3 := ins3 W3 _ g3
  have g4 := put_same (o' := .map (entsN 4).toArray 4) g3
  have x4 := ext_put (o := .map (entsN 4).toArray 4) x3 (Nat.le_refl _)
  obtain ⟨W4, hW4⟩ : ∃ W, W3.putObj w.heap.size (.map (entsN 4).toArray 4) = W := ⟨_, rfl⟩
  rw [hW4] at h3 g4 x4
  clear hW4
  have h4 := ins4 W4 _ g4
  have g5 := put_same (o' := .map (entsN 5).toArray 5) g4
  have x5 := ext_put (o := .map (entsN 5).toArray 5) x4 (Nat.le_refl _)
  obtain ⟨W5, hW5⟩ : ∃ W, W4.putObj w.heap.size (.map (entsN 5).toArray 5) = W := ⟨_, rfl⟩
  rw [hW5] at h4 g5 x5
  clear hW5
  have h5 := ins5 W5 _ g5
  have g6 := put_same (o' := .map (entsN 6).toArray 6) g5
  have x6 := ext_put (o := .map (entsN 6).toArray 6) x5 (Nat.le_refl _)
  obtain ⟨W6, hW6⟩ : ∃ W, W5.putObj w.heap.size (.map (entsN 6).toArray 6) = W := ⟨_, rfl⟩
  rw [hW6] at h5 g6 x6
  clear hW6
  have h6 := ins6 W6 _ g6
  have g7 := put_same (o' := .map (entsN 7).toArray 7) g6
  have x7 := ext_put (o := .map (entsN 7).toArray 7) x6 (Nat.le_refl _)
  obtain ⟨W7, hW7⟩ : ∃ W, W6.putObj w.heap.size (.map (entsN 7).toArray 7) = W := ⟨_, rfl⟩
  rw [hW7] at h6 g7 x7
  clear hW7
  have h7 := ins7 W7 _ g7
  have g8 := put_same (o' := .map (entsN 8).toArray 8) g7
  have x8 := ext_put (o := .map (entsN 8).toArray 8) x7 (Nat.le_refl _)
  obtain ⟨W8, hW8⟩ : ∃ W, W7.putObj w.heap.size (.map (entsN 8).toArray 8) = W := ⟨_, rfl⟩
  rw [hW8] at h7 g8 x8
  clear hW8
  have h8 := ins8 W8 _ g8
  have g9 := put_same (o' := .map (entsN 9).toArray 9) g8
  have x9 := ext_put (o := .map (entsN 9).toArray 9) x8 (Nat.le_refl _)
  obtain ⟨W9, hW9⟩ : ∃ W, W8.putObj w.heap.size (.map (entsN 9).toArray 9) = W := ⟨_, rfl⟩
  rw [hW9] at h8 g9 x9
  clear hW9
  have h9 := ins9 W9 _ g9
  have g10 := put_same (o' := .map (entsN 10).toArray 10) g9
  have x10 := ext_put (o := .map (entsN 10).toArray 10) x9 (Nat.le_refl _)
  obtain ⟨W10, hW10⟩ : ∃ W, W9.putObj w.heap.size (.map (entsN 10).toArray 10) = W := ⟨_, rfl⟩
  rw [hW10] at h9 g10 x10
  clear hW10
  have h10 := ins10 W10 _ g10
  have g11 := put_same (o' := .map (entsN 11).toArray 11) g10
  have x11 := ext_put (o := .map (entsN 11).toArray 11) x10 (Nat.le_refl _)
  obtain ⟨W11, hW11⟩ : ∃ W, W10.putObj w.heap.size (.map (entsN 11).toArray 11) = W := ⟨_, rfl⟩
  rw [hW11] at h10 g11 x11
  clear hW11
  have h11 := ins11 W11 _ g11
  have g12 := put_same (o' := .map (entsN 12).toArray 12) g11
  have x12 := ext_put (o := .map (entsN 12).toArray 12) x11 (Nat.le_refl _)
  obtain ⟨W12, hW12⟩ : ∃ W, W11.putObj w.heap.size (.map (entsN 12).toArray 12) = W := ⟨_, rfl⟩
  rw [hW12] at h11 g12 x12
  clear hW12
  have h12 := ins12 W12 _ g12
  have g13 := put_same (o' := .map (entsN 13).toArray 13) g12
  have x13 := ext_put (o := .map (entsN 13).toArray 13) x12 (Nat.le_refl _)
  obtain ⟨W13, hW13⟩ : ∃ W, W12.putObj w.heap.size (.map (entsN 13).toArray 13) = W := ⟨_, rfl⟩
  rw [hW13] at h12 g13 x13
  clear hW13
  have h13 := ins13 W13 _ g13
  have g14 := put_same (o' := .map (entsN 14).toArray 14) g13
  have x14 := ext_put (o := .map (entsN 14).toArray 14) x13 (Nat.le_refl _)
  obtain ⟨W14, hW14⟩ : ∃ W, W13.putObj w.heap.size (.map (entsN 14).toArray 14) = W := ⟨_, rfl⟩
  rw [hW14] at h13 g14 x14
  clear hW14
  have h14 := ins14 W14 _ g14
  have g15 := put_same (o' := .map (entsN 15).toArray 15) g14
  have x15 := ext_put (o := .map (entsN 15).toArray 15) x14 (Nat.le_refl _)
  obtain ⟨W15, hW15⟩ : ∃ W, W14.putObj w.heap.size (.map (entsN 15).toArray 15) = W := ⟨_, rfl⟩
  rw [hW15] at h14 g15 x15
  clear hW15
  have h15 := ins15 W15 _ g15
  have g16 := put_same (o' := .map (entsN 16).toArray 16) g15
  have x16 := ext_put (o := .map (entsN 16).toArray 16) x15 (Nat.le_refl _)
  obtain ⟨W16, hW16⟩ : ∃ W, W15.putObj w.heap.size (.map (entsN 16).toArray 16) = W := ⟨_, rfl⟩
  rw [hW16] at h15 g16 x16
  clear hW16
  have h16 := ins16 W16 _ g16
  have g17 := put_same (o' := .map (entsN 17).toArray 17) g16
  have x17 := ext_put (o := .map (entsN 17).toArray 17) x16 (Nat.le_refl _)
  obtain ⟨W17, hW17⟩ : ∃ W, W16.putObj w.heap.size (.map (entsN 17).toArray 17) = W := ⟨_, rfl⟩
  rw [hW17] at h16 g17 x17
  clear hW17
  have G := Lib.hid g17; have X := Lib.hid x17
  clear g0 x0 g1 x1 g2 x2 g3 x3 g4 x4 g5 x5 g6 x6 g7 x7 g8 x8 g9 x9 g10 x10 g11 x11 g12 x12 g13 x13 g14 x14 g15 x15 g16 x16 g17 x17
  go_enter Tryd.func42, Tryd.ntmps42
  go_wp2
  go_ret
  exact ⟨rfl, G.out, X.out⟩

/-- What is looked up. -/
def lookV (k : Nat) : Value := match nameAt k with | some s => .tuple #[.string s, .bool true] | none => .tuple #[.string ⟨#[]⟩, .bool false]
theorem run_look {P : Program} {W : World} {T K E b n : Nat} {d : TypeDesc} {es : Array MapEntry} {k z v : Value} {r : Option (Nat × Value)} {ok : Bool} (hT : P.underlying T = some (.map K E)) (hK : P.underlying K = some d) (hk : MapKept.IsKey d k) (h : W.heap[b]? = some (.map es n)) (hz : (zeroValue E).run P W = .ok z W) (hf : Instr.findNow d k es.toList 0 = some r)
    (hr : v = (match r with | some x => x.2 | none => z)) (hok : ok = r.isSome) : (Instr.lookup T (.map (some b)) k true).run P W = .ok (.tuple #[v, .bool ok]) W := by
  subst hr; subst hok
  cases r with
  | none => simp [Instr.lookup, run_underlying hT, MapKept.run_getObj_map h, MapKept.run_checkKey hK hk, MapKept.run_findKey hK hf, hz, Result.andThen]
  | some x => simp [Instr.lookup, run_underlying hT, MapKept.run_getObj_map h, MapKept.run_checkKey hK hk, MapKept.run_findKey hK hf, Result.andThen]
theorem zeroS (W : World) : (zeroValue 9).run Tryd.prog W = .ok (.string ⟨#[]⟩) W := by kernel_rfl
theorem look0 (W : World) (b : Nat) (h : NM W b) : (Instr.lookup 76 (.map (some b)) (.int .i64 0) true).run Tryd.prog W = .ok (lookV 0) W :=
  run_look (k := .int .i64 0) Tryd.underlying76 Tryd.underlying3 (d := .int .i64) rfl h (zeroS W) (r := some (0, .string ⟨#[102, 111, 114, 119, 97, 114, 100, 97, 98, 108, 101]⟩)) (by kernel_rfl) (by kernel_rfl) rfl
theorem look1 (W : World) (b : Nat) (h : NM W b) : (Instr.lookup 76 (.map (some b)) (.int .i64 1) true).run Tryd.prog W = .ok (lookV 1) W :=
  run_look (k := .int .i64 1) Tryd.underlying76 Tryd.underlying3 (d := .int .i64) rfl h (zeroS W) (r := some (1, .string ⟨#[102, 111, 114, 119, 97, 114, 100, 101, 100]⟩)) (by kernel_rfl) (by kernel_rfl) rfl
theorem look2 (W : World) (b : Nat) (h : NM W b) : (Instr.lookup 76 (.map (some b)) (.int .i64 2) true).run Tryd.prog W = .ok (lookV 2) W :=
  run_look (k := .int .i64 2) Tryd.underlying76 Tryd.underlying3 (d := .int .i64) rfl h (zeroS W) (r := some (2, .string ⟨#[112, 114, 111, 120, 105, 97, 98, 108, 101]⟩)) (by kernel_rfl) (by kernel_rfl) rfl
theorem look3 (W : World) (b : Nat) (h : NM W b) : (Instr.lookup 76 (.map (some b)) (.int .i64 3) true).run Tryd.prog W = .ok (lookV 3) W :=
  run_look (k := .int .i64 3) Tryd.underlying76 Tryd.underlying3 (d := .int .i64) rfl h (zeroS W) (r := some (3, .string ⟨#[112, 114, 111, 120, 121]⟩)) (by kernel_rfl) (by kernel_rfl) rfl
theorem look4 (W : World) (b : Nat) (h : NM W b) : (Instr.lookup 76 (.map (some b)) (.int .i64 4) true).run Tryd.prog W = .ok (lookV 4) W :=
  run_look (k := .int .i64 4) Tryd.underlying76 Tryd.underlying3 (d := .int .i64) rfl h (zeroS W) (r := some (4, .string ⟨#[109, 97, 121, 45, 112, 111, 115, 116, 100, 97, 116, 101]⟩)) (by kernel_rfl) (by kernel_rfl) rfl
theorem look5 (W : World) (b : Nat) (h : NM W b) : (Instr.lookup 76 (.map (some b)) (.int .i64 5) true).run Tryd.prog W = .ok (lookV 5) W :=
  run_look (k := .int .i64 5) Tryd.underlying76 Tryd.underlying3 (d := .int .i64) rfl h (zeroS W) (r := some (5, .string ⟨#[112, 111, 115, 116, 100, 97, 116, 101, 100]⟩)) (by kernel_rfl) (by kernel_rfl) rfl
theorem look6 (W : World) (b : Nat) (h : NM W b) : (Instr.lookup 76 (.map (some b)) (.int .i64 6) true).run Tryd.prog W = .ok (lookV 6) W :=
  run_look (k := .int .i64 6) Tryd.underlying76 Tryd.underlying3 (d := .int .i64) rfl h (zeroS W) (r := some (6, .string ⟨#[105, 110, 118, 97, 108, 105, 100]⟩)) (by kernel_rfl) (by kernel_rfl) rfl
theorem look7 (W : World) (b : Nat) (h : NM W b) : (Instr.lookup 76 (.map (some b)) (.int .i64 7) true).run Tryd.prog W = .ok (lookV 7) W :=
  run_look (k := .int .i64 7) Tryd.underlying76 Tryd.underlying3 (d := .int .i64) rfl h (zeroS W) (r := some (7, .string ⟨#[114, 101, 110, 101, 119, 97, 98, 108, 101]⟩)) (by kernel_rfl) (by kernel_rfl) rfl
theorem look8 (W : World) (b : Nat) (h : NM W b) : (Instr.lookup 76 (.map (some b)) (.int .i64 8) true).run Tryd.prog W = .ok (lookV 8) W :=
  run_look (k := .int .i64 8) Tryd.underlying76 Tryd.underlying3 (d := .int .i64) rfl h (zeroS W) (r := some (8, .string ⟨#[105, 110, 105, 116, 105, 97, 108]⟩)) (by kernel_rfl) (by kernel_rfl) rfl
theorem look9 (W : World) (b : Nat) (h : NM W b) : (Instr.lookup 76 (.map (some b)) (.int .i64 9) true).run Tryd.prog W = .ok (lookV 9) W :=
  run_look (k := .int .i64 9) Tryd.underlying76 Tryd.underlying3 (d := .int .i64) rfl h (zeroS W) (r := some (9, .string ⟨#[112, 114, 101, 45, 97, 117, 116, 104]⟩)) (by kernel_rfl) (by kernel_rfl) rfl
theorem look10 (W : World) (b : Nat) (h : NM W b) : (Instr.lookup 76 (.map (some b)) (.int .i64 10) true).run Tryd.prog W = .ok (lookV 10) W :=
  run_look (k := .int .i64 10) Tryd.underlying76 Tryd.underlying3 (d := .int .i64) rfl h (zeroS W) (r := some (10, .string ⟨#[116, 114, 97, 110, 115, 105, 116, 101, 100]⟩)) (by kernel_rfl) (by kernel_rfl) rfl
theorem look11 (W : World) (b : Nat) (h : NM W b) : (Instr.lookup 76 (.map (some b)) (.int .i64 11) true).run Tryd.prog W = .ok (lookV 11) W :=
  run_look (k := .int .i64 11) Tryd.underlying76 Tryd.underlying3 (d := .int .i64) rfl h (zeroS W) (r := some (11, .string ⟨#[100, 101, 108, 101, 103, 97, 116, 101]⟩)) (by kernel_rfl) (by kernel_rfl) rfl
theorem look12 (W : World) (b : Nat) (h : NM W b) : (Instr.lookup 76 (.map (some b)) (.int .i64 12) true).run Tryd.prog W = .ok (lookV 12) W :=
  run_look (k := .int .i64 12) Tryd.underlying76 Tryd.underlying3 (d := .int .i64) rfl h (zeroS W) (r := none) (by kernel_rfl) (by kernel_rfl) rfl
theorem look13 (W : World) (b : Nat) (h : NM W b) : (Instr.lookup 76 (.map (some b)) (.int .i64 13) true).run Tryd.prog W = .ok (lookV 13) W :=
  run_look (k := .int .i64 13) Tryd.underlying76 Tryd.underlying3 (d := .int .i64) rfl h (zeroS W) (r := none) (by kernel_rfl) (by kernel_rfl) rfl
theorem look14 (W : World) (b : Nat) (h : NM W b) : (Instr.lookup 76 (.map (some b)) (.int .i64 14) true).run Tryd.prog W = .ok (lookV 14) W :=
  run_look (k := .int .i64 14) Tryd.underlying76 Tryd.underlying3 (d := .int .i64) rfl h (zeroS W) (r := none) (by kernel_rfl) (by kernel_rfl) rfl
theorem look15 (W : World) (b : Nat) (h : NM W b) : (Instr.lookup 76 (.map (some b)) (.int .i64 15) true).run Tryd.prog W = .ok (lookV 15) W :=
  run_look (k := .int .i64 15) Tryd.underlying76 Tryd.underlying3 (d := .int .i64) rfl h (zeroS W) (r := none) (by kernel_rfl) (by kernel_rfl) rfl
theorem look16 (W : World) (b : Nat) (h : NM W b) : (Instr.lookup 76 (.map (some b)) (.int .i64 16) true).run Tryd.prog W = .ok (lookV 16) W :=
  run_look (k := .int .i64 16) Tryd.underlying76 Tryd.underlying3 (d := .int .i64) rfl h (zeroS W) (r := some (12, .string ⟨#[114, 101, 110, 101, 119]⟩)) (by kernel_rfl) (by kernel_rfl) rfl
theorem look17 (W : World) (b : Nat) (h : NM W b) : (Instr.lookup 76 (.map (some b)) (.int .i64 17) true).run Tryd.prog W = .ok (lookV 17) W :=
  run_look (k := .int .i64 17) Tryd.underlying76 Tryd.underlying3 (d := .int .i64) rfl h (zeroS W) (r := some (13, .string ⟨#[118, 97, 108, 105, 100, 97, 116, 101]⟩)) (by kernel_rfl) (by kernel_rfl) rfl
theorem look18 (W : World) (b : Nat) (h : NM W b) : (Instr.lookup 76 (.map (some b)) (.int .i64 18) true).run Tryd.prog W = .ok (lookV 18) W :=
  run_look (k := .int .i64 18) Tryd.underlying76 Tryd.underlying3 (d := .int .i64) rfl h (zeroS W) (r := some (14, .string ⟨#[99, 97, 110, 111, 110, 105, 99, 97, 108]⟩)) (by kernel_rfl) (by kernel_rfl) rfl
theorem look19 (W : World) (b : Nat) (h : NM W b) : (Instr.lookup 76 (.map (some b)) (.int .i64 19) true).run Tryd.prog W = .ok (lookV 19) W :=
  run_look (k := .int .i64 19) Tryd.underlying76 Tryd.underlying3 (d := .int .i64) rfl h (zeroS W) (r := some (15, .string ⟨#[99, 111, 110, 115, 116, 114, 97, 105, 110, 101, 100]⟩)) (by kernel_rfl) (by kernel_rfl) rfl
theorem look20 (W : World) (b : Nat) (h : NM W b) : (Instr.lookup 76 (.map (some b)) (.int .i64 20) true).run Tryd.prog W = .ok (lookV 20) W :=
  run_look (k := .int .i64 20) Tryd.underlying76 Tryd.underlying3 (d := .int .i64) rfl h (zeroS W) (r := some (16, .string ⟨#[114, 101, 110, 101, 119, 97, 98, 108, 101, 45, 111, 107]⟩)) (by kernel_rfl) (by kernel_rfl) rfl
theorem look21 (W : World) (b : Nat) (h : NM W b) : (Instr.lookup 76 (.map (some b)) (.int .i64 21) true).run Tryd.prog W = .ok (lookV 21) W :=
  run_look (k := .int .i64 21) Tryd.underlying76 Tryd.underlying3 (d := .int .i64) rfl h (zeroS W) (r := none) (by kernel_rfl) (by kernel_rfl) rfl
theorem look22 (W : World) (b : Nat) (h : NM W b) : (Instr.lookup 76 (.map (some b)) (.int .i64 22) true).run Tryd.prog W = .ok (lookV 22) W :=
  run_look (k := .int .i64 22) Tryd.underlying76 Tryd.underlying3 (d := .int .i64) rfl h (zeroS W) (r := none) (by kernel_rfl) (by kernel_rfl) rfl
theorem look23 (W : World) (b : Nat) (h : NM W b) : (Instr.lookup 76 (.map (some b)) (.int .i64 23) true).run Tryd.prog W = .ok (lookV 23) W :=
  run_look (k := .int .i64 23) Tryd.underlying76 Tryd.underlying3 (d := .int .i64) rfl h (zeroS W) (r := none) (by kernel_rfl) (by kernel_rfl) rfl
theorem look24 (W : World) (b : Nat) (h : NM W b) : (Instr.lookup 76 (.map (some b)) (.int .i64 24) true).run Tryd.prog W = .ok (lookV 24) W :=
  run_look (k := .int .i64 24) Tryd.underlying76 Tryd.underlying3 (d := .int .i64) rfl h (zeroS W) (r := none) (by kernel_rfl) (by kernel_rfl) rfl
theorem look25 (W : World) (b : Nat) (h : NM W b) : (Instr.lookup 76 (.map (some b)) (.int .i64 25) true).run Tryd.prog W = .ok (lookV 25) W :=
  run_look (k := .int .i64 25) Tryd.underlying76 Tryd.underlying3 (d := .int .i64) rfl h (zeroS W) (r := none) (by kernel_rfl) (by kernel_rfl) rfl
theorem look26 (W : World) (b : Nat) (h : NM W b) : (Instr.lookup 76 (.map (some b)) (.int .i64 26) true).run Tryd.prog W = .ok (lookV 26) W :=
  run_look (k := .int .i64 26) Tryd.underlying76 Tryd.underlying3 (d := .int .i64) rfl h (zeroS W) (r := none) (by kernel_rfl) (by kernel_rfl) rfl
theorem look27 (W : World) (b : Nat) (h : NM W b) : (Instr.lookup 76 (.map (some b)) (.int .i64 27) true).run Tryd.prog W = .ok (lookV 27) W :=
  run_look (k := .int .i64 27) Tryd.underlying76 Tryd.underlying3 (d := .int .i64) rfl h (zeroS W) (r := none) (by kernel_rfl) (by kernel_rfl) rfl
theorem look28 (W : World) (b : Nat) (h : NM W b) : (Instr.lookup 76 (.map (some b)) (.int .i64 28) true).run Tryd.prog W = .ok (lookV 28) W :=
  run_look (k := .int .i64 28) Tryd.underlying76 Tryd.underlying3 (d := .int .i64) rfl h (zeroS W) (r := none) (by kernel_rfl) (by kernel_rfl) rfl
theorem look29 (W : World) (b : Nat) (h : NM W b) : (Instr.lookup 76 (.map (some b)) (.int .i64 29) true).run Tryd.prog W = .ok (lookV 29) W :=
  run_look (k := .int .i64 29) Tryd.underlying76 Tryd.underlying3 (d := .int .i64) rfl h (zeroS W) (r := none) (by kernel_rfl) (by kernel_rfl) rfl
theorem look30 (W : World) (b : Nat) (h : NM W b) : (Instr.lookup 76 (.map (some b)) (.int .i64 30) true).run Tryd.prog W = .ok (lookV 30) W :=
  run_look (k := .int .i64 30) Tryd.underlying76 Tryd.underlying3 (d := .int .i64) rfl h (zeroS W) (r := none) (by kernel_rfl) (by kernel_rfl) rfl
theorem look31 (W : World) (b : Nat) (h : NM W b) : (Instr.lookup 76 (.map (some b)) (.int .i64 31) true).run Tryd.prog W = .ok (lookV 31) W :=
  run_look (k := .int .i64 31) Tryd.underlying76 Tryd.underlying3 (d := .int .i64) rfl h (zeroS W) (r := none) (by kernel_rfl) (by kernel_rfl) rfl
theorem look_at (W : World) (b k : Nat) (hk : k < 32) (h : NM W b) : (Instr.lookup 76 (.map (some b)) (.int .i64 (k : Int)) true).run Tryd.prog W = .ok (lookV k) W := by
  rcases (show k = 0 ∨ k = 1 ∨ k = 2 ∨ k = 3 ∨ k = 4 ∨ k = 5 ∨ k = 6 ∨ k = 7 ∨ k = 8 ∨ k = 9 ∨ k = 10 ∨ k = 11 ∨ k = 12 ∨ k = 13 ∨ k = 14 ∨ k = 15 ∨ k = 16 ∨ k = 17 ∨ k = 18 ∨ k = 19 ∨ k = 20 ∨ k = 21 ∨ k = 22 ∨ k = 23 ∨ k = 24 ∨ k = 25 ∨ k = 26 ∨ k = 27 ∨ k = 28 ∨ k = 29 ∨ k = 30 ∨ k = 31 by omega) with rfl | rfl | rfl | rfl | rfl | rfl | rfl | rfl | rfl | rfl | rfl | rfl | rfl | rfl | rfl | rfl | rfl | rfl | rfl | rfl | rfl | rfl | rfl | rfl | rfl | rfl | rfl | rfl | rfl | rfl | rfl | rfl
  · exact look0 W b h
  · exact look1 W b h
  · exact look2 W b h
  · exact look3 W b h
  · exact look4 W b h
  · exact look5 W b h
  · exact look6 W b h
  · exact look7 W b h
  · exact look8 W b h
  · exact look9 W b h
  · exact look10 W b h
  · exact look11 W b h
  · exact look12 W b h
  · exact look13 W b h
  · exact look14 W b h
  · exact look15 W b h
  · exact look16 W b h
  · exact look17 W b h
  · exact look18 W b h
  · exact look19 W b h
  · exact look20 W b h
  · exact look21 W b h
  · exact look22 W b h
  · exact look23 W b h
  · exact look24 W b h
  · exact look25 W b h
  · exact look26 W b h
  · exact look27 W b h
  · exact look28 W b h
  · exact look29 W b h
  · exact look30 W b h
  · exact look31 W b h
end Go.Proofs.YtigjecmhhjjenaaDoor
