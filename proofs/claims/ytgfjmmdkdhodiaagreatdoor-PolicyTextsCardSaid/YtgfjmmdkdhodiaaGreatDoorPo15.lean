/- Policy: Parse. (wip/tools/genpo15.py printed this.) -/
import Derived.Test.YtgfjmmdkdhodiaaGreatDoorPo14
import Derived.Test.YtgfjmmdkdhodiaaGreatDoorPo13
import Derived.Test.YtgfjmmdkdhodiaaGreatDoorMg2
import Derived.ScopeJumps
import Derived.Deep.DeepCutAuto
import Derived.WalkMore
import Derived.Deep.QuietTactic
import Derived.BigQuiet

namespace Go.Proofs.YtgfjmmdkdhodiaaGreatDoor
open Go Go.RowKit
set_option linter.unusedVariables false

theorem SplitP_at (s : ByteArray) (hs : s.size ≤ 1000) (w : World) (hm : MaxL w) :
    Calls Tryz.prog 49 #[.string s, .string ⟨#[32]⟩, .int .i64 9] w fun e w' => ∃ n cap cs, e = .returned (.slice (some ⟨w.heap.size, 0, none⟩) n cap) ∧ n = (wordsP s).length ∧ w' = w.alloc (.cells cs 9) ∧ ∀ (j : Nat) b, (wordsP s)[j]? = some b → cs[j]? = some (.string b) := by
  obtain ⟨m, hm⟩ := hm 2 (by kernel_rfl)
  refine (Tryz.strings_SplitN s ⟨#[32]⟩ 9 m w (by omega) hm (by decide) (by omega) (by omega)).mono ?_
  rintro e w' ⟨rfl, rfl⟩
  refine ⟨_, _, _, rfl, rfl, rfl, fun j b hb => ?_⟩
  have hlt := (List.getElem?_eq_some_iff.1 hb).1
  unfold wordsP at hb hlt
  unfold Lib.cellsOf
  rw [List.getElem?_toArray, List.getElem?_append_left (by simpa using hlt), List.getElem?_map, hb]
  rfl
theorem splitP_size (sep : ByteArray) : ∀ (k : Nat) (s b : ByteArray), b ∈ Lib.splitB sep 0 k s → b.size ≤ s.size
  | 0, s, b, h => by
    rw [Lib.splitB_zero] at h
    simp only [List.mem_singleton] at h
    subst h
    exact Nat.le_refl _
  | k + 1, s, b, h => by
    unfold Lib.splitB at h
    split at h
    · simp only [List.mem_singleton] at h
      subst h
      exact Nat.le_refl _
    · rcases List.mem_cons.1 h with rfl | h
      · rw [ByteArray.size_extract]; omega
      · have := splitP_size sep k _ b h
        rw [ByteArray.size_extract] at this; omega
theorem ofFn100 (f : Nat → Value) : Array.ofFn (n := 100) (fun i => f i.val) = #[f 0, f 1, f 2, f 3, f 4, f 5, f 6, f 7, f 8, f 9, f 10, f 11, f 12, f 13, f 14, f 15, f 16, f 17, f 18, f 19, f 20, f 21, f 22, f 23, f 24, f 25, f 26, f 27, f 28, f 29, f 30, f 31, f 32, f 33, f 34, f 35, f 36, f 37, f 38, f 39, f 40, f 41, f 42, f 43, f 44, f 45, f 46, f 47, f 48, f 49, f 50, f 51, f 52, f 53, f 54, f 55, f 56, f 57, f 58, f 59, f 60, f 61, f 62, f 63, f 64, f 65, f 66, f 67, f 68, f 69, f 70, f 71, f 72, f 73, f 74, f 75, f 76, f 77, f 78, f 79, f 80, f 81, f 82, f 83, f 84, f 85, f 86, f 87, f 88, f 89, f 90, f 91, f 92, f 93, f 94, f 95, f 96, f 97, f 98, f 99] := by kernel_rfl
theorem arr100 {ts : Array Value} (h : ts.size = 100) : ts = #[ts.getD 0 undef, ts.getD 1 undef, ts.getD 2 undef, ts.getD 3 undef, ts.getD 4 undef, ts.getD 5 undef, ts.getD 6 undef, ts.getD 7 undef, ts.getD 8 undef, ts.getD 9 undef, ts.getD 10 undef, ts.getD 11 undef, ts.getD 12 undef, ts.getD 13 undef, ts.getD 14 undef, ts.getD 15 undef, ts.getD 16 undef, ts.getD 17 undef, ts.getD 18 undef, ts.getD 19 undef, ts.getD 20 undef, ts.getD 21 undef, ts.getD 22 undef, ts.getD 23 undef, ts.getD 24 undef, ts.getD 25 undef, ts.getD 26 undef, ts.getD 27 undef, ts.getD 28 undef, ts.getD 29 undef, ts.getD 30 undef, ts.getD 31 undef, ts.getD 32 undef, ts.getD 33 undef, ts.getD 34 undef, ts.getD 35 undef, ts.getD 36 undef, ts.getD 37 undef, ts.getD 38 undef, ts.getD 39 undef, ts.getD 40 undef, ts.getD 41 undef, ts.getD 42 undef, ts.getD 43 undef, ts.getD 44 undef, ts.getD 45 undef, ts.getD 46 undef, ts.getD 47 undef, ts.getD 48 undef, ts.getD 49 undef, ts.getD 50 undef, ts.getD 51 undef, ts.getD 52 undef, ts.getD 53 undef, ts.getD 54 undef, ts.getD 55 undef, ts.getD 56 undef, ts.getD 57 undef, ts.getD 58 undef, ts.getD 59 undef, ts.getD 60 undef, ts.getD 61 undef, ts.getD 62 undef, ts.getD 63 undef, ts.getD 64 undef, ts.getD 65 undef, ts.getD 66 undef, ts.getD 67 undef, ts.getD 68 undef, ts.getD 69 undef, ts.getD 70 undef, ts.getD 71 undef, ts.getD 72 undef, ts.getD 73 undef, ts.getD 74 undef, ts.getD 75 undef, ts.getD 76 undef, ts.getD 77 undef, ts.getD 78 undef, ts.getD 79 undef, ts.getD 80 undef, ts.getD 81 undef, ts.getD 82 undef, ts.getD 83 undef, ts.getD 84 undef, ts.getD 85 undef, ts.getD 86 undef, ts.getD 87 undef, ts.getD 88 undef, ts.getD 89 undef, ts.getD 90 undef, ts.getD 91 undef, ts.getD 92 undef, ts.getD 93 undef, ts.getD 94 undef, ts.getD 95 undef, ts.getD 96 undef, ts.getD 97 undef, ts.getD 98 undef, ts.getD 99 undef] := by
  rw [← ofFn100 (fun i => ts.getD i undef)]
  apply Array.ext (by simp [h])
  intro i h1 h2
  simp [Array.getD, h1]
theorem jump_ret {l : Nat} {J : Act → World → Prop} {Q : Exit → Act → World → Prop} {a : Act} {w : World} : Exit.jump l J Q .ret a w = Q .ret a w := rfl
/-- A policy is laid over another one. -/
theorem putPL {w0 W : World} {n : Nat} {p q : Pol} (hx : Ext w0 W) (hn : w0.heap.size ≤ n) (h : PL W n p) :
    ∃ WF, ((((((((((W.setCell ⟨n, 0, none⟩ (.string q.nm)).setCell ⟨n, 1, none⟩ (.int .i64 q.len)).setCell ⟨n, 2, none⟩ (.int .i64 q.cla)).setCell ⟨n, 3, none⟩ (.int .i64 q.dis)).setCell ⟨n, 4, none⟩ (.int .i64 q.his)).setCell ⟨n, 5, none⟩ (.int .i64 q.mina)).setCell ⟨n, 6, none⟩ (.int .i64 q.maxa)).setCell ⟨n, 7, none⟩ (.int .i64 q.fai)).setCell ⟨n, 8, none⟩ (.int .i64 q.win)).setCell ⟨n, 9, none⟩ (.int .i64 q.loc)) = WF ∧ Ext w0 WF ∧ PL WF n q := by
  refine ⟨_, rfl, (((((((((hx.setCell hn _).setCell hn _).setCell hn _).setCell hn _).setCell hn _).setCell hn _).setCell hn _).setCell hn _).setCell hn _).setCell hn _, ?_⟩
  have s0 : PL (W.setCell ⟨n, 0, none⟩ (.string q.nm)) n { p with nm := q.nm } := by
    unfold PL at h ⊢
    rw [heap_setCell_same W n 0 _ _ _ h]
    rfl
  have s9 := ((((((((s0.set 1 (by omega) (by omega) q.len).set 2 (by omega) (by omega) q.cla).set 3 (by omega) (by omega) q.dis).set 4 (by omega) (by omega) q.his).set 5 (by omega) (by omega) q.mina).set 6 (by omega) (by omega) q.maxa).set 7 (by omega) (by omega) q.fai).set 8 (by omega) (by omega) q.win).set 9 (by omega) (by omega) q.loc
  simpa [Pol.set] using s9
theorem rdP_nm {k : Nat} {l : List UInt8} {q q' : Pol} (h : rdP k l q = some q') (hl : l.length ≤ 1000) (hq : q.nm.size ≤ 1000) : q'.nm.size ≤ 1000 := by
  have num : ∀ i, rdNum i l q = some q' → q'.nm.size ≤ 1000 := fun i h => by
    unfold rdNum at h
    cases hn : numV l with
    | none => rw [hn] at h; cases h
    | some v =>
      rw [hn] at h
      injection h with h
      subst h
      unfold Pol.set
      split <;> exact hq
  have pair : ∀ sep i j, rdPair sep i j l q = some q' → q'.nm.size ≤ 1000 := fun sep i j h => by
    unfold rdPair at h
    cases hn : pairV sep l with
    | none => rw [hn] at h; cases h
    | some v =>
      obtain ⟨x, y⟩ := v
      rw [hn] at h
      injection h with h
      subst h
      have h1 : (q.set i x).nm = q.nm := by unfold Pol.set; split <;> rfl
      have h2 : ((q.set i x).set j y).nm = (q.set i x).nm := by unfold Pol.set; split <;> rfl
      rw [h2, h1]; exact hq
  match k, h with
  | 0, h =>
    injection h with h
    subst h
    show l.toArray.size ≤ 1000
    simpa using hl
  | 1, h => exact num _ h
  | 2, h => exact num _ h
  | 3, h => exact num _ h
  | 4, h => exact num _ h
  | 5, h => exact pair _ _ _ h
  | 6, h => exact num _ h
  | 7, h => exact pair _ _ _ h
  | k + 8, h => cases h
theorem list_eight {α : Type} {l : List α} (h : l.length = 8) : ∃ a b c d e f g i, l = [a, b, c, d, e, f, g, i] := by
  match l, h with
  | [a, b, c, d, e, f, g, i], _ => exact ⟨a, b, c, d, e, f, g, i, rfl⟩
theorem no_of {s : ByteArray} (h : ∀ q, pw (wordsP s) = some q → ¬ (q.ok = true ∧ q.text = s.data.toList)) : ∀ p : Pol, p.ok = true → p.text ≠ s.data.toList := fun p hp ht => h p (pw_text hp s ht) ⟨hp, ht⟩
/-- A field of the string as it lies. -/
def fieldRow (v1 v2 v3 v4 v5 v6 v7 : Value) (G : Nat) : Array Value := #[.string ⟨#[]⟩, .func (.func 48) #[] #[.pointer (some ⟨G, 0, none⟩)], .string ⟨#[108, 101, 110, 103, 116, 104, 61]⟩, v1, .string ⟨#[99, 108, 97, 115, 115, 101, 115, 61]⟩, v2, .string ⟨#[100, 105, 115, 116, 105, 110, 99, 116, 61]⟩, v3, .string ⟨#[104, 105, 115, 116, 111, 114, 121, 61]⟩, v4, .string ⟨#[97, 103, 101, 61]⟩, v5, .string ⟨#[102, 97, 105, 108, 115, 61]⟩, v6, .string ⟨#[108, 111, 99, 107, 61]⟩, v7]
/-- What is read out of a string: the policy whose string it is, or the error. -/
def PRes' (l : List UInt8) (en : Ending) : Prop :=
  (∃ p : Pol, p.ok = true ∧ p.text = l ∧ en = .returned (.tuple #[p.v, .int .i64 0])) ∨ ((∀ p : Pol, p.ok = true → p.text ≠ l) ∧ en = .returned (.tuple #[Pol.zero.v, .int .i64 6]))
theorem PRes'.uniq {l : List UInt8} {e e' : Ending} (h : PRes' l e) (h' : PRes' l e') : e = e' := by
  rcases h with ⟨p, hv, ht, rfl⟩ | ⟨hn, rfl⟩
  · rcases h' with ⟨q, hv', ht', rfl⟩ | ⟨hn', rfl⟩
    · obtain rfl := Pol.text_inj hv hv' (ht.trans ht'.symm)
      rfl
    · exact absurd ht (hn' _ hv)
  · rcases h' with ⟨q, hv', ht', rfl⟩ | ⟨hn', rfl⟩
    · exact absurd ht' (hn _ hv')
    · rfl
/-- The memory of a closure of a number, of two numbers. -/
def NMem (G i : Nat) (v : Value) (W : World) : Prop := ∃ g, v = .func (.func 43) #[] #[.pointer (some ⟨g, 0, none⟩)] ∧ G + 1 < g ∧ PP W g ⟨G, i, none⟩
def PMem (G i j : Nat) (sep : ByteArray) (v : Value) (W : World) : Prop := ∃ g, v = .func (.func 46) #[] #[.pointer (some ⟨g, 0, none⟩), .pointer (some ⟨G + 1, 0, none⟩), .pointer (some ⟨g + 1, 0, none⟩), .pointer (some ⟨g + 1 + 1, 0, none⟩)] ∧ G + 1 < g ∧
  SB W g sep ∧ PP W (g + 1) ⟨G, i, none⟩ ∧ PP W (g + 1 + 1) ⟨G, j, none⟩
theorem NMem.ext {G i : Nat} {v : Value} {W W' : World} (h : NMem G i v W) (hx : Ext W W') : NMem G i v W' := by
  obtain ⟨g, h1, h2, h3⟩ := h
  exact ⟨g, h1, h2, h3.ext hx⟩
theorem PMem.ext {G i j : Nat} {sep : ByteArray} {v : Value} {W W' : World} (h : PMem G i j sep v W) (hx : Ext W W') : PMem G i j sep v W' := by
  obtain ⟨g, h1, h2, h3, h4, h5⟩ := h
  exact ⟨g, h1, h2, hx.heap h3, h4.ext hx, h5.ext hx⟩
/-- The fields of the string, as Parse lays them. -/
def FM (w : World) (v : Value) (W : World) : Prop := ∃ g v1 v2 v3 v4 v5 v6 v7, v = .slice (some ⟨g, 0, none⟩) 8 8 ∧ W.heap[g]? = some (.cells (fieldRow v1 v2 v3 v4 v5 v6 v7 (w.heap.size + 1)) 85 (0, 0)) ∧ w.heap.size + 1 + 1 < g ∧
  NMem (w.heap.size + 1) 1 v1 W ∧ NMem (w.heap.size + 1) 2 v2 W ∧ NMem (w.heap.size + 1) 3 v3 W ∧ NMem (w.heap.size + 1) 4 v4 W ∧ PMem (w.heap.size + 1) 5 6 ⟨#[46, 46]⟩ v5 W ∧ NMem (w.heap.size + 1) 7 v6 W ∧ PMem (w.heap.size + 1) 8 9 ⟨#[47]⟩ v7 W ∧
  PL W w.heap.size Pol.zero ∧ PL W (w.heap.size + 1) Pol.zero ∧ F5 W (w.heap.size + 1 + 1) ∧ Ext w W
set_option maxRecDepth 100000 in
set_option maxHeartbeats 16000000 in
theorem PoParse_at (s : ByteArray) (hs : s.size ≤ 1000) (w : World) (hE : Env w) :
    Calls Tryz.prog 23 #[.string s] w fun en w' => PRes' s.data.toList en ∧ Ext w w' := by
  have hmf : ∀ (fn : Fn) (first cap : Array Value) (w : World), (Instr.makeFunc fn first cap).run Tryz.prog w = .ok (.func fn first cap) w := fun _ _ _ _ => rfl
  have h0 : (w.alloc (.cells #[.string ⟨#[]⟩, .int .i64 0, .int .i64 0, .int .i64 0, .int .i64 0, .int .i64 0, .int .i64 0, .int .i64 0, .int .i64 0, .int .i64 0] 23)).heap[w.heap.size]? = some (.cells Pol.zero.cs 23 (0, 0)) := heap_alloc_new w _
  obtain ⟨W1, e1⟩ : ∃ W, w.alloc (.cells #[.string ⟨#[]⟩, .int .i64 0, .int .i64 0, .int .i64 0, .int .i64 0, .int .i64 0, .int .i64 0, .int .i64 0, .int .i64 0, .int .i64 0] 23) = W := ⟨_, rfl⟩
  have x1 : Ext w W1 := e1 ▸ (Ext.refl w).alloc _
  have z1 : W1.heap.size = w.heap.size + 1 := by rw [← e1]; simp
  rw [e1] at h0
  have h1 : (W1.alloc (.cells #[.string ⟨#[]⟩, .int .i64 0, .int .i64 0, .int .i64 0, .int .i64 0, .int .i64 0, .int .i64 0, .int .i64 0, .int .i64 0, .int .i64 0] 23)).heap[W1.heap.size]? = some (.cells Pol.zero.cs 23 (0, 0)) := heap_alloc_new W1 _
  obtain ⟨W2, e2⟩ : ∃ W, W1.alloc (.cells #[.string ⟨#[]⟩, .int .i64 0, .int .i64 0, .int .i64 0, .int .i64 0, .int .i64 0, .int .i64 0, .int .i64 0, .int .i64 0, .int .i64 0] 23) = W := ⟨_, rfl⟩
  have x2 : Ext W1 W2 := e2 ▸ (Ext.refl W1).alloc _
  have z2 : W2.heap.size = w.heap.size + 1 + 1 := by rw [← e2]; simp [z1]
  rw [e2, z1] at h1
  have h2 := heap_alloc_new W2 (.cells #[.func (.func 42) #[] #[]] 80)
  obtain ⟨W3, e3⟩ : ∃ W, W2.alloc (.cells #[.func (.func 42) #[] #[]] 80) = W := ⟨_, rfl⟩
  have x3 : Ext W2 W3 := e3 ▸ (Ext.refl W2).alloc _
  have z3 : W3.heap.size = w.heap.size + 1 + 1 + 1 := by rw [← e3]; simp [z2]
  rw [e3, z2] at h2
  have HR := Lib.hid (show PL W3 w.heap.size Pol.zero from (x2.trans x3).heap h0); have HG := Lib.hid (show PL W3 (w.heap.size + 1) Pol.zero from x3.heap h1); have H5 := Lib.hid (show F5 W3 (w.heap.size + 1 + 1) from h2)
  have HX := Lib.hid (x1.trans (x2.trans x3)); have HSZ := Lib.hid z3; have HEN := Lib.hid hE; have HS := Lib.hid hs; have HS1 := Lib.hid z1; have HS2 := Lib.hid z2
  clear h0 h1 h2 x1 x2 x3 z1 z2 z3 hE hs
  go_enter Tryz.func23, Tryz.ntmps23
  go_wp2_with fail
  refine wp_scope_jumps 0 (fun a W => (∃ ts : Array Value, ts.size = 100 ∧ ts.getD 2 undef = .pointer (some ⟨w.heap.size, 0, none⟩) ∧ a = { tmps := ts, defers := [] }) ∧ (∃ p : Pol, PL W w.heap.size p) ∧ Ext w W ∧ (∀ p : Pol, p.ok = true → p.text ≠ s.data.toList)) (fun _ _ => 0) rfl ?_ ?_
  rotate_left
  · rintro a W ⟨⟨ts, hts, ht2, rfl⟩, ⟨p, hp⟩, hx, hno⟩
    rw [arr100 hts, ht2]
    obtain ⟨f, hf⟩ : ∃ f : Nat → Value, (fun i => ts.getD i undef) = f := ⟨_, rfl⟩
    have hff : ∀ i, ts.getD i undef = f i := fun i => congrFun hf i
    simp only [hff]
    clear hff hf ht2 hts
    have f0 := hp.soft 0; have f1 := hp.soft 1; have f2 := hp.soft 2; have f3 := hp.soft 3; have f4 := hp.soft 4; have f5 := hp.soft 5; have f6 := hp.soft 6; have f7 := hp.soft 7; have f8 := hp.soft 8; have f9 := hp.soft 9
    obtain ⟨k0, k1, k2, k3, k4, k5, k6, k7, k8, k9⟩ := hp.cells
    obtain ⟨WF, hWF, hxF, hpF⟩ := putPL (q := Pol.zero) hx (Nat.le_refl _) hp
    simp only [Pol.zero] at hWF
    have HXW := Lib.hid hxF; have HNO := Lib.hid hno; have HPW := Lib.hid hpF
    clear hx hno hp hxF hpF
    go_wp2_with fail
    rw [jump_ret]
    obtain ⟨d0, d1, d2, d3, d4, d5, d6, d7, d8, d9⟩ := HPW.out.cells
    refine bodyPost_ret (v := .tuple #[Pol.zero.v, .int .i64 6]) (by simp [results, Tryz.results23, go_sem, d0, d1, d2, d3, d4, d5, d6, d7, d8, d9, Pol.v]; try rfl) rfl ?_
    exact ⟨.inr ⟨HNO.out, rfl⟩, HXW.out⟩
  go_wp2_with fail
  rw [HS1.out, HS2.out]
  go_upto_region 4 with (fail)
  go_cut [7] (fun v wc => FM w v wc)
  case first =>
    refine wp_region_ext (fun i v' w' => match i with | 4 => NMem (w.heap.size + 1) 1 v' w' | 5 => ∃ u, v' = .agg #[.string ⟨#[108, 101, 110, 103, 116, 104, 61]⟩, u] ∧ NMem (w.heap.size + 1) 1 u w' | 8 => NMem (w.heap.size + 1) 2 v' w' | 9 => ∃ u, v' = .agg #[.string ⟨#[99, 108, 97, 115, 115, 101, 115, 61]⟩, u] ∧ NMem (w.heap.size + 1) 2 u w' | 12 => NMem (w.heap.size + 1) 3 v' w' | 13 => ∃ u, v' = .agg #[.string ⟨#[100, 105, 115, 116, 105, 110, 99, 116, 61]⟩, u] ∧ NMem (w.heap.size + 1) 3 u w' | 16 => NMem (w.heap.size + 1) 4 v' w' | 17 => ∃ u, v' = .agg #[.string ⟨#[104, 105, 115, 116, 111, 114, 121, 61]⟩, u] ∧ NMem (w.heap.size + 1) 4 u w' | 21 => PMem (w.heap.size + 1) 5 6 ⟨#[46, 46]⟩ v' w' | 22 => ∃ u, v' = .agg #[.string ⟨#[97, 103, 101, 61]⟩, u] ∧ PMem (w.heap.size + 1) 5 6 ⟨#[46, 46]⟩ u w' | 25 => NMem (w.heap.size + 1) 7 v' w' | 26 => ∃ u, v' = .agg #[.string ⟨#[102, 97, 105, 108, 115, 61]⟩, u] ∧ NMem (w.heap.size + 1) 7 u w' | 30 => PMem (w.heap.size + 1) 8 9 ⟨#[47]⟩ v' w' | 31 => ∃ u, v' = .agg #[.string ⟨#[108, 111, 99, 107, 61]⟩, u] ∧ PMem (w.heap.size + 1) 8 9 ⟨#[47]⟩ u w' | 32 => ∃ g v1 v2 v3 v4 v5 v6 v7, v' = .slice (some ⟨g, 0, none⟩) 8 8 ∧ w'.heap[g]? = some (.cells (fieldRow v1 v2 v3 v4 v5 v6 v7 (w.heap.size + 1)) 85 (0, 0)) ∧ w.heap.size + 1 + 1 < g ∧ NMem (w.heap.size + 1) 1 v1 w' ∧ NMem (w.heap.size + 1) 2 v2 w' ∧ NMem (w.heap.size + 1) 3 v3 w' ∧ NMem (w.heap.size + 1) 4 v4 w' ∧ PMem (w.heap.size + 1) 5 6 ⟨#[46, 46]⟩ v5 w' ∧ NMem (w.heap.size + 1) 7 v6 w' ∧ PMem (w.heap.size + 1) 8 9 ⟨#[47]⟩ v7 w' | _ => False) (by kernel_rfl) (by kernel_rfl) ?_
    refine wpE_op rfl rfl (fun w' hw' K' hK' => ?_)
    have hE := hw'.1
    go_step
    refine hK' _ ⟨_, rfl⟩ ?_
    clear hK' K' hE hw' w'
    refine wpE_op rfl rfl (fun w' hw' K' hK' => ?_)
    have hE := hw'.1
    go_step
    refine hK' _ ⟨_, rfl⟩ ?_
    clear hK' K' hE hw' w'
    refine wpE_op rfl rfl (fun w' hw' K' hK' => ?_)
    have hE := hw'.1
    have u0 := (row1 (H5.out.ext' ((Ext.drew _).trans hE))).1
    go_step
    refine hK' _ ⟨_, rfl⟩ ?_
    clear hK' K' u0 hE hw' w'
    refine wpE_op rfl rfl (fun w' hw' K' hK' => ?_)
    have hE := hw'.1
    go_step
    refine hK' _ ⟨_, rfl⟩ ?_
    clear hK' K' hE hw' w'
    refine wpE_call 19 rfl (by simp) rfl (fun w' hw' K' hK' => ?_) ?_
    · have hE := hw'.1
      have hsz : w.heap.size + 1 + 1 < w'.heap.size := by have := hE.size; have := HSZ.out; have hd : W3.drew.heap.size = W3.heap.size := rfl; omega
      go_step
      refine (number_at _ _).mono ?_
      rintro e w2 ⟨⟨v, rfl, rfl, hpp⟩, hx⟩
      exact hK' _ _ ⟨_, rfl, _, rfl, hsz, hpp⟩ hx
    rintro _ w19x hE19 ⟨g19, rfl, hm19⟩
    have HM19 := Lib.hid (show NMem (w.heap.size + 1) 1 (.func (.func 43) #[] #[.pointer (some ⟨g19, 0, none⟩)]) w19x from ⟨_, rfl, hm19⟩)
    clear hm19 hE19
    simp only [Act.put, List.setIfInBounds_toArray, List.set_cons_succ, List.set_cons_zero]
    refine wpE_call 20 rfl (by simp) rfl (fun w' hw' K' hK' => ?_) ?_
    · have hE := hw'.1
      have hM : Ext w19x w' := hw'.2 19 w19x (by simp [adds]) (by decide)
      go_step
      exact hK' _ _ ⟨_, rfl, _, rfl, HM19.out.ext hM⟩ (Ext.refl _)
    rintro _ w20x hE20 ⟨_, rfl, g20, rfl, hm20⟩
    have HN1 := Lib.hid (show NMem (w.heap.size + 1) 1 (.func (.func 43) #[] #[.pointer (some ⟨g20, 0, none⟩)]) w20x from ⟨_, rfl, hm20⟩)
    clear hm20 hE20
    simp only [Act.put, List.setIfInBounds_toArray, List.set_cons_succ, List.set_cons_zero]
    refine wpE_op rfl rfl (fun w' hw' K' hK' => ?_)
    have hE := hw'.1
    have u0 := (row1 (H5.out.ext' ((Ext.drew _).trans hE))).1
    go_step
    refine hK' _ ⟨_, rfl⟩ ?_
    clear hK' K' u0 hE hw' w'
    refine wpE_op rfl rfl (fun w' hw' K' hK' => ?_)
    have hE := hw'.1
    go_step
    refine hK' _ ⟨_, rfl⟩ ?_
    clear hK' K' hE hw' w'
    refine wpE_call 23 rfl (by simp) rfl (fun w' hw' K' hK' => ?_) ?_
    · have hE := hw'.1
      have hsz : w.heap.size + 1 + 1 < w'.heap.size := by have := hE.size; have := HSZ.out; have hd : W3.drew.heap.size = W3.heap.size := rfl; omega
      go_step
      refine (number_at _ _).mono ?_
      rintro e w2 ⟨⟨v, rfl, rfl, hpp⟩, hx⟩
      exact hK' _ _ ⟨_, rfl, _, rfl, hsz, hpp⟩ hx
    rintro _ w23x hE23 ⟨g23, rfl, hm23⟩
    have HM23 := Lib.hid (show NMem (w.heap.size + 1) 2 (.func (.func 43) #[] #[.pointer (some ⟨g23, 0, none⟩)]) w23x from ⟨_, rfl, hm23⟩)
    clear hm23 hE23
    simp only [Act.put, List.setIfInBounds_toArray, List.set_cons_succ, List.set_cons_zero]
    refine wpE_call 24 rfl (by simp) rfl (fun w' hw' K' hK' => ?_) ?_
    · have hE := hw'.1
      have hM : Ext w23x w' := hw'.2 23 w23x (by simp [adds]) (by decide)
      go_step
      exact hK' _ _ ⟨_, rfl, _, rfl, HM23.out.ext hM⟩ (Ext.refl _)
    rintro _ w24x hE24 ⟨_, rfl, g24, rfl, hm24⟩
    have HN2 := Lib.hid (show NMem (w.heap.size + 1) 2 (.func (.func 43) #[] #[.pointer (some ⟨g24, 0, none⟩)]) w24x from ⟨_, rfl, hm24⟩)
    clear hm24 hE24
    simp only [Act.put, List.setIfInBounds_toArray, List.set_cons_succ, List.set_cons_zero]
    refine wpE_op rfl rfl (fun w' hw' K' hK' => ?_)
    have hE := hw'.1
    have u0 := (row1 (H5.out.ext' ((Ext.drew _).trans hE))).1
    go_step
    refine hK' _ ⟨_, rfl⟩ ?_
    clear hK' K' u0 hE hw' w'
    refine wpE_op rfl rfl (fun w' hw' K' hK' => ?_)
    have hE := hw'.1
    go_step
    refine hK' _ ⟨_, rfl⟩ ?_
    clear hK' K' hE hw' w'
    refine wpE_call 27 rfl (by simp) rfl (fun w' hw' K' hK' => ?_) ?_
    · have hE := hw'.1
      have hsz : w.heap.size + 1 + 1 < w'.heap.size := by have := hE.size; have := HSZ.out; have hd : W3.drew.heap.size = W3.heap.size := rfl; omega
      go_step
      refine (number_at _ _).mono ?_
      rintro e w2 ⟨⟨v, rfl, rfl, hpp⟩, hx⟩
      exact hK' _ _ ⟨_, rfl, _, rfl, hsz, hpp⟩ hx
    rintro _ w27x hE27 ⟨g27, rfl, hm27⟩
    have HM27 := Lib.hid (show NMem (w.heap.size + 1) 3 (.func (.func 43) #[] #[.pointer (some ⟨g27, 0, none⟩)]) w27x from ⟨_, rfl, hm27⟩)
    clear hm27 hE27
    simp only [Act.put, List.setIfInBounds_toArray, List.set_cons_succ, List.set_cons_zero]
    refine wpE_call 28 rfl (by simp) rfl (fun w' hw' K' hK' => ?_) ?_
    · have hE := hw'.1
      have hM : Ext w27x w' := hw'.2 27 w27x (by simp [adds]) (by decide)
      go_step
      exact hK' _ _ ⟨_, rfl, _, rfl, HM27.out.ext hM⟩ (Ext.refl _)
    rintro _ w28x hE28 ⟨_, rfl, g28, rfl, hm28⟩
    have HN3 := Lib.hid (show NMem (w.heap.size + 1) 3 (.func (.func 43) #[] #[.pointer (some ⟨g28, 0, none⟩)]) w28x from ⟨_, rfl, hm28⟩)
    clear hm28 hE28
    simp only [Act.put, List.setIfInBounds_toArray, List.set_cons_succ, List.set_cons_zero]
    refine wpE_op rfl rfl (fun w' hw' K' hK' => ?_)
    have hE := hw'.1
    have u0 := (row1 (H5.out.ext' ((Ext.drew _).trans hE))).1
    go_step
    refine hK' _ ⟨_, rfl⟩ ?_
    clear hK' K' u0 hE hw' w'
    refine wpE_op rfl rfl (fun w' hw' K' hK' => ?_)
    have hE := hw'.1
    go_step
    refine hK' _ ⟨_, rfl⟩ ?_
    clear hK' K' hE hw' w'
    refine wpE_call 31 rfl (by simp) rfl (fun w' hw' K' hK' => ?_) ?_
    · have hE := hw'.1
      have hsz : w.heap.size + 1 + 1 < w'.heap.size := by have := hE.size; have := HSZ.out; have hd : W3.drew.heap.size = W3.heap.size := rfl; omega
      go_step
      refine (number_at _ _).mono ?_
      rintro e w2 ⟨⟨v, rfl, rfl, hpp⟩, hx⟩
      exact hK' _ _ ⟨_, rfl, _, rfl, hsz, hpp⟩ hx
    rintro _ w31x hE31 ⟨g31, rfl, hm31⟩
    have HM31 := Lib.hid (show NMem (w.heap.size + 1) 4 (.func (.func 43) #[] #[.pointer (some ⟨g31, 0, none⟩)]) w31x from ⟨_, rfl, hm31⟩)
    clear hm31 hE31
    simp only [Act.put, List.setIfInBounds_toArray, List.set_cons_succ, List.set_cons_zero]
    refine wpE_call 32 rfl (by simp) rfl (fun w' hw' K' hK' => ?_) ?_
    · have hE := hw'.1
      have hM : Ext w31x w' := hw'.2 31 w31x (by simp [adds]) (by decide)
      go_step
      exact hK' _ _ ⟨_, rfl, _, rfl, HM31.out.ext hM⟩ (Ext.refl _)
    rintro _ w32x hE32 ⟨_, rfl, g32, rfl, hm32⟩
    have HN4 := Lib.hid (show NMem (w.heap.size + 1) 4 (.func (.func 43) #[] #[.pointer (some ⟨g32, 0, none⟩)]) w32x from ⟨_, rfl, hm32⟩)
    clear hm32 hE32
    simp only [Act.put, List.setIfInBounds_toArray, List.set_cons_succ, List.set_cons_zero]
    refine wpE_op rfl rfl (fun w' hw' K' hK' => ?_)
    have hE := hw'.1
    go_step
    refine hK' _ ⟨_, rfl⟩ ?_
    clear hK' K' hE hw' w'
    refine wpE_op rfl rfl (fun w' hw' K' hK' => ?_)
    have hE := hw'.1
    go_step
    refine hK' _ ⟨_, rfl⟩ ?_
    clear hK' K' hE hw' w'
    refine wpE_op rfl rfl (fun w' hw' K' hK' => ?_)
    have hE := hw'.1
    go_step
    refine hK' _ ⟨_, rfl⟩ ?_
    clear hK' K' hE hw' w'
    refine wpE_call 36 rfl (by simp) rfl (fun w' hw' K' hK' => ?_) ?_
    · have hE := hw'.1
      have hsz : w.heap.size + 1 + 1 < w'.heap.size := by have := hE.size; have := HSZ.out; have hd : W3.drew.heap.size = W3.heap.size := rfl; omega
      go_step
      refine (pair_at _ _ _ _ _).mono ?_
      rintro e w2 ⟨⟨v, rfl, rfl, hs1, hp1, hp2⟩, hx⟩
      exact hK' _ _ ⟨_, rfl, _, rfl, hsz, hs1, hp1, hp2⟩ hx
    rintro _ w36x hE36 ⟨g36, rfl, hm36⟩
    have HM36 := Lib.hid (show PMem (w.heap.size + 1) 5 6 ⟨#[46, 46]⟩ (.func (.func 46) #[] #[.pointer (some ⟨g36, 0, none⟩), .pointer (some ⟨w.heap.size + 1 + 1, 0, none⟩), .pointer (some ⟨g36 + 1, 0, none⟩), .pointer (some ⟨g36 + 1 + 1, 0, none⟩)]) w36x from ⟨_, rfl, hm36⟩)
    clear hm36 hE36
    simp only [Act.put, List.setIfInBounds_toArray, List.set_cons_succ, List.set_cons_zero]
    refine wpE_call 37 rfl (by simp) rfl (fun w' hw' K' hK' => ?_) ?_
    · have hE := hw'.1
      have hM : Ext w36x w' := hw'.2 36 w36x (by simp [adds]) (by decide)
      go_step
      exact hK' _ _ ⟨_, rfl, _, rfl, HM36.out.ext hM⟩ (Ext.refl _)
    rintro _ w37x hE37 ⟨_, rfl, g37, rfl, hm37⟩
    have HN5 := Lib.hid (show PMem (w.heap.size + 1) 5 6 ⟨#[46, 46]⟩ (.func (.func 46) #[] #[.pointer (some ⟨g37, 0, none⟩), .pointer (some ⟨w.heap.size + 1 + 1, 0, none⟩), .pointer (some ⟨g37 + 1, 0, none⟩), .pointer (some ⟨g37 + 1 + 1, 0, none⟩)]) w37x from ⟨_, rfl, hm37⟩)
    clear hm37 hE37
    simp only [Act.put, List.setIfInBounds_toArray, List.set_cons_succ, List.set_cons_zero]
    refine wpE_op rfl rfl (fun w' hw' K' hK' => ?_)
    have hE := hw'.1
    have u0 := (row1 (H5.out.ext' ((Ext.drew _).trans hE))).1
    go_step
    refine hK' _ ⟨_, rfl⟩ ?_
    clear hK' K' u0 hE hw' w'
    refine wpE_op rfl rfl (fun w' hw' K' hK' => ?_)
    have hE := hw'.1
    go_step
    refine hK' _ ⟨_, rfl⟩ ?_
    clear hK' K' hE hw' w'
    refine wpE_call 40 rfl (by simp) rfl (fun w' hw' K' hK' => ?_) ?_
    · have hE := hw'.1
      have hsz : w.heap.size + 1 + 1 < w'.heap.size := by have := hE.size; have := HSZ.out; have hd : W3.drew.heap.size = W3.heap.size := rfl; omega
      go_step
      refine (number_at _ _).mono ?_
      rintro e w2 ⟨⟨v, rfl, rfl, hpp⟩, hx⟩
      exact hK' _ _ ⟨_, rfl, _, rfl, hsz, hpp⟩ hx
    rintro _ w40x hE40 ⟨g40, rfl, hm40⟩
    have HM40 := Lib.hid (show NMem (w.heap.size + 1) 7 (.func (.func 43) #[] #[.pointer (some ⟨g40, 0, none⟩)]) w40x from ⟨_, rfl, hm40⟩)
    clear hm40 hE40
    simp only [Act.put, List.setIfInBounds_toArray, List.set_cons_succ, List.set_cons_zero]
    refine wpE_call 41 rfl (by simp) rfl (fun w' hw' K' hK' => ?_) ?_
    · have hE := hw'.1
      have hM : Ext w40x w' := hw'.2 40 w40x (by simp [adds]) (by decide)
      go_step
      exact hK' _ _ ⟨_, rfl, _, rfl, HM40.out.ext hM⟩ (Ext.refl _)
    rintro _ w41x hE41 ⟨_, rfl, g41, rfl, hm41⟩
    have HN6 := Lib.hid (show NMem (w.heap.size + 1) 7 (.func (.func 43) #[] #[.pointer (some ⟨g41, 0, none⟩)]) w41x from ⟨_, rfl, hm41⟩)
    clear hm41 hE41
    simp only [Act.put, List.setIfInBounds_toArray, List.set_cons_succ, List.set_cons_zero]
    refine wpE_op rfl rfl (fun w' hw' K' hK' => ?_)
    have hE := hw'.1
    go_step
    refine hK' _ ⟨_, rfl⟩ ?_
    clear hK' K' hE hw' w'
    refine wpE_op rfl rfl (fun w' hw' K' hK' => ?_)
    have hE := hw'.1
    go_step
    refine hK' _ ⟨_, rfl⟩ ?_
    clear hK' K' hE hw' w'
    refine wpE_op rfl rfl (fun w' hw' K' hK' => ?_)
    have hE := hw'.1
    go_step
    refine hK' _ ⟨_, rfl⟩ ?_
    clear hK' K' hE hw' w'
    refine wpE_call 45 rfl (by simp) rfl (fun w' hw' K' hK' => ?_) ?_
    · have hE := hw'.1
      have hsz : w.heap.size + 1 + 1 < w'.heap.size := by have := hE.size; have := HSZ.out; have hd : W3.drew.heap.size = W3.heap.size := rfl; omega
      go_step
      refine (pair_at _ _ _ _ _).mono ?_
      rintro e w2 ⟨⟨v, rfl, rfl, hs1, hp1, hp2⟩, hx⟩
      exact hK' _ _ ⟨_, rfl, _, rfl, hsz, hs1, hp1, hp2⟩ hx
    rintro _ w45x hE45 ⟨g45, rfl, hm45⟩
    have HM45 := Lib.hid (show PMem (w.heap.size + 1) 8 9 ⟨#[47]⟩ (.func (.func 46) #[] #[.pointer (some ⟨g45, 0, none⟩), .pointer (some ⟨w.heap.size + 1 + 1, 0, none⟩), .pointer (some ⟨g45 + 1, 0, none⟩), .pointer (some ⟨g45 + 1 + 1, 0, none⟩)]) w45x from ⟨_, rfl, hm45⟩)
    clear hm45 hE45
    simp only [Act.put, List.setIfInBounds_toArray, List.set_cons_succ, List.set_cons_zero]
    refine wpE_call 46 rfl (by simp) rfl (fun w' hw' K' hK' => ?_) ?_
    · have hE := hw'.1
      have hM : Ext w45x w' := hw'.2 45 w45x (by simp [adds]) (by decide)
      go_step
      exact hK' _ _ ⟨_, rfl, _, rfl, HM45.out.ext hM⟩ (Ext.refl _)
    rintro _ w46x hE46 ⟨_, rfl, g46, rfl, hm46⟩
    have HN7 := Lib.hid (show PMem (w.heap.size + 1) 8 9 ⟨#[47]⟩ (.func (.func 46) #[] #[.pointer (some ⟨g46, 0, none⟩), .pointer (some ⟨w.heap.size + 1 + 1, 0, none⟩), .pointer (some ⟨g46 + 1, 0, none⟩), .pointer (some ⟨g46 + 1 + 1, 0, none⟩)]) w46x from ⟨_, rfl, hm46⟩)
    clear hm46 hE46
    simp only [Act.put, List.setIfInBounds_toArray, List.set_cons_succ, List.set_cons_zero]
    refine wpE_call 47 rfl (by simp) rfl (fun w' hw' K' hK' => ?_) ?_
    · have hE := hw'.1
      have hM1 : Ext w20x w' := hw'.2 20 w20x (by simp [adds]) (by decide)
      have hM2 : Ext w24x w' := hw'.2 24 w24x (by simp [adds]) (by decide)
      have hM3 : Ext w28x w' := hw'.2 28 w28x (by simp [adds]) (by decide)
      have hM4 : Ext w32x w' := hw'.2 32 w32x (by simp [adds]) (by decide)
      have hM5 : Ext w37x w' := hw'.2 37 w37x (by simp [adds]) (by decide)
      have hM6 : Ext w41x w' := hw'.2 41 w41x (by simp [adds]) (by decide)
      have hM7 : Ext w46x w' := hw'.2 46 w46x (by simp [adds]) (by decide)
      have hsz : w.heap.size + 1 + 1 < w'.heap.size := by have := hE.size; have := HSZ.out; have hd : W3.drew.heap.size = W3.heap.size := rfl; omega
      have HROW := Lib.hid (heap_alloc_new w' (.cells (fieldRow (.func (.func 43) #[] #[.pointer (some ⟨g20, 0, none⟩)]) (.func (.func 43) #[] #[.pointer (some ⟨g24, 0, none⟩)]) (.func (.func 43) #[] #[.pointer (some ⟨g28, 0, none⟩)]) (.func (.func 43) #[] #[.pointer (some ⟨g32, 0, none⟩)]) (.func (.func 46) #[] #[.pointer (some ⟨g37, 0, none⟩), .pointer (some ⟨w.heap.size + 1 + 1, 0, none⟩), .pointer (some ⟨g37 + 1, 0, none⟩), .pointer (some ⟨g37 + 1 + 1, 0, none⟩)]) (.func (.func 43) #[] #[.pointer (some ⟨g41, 0, none⟩)]) (.func (.func 46) #[] #[.pointer (some ⟨g46, 0, none⟩), .pointer (some ⟨w.heap.size + 1 + 1, 0, none⟩), .pointer (some ⟨g46 + 1, 0, none⟩), .pointer (some ⟨g46 + 1 + 1, 0, none⟩)]) (w.heap.size + 1)) 85))
      have hxa := (Ext.refl w').alloc (.cells (fieldRow (.func (.func 43) #[] #[.pointer (some ⟨g20, 0, none⟩)]) (.func (.func 43) #[] #[.pointer (some ⟨g24, 0, none⟩)]) (.func (.func 43) #[] #[.pointer (some ⟨g28, 0, none⟩)]) (.func (.func 43) #[] #[.pointer (some ⟨g32, 0, none⟩)]) (.func (.func 46) #[] #[.pointer (some ⟨g37, 0, none⟩), .pointer (some ⟨w.heap.size + 1 + 1, 0, none⟩), .pointer (some ⟨g37 + 1, 0, none⟩), .pointer (some ⟨g37 + 1 + 1, 0, none⟩)]) (.func (.func 43) #[] #[.pointer (some ⟨g41, 0, none⟩)]) (.func (.func 46) #[] #[.pointer (some ⟨g46, 0, none⟩), .pointer (some ⟨w.heap.size + 1 + 1, 0, none⟩), .pointer (some ⟨g46 + 1, 0, none⟩), .pointer (some ⟨g46 + 1 + 1, 0, none⟩)]) (w.heap.size + 1)) 85)
      go_step
      exact hK' _ _ ⟨_, rfl, _, _, _, _, _, _, _, _, rfl, HROW.out, hsz, HN1.out.ext ((hM1).trans hxa), HN2.out.ext ((hM2).trans hxa), HN3.out.ext ((hM3).trans hxa), HN4.out.ext ((hM4).trans hxa), HN5.out.ext ((hM5).trans hxa), HN6.out.ext ((hM6).trans hxa), HN7.out.ext ((hM7).trans hxa)⟩ hxa
    rintro _ w47x hE47 ⟨gf, u1, u2, u3, u4, u5, u6, u7, rfl, hrow, hgf, n1, n2, n3, n4, n5, n6, n7⟩
    have HROW := Lib.hid hrow; have HGF := Lib.hid hgf
    have HQ1 := Lib.hid n1
    have HQ2 := Lib.hid n2
    have HQ3 := Lib.hid n3
    have HQ4 := Lib.hid n4
    have HQ5 := Lib.hid n5
    have HQ6 := Lib.hid n6
    have HQ7 := Lib.hid n7
    clear hrow hgf n1 n2 n3 n4 n5 n6 n7 hE47
    simp only [Act.put, List.setIfInBounds_toArray, List.set_cons_succ, List.set_cons_zero]
    refine wpE_op rfl rfl (fun w' hw' K' hK' => ?_)
    have hE := hw'.1
    go_step
    refine hK' _ ⟨_, rfl⟩ ?_
    clear hK' K' hE hw' w'
    refine wpE_nil (fun W hW => ?_)
    have hxd : Ext W3 W := (Ext.drew W3).trans hW.1
    have hx47 : Ext w47x W := hW.2 47 w47x (by simp [adds])
    have hfm : FM w (.slice (some ⟨gf, 0, none⟩) 8 8) W := ⟨_, u1, u2, u3, u4, u5, u6, u7, rfl, hx47.heap HROW.out, HGF.out, HQ1.out.ext hx47, HQ2.out.ext hx47, HQ3.out.ext hx47, HQ4.out.ext hx47, HQ5.out.ext hx47, HQ6.out.ext hx47, HQ7.out.ext hx47, HR.out.ext hxd, HG.out.ext hxd, H5.out.ext' hxd, HX.out.trans hxd⟩
    have HFM := Lib.hid hfm
    clear hfm hW hxd hx47
    go_wp2_with fail
    go_meet
    case rel => exact HFM.out
  case rest =>
    clear HR HG H5 HX
    have hcut := hcut
    obtain ⟨gf, u1, u2, u3, u4, u5, u6, u7, rfl, hrow, hgf, ⟨g1, rfl, l1, p1⟩, ⟨g2, rfl, l2, p2⟩, ⟨g3, rfl, l3, p3⟩, ⟨g4, rfl, l4, p4⟩, ⟨g5, rfl, l5, s5, p5, q5⟩, ⟨g6, rfl, l6, p6⟩, ⟨g7, rfl, l7, s7, p7, q7⟩, hr, hg, h5, hx⟩ := hcut
    have hlt5 := (Array.getElem?_eq_some_iff.1 q5).1
    have hltf := (Array.getElem?_eq_some_iff.1 hrow).1
    have hzc : w.heap.size + 1 + 1 < wc.heap.size := by omega
    obtain ⟨wb, rfl⟩ : ∃ wb, wb = wc := ⟨_, rfl⟩
    have HZC := Lib.hid hzc
    have HRW := Lib.hid hrow; have HRR := Lib.hid hr; have HGG := Lib.hid hg; have H55 := Lib.hid h5; have HXX := Lib.hid hx
    have HP1 := Lib.hid p1; have HP2 := Lib.hid p2; have HP3 := Lib.hid p3; have HP4 := Lib.hid p4; have HP5 := Lib.hid p5; have HQ5 := Lib.hid q5; have HS5 := Lib.hid s5; have HP6 := Lib.hid p6; have HP7 := Lib.hid p7; have HQ7 := Lib.hid q7; have HS7 := Lib.hid s7
    clear hrow p1 p2 p3 p4 p5 q5 s5 p6 p7 q7 s7 hr hg h5 hx hlt5 hltf hzc
    go_wp2_with fail
    refine (SplitP_at s HS.out wb (HEN.out.ext HXX.out).maxl).mono ?_
    rintro _ wd ⟨n, cap, cs, rfl, hn, hwd, hcs⟩
    have hxd : Ext wb wd := hwd ▸ (Ext.refl wb).alloc _
    have hWd : wd.heap[wb.heap.size]? = some (.cells cs 9 (0, 0)) := by rw [hwd]; exact heap_alloc_new wb _
    have HXD := Lib.hid hxd; have HWD := Lib.hid hWd; have HN := Lib.hid hn; have HCS := Lib.hid hcs
    clear hwd hxd hWd hn hcs
    by_cases h8 : n = 8
    · subst h8
      obtain ⟨b0, b1, b2, b3, b4, b5, b6, b7, hws⟩ := list_eight HN.out.symm
      have hsz : ∀ b ∈ [b0, b1, b2, b3, b4, b5, b6, b7], b.size ≤ 1000 := fun b hb => Nat.le_trans (splitP_size _ _ _ _ (by rw [← hws] at hb; exact hb)) HS.out
      have hcw : ∀ (j : Nat) b, [b0, b1, b2, b3, b4, b5, b6, b7][j]? = some b → wd.cell? ⟨wb.heap.size, j, none⟩ = some (.string b) := fun j b hb => by
        rw [cell_of_row _ _ j _ _ (0, 0) HWD.out]
        exact HCS.out j b (by rw [hws]; exact hb)
      have hpw : pw (wordsP s) = goP 0 [b0, b1, b2, b3, b4, b5, b6, b7] Pol.zero := by rw [hws]; unfold pw; rw [if_pos (show [b0, b1, b2, b3, b4, b5, b6, b7].length = 8 from rfl)]
      have HPW := Lib.hid hpw; have HSZ8 := Lib.hid hsz; have HCW := Lib.hid hcw
      clear hws hsz hcw hpw HCS HWD HN
      go_wp2_with fail
      go_loopw [60] (fun i wr => ∃ (k : Nat) (q : Pol), k ≤ 8 ∧ i = .int .i64 k ∧ Hid (goP 0 [b0, b1, b2, b3, b4, b5, b6, b7] Pol.zero = goP k ([b0, b1, b2, b3, b4, b5, b6, b7].drop k) q) ∧ q.nm.size ≤ 1000 ∧ Hid (PL wr (w.heap.size + 1) q) ∧ Hid (wd.grownBy wr (some (w.heap.size + 1)))) (fun i _ => 8 - (intOf i).toNat)
      case atStart => exact ⟨0, Pol.zero, by omega, rfl, Lib.hid rfl, Nat.zero_le _, Lib.hid (HGG.out.ext HXD.out), Lib.hid (grown_refl _ _)⟩
      case round =>
        obtain ⟨k, q, hk, rfl, HGO, hqn, HPQ, HGR⟩ := hrel
        have hwr : ∀ (j : Nat) (o : Obj), wb.heap[j]? = some o → j ≠ w.heap.size + 1 → wr.heap[j]? = some o := fun j o h hne => heap_no HGR.out (HXD.out.heap h) hne
        have hxr : Ext w wr := (HXX.out.trans HXD.out).grown HGR.out (fun j hj => by injection hj with hj; omega)
        have HWR := Lib.hid hwr; have HXR := Lib.hid hxr
        clear hwr hxr
        rcases (show k = 0 ∨ k = 1 ∨ k = 2 ∨ k = 3 ∨ k = 4 ∨ k = 5 ∨ k = 6 ∨ k = 7 ∨ k = 8 by omega) with rfl | rfl | rfl | rfl | rfl | rfl | rfl | rfl | rfl
        · have hw : wr.cell? ⟨wb.heap.size, 0, none⟩ = some (.string b0) := HGR.out.cell (HCW.out 0 b0 rfl) (by show some wb.heap.size ≠ some (w.heap.size + 1); intro e; injection e with e; have := HZC.out; omega)
          have hrw := HWR.out _ _ HRW.out (by omega)
          have r0 : wr.cell? ⟨gf, 0, none⟩ = some (.string ⟨#[]⟩) := by rw [cell_of_row _ _ 0 _ _ (0, 0) hrw]; rfl
          have r1 : wr.cell? ⟨gf, 1, none⟩ = some (.func (.func 48) #[] #[.pointer (some ⟨w.heap.size + 1, 0, none⟩)]) := by rw [cell_of_row _ _ 1 _ _ (0, 0) hrw]; rfl
          have hbox := heap_alloc_new wr (.cells #[.string ⟨#[]⟩, .func (.func 48) #[] #[.pointer (some ⟨w.heap.size + 1, 0, none⟩)]] 85)
          obtain ⟨wz, hwz⟩ : ∃ wz, wr.alloc (.cells #[.string ⟨#[]⟩, .func (.func 48) #[] #[.pointer (some ⟨w.heap.size + 1, 0, none⟩)]] 85) = wz := ⟨_, rfl⟩
          have hxz : Ext wr wz := hwz ▸ (Ext.refl wr).alloc _
          rw [hwz] at hbox
          have hwo := hxz.cell hw
          have x0 : wz.cell? ⟨wr.heap.size, 0, none⟩ = some (.string ⟨#[]⟩) := by rw [cell_of_row _ _ 0 _ _ (0, 0) hbox]; rfl
          have x1 : wz.cell? ⟨wr.heap.size, 1, none⟩ = some (.func (.func 48) #[] #[.pointer (some ⟨w.heap.size + 1, 0, none⟩)]) := by rw [cell_of_row _ _ 1 _ _ (0, 0) hbox]; rfl
          have HXZ := Lib.hid hxz
          have HBS := Lib.hid (HSZ8.out b0 (by simp))
          clear hrw hbox hxz hw
          cases hpre : Lib.hasPrefix b0.data.toList (⟨#[]⟩ : ByteArray).data.toList with
          | false =>
            have HNO := Lib.hid (show ∀ p : Pol, p.ok = true → p.text ≠ s.data.toList from no_of (fun p hp => by
              rw [HPW.out, HGO.out] at hp
              have hrd : rdW 0 b0 q = none := by unfold rdW; rw [show (hdP 0).isPrefixOf b0.data.toList = false from hpre]; rfl
              simp only [List.drop_zero, goP, hrd] at hp
              cases hp))
            go_wp2_with fail
            go_quiet ((go_at_call 50; exact Calls.quiet_of_same (Tryz.strings_CutPrefix _ _ _)))
            have HPR := Lib.hid ((show PL wr w.heap.size Pol.zero from HWR.out _ _ HRR.out (by omega)).ext (HXZ.out.drewN nq))
            go_wp2_with fail
            go_step3
            exact ⟨rfl, ⟨_, rfl, rfl, rfl⟩, ⟨_, HPR.out⟩, (HXR.out.trans HXZ.out).drewN nq, HNO.out⟩
          | true =>
            have hrd : rdW 0 b0 q = rdP 0 (b0.data.toList.drop (hdP 0).length) q := by unfold rdW; rw [if_pos (show (hdP 0).isPrefixOf b0.data.toList = true from hpre)]
            have htp : Lib.trimPrefix b0.data.toList (⟨#[]⟩ : ByteArray).data.toList = b0.data.toList.drop (hdP 0).length := by unfold Lib.trimPrefix; rw [if_pos hpre]; rfl
            obtain ⟨L, hL⟩ : ∃ L, b0.data.toList.drop (hdP 0).length = L := ⟨_, rfl⟩
            rw [hL] at hrd htp
            have hLL : L.length ≤ 1000 := by
              rw [← hL, List.length_drop]
              have := size_list b0
              have := HBS.out
              omega
            have HRD := Lib.hid hrd; have HLL := Lib.hid hLL; have HLS := Lib.hid (show (⟨L.toArray⟩ : ByteArray).size ≤ 1000 by show L.toArray.size ≤ 1000; simpa using hLL)
            clear hrd hL hLL
            go_wp2_with fail
            go_quiet ((go_at_call 50; exact Calls.quiet_of_same (Tryz.strings_CutPrefix _ _ _)))
            obtain ⟨wq, hwq⟩ : ∃ wq, wz.drewN nq = wq := ⟨_, rfl⟩
            have hxq : Ext wr wq := hwq ▸ HXZ.out.drewN nq
            have hb2 : wq.cell? ⟨wr.heap.size, 1, none⟩ = some (.func (.func 48) #[] #[.pointer (some ⟨w.heap.size + 1, 0, none⟩)]) := by rw [← hwq]; exact x1
            have HXQ := Lib.hid hxq; have HXWQ := Lib.hid (HXR.out.trans hxq); have HGQ := Lib.hid (grown_trans HGR.out (hxq.but _)); have HPQQ := Lib.hid (HPQ.out.ext hxq)
            have HENQ := Lib.hid (HEN.out.ext (HXR.out.trans hxq))
            have HPR := Lib.hid ((show PL wr w.heap.size Pol.zero from HWR.out _ _ HRR.out (by omega)).ext hxq)
            rw [hwq]
            rw [htp]
            clear hxq hwq htp hwo r0 r1 x0 x1 hwz
            go_wp2_with fail
            refine (readName_at ⟨L.toArray⟩ (w.heap.size + 1) q wq HPQQ.out).mono ?_
            rintro _ w4 ⟨q2, hg4, hq4, (⟨hq, rfl⟩ | ⟨hq, rfl⟩)⟩
            · have HQ := Lib.hid (show rdP 0 L q = some q2 from hq); have HG4 := Lib.hid (grown_trans HGQ.out hg4); have HQ4 := Lib.hid hq4
              clear hq hg4 hq4
              go_wp2_with fail
              go_roundw
              case rel => exact ⟨1, q2, by omega, by go_num, Lib.hid (by rw [HGO.out]; exact goP_step (HRD.out.trans HQ.out)), rdP_nm HQ.out HLL.out hqn, HQ4, HG4⟩
              case measure => simp [intOf]
            · have HNO := Lib.hid (show ∀ p : Pol, p.ok = true → p.text ≠ s.data.toList from no_of (fun p hp => by
                rw [HPW.out, HGO.out] at hp
                have hrd : rdW 0 b0 q = none := HRD.out.trans hq
                simp only [List.drop_zero, goP, hrd] at hp
                cases hp))
              have HPR4 := Lib.hid (show PL w4 w.heap.size Pol.zero from heap_no hg4 HPR.out (by omega))
              have HX4 := Lib.hid (HXWQ.out.grown hg4 (fun j hj => by injection hj with hj; omega))
              clear hq hg4 hq4
              go_wp2_with fail
              go_step3
              exact ⟨rfl, ⟨_, rfl, rfl, rfl⟩, ⟨_, HPR4.out⟩, HX4.out, HNO.out⟩
        · have hw : wr.cell? ⟨wb.heap.size, 1, none⟩ = some (.string b1) := HGR.out.cell (HCW.out 1 b1 rfl) (by show some wb.heap.size ≠ some (w.heap.size + 1); intro e; injection e with e; have := HZC.out; omega)
          have hrw := HWR.out _ _ HRW.out (by omega)
          have r0 : wr.cell? ⟨gf, 2, none⟩ = some (.string ⟨#[108, 101, 110, 103, 116, 104, 61]⟩) := by rw [cell_of_row _ _ 2 _ _ (0, 0) hrw]; rfl
          have r1 : wr.cell? ⟨gf, 3, none⟩ = some (.func (.func 43) #[] #[.pointer (some ⟨g1, 0, none⟩)]) := by rw [cell_of_row _ _ 3 _ _ (0, 0) hrw]; rfl
          have hbox := heap_alloc_new wr (.cells #[.string ⟨#[108, 101, 110, 103, 116, 104, 61]⟩, .func (.func 43) #[] #[.pointer (some ⟨g1, 0, none⟩)]] 85)
          obtain ⟨wz, hwz⟩ : ∃ wz, wr.alloc (.cells #[.string ⟨#[108, 101, 110, 103, 116, 104, 61]⟩, .func (.func 43) #[] #[.pointer (some ⟨g1, 0, none⟩)]] 85) = wz := ⟨_, rfl⟩
          have hxz : Ext wr wz := hwz ▸ (Ext.refl wr).alloc _
          rw [hwz] at hbox
          have hwo := hxz.cell hw
          have x0 : wz.cell? ⟨wr.heap.size, 0, none⟩ = some (.string ⟨#[108, 101, 110, 103, 116, 104, 61]⟩) := by rw [cell_of_row _ _ 0 _ _ (0, 0) hbox]; rfl
          have x1 : wz.cell? ⟨wr.heap.size, 1, none⟩ = some (.func (.func 43) #[] #[.pointer (some ⟨g1, 0, none⟩)]) := by rw [cell_of_row _ _ 1 _ _ (0, 0) hbox]; rfl
          have HXZ := Lib.hid hxz
          have HBS := Lib.hid (HSZ8.out b1 (by simp))
          clear hrw hbox hxz hw
          cases hpre : Lib.hasPrefix b1.data.toList (⟨#[108, 101, 110, 103, 116, 104, 61]⟩ : ByteArray).data.toList with
          | false =>
            have HNO := Lib.hid (show ∀ p : Pol, p.ok = true → p.text ≠ s.data.toList from no_of (fun p hp => by
              rw [HPW.out, HGO.out] at hp
              have hrd : rdW 1 b1 q = none := by unfold rdW; rw [show (hdP 1).isPrefixOf b1.data.toList = false from hpre]; rfl
              simp only [List.drop_succ_cons, List.drop_zero, goP, hrd] at hp
              cases hp))
            go_wp2_with fail
            go_quiet ((go_at_call 50; exact Calls.quiet_of_same (Tryz.strings_CutPrefix _ _ _)))
            have HPR := Lib.hid ((show PL wr w.heap.size Pol.zero from HWR.out _ _ HRR.out (by omega)).ext (HXZ.out.drewN nq))
            go_wp2_with fail
            go_step3
            exact ⟨rfl, ⟨_, rfl, rfl, rfl⟩, ⟨_, HPR.out⟩, (HXR.out.trans HXZ.out).drewN nq, HNO.out⟩
          | true =>
            have hrd : rdW 1 b1 q = rdP 1 (b1.data.toList.drop (hdP 1).length) q := by unfold rdW; rw [if_pos (show (hdP 1).isPrefixOf b1.data.toList = true from hpre)]
            have htp : Lib.trimPrefix b1.data.toList (⟨#[108, 101, 110, 103, 116, 104, 61]⟩ : ByteArray).data.toList = b1.data.toList.drop (hdP 1).length := by unfold Lib.trimPrefix; rw [if_pos hpre]; rfl
            obtain ⟨L, hL⟩ : ∃ L, b1.data.toList.drop (hdP 1).length = L := ⟨_, rfl⟩
            rw [hL] at hrd htp
            have hLL : L.length ≤ 1000 := by
              rw [← hL, List.length_drop]
              have := size_list b1
              have := HBS.out
              omega
            have HRD := Lib.hid hrd; have HLL := Lib.hid hLL; have HLS := Lib.hid (show (⟨L.toArray⟩ : ByteArray).size ≤ 1000 by show L.toArray.size ≤ 1000; simpa using hLL)
            clear hrd hL hLL
            go_wp2_with fail
            go_quiet ((go_at_call 50; exact Calls.quiet_of_same (Tryz.strings_CutPrefix _ _ _)))
            obtain ⟨wq, hwq⟩ : ∃ wq, wz.drewN nq = wq := ⟨_, rfl⟩
            have hxq : Ext wr wq := hwq ▸ HXZ.out.drewN nq
            have hb2 : wq.cell? ⟨wr.heap.size, 1, none⟩ = some (.func (.func 43) #[] #[.pointer (some ⟨g1, 0, none⟩)]) := by rw [← hwq]; exact x1
            have HXQ := Lib.hid hxq; have HXWQ := Lib.hid (HXR.out.trans hxq); have HGQ := Lib.hid (grown_trans HGR.out (hxq.but _)); have HPQQ := Lib.hid (HPQ.out.ext hxq)
            have HENQ := Lib.hid (HEN.out.ext (HXR.out.trans hxq))
            have HPR := Lib.hid ((show PL wr w.heap.size Pol.zero from HWR.out _ _ HRR.out (by omega)).ext hxq)
            rw [hwq]
            rw [htp]
            clear hxq hwq htp hwo r0 r1 x0 x1 hwz
            go_wp2_with fail
            refine (readNum_at ⟨L.toArray⟩ HLS.out g1 (w.heap.size + 1) 1 (by omega) (by omega) q wq HENQ.out ((show PP wr g1 _ from HWR.out _ _ HP1.out (by omega)).ext HXQ.out) HPQQ.out).mono ?_
            rintro _ w4 ⟨q2, hg4, hq4, (⟨hq, rfl⟩ | ⟨hq, rfl⟩)⟩
            · have HQ := Lib.hid (show rdP 1 L q = some q2 from hq); have HG4 := Lib.hid (grown_trans HGQ.out hg4); have HQ4 := Lib.hid hq4
              clear hq hg4 hq4
              go_wp2_with fail
              go_roundw
              case rel => exact ⟨2, q2, by omega, by go_num, Lib.hid (by rw [HGO.out]; exact goP_step (HRD.out.trans HQ.out)), rdP_nm HQ.out HLL.out hqn, HQ4, HG4⟩
              case measure => simp [intOf]
            · have HNO := Lib.hid (show ∀ p : Pol, p.ok = true → p.text ≠ s.data.toList from no_of (fun p hp => by
                rw [HPW.out, HGO.out] at hp
                have hrd : rdW 1 b1 q = none := HRD.out.trans hq
                simp only [List.drop_succ_cons, List.drop_zero, goP, hrd] at hp
                cases hp))
              have HPR4 := Lib.hid (show PL w4 w.heap.size Pol.zero from heap_no hg4 HPR.out (by omega))
              have HX4 := Lib.hid (HXWQ.out.grown hg4 (fun j hj => by injection hj with hj; omega))
              clear hq hg4 hq4
              go_wp2_with fail
              go_step3
              exact ⟨rfl, ⟨_, rfl, rfl, rfl⟩, ⟨_, HPR4.out⟩, HX4.out, HNO.out⟩
        · have hw : wr.cell? ⟨wb.heap.size, 2, none⟩ = some (.string b2) := HGR.out.cell (HCW.out 2 b2 rfl) (by show some wb.heap.size ≠ some (w.heap.size + 1); intro e; injection e with e; have := HZC.out; omega)
          have hrw := HWR.out _ _ HRW.out (by omega)
          have r0 : wr.cell? ⟨gf, 4, none⟩ = some (.string ⟨#[99, 108, 97, 115, 115, 101, 115, 61]⟩) := by rw [cell_of_row _ _ 4 _ _ (0, 0) hrw]; rfl
          have r1 : wr.cell? ⟨gf, 5, none⟩ = some (.func (.func 43) #[] #[.pointer (some ⟨g2, 0, none⟩)]) := by rw [cell_of_row _ _ 5 _ _ (0, 0) hrw]; rfl
          have hbox := heap_alloc_new wr (.cells #[.string ⟨#[99, 108, 97, 115, 115, 101, 115, 61]⟩, .func (.func 43) #[] #[.pointer (some ⟨g2, 0, none⟩)]] 85)
          obtain ⟨wz, hwz⟩ : ∃ wz, wr.alloc (.cells #[.string ⟨#[99, 108, 97, 115, 115, 101, 115, 61]⟩, .func (.func 43) #[] #[.pointer (some ⟨g2, 0, none⟩)]] 85) = wz := ⟨_, rfl⟩
          have hxz : Ext wr wz := hwz ▸ (Ext.refl wr).alloc _
          rw [hwz] at hbox
          have hwo := hxz.cell hw
          have x0 : wz.cell? ⟨wr.heap.size, 0, none⟩ = some (.string ⟨#[99, 108, 97, 115, 115, 101, 115, 61]⟩) := by rw [cell_of_row _ _ 0 _ _ (0, 0) hbox]; rfl
          have x1 : wz.cell? ⟨wr.heap.size, 1, none⟩ = some (.func (.func 43) #[] #[.pointer (some ⟨g2, 0, none⟩)]) := by rw [cell_of_row _ _ 1 _ _ (0, 0) hbox]; rfl
          have HXZ := Lib.hid hxz
          have HBS := Lib.hid (HSZ8.out b2 (by simp))
          clear hrw hbox hxz hw
          cases hpre : Lib.hasPrefix b2.data.toList (⟨#[99, 108, 97, 115, 115, 101, 115, 61]⟩ : ByteArray).data.toList with
          | false =>
            have HNO := Lib.hid (show ∀ p : Pol, p.ok = true → p.text ≠ s.data.toList from no_of (fun p hp => by
              rw [HPW.out, HGO.out] at hp
              have hrd : rdW 2 b2 q = none := by unfold rdW; rw [show (hdP 2).isPrefixOf b2.data.toList = false from hpre]; rfl
              simp only [List.drop_succ_cons, List.drop_zero, goP, hrd] at hp
              cases hp))
            go_wp2_with fail
            go_quiet ((go_at_call 50; exact Calls.quiet_of_same (Tryz.strings_CutPrefix _ _ _)))
            have HPR := Lib.hid ((show PL wr w.heap.size Pol.zero from HWR.out _ _ HRR.out (by omega)).ext (HXZ.out.drewN nq))
            go_wp2_with fail
            go_step3
            exact ⟨rfl, ⟨_, rfl, rfl, rfl⟩, ⟨_, HPR.out⟩, (HXR.out.trans HXZ.out).drewN nq, HNO.out⟩
          | true =>
            have hrd : rdW 2 b2 q = rdP 2 (b2.data.toList.drop (hdP 2).length) q := by unfold rdW; rw [if_pos (show (hdP 2).isPrefixOf b2.data.toList = true from hpre)]
            have htp : Lib.trimPrefix b2.data.toList (⟨#[99, 108, 97, 115, 115, 101, 115, 61]⟩ : ByteArray).data.toList = b2.data.toList.drop (hdP 2).length := by unfold Lib.trimPrefix; rw [if_pos hpre]; rfl
            obtain ⟨L, hL⟩ : ∃ L, b2.data.toList.drop (hdP 2).length = L := ⟨_, rfl⟩
            rw [hL] at hrd htp
            have hLL : L.length ≤ 1000 := by
              rw [← hL, List.length_drop]
              have := size_list b2
              have := HBS.out
              omega
            have HRD := Lib.hid hrd; have HLL := Lib.hid hLL; have HLS := Lib.hid (show (⟨L.toArray⟩ : ByteArray).size ≤ 1000 by show L.toArray.size ≤ 1000; simpa using hLL)
            clear hrd hL hLL
            go_wp2_with fail
            go_quiet ((go_at_call 50; exact Calls.quiet_of_same (Tryz.strings_CutPrefix _ _ _)))
            obtain ⟨wq, hwq⟩ : ∃ wq, wz.drewN nq = wq := ⟨_, rfl⟩
            have hxq : Ext wr wq := hwq ▸ HXZ.out.drewN nq
            have hb2 : wq.cell? ⟨wr.heap.size, 1, none⟩ = some (.func (.func 43) #[] #[.pointer (some ⟨g2, 0, none⟩)]) := by rw [← hwq]; exact x1
            have HXQ := Lib.hid hxq; have HXWQ := Lib.hid (HXR.out.trans hxq); have HGQ := Lib.hid (grown_trans HGR.out (hxq.but _)); have HPQQ := Lib.hid (HPQ.out.ext hxq)
            have HENQ := Lib.hid (HEN.out.ext (HXR.out.trans hxq))
            have HPR := Lib.hid ((show PL wr w.heap.size Pol.zero from HWR.out _ _ HRR.out (by omega)).ext hxq)
            rw [hwq]
            rw [htp]
            clear hxq hwq htp hwo r0 r1 x0 x1 hwz
            go_wp2_with fail
            refine (readNum_at ⟨L.toArray⟩ HLS.out g2 (w.heap.size + 1) 2 (by omega) (by omega) q wq HENQ.out ((show PP wr g2 _ from HWR.out _ _ HP2.out (by omega)).ext HXQ.out) HPQQ.out).mono ?_
            rintro _ w4 ⟨q2, hg4, hq4, (⟨hq, rfl⟩ | ⟨hq, rfl⟩)⟩
            · have HQ := Lib.hid (show rdP 2 L q = some q2 from hq); have HG4 := Lib.hid (grown_trans HGQ.out hg4); have HQ4 := Lib.hid hq4
              clear hq hg4 hq4
              go_wp2_with fail
              go_roundw
              case rel => exact ⟨3, q2, by omega, by go_num, Lib.hid (by rw [HGO.out]; exact goP_step (HRD.out.trans HQ.out)), rdP_nm HQ.out HLL.out hqn, HQ4, HG4⟩
              case measure => simp [intOf]
            · have HNO := Lib.hid (show ∀ p : Pol, p.ok = true → p.text ≠ s.data.toList from no_of (fun p hp => by
                rw [HPW.out, HGO.out] at hp
                have hrd : rdW 2 b2 q = none := HRD.out.trans hq
                simp only [List.drop_succ_cons, List.drop_zero, goP, hrd] at hp
                cases hp))
              have HPR4 := Lib.hid (show PL w4 w.heap.size Pol.zero from heap_no hg4 HPR.out (by omega))
              have HX4 := Lib.hid (HXWQ.out.grown hg4 (fun j hj => by injection hj with hj; omega))
              clear hq hg4 hq4
              go_wp2_with fail
              go_step3
              exact ⟨rfl, ⟨_, rfl, rfl, rfl⟩, ⟨_, HPR4.out⟩, HX4.out, HNO.out⟩
        · have hw : wr.cell? ⟨wb.heap.size, 3, none⟩ = some (.string b3) := HGR.out.cell (HCW.out 3 b3 rfl) (by show some wb.heap.size ≠ some (w.heap.size + 1); intro e; injection e with e; have := HZC.out; omega)
          have hrw := HWR.out _ _ HRW.out (by omega)
          have r0 : wr.cell? ⟨gf, 6, none⟩ = some (.string ⟨#[100, 105, 115, 116, 105, 110, 99, 116, 61]⟩) := by rw [cell_of_row _ _ 6 _ _ (0, 0) hrw]; rfl
          have r1 : wr.cell? ⟨gf, 7, none⟩ = some (.func (.func 43) #[] #[.pointer (some ⟨g3, 0, none⟩)]) := by rw [cell_of_row _ _ 7 _ _ (0, 0) hrw]; rfl
          have hbox := heap_alloc_new wr (.cells #[.string ⟨#[100, 105, 115, 116, 105, 110, 99, 116, 61]⟩, .func (.func 43) #[] #[.pointer (some ⟨g3, 0, none⟩)]] 85)
          obtain ⟨wz, hwz⟩ : ∃ wz, wr.alloc (.cells #[.string ⟨#[100, 105, 115, 116, 105, 110, 99, 116, 61]⟩, .func (.func 43) #[] #[.pointer (some ⟨g3, 0, none⟩)]] 85) = wz := ⟨_, rfl⟩
          have hxz : Ext wr wz := hwz ▸ (Ext.refl wr).alloc _
          rw [hwz] at hbox
          have hwo := hxz.cell hw
          have x0 : wz.cell? ⟨wr.heap.size, 0, none⟩ = some (.string ⟨#[100, 105, 115, 116, 105, 110, 99, 116, 61]⟩) := by rw [cell_of_row _ _ 0 _ _ (0, 0) hbox]; rfl
          have x1 : wz.cell? ⟨wr.heap.size, 1, none⟩ = some (.func (.func 43) #[] #[.pointer (some ⟨g3, 0, none⟩)]) := by rw [cell_of_row _ _ 1 _ _ (0, 0) hbox]; rfl
          have HXZ := Lib.hid hxz
          have HBS := Lib.hid (HSZ8.out b3 (by simp))
          clear hrw hbox hxz hw
          cases hpre : Lib.hasPrefix b3.data.toList (⟨#[100, 105, 115, 116, 105, 110, 99, 116, 61]⟩ : ByteArray).data.toList with
          | false =>
            have HNO := Lib.hid (show ∀ p : Pol, p.ok = true → p.text ≠ s.data.toList from no_of (fun p hp => by
              rw [HPW.out, HGO.out] at hp
              have hrd : rdW 3 b3 q = none := by unfold rdW; rw [show (hdP 3).isPrefixOf b3.data.toList = false from hpre]; rfl
              simp only [List.drop_succ_cons, List.drop_zero, goP, hrd] at hp
              cases hp))
            go_wp2_with fail
            go_quiet ((go_at_call 50; exact Calls.quiet_of_same (Tryz.strings_CutPrefix _ _ _)))
            have HPR := Lib.hid ((show PL wr w.heap.size Pol.zero from HWR.out _ _ HRR.out (by omega)).ext (HXZ.out.drewN nq))
            go_wp2_with fail
            go_step3
            exact ⟨rfl, ⟨_, rfl, rfl, rfl⟩, ⟨_, HPR.out⟩, (HXR.out.trans HXZ.out).drewN nq, HNO.out⟩
          | true =>
            have hrd : rdW 3 b3 q = rdP 3 (b3.data.toList.drop (hdP 3).length) q := by unfold rdW; rw [if_pos (show (hdP 3).isPrefixOf b3.data.toList = true from hpre)]
            have htp : Lib.trimPrefix b3.data.toList (⟨#[100, 105, 115, 116, 105, 110, 99, 116, 61]⟩ : ByteArray).data.toList = b3.data.toList.drop (hdP 3).length := by unfold Lib.trimPrefix; rw [if_pos hpre]; rfl
            obtain ⟨L, hL⟩ : ∃ L, b3.data.toList.drop (hdP 3).length = L := ⟨_, rfl⟩
            rw [hL] at hrd htp
            have hLL : L.length ≤ 1000 := by
              rw [← hL, List.length_drop]
              have := size_list b3
              have := HBS.out
              omega
            have HRD := Lib.hid hrd; have HLL := Lib.hid hLL; have HLS := Lib.hid (show (⟨L.toArray⟩ : ByteArray).size ≤ 1000 by show L.toArray.size ≤ 1000; simpa using hLL)
            clear hrd hL hLL
            go_wp2_with fail
            go_quiet ((go_at_call 50; exact Calls.quiet_of_same (Tryz.strings_CutPrefix _ _ _)))
            obtain ⟨wq, hwq⟩ : ∃ wq, wz.drewN nq = wq := ⟨_, rfl⟩
            have hxq : Ext wr wq := hwq ▸ HXZ.out.drewN nq
            have hb2 : wq.cell? ⟨wr.heap.size, 1, none⟩ = some (.func (.func 43) #[] #[.pointer (some ⟨g3, 0, none⟩)]) := by rw [← hwq]; exact x1
            have HXQ := Lib.hid hxq; have HXWQ := Lib.hid (HXR.out.trans hxq); have HGQ := Lib.hid (grown_trans HGR.out (hxq.but _)); have HPQQ := Lib.hid (HPQ.out.ext hxq)
            have HENQ := Lib.hid (HEN.out.ext (HXR.out.trans hxq))
            have HPR := Lib.hid ((show PL wr w.heap.size Pol.zero from HWR.out _ _ HRR.out (by omega)).ext hxq)
            rw [hwq]
            rw [htp]
            clear hxq hwq htp hwo r0 r1 x0 x1 hwz
            go_wp2_with fail
            refine (readNum_at ⟨L.toArray⟩ HLS.out g3 (w.heap.size + 1) 3 (by omega) (by omega) q wq HENQ.out ((show PP wr g3 _ from HWR.out _ _ HP3.out (by omega)).ext HXQ.out) HPQQ.out).mono ?_
            rintro _ w4 ⟨q2, hg4, hq4, (⟨hq, rfl⟩ | ⟨hq, rfl⟩)⟩
            · have HQ := Lib.hid (show rdP 3 L q = some q2 from hq); have HG4 := Lib.hid (grown_trans HGQ.out hg4); have HQ4 := Lib.hid hq4
              clear hq hg4 hq4
              go_wp2_with fail
              go_roundw
              case rel => exact ⟨4, q2, by omega, by go_num, Lib.hid (by rw [HGO.out]; exact goP_step (HRD.out.trans HQ.out)), rdP_nm HQ.out HLL.out hqn, HQ4, HG4⟩
              case measure => simp [intOf]
            · have HNO := Lib.hid (show ∀ p : Pol, p.ok = true → p.text ≠ s.data.toList from no_of (fun p hp => by
                rw [HPW.out, HGO.out] at hp
                have hrd : rdW 3 b3 q = none := HRD.out.trans hq
                simp only [List.drop_succ_cons, List.drop_zero, goP, hrd] at hp
                cases hp))
              have HPR4 := Lib.hid (show PL w4 w.heap.size Pol.zero from heap_no hg4 HPR.out (by omega))
              have HX4 := Lib.hid (HXWQ.out.grown hg4 (fun j hj => by injection hj with hj; omega))
              clear hq hg4 hq4
              go_wp2_with fail
              go_step3
              exact ⟨rfl, ⟨_, rfl, rfl, rfl⟩, ⟨_, HPR4.out⟩, HX4.out, HNO.out⟩
        · have hw : wr.cell? ⟨wb.heap.size, 4, none⟩ = some (.string b4) := HGR.out.cell (HCW.out 4 b4 rfl) (by show some wb.heap.size ≠ some (w.heap.size + 1); intro e; injection e with e; have := HZC.out; omega)
          have hrw := HWR.out _ _ HRW.out (by omega)
          have r0 : wr.cell? ⟨gf, 8, none⟩ = some (.string ⟨#[104, 105, 115, 116, 111, 114, 121, 61]⟩) := by rw [cell_of_row _ _ 8 _ _ (0, 0) hrw]; rfl
          have r1 : wr.cell? ⟨gf, 9, none⟩ = some (.func (.func 43) #[] #[.pointer (some ⟨g4, 0, none⟩)]) := by rw [cell_of_row _ _ 9 _ _ (0, 0) hrw]; rfl
          have hbox := heap_alloc_new wr (.cells #[.string ⟨#[104, 105, 115, 116, 111, 114, 121, 61]⟩, .func (.func 43) #[] #[.pointer (some ⟨g4, 0, none⟩)]] 85)
          obtain ⟨wz, hwz⟩ : ∃ wz, wr.alloc (.cells #[.string ⟨#[104, 105, 115, 116, 111, 114, 121, 61]⟩, .func (.func 43) #[] #[.pointer (some ⟨g4, 0, none⟩)]] 85) = wz := ⟨_, rfl⟩
          have hxz : Ext wr wz := hwz ▸ (Ext.refl wr).alloc _
          rw [hwz] at hbox
          have hwo := hxz.cell hw
          have x0 : wz.cell? ⟨wr.heap.size, 0, none⟩ = some (.string ⟨#[104, 105, 115, 116, 111, 114, 121, 61]⟩) := by rw [cell_of_row _ _ 0 _ _ (0, 0) hbox]; rfl
          have x1 : wz.cell? ⟨wr.heap.size, 1, none⟩ = some (.func (.func 43) #[] #[.pointer (some ⟨g4, 0, none⟩)]) := by rw [cell_of_row _ _ 1 _ _ (0, 0) hbox]; rfl
          have HXZ := Lib.hid hxz
          have HBS := Lib.hid (HSZ8.out b4 (by simp))
          clear hrw hbox hxz hw
          cases hpre : Lib.hasPrefix b4.data.toList (⟨#[104, 105, 115, 116, 111, 114, 121, 61]⟩ : ByteArray).data.toList with
          | false =>
            have HNO := Lib.hid (show ∀ p : Pol, p.ok = true → p.text ≠ s.data.toList from no_of (fun p hp => by
              rw [HPW.out, HGO.out] at hp
              have hrd : rdW 4 b4 q = none := by unfold rdW; rw [show (hdP 4).isPrefixOf b4.data.toList = false from hpre]; rfl
              simp only [List.drop_succ_cons, List.drop_zero, goP, hrd] at hp
              cases hp))
            go_wp2_with fail
            go_quiet ((go_at_call 50; exact Calls.quiet_of_same (Tryz.strings_CutPrefix _ _ _)))
            have HPR := Lib.hid ((show PL wr w.heap.size Pol.zero from HWR.out _ _ HRR.out (by omega)).ext (HXZ.out.drewN nq))
            go_wp2_with fail
            go_step3
            exact ⟨rfl, ⟨_, rfl, rfl, rfl⟩, ⟨_, HPR.out⟩, (HXR.out.trans HXZ.out).drewN nq, HNO.out⟩
          | true =>
            have hrd : rdW 4 b4 q = rdP 4 (b4.data.toList.drop (hdP 4).length) q := by unfold rdW; rw [if_pos (show (hdP 4).isPrefixOf b4.data.toList = true from hpre)]
            have htp : Lib.trimPrefix b4.data.toList (⟨#[104, 105, 115, 116, 111, 114, 121, 61]⟩ : ByteArray).data.toList = b4.data.toList.drop (hdP 4).length := by unfold Lib.trimPrefix; rw [if_pos hpre]; rfl
            obtain ⟨L, hL⟩ : ∃ L, b4.data.toList.drop (hdP 4).length = L := ⟨_, rfl⟩
            rw [hL] at hrd htp
            have hLL : L.length ≤ 1000 := by
              rw [← hL, List.length_drop]
              have := size_list b4
              have := HBS.out
              omega
            have HRD := Lib.hid hrd; have HLL := Lib.hid hLL; have HLS := Lib.hid (show (⟨L.toArray⟩ : ByteArray).size ≤ 1000 by show L.toArray.size ≤ 1000; simpa using hLL)
            clear hrd hL hLL
            go_wp2_with fail
            go_quiet ((go_at_call 50; exact Calls.quiet_of_same (Tryz.strings_CutPrefix _ _ _)))
            obtain ⟨wq, hwq⟩ : ∃ wq, wz.drewN nq = wq := ⟨_, rfl⟩
            have hxq : Ext wr wq := hwq ▸ HXZ.out.drewN nq
            have hb2 : wq.cell? ⟨wr.heap.size, 1, none⟩ = some (.func (.func 43) #[] #[.pointer (some ⟨g4, 0, none⟩)]) := by rw [← hwq]; exact x1
            have HXQ := Lib.hid hxq; have HXWQ := Lib.hid (HXR.out.trans hxq); have HGQ := Lib.hid (grown_trans HGR.out (hxq.but _)); have HPQQ := Lib.hid (HPQ.out.ext hxq)
            have HENQ := Lib.hid (HEN.out.ext (HXR.out.trans hxq))
            have HPR := Lib.hid ((show PL wr w.heap.size Pol.zero from HWR.out _ _ HRR.out (by omega)).ext hxq)
            rw [hwq]
            rw [htp]
            clear hxq hwq htp hwo r0 r1 x0 x1 hwz
            go_wp2_with fail
            refine (readNum_at ⟨L.toArray⟩ HLS.out g4 (w.heap.size + 1) 4 (by omega) (by omega) q wq HENQ.out ((show PP wr g4 _ from HWR.out _ _ HP4.out (by omega)).ext HXQ.out) HPQQ.out).mono ?_
            rintro _ w4 ⟨q2, hg4, hq4, (⟨hq, rfl⟩ | ⟨hq, rfl⟩)⟩
            · have HQ := Lib.hid (show rdP 4 L q = some q2 from hq); have HG4 := Lib.hid (grown_trans HGQ.out hg4); have HQ4 := Lib.hid hq4
              clear hq hg4 hq4
              go_wp2_with fail
              go_roundw
              case rel => exact ⟨5, q2, by omega, by go_num, Lib.hid (by rw [HGO.out]; exact goP_step (HRD.out.trans HQ.out)), rdP_nm HQ.out HLL.out hqn, HQ4, HG4⟩
              case measure => simp [intOf]
            · have HNO := Lib.hid (show ∀ p : Pol, p.ok = true → p.text ≠ s.data.toList from no_of (fun p hp => by
                rw [HPW.out, HGO.out] at hp
                have hrd : rdW 4 b4 q = none := HRD.out.trans hq
                simp only [List.drop_succ_cons, List.drop_zero, goP, hrd] at hp
                cases hp))
              have HPR4 := Lib.hid (show PL w4 w.heap.size Pol.zero from heap_no hg4 HPR.out (by omega))
              have HX4 := Lib.hid (HXWQ.out.grown hg4 (fun j hj => by injection hj with hj; omega))
              clear hq hg4 hq4
              go_wp2_with fail
              go_step3
              exact ⟨rfl, ⟨_, rfl, rfl, rfl⟩, ⟨_, HPR4.out⟩, HX4.out, HNO.out⟩
        · have hw : wr.cell? ⟨wb.heap.size, 5, none⟩ = some (.string b5) := HGR.out.cell (HCW.out 5 b5 rfl) (by show some wb.heap.size ≠ some (w.heap.size + 1); intro e; injection e with e; have := HZC.out; omega)
          have hrw := HWR.out _ _ HRW.out (by omega)
          have r0 : wr.cell? ⟨gf, 10, none⟩ = some (.string ⟨#[97, 103, 101, 61]⟩) := by rw [cell_of_row _ _ 10 _ _ (0, 0) hrw]; rfl
          have r1 : wr.cell? ⟨gf, 11, none⟩ = some (.func (.func 46) #[] #[.pointer (some ⟨g5, 0, none⟩), .pointer (some ⟨w.heap.size + 1 + 1, 0, none⟩), .pointer (some ⟨g5 + 1, 0, none⟩), .pointer (some ⟨g5 + 1 + 1, 0, none⟩)]) := by rw [cell_of_row _ _ 11 _ _ (0, 0) hrw]; rfl
          have hbox := heap_alloc_new wr (.cells #[.string ⟨#[97, 103, 101, 61]⟩, .func (.func 46) #[] #[.pointer (some ⟨g5, 0, none⟩), .pointer (some ⟨w.heap.size + 1 + 1, 0, none⟩), .pointer (some ⟨g5 + 1, 0, none⟩), .pointer (some ⟨g5 + 1 + 1, 0, none⟩)]] 85)
          obtain ⟨wz, hwz⟩ : ∃ wz, wr.alloc (.cells #[.string ⟨#[97, 103, 101, 61]⟩, .func (.func 46) #[] #[.pointer (some ⟨g5, 0, none⟩), .pointer (some ⟨w.heap.size + 1 + 1, 0, none⟩), .pointer (some ⟨g5 + 1, 0, none⟩), .pointer (some ⟨g5 + 1 + 1, 0, none⟩)]] 85) = wz := ⟨_, rfl⟩
          have hxz : Ext wr wz := hwz ▸ (Ext.refl wr).alloc _
          rw [hwz] at hbox
          have hwo := hxz.cell hw
          have x0 : wz.cell? ⟨wr.heap.size, 0, none⟩ = some (.string ⟨#[97, 103, 101, 61]⟩) := by rw [cell_of_row _ _ 0 _ _ (0, 0) hbox]; rfl
          have x1 : wz.cell? ⟨wr.heap.size, 1, none⟩ = some (.func (.func 46) #[] #[.pointer (some ⟨g5, 0, none⟩), .pointer (some ⟨w.heap.size + 1 + 1, 0, none⟩), .pointer (some ⟨g5 + 1, 0, none⟩), .pointer (some ⟨g5 + 1 + 1, 0, none⟩)]) := by rw [cell_of_row _ _ 1 _ _ (0, 0) hbox]; rfl
          have HXZ := Lib.hid hxz
          have HBS := Lib.hid (HSZ8.out b5 (by simp))
          clear hrw hbox hxz hw
          cases hpre : Lib.hasPrefix b5.data.toList (⟨#[97, 103, 101, 61]⟩ : ByteArray).data.toList with
          | false =>
            have HNO := Lib.hid (show ∀ p : Pol, p.ok = true → p.text ≠ s.data.toList from no_of (fun p hp => by
              rw [HPW.out, HGO.out] at hp
              have hrd : rdW 5 b5 q = none := by unfold rdW; rw [show (hdP 5).isPrefixOf b5.data.toList = false from hpre]; rfl
              simp only [List.drop_succ_cons, List.drop_zero, goP, hrd] at hp
              cases hp))
            go_wp2_with fail
            go_quiet ((go_at_call 50; exact Calls.quiet_of_same (Tryz.strings_CutPrefix _ _ _)))
            have HPR := Lib.hid ((show PL wr w.heap.size Pol.zero from HWR.out _ _ HRR.out (by omega)).ext (HXZ.out.drewN nq))
            go_wp2_with fail
            go_step3
            exact ⟨rfl, ⟨_, rfl, rfl, rfl⟩, ⟨_, HPR.out⟩, (HXR.out.trans HXZ.out).drewN nq, HNO.out⟩
          | true =>
            have hrd : rdW 5 b5 q = rdP 5 (b5.data.toList.drop (hdP 5).length) q := by unfold rdW; rw [if_pos (show (hdP 5).isPrefixOf b5.data.toList = true from hpre)]
            have htp : Lib.trimPrefix b5.data.toList (⟨#[97, 103, 101, 61]⟩ : ByteArray).data.toList = b5.data.toList.drop (hdP 5).length := by unfold Lib.trimPrefix; rw [if_pos hpre]; rfl
            obtain ⟨L, hL⟩ : ∃ L, b5.data.toList.drop (hdP 5).length = L := ⟨_, rfl⟩
            rw [hL] at hrd htp
            have hLL : L.length ≤ 1000 := by
              rw [← hL, List.length_drop]
              have := size_list b5
              have := HBS.out
              omega
            have HRD := Lib.hid hrd; have HLL := Lib.hid hLL; have HLS := Lib.hid (show (⟨L.toArray⟩ : ByteArray).size ≤ 1000 by show L.toArray.size ≤ 1000; simpa using hLL)
            clear hrd hL hLL
            go_wp2_with fail
            go_quiet ((go_at_call 50; exact Calls.quiet_of_same (Tryz.strings_CutPrefix _ _ _)))
            obtain ⟨wq, hwq⟩ : ∃ wq, wz.drewN nq = wq := ⟨_, rfl⟩
            have hxq : Ext wr wq := hwq ▸ HXZ.out.drewN nq
            have hb2 : wq.cell? ⟨wr.heap.size, 1, none⟩ = some (.func (.func 46) #[] #[.pointer (some ⟨g5, 0, none⟩), .pointer (some ⟨w.heap.size + 1 + 1, 0, none⟩), .pointer (some ⟨g5 + 1, 0, none⟩), .pointer (some ⟨g5 + 1 + 1, 0, none⟩)]) := by rw [← hwq]; exact x1
            have HXQ := Lib.hid hxq; have HXWQ := Lib.hid (HXR.out.trans hxq); have HGQ := Lib.hid (grown_trans HGR.out (hxq.but _)); have HPQQ := Lib.hid (HPQ.out.ext hxq)
            have HENQ := Lib.hid (HEN.out.ext (HXR.out.trans hxq))
            have HPR := Lib.hid ((show PL wr w.heap.size Pol.zero from HWR.out _ _ HRR.out (by omega)).ext hxq)
            rw [hwq]
            rw [htp]
            clear hxq hwq htp hwo r0 r1 x0 x1 hwz
            go_wp2_with fail
            refine (readPair_at ⟨L.toArray⟩ ⟨#[46, 46]⟩ HLS.out (w.heap.size + 1 + 1) g5 (g5 + 1) (g5 + 1 + 1) (w.heap.size + 1) 5 6 (by omega) (by omega) (by omega) q wq HENQ.out (fun w5 hg5 => HEN.out.ext (HXWQ.out.grown hg5 (fun j hj => by injection hj with hj; omega))) ((show F5 wr _ from HWR.out _ _ H55.out (by omega)).ext' HXQ.out) (HXQ.out.heap (HWR.out _ _ HS5.out (by omega))) ((show PP wr (g5 + 1) _ from HWR.out _ _ HP5.out (by omega)).ext HXQ.out) ((show PP wr (g5 + 1 + 1) _ from HWR.out _ _ HQ5.out (by omega)).ext HXQ.out) HPQQ.out).mono ?_
            rintro _ w4 ⟨q2, hg4, hq4, (⟨hq, rfl⟩ | ⟨hq, rfl⟩)⟩
            · have HQ := Lib.hid (show rdP 5 L q = some q2 from hq); have HG4 := Lib.hid (grown_trans HGQ.out hg4); have HQ4 := Lib.hid hq4
              clear hq hg4 hq4
              go_wp2_with fail
              go_roundw
              case rel => exact ⟨6, q2, by omega, by go_num, Lib.hid (by rw [HGO.out]; exact goP_step (HRD.out.trans HQ.out)), rdP_nm HQ.out HLL.out hqn, HQ4, HG4⟩
              case measure => simp [intOf]
            · have HNO := Lib.hid (show ∀ p : Pol, p.ok = true → p.text ≠ s.data.toList from no_of (fun p hp => by
                rw [HPW.out, HGO.out] at hp
                have hrd : rdW 5 b5 q = none := HRD.out.trans hq
                simp only [List.drop_succ_cons, List.drop_zero, goP, hrd] at hp
                cases hp))
              have HPR4 := Lib.hid (show PL w4 w.heap.size Pol.zero from heap_no hg4 HPR.out (by omega))
              have HX4 := Lib.hid (HXWQ.out.grown hg4 (fun j hj => by injection hj with hj; omega))
              clear hq hg4 hq4
              go_wp2_with fail
              go_step3
              exact ⟨rfl, ⟨_, rfl, rfl, rfl⟩, ⟨_, HPR4.out⟩, HX4.out, HNO.out⟩
        · have hw : wr.cell? ⟨wb.heap.size, 6, none⟩ = some (.string b6) := HGR.out.cell (HCW.out 6 b6 rfl) (by show some wb.heap.size ≠ some (w.heap.size + 1); intro e; injection e with e; have := HZC.out; omega)
          have hrw := HWR.out _ _ HRW.out (by omega)
          have r0 : wr.cell? ⟨gf, 12, none⟩ = some (.string ⟨#[102, 97, 105, 108, 115, 61]⟩) := by rw [cell_of_row _ _ 12 _ _ (0, 0) hrw]; rfl
          have r1 : wr.cell? ⟨gf, 13, none⟩ = some (.func (.func 43) #[] #[.pointer (some ⟨g6, 0, none⟩)]) := by rw [cell_of_row _ _ 13 _ _ (0, 0) hrw]; rfl
          have hbox := heap_alloc_new wr (.cells #[.string ⟨#[102, 97, 105, 108, 115, 61]⟩, .func (.func 43) #[] #[.pointer (some ⟨g6, 0, none⟩)]] 85)
          obtain ⟨wz, hwz⟩ : ∃ wz, wr.alloc (.cells #[.string ⟨#[102, 97, 105, 108, 115, 61]⟩, .func (.func 43) #[] #[.pointer (some ⟨g6, 0, none⟩)]] 85) = wz := ⟨_, rfl⟩
          have hxz : Ext wr wz := hwz ▸ (Ext.refl wr).alloc _
          rw [hwz] at hbox
          have hwo := hxz.cell hw
          have x0 : wz.cell? ⟨wr.heap.size, 0, none⟩ = some (.string ⟨#[102, 97, 105, 108, 115, 61]⟩) := by rw [cell_of_row _ _ 0 _ _ (0, 0) hbox]; rfl
          have x1 : wz.cell? ⟨wr.heap.size, 1, none⟩ = some (.func (.func 43) #[] #[.pointer (some ⟨g6, 0, none⟩)]) := by rw [cell_of_row _ _ 1 _ _ (0, 0) hbox]; rfl
          have HXZ := Lib.hid hxz
          have HBS := Lib.hid (HSZ8.out b6 (by simp))
          clear hrw hbox hxz hw
          cases hpre : Lib.hasPrefix b6.data.toList (⟨#[102, 97, 105, 108, 115, 61]⟩ : ByteArray).data.toList with
          | false =>
            have HNO := Lib.hid (show ∀ p : Pol, p.ok = true → p.text ≠ s.data.toList from no_of (fun p hp => by
              rw [HPW.out, HGO.out] at hp
              have hrd : rdW 6 b6 q = none := by unfold rdW; rw [show (hdP 6).isPrefixOf b6.data.toList = false from hpre]; rfl
              simp only [List.drop_succ_cons, List.drop_zero, goP, hrd] at hp
              cases hp))
            go_wp2_with fail
            go_quiet ((go_at_call 50; exact Calls.quiet_of_same (Tryz.strings_CutPrefix _ _ _)))
            have HPR := Lib.hid ((show PL wr w.heap.size Pol.zero from HWR.out _ _ HRR.out (by omega)).ext (HXZ.out.drewN nq))
            go_wp2_with fail
            go_step3
            exact ⟨rfl, ⟨_, rfl, rfl, rfl⟩, ⟨_, HPR.out⟩, (HXR.out.trans HXZ.out).drewN nq, HNO.out⟩
          | true =>
            have hrd : rdW 6 b6 q = rdP 6 (b6.data.toList.drop (hdP 6).length) q := by unfold rdW; rw [if_pos (show (hdP 6).isPrefixOf b6.data.toList = true from hpre)]
            have htp : Lib.trimPrefix b6.data.toList (⟨#[102, 97, 105, 108, 115, 61]⟩ : ByteArray).data.toList = b6.data.toList.drop (hdP 6).length := by unfold Lib.trimPrefix; rw [if_pos hpre]; rfl
            obtain ⟨L, hL⟩ : ∃ L, b6.data.toList.drop (hdP 6).length = L := ⟨_, rfl⟩
            rw [hL] at hrd htp
            have hLL : L.length ≤ 1000 := by
              rw [← hL, List.length_drop]
              have := size_list b6
              have := HBS.out
              omega
            have HRD := Lib.hid hrd; have HLL := Lib.hid hLL; have HLS := Lib.hid (show (⟨L.toArray⟩ : ByteArray).size ≤ 1000 by show L.toArray.size ≤ 1000; simpa using hLL)
            clear hrd hL hLL
            go_wp2_with fail
            go_quiet ((go_at_call 50; exact Calls.quiet_of_same (Tryz.strings_CutPrefix _ _ _)))
            obtain ⟨wq, hwq⟩ : ∃ wq, wz.drewN nq = wq := ⟨_, rfl⟩
            have hxq : Ext wr wq := hwq ▸ HXZ.out.drewN nq
            have hb2 : wq.cell? ⟨wr.heap.size, 1, none⟩ = some (.func (.func 43) #[] #[.pointer (some ⟨g6, 0, none⟩)]) := by rw [← hwq]; exact x1
            have HXQ := Lib.hid hxq; have HXWQ := Lib.hid (HXR.out.trans hxq); have HGQ := Lib.hid (grown_trans HGR.out (hxq.but _)); have HPQQ := Lib.hid (HPQ.out.ext hxq)
            have HENQ := Lib.hid (HEN.out.ext (HXR.out.trans hxq))
            have HPR := Lib.hid ((show PL wr w.heap.size Pol.zero from HWR.out _ _ HRR.out (by omega)).ext hxq)
            rw [hwq]
            rw [htp]
            clear hxq hwq htp hwo r0 r1 x0 x1 hwz
            go_wp2_with fail
            refine (readNum_at ⟨L.toArray⟩ HLS.out g6 (w.heap.size + 1) 7 (by omega) (by omega) q wq HENQ.out ((show PP wr g6 _ from HWR.out _ _ HP6.out (by omega)).ext HXQ.out) HPQQ.out).mono ?_
            rintro _ w4 ⟨q2, hg4, hq4, (⟨hq, rfl⟩ | ⟨hq, rfl⟩)⟩
            · have HQ := Lib.hid (show rdP 6 L q = some q2 from hq); have HG4 := Lib.hid (grown_trans HGQ.out hg4); have HQ4 := Lib.hid hq4
              clear hq hg4 hq4
              go_wp2_with fail
              go_roundw
              case rel => exact ⟨7, q2, by omega, by go_num, Lib.hid (by rw [HGO.out]; exact goP_step (HRD.out.trans HQ.out)), rdP_nm HQ.out HLL.out hqn, HQ4, HG4⟩
              case measure => simp [intOf]
            · have HNO := Lib.hid (show ∀ p : Pol, p.ok = true → p.text ≠ s.data.toList from no_of (fun p hp => by
                rw [HPW.out, HGO.out] at hp
                have hrd : rdW 6 b6 q = none := HRD.out.trans hq
                simp only [List.drop_succ_cons, List.drop_zero, goP, hrd] at hp
                cases hp))
              have HPR4 := Lib.hid (show PL w4 w.heap.size Pol.zero from heap_no hg4 HPR.out (by omega))
              have HX4 := Lib.hid (HXWQ.out.grown hg4 (fun j hj => by injection hj with hj; omega))
              clear hq hg4 hq4
              go_wp2_with fail
              go_step3
              exact ⟨rfl, ⟨_, rfl, rfl, rfl⟩, ⟨_, HPR4.out⟩, HX4.out, HNO.out⟩
        · have hw : wr.cell? ⟨wb.heap.size, 7, none⟩ = some (.string b7) := HGR.out.cell (HCW.out 7 b7 rfl) (by show some wb.heap.size ≠ some (w.heap.size + 1); intro e; injection e with e; have := HZC.out; omega)
          have hrw := HWR.out _ _ HRW.out (by omega)
          have r0 : wr.cell? ⟨gf, 14, none⟩ = some (.string ⟨#[108, 111, 99, 107, 61]⟩) := by rw [cell_of_row _ _ 14 _ _ (0, 0) hrw]; rfl
          have r1 : wr.cell? ⟨gf, 15, none⟩ = some (.func (.func 46) #[] #[.pointer (some ⟨g7, 0, none⟩), .pointer (some ⟨w.heap.size + 1 + 1, 0, none⟩), .pointer (some ⟨g7 + 1, 0, none⟩), .pointer (some ⟨g7 + 1 + 1, 0, none⟩)]) := by rw [cell_of_row _ _ 15 _ _ (0, 0) hrw]; rfl
          have hbox := heap_alloc_new wr (.cells #[.string ⟨#[108, 111, 99, 107, 61]⟩, .func (.func 46) #[] #[.pointer (some ⟨g7, 0, none⟩), .pointer (some ⟨w.heap.size + 1 + 1, 0, none⟩), .pointer (some ⟨g7 + 1, 0, none⟩), .pointer (some ⟨g7 + 1 + 1, 0, none⟩)]] 85)
          obtain ⟨wz, hwz⟩ : ∃ wz, wr.alloc (.cells #[.string ⟨#[108, 111, 99, 107, 61]⟩, .func (.func 46) #[] #[.pointer (some ⟨g7, 0, none⟩), .pointer (some ⟨w.heap.size + 1 + 1, 0, none⟩), .pointer (some ⟨g7 + 1, 0, none⟩), .pointer (some ⟨g7 + 1 + 1, 0, none⟩)]] 85) = wz := ⟨_, rfl⟩
          have hxz : Ext wr wz := hwz ▸ (Ext.refl wr).alloc _
          rw [hwz] at hbox
          have hwo := hxz.cell hw
          have x0 : wz.cell? ⟨wr.heap.size, 0, none⟩ = some (.string ⟨#[108, 111, 99, 107, 61]⟩) := by rw [cell_of_row _ _ 0 _ _ (0, 0) hbox]; rfl
          have x1 : wz.cell? ⟨wr.heap.size, 1, none⟩ = some (.func (.func 46) #[] #[.pointer (some ⟨g7, 0, none⟩), .pointer (some ⟨w.heap.size + 1 + 1, 0, none⟩), .pointer (some ⟨g7 + 1, 0, none⟩), .pointer (some ⟨g7 + 1 + 1, 0, none⟩)]) := by rw [cell_of_row _ _ 1 _ _ (0, 0) hbox]; rfl
          have HXZ := Lib.hid hxz
          have HBS := Lib.hid (HSZ8.out b7 (by simp))
          clear hrw hbox hxz hw
          cases hpre : Lib.hasPrefix b7.data.toList (⟨#[108, 111, 99, 107, 61]⟩ : ByteArray).data.toList with
          | false =>
            have HNO := Lib.hid (show ∀ p : Pol, p.ok = true → p.text ≠ s.data.toList from no_of (fun p hp => by
              rw [HPW.out, HGO.out] at hp
              have hrd : rdW 7 b7 q = none := by unfold rdW; rw [show (hdP 7).isPrefixOf b7.data.toList = false from hpre]; rfl
              simp only [List.drop_succ_cons, List.drop_zero, goP, hrd] at hp
              cases hp))
            go_wp2_with fail
            go_quiet ((go_at_call 50; exact Calls.quiet_of_same (Tryz.strings_CutPrefix _ _ _)))
            have HPR := Lib.hid ((show PL wr w.heap.size Pol.zero from HWR.out _ _ HRR.out (by omega)).ext (HXZ.out.drewN nq))
            go_wp2_with fail
            go_step3
            exact ⟨rfl, ⟨_, rfl, rfl, rfl⟩, ⟨_, HPR.out⟩, (HXR.out.trans HXZ.out).drewN nq, HNO.out⟩
          | true =>
            have hrd : rdW 7 b7 q = rdP 7 (b7.data.toList.drop (hdP 7).length) q := by unfold rdW; rw [if_pos (show (hdP 7).isPrefixOf b7.data.toList = true from hpre)]
            have htp : Lib.trimPrefix b7.data.toList (⟨#[108, 111, 99, 107, 61]⟩ : ByteArray).data.toList = b7.data.toList.drop (hdP 7).length := by unfold Lib.trimPrefix; rw [if_pos hpre]; rfl
            obtain ⟨L, hL⟩ : ∃ L, b7.data.toList.drop (hdP 7).length = L := ⟨_, rfl⟩
            rw [hL] at hrd htp
            have hLL : L.length ≤ 1000 := by
              rw [← hL, List.length_drop]
              have := size_list b7
              have := HBS.out
              omega
            have HRD := Lib.hid hrd; have HLL := Lib.hid hLL; have HLS := Lib.hid (show (⟨L.toArray⟩ : ByteArray).size ≤ 1000 by show L.toArray.size ≤ 1000; simpa using hLL)
            clear hrd hL hLL
            go_wp2_with fail
            go_quiet ((go_at_call 50; exact Calls.quiet_of_same (Tryz.strings_CutPrefix _ _ _)))
            obtain ⟨wq, hwq⟩ : ∃ wq, wz.drewN nq = wq := ⟨_, rfl⟩
            have hxq : Ext wr wq := hwq ▸ HXZ.out.drewN nq
            have hb2 : wq.cell? ⟨wr.heap.size, 1, none⟩ = some (.func (.func 46) #[] #[.pointer (some ⟨g7, 0, none⟩), .pointer (some ⟨w.heap.size + 1 + 1, 0, none⟩), .pointer (some ⟨g7 + 1, 0, none⟩), .pointer (some ⟨g7 + 1 + 1, 0, none⟩)]) := by rw [← hwq]; exact x1
            have HXQ := Lib.hid hxq; have HXWQ := Lib.hid (HXR.out.trans hxq); have HGQ := Lib.hid (grown_trans HGR.out (hxq.but _)); have HPQQ := Lib.hid (HPQ.out.ext hxq)
            have HENQ := Lib.hid (HEN.out.ext (HXR.out.trans hxq))
            have HPR := Lib.hid ((show PL wr w.heap.size Pol.zero from HWR.out _ _ HRR.out (by omega)).ext hxq)
            rw [hwq]
            rw [htp]
            clear hxq hwq htp hwo r0 r1 x0 x1 hwz
            go_wp2_with fail
            refine (readPair_at ⟨L.toArray⟩ ⟨#[47]⟩ HLS.out (w.heap.size + 1 + 1) g7 (g7 + 1) (g7 + 1 + 1) (w.heap.size + 1) 8 9 (by omega) (by omega) (by omega) q wq HENQ.out (fun w5 hg5 => HEN.out.ext (HXWQ.out.grown hg5 (fun j hj => by injection hj with hj; omega))) ((show F5 wr _ from HWR.out _ _ H55.out (by omega)).ext' HXQ.out) (HXQ.out.heap (HWR.out _ _ HS7.out (by omega))) ((show PP wr (g7 + 1) _ from HWR.out _ _ HP7.out (by omega)).ext HXQ.out) ((show PP wr (g7 + 1 + 1) _ from HWR.out _ _ HQ7.out (by omega)).ext HXQ.out) HPQQ.out).mono ?_
            rintro _ w4 ⟨q2, hg4, hq4, (⟨hq, rfl⟩ | ⟨hq, rfl⟩)⟩
            · have HQ := Lib.hid (show rdP 7 L q = some q2 from hq); have HG4 := Lib.hid (grown_trans HGQ.out hg4); have HQ4 := Lib.hid hq4
              clear hq hg4 hq4
              go_wp2_with fail
              go_roundw
              case rel => exact ⟨8, q2, by omega, by go_num, Lib.hid (by rw [HGO.out]; exact goP_step (HRD.out.trans HQ.out)), rdP_nm HQ.out HLL.out hqn, HQ4, HG4⟩
              case measure => simp [intOf]
            · have HNO := Lib.hid (show ∀ p : Pol, p.ok = true → p.text ≠ s.data.toList from no_of (fun p hp => by
                rw [HPW.out, HGO.out] at hp
                have hrd : rdW 7 b7 q = none := HRD.out.trans hq
                simp only [List.drop_succ_cons, List.drop_zero, goP, hrd] at hp
                cases hp))
              have HPR4 := Lib.hid (show PL w4 w.heap.size Pol.zero from heap_no hg4 HPR.out (by omega))
              have HX4 := Lib.hid (HXWQ.out.grown hg4 (fun j hj => by injection hj with hj; omega))
              clear hq hg4 hq4
              go_wp2_with fail
              go_step3
              exact ⟨rfl, ⟨_, rfl, rfl, rfl⟩, ⟨_, HPR4.out⟩, HX4.out, HNO.out⟩
        · have HPWQ := Lib.hid (show pw (wordsP s) = some q by rw [HPW.out, HGO.out]; rfl)
          have c := HPQ.out.cells
          obtain ⟨c0, c1, c2, c3, c4, c5, c6, c7, c8, c9⟩ := c
          have HRZ := Lib.hid (show PL wr w.heap.size Pol.zero from HWR.out _ _ HRR.out (by omega))
          cases hok : q.ok with
          | false =>
            have HNO := Lib.hid (show ∀ p : Pol, p.ok = true → p.text ≠ s.data.toList from no_of (fun p hp hh => by
              rw [HPWQ.out] at hp; injection hp with hp; subst hp; rw [hok] at hh; cases hh.1))
            have HTX := Lib.hid (PoText_no q (by omega) hok wr)
            have HV := Lib.hid (hok ▸ PoValid_at q (by omega))
            clear hok
            unfold Pol.v at HTX HV
            go_wp2_with fail
            refine HTX.out.mono ?_
            rintro _ w5 ⟨rfl, hx5⟩
            obtain ⟨c0, c1, c2, c3, c4, c5, c6, c7, c8, c9⟩ := (HPQ.out.ext hx5).cells
            have HX5 := Lib.hid (HXR.out.trans hx5); have HR5 := Lib.hid (HRZ.out.ext hx5)
            clear hx5
            go_wp2_with fail
            refine (HV.out w5).mono ?_
            rintro _ w6 ⟨rfl, hx6⟩
            have HX6 := Lib.hid (HX5.out.trans hx6); have HR6 := Lib.hid (HR5.out.ext hx6)
            clear hx6
            go_wp2_with fail
            go_step3
            exact ⟨rfl, ⟨_, rfl, rfl, rfl⟩, ⟨_, HR6.out⟩, HX6.out, HNO.out⟩
          | true =>
            have HTX := Lib.hid (PoText_at q hok wr (HEN.out.ext HXR.out).pow)
            have HV := Lib.hid (hok ▸ PoValid_at q (by omega))
            have HOK := Lib.hid hok
            clear hok
            unfold Pol.v at HTX HV
            by_cases ht : q.text = s.data.toList
            · have htb : (q.text == s.toList) = true := by rw [ByteArray.toList_eq, ht]; exact beq_self_eq_true _
              have htc : (q.text != s.toList) = false := by rw [bne, htb]; rfl
              have HT := Lib.hid ht
              clear ht
              go_wp2_with fail
              refine HTX.out.mono ?_
              rintro _ w5 ⟨rfl, hx5⟩
              obtain ⟨c0, c1, c2, c3, c4, c5, c6, c7, c8, c9⟩ := (HPQ.out.ext hx5).cells
              have HX5 := Lib.hid (HXR.out.trans hx5); have HR5 := Lib.hid (HRZ.out.ext hx5); have HP5 := Lib.hid (HPQ.out.ext hx5)
              clear hx5
              go_wp2_with fail
              refine (HV.out w5).mono ?_
              rintro _ w6 ⟨rfl, hx6⟩
              obtain ⟨c0, c1, c2, c3, c4, c5, c6, c7, c8, c9⟩ := (HP5.out.ext hx6).cells
              have hr6 := HR5.out.ext hx6
              have f0 := hr6.soft 0; have f1 := hr6.soft 1; have f2 := hr6.soft 2; have f3 := hr6.soft 3; have f4 := hr6.soft 4; have f5 := hr6.soft 5; have f6 := hr6.soft 6; have f7 := hr6.soft 7; have f8 := hr6.soft 8; have f9 := hr6.soft 9
              obtain ⟨k0, k1, k2, k3, k4, k5, k6, k7, k8, k9⟩ := hr6.cells
              obtain ⟨WF, hWF, hxF, hpF⟩ := putPL (q := q) (HX5.out.trans hx6) (Nat.le_refl _) hr6
              have HXF := Lib.hid hxF; have HPF := Lib.hid hpF
              clear hx6 hxF hpF hr6
              go_wp2_with fail
              rw [jump_ret]
              obtain ⟨d0, d1, d2, d3, d4, d5, d6, d7, d8, d9⟩ := HPF.out.cells
              refine bodyPost_ret (v := .tuple #[q.v, .int .i64 0]) (by simp [results, Tryz.results23, go_sem, d0, d1, d2, d3, d4, d5, d6, d7, d8, d9, Pol.v]; try rfl) rfl ?_
              exact ⟨.inl ⟨q, HOK.out, HT.out, rfl⟩, HXF.out⟩
            · have htb : (q.text == s.toList) = false := by rw [ByteArray.toList_eq, beq_eq_false_iff_ne]; exact ht
              have htc : (q.text != s.toList) = true := by rw [bne, htb]; rfl
              have HNO := Lib.hid (show ∀ p : Pol, p.ok = true → p.text ≠ s.data.toList from no_of (fun p hp hh => by
                rw [HPWQ.out] at hp; injection hp with hp; subst hp; exact ht hh.2))
              clear ht
              go_wp2_with fail
              refine HTX.out.mono ?_
              rintro _ w5 ⟨rfl, hx5⟩
              obtain ⟨c0, c1, c2, c3, c4, c5, c6, c7, c8, c9⟩ := (HPQ.out.ext hx5).cells
              have HX5 := Lib.hid (HXR.out.trans hx5); have HR5 := Lib.hid (HRZ.out.ext hx5)
              clear hx5
              go_wp2_with fail
              refine (HV.out w5).mono ?_
              rintro _ w6 ⟨rfl, hx6⟩
              have HX6 := Lib.hid (HX5.out.trans hx6); have HR6 := Lib.hid (HR5.out.ext hx6)
              clear hx6
              go_wp2_with fail
              go_step3
              exact ⟨rfl, ⟨_, rfl, rfl, rfl⟩, ⟨_, HR6.out⟩, HX6.out, HNO.out⟩
    · have h8a : ((n : Int) != 8) = true := by rw [bne_iff_ne]; omega
      have h8b : ((n : Int) == 8) = false := by rw [beq_eq_false_iff_ne]; omega
      have HNO := Lib.hid (show ∀ p : Pol, p.ok = true → p.text ≠ s.data.toList from no_of (fun p hp => by
        unfold pw at hp
        rw [if_neg (by rw [← HN.out]; exact h8)] at hp
        cases hp))
      clear h8
      go_wp2_with fail
      go_step3
      exact ⟨rfl, ⟨_, rfl, rfl, rfl⟩, ⟨_, HRR.out.ext HXD.out⟩, HXX.out.trans HXD.out, HNO.out⟩
end Go.Proofs.YtgfjmmdkdhodiaaGreatDoor
