/- Texts laid together (wip/tools/automerge.py): Lg12, Lg13, RowL, Lg2, Ad8. -/
import Derived.Test.YtnjmndofcpnmeaaGreatDoorTx27
import Derived.Test.YtnjmndofcpnmeaaGreatDoorTx3
import Derived.Test.YtnjmndofcpnmeaaGreatDoorTx6
import Derived.Test.YtnjmndofcpnmeaaGreatDoorTx0
import Derived.Test.YtnjmndofcpnmeaaGreatDoorTx15
import Derived.Test.YtnjmndofcpnmeaaGreatDoorTx1
import Derived.Deep.QuietTactic
import Derived.BigQuiet
namespace Go.Proofs.YtnjmndofcpnmeaaGreatDoor
open Go Go.RowKit Go.Shelf
set_option linter.unusedVariables false

end Go.Proofs.YtnjmndofcpnmeaaGreatDoor
namespace Go.Proofs.YtnjmndofcpnmeaaGreatDoor
open Go Go.RowKit
set_option linter.unusedVariables false

theorem cell_addj (w : World) (a : Addr) (n j : Nat) (hj : 0 < j) : w.cell? ⟨(a.add n).block, (a.add n).off + j, none⟩ = w.cell? (a.add (n + j)) := by
  rw [← add_of_add]
  conv => rhs; unfold Addr.add
  rw [if_neg (by omega)]
  rfl
/-- A fact of a list, cell by cell. -/
theorem FS.at_ {w : World} {A : Option Addr} {n c : Nat} {xs : List FV} (h : FS w (.slice A n c) xs) (k : Nat) (hk : k < xs.length) : xs[k].In w ∧ ∃ ad, A = some ad ∧ w.cell? (ad.add (k * 12)) = some (.int .i64 xs[k].t) ∧ w.cell? ⟨(ad.add (k * 12)).block, (ad.add (k * 12)).off + 1, none⟩ = some (.int .i64 xs[k].mi) ∧ w.cell? ⟨(ad.add (k * 12)).block, (ad.add (k * 12)).off + 2, none⟩ = some (.int .i64 xs[k].kd) ∧ w.cell? ⟨(ad.add (k * 12)).block, (ad.add (k * 12)).off + 3, none⟩ = some (.int .i64 xs[k].fk) ∧ w.cell? ⟨(ad.add (k * 12)).block, (ad.add (k * 12)).off + 4, none⟩ = some (.slice xs[k].FA xs[k].fb.length xs[k].fc) ∧ w.cell? ⟨(ad.add (k * 12)).block, (ad.add (k * 12)).off + 5, none⟩ = some (.slice xs[k].CA xs[k].cp.length xs[k].cc) ∧ w.cell? ⟨(ad.add (k * 12)).block, (ad.add (k * 12)).off + 6, none⟩ = some (.string xs[k].cr) ∧ w.cell? ⟨(ad.add (k * 12)).block, (ad.add (k * 12)).off + 7, none⟩ = some (.slice xs[k].SA xs[k].sp.length xs[k].sc) ∧ w.cell? ⟨(ad.add (k * 12)).block, (ad.add (k * 12)).off + 8, none⟩ = some (.string xs[k].sr) ∧ w.cell? ⟨(ad.add (k * 12)).block, (ad.add (k * 12)).off + 9, none⟩ = some (.int .i64 xs[k].co) ∧ w.cell? ⟨(ad.add (k * 12)).block, (ad.add (k * 12)).off + 10, none⟩ = some (.int .i64 xs[k].pr) ∧ w.cell? ⟨(ad.add (k * 12)).block, (ad.add (k * 12)).off + 11, none⟩ = some (.int .u32 (xs[k].fl.toNat : Int)) := by
  obtain ⟨A', c', he, _, _, h4⟩ := h
  injection he with e1 e2 e3
  subst e1
  obtain ⟨k1, ad, rfl, k3⟩ := h4 k hk
  refine ⟨k1, ad, rfl, ?_, ?_, ?_, ?_, ?_, ?_, ?_, ?_, ?_, ?_, ?_, ?_⟩
  · exact k3 0 _ rfl
  · rw [cell_addj w ad (k * 12) 1 (by decide)]; exact k3 1 _ rfl
  · rw [cell_addj w ad (k * 12) 2 (by decide)]; exact k3 2 _ rfl
  · rw [cell_addj w ad (k * 12) 3 (by decide)]; exact k3 3 _ rfl
  · rw [cell_addj w ad (k * 12) 4 (by decide)]; exact k3 4 _ rfl
  · rw [cell_addj w ad (k * 12) 5 (by decide)]; exact k3 5 _ rfl
  · rw [cell_addj w ad (k * 12) 6 (by decide)]; exact k3 6 _ rfl
  · rw [cell_addj w ad (k * 12) 7 (by decide)]; exact k3 7 _ rfl
  · rw [cell_addj w ad (k * 12) 8 (by decide)]; exact k3 8 _ rfl
  · rw [cell_addj w ad (k * 12) 9 (by decide)]; exact k3 9 _ rfl
  · rw [cell_addj w ad (k * 12) 10 (by decide)]; exact k3 10 _ rfl
  · rw [cell_addj w ad (k * 12) 11 (by decide)]; exact k3 11 _ rfl
theorem FS.shape {w : World} {v : Value} {xs : List FV} (h : FS w v xs) : ∃ A c, v = .slice A xs.length c ∧ xs.length ≤ c ∧ c ≤ maxLen := let ⟨A, c, h1, h2, h3, _⟩ := h; ⟨A, c, h1, h2, h3⟩
end Go.Proofs.YtnjmndofcpnmeaaGreatDoor
namespace Go.Proofs.YtnjmndofcpnmeaaGreatDoor
open Go Go.RowKit Go.WideShapes Go.ChangeShapes Go.ChangeAt Go.Deep
set_option linter.unusedVariables false

theorem i64_of_wf {a : Int} (h : (Lit.int .i64 a).wf = true) : i64B a := by
  simp only [Lit.wf, IntKind.min, IntKind.max, IntKind.signed, IntKind.bits, Bool.and_eq_true] at h
  unfold i64B
  simp at h
  omega
theorem u32_of_wf {a : Int} (h : (Lit.int .u32 a).wf = true) : 0 ≤ a ∧ a ≤ 4294967295 := by
  simp only [Lit.wf, IntKind.min, IntKind.max, IntKind.signed, IntKind.bits, Bool.and_eq_true] at h
  simp at h
  omega
/-- Strings in a field. -/
theorem rs_of_field {H : Type} {enc : TypeId × Value → H} {P : Program} {ts te : TypeId} (hts : P.underlying ts = some (.slice te)) (hte : P.underlying te = some .string) (hce : P.cellsOf te = 1) {W : World} {v : Value} {n : Nat} {y : DataW H × List MemPlace}
    (hf : DataW.trod enc P W 0 (fun _ => true) true n ts [v] = some y) : ∃ (A : Option Addr) (c : Nat) (ps : List ByteArray), v = .slice A ps.length c ∧ RS W (.slice A ps.length c) (sv ps) := by
  rcases Go.Deep.open_strs hts hte hce hf with ⟨hcs, _⟩ | ⟨a, len, cap, m, Sx, hcs, _, hl, hm, hmm, _, hcell⟩
  · simp only [List.cons.injEq, and_true] at hcs
    subst hcs
    exact ⟨none, 0, [], rfl, RS.nil W⟩
  · simp only [List.cons.injEq, and_true] at hcs
    subst hcs
    simp only [if_true] at hmm
    have hlen : ((List.range len).map Sx).length = len := by simp
    refine ⟨some a, cap, (List.range len).map Sx, by rw [hlen], ?_⟩
    rw [hlen]
    refine ⟨some a, cap, by rw [sv_length, hlen], by rw [sv_length, hlen]; exact hl, hm, fun hp => ⟨a, rfl, ?_, fun j u hu => ?_⟩⟩
    · rw [sv_length, hlen] at hp
      have := World.block_lt_of_cell? W (a.add 0) (hcell 0 (by omega)).1
      rwa [block_of_add] at this
    · have hj : j < len := by
        have := (List.getElem?_eq_some_iff.1 hu).1
        rwa [sv_length, hlen] at this
      rw [(hcell j (by omega)).1]
      rw [sv_get _ j (by rw [hlen]; exact hj)] at hu
      rw [← hu]
      simp
theorem cells_int : Tryz.prog.cellsOf 3 = 1 := by kernel_rfl
theorem cells_kind : Tryz.prog.cellsOf 31 = 1 := by kernel_rfl
theorem cells_adr : Tryz.prog.cellsOf 34 = 2 := by kernel_rfl
theorem cells_prin : Tryz.prog.cellsOf 37 = 2 := by kernel_rfl
theorem cells_flags : Tryz.prog.cellsOf 39 = 1 := by kernel_rfl
theorem cells_fact : Tryz.prog.cellsOf 41 = 12 := by kernel_rfl
theorem cells_bs : Tryz.prog.cellsOf 32 = 1 := by kernel_rfl
theorem cells_ss : Tryz.prog.cellsOf 35 = 1 := by kernel_rfl
theorem cells_str : Tryz.prog.cellsOf 9 = 1 := by kernel_rfl
section
variable {H : Type} {enc : TypeId × Value → H} {W : World} {n : Nat}
theorem adr_of_cs {a b : Value} {x : DataW H × List MemPlace} (h : DataW.trod enc Tryz.prog W 0 (fun _ => true) true n 34 [a, b] = some x) : ∃ (k : Int) (A : Option Addr) (c : Nat) (l : List UInt8), a = .int .i64 k ∧ b = .slice A l.length c ∧ BS W (.slice A l.length c) l ∧ i64B k := by
  obtain ⟨xs, m, _, _, hl, hlen, hf⟩ := DataW.trod_struct Tryz.underlying34 h
  match xs, hlen with
  | [y0, y1], _ =>
    have k0 : DataW.trod enc Tryz.prog W 0 (fun _ => true) true m 3 (([a, b].drop 0).take (Tryz.prog.cellsOf 3)) = some y0 := hf 0 _ rfl
    have k1 : DataW.trod enc Tryz.prog W 0 (fun _ => true) true m 32 (([a, b].drop 1).take (Tryz.prog.cellsOf 32)) = some y1 := hf 1 _ rfl
    rw [cells_int] at k0
    rw [cells_bs] at k1
    obtain ⟨k, e0, _, w0⟩ := DataW.trod_int Tryz.underlying3 (show DataW.trod enc Tryz.prog W 0 (fun _ => true) true m 3 [a] = some y0 from k0)
    obtain ⟨A, c, l, e1, hl⟩ := bs_of_field Tryz.underlying32 Tryz.underlying5 (by kernel_rfl) (show DataW.trod enc Tryz.prog W 0 (fun _ => true) true m 32 [b] = some y1 from k1)
    simp only [List.cons.injEq, and_true] at e0
    exact ⟨k, A, c, l, e0, e1, hl, i64_of_wf w0⟩
theorem prin_of_cs {a b : Value} {x : DataW H × List MemPlace} (h : DataW.trod enc Tryz.prog W 0 (fun _ => true) true n 37 [a, b] = some x) : ∃ (A : Option Addr) (c : Nat) (ps : List ByteArray) (r : ByteArray), a = .slice A ps.length c ∧ b = .string r ∧ RS W (.slice A ps.length c) (sv ps) := by
  obtain ⟨xs, m, _, _, hl, hlen, hf⟩ := DataW.trod_struct Tryz.underlying37 h
  match xs, hlen with
  | [y0, y1], _ =>
    have k0 : DataW.trod enc Tryz.prog W 0 (fun _ => true) true m 35 (([a, b].drop 0).take (Tryz.prog.cellsOf 35)) = some y0 := hf 0 _ rfl
    have k1 : DataW.trod enc Tryz.prog W 0 (fun _ => true) true m 9 (([a, b].drop 1).take (Tryz.prog.cellsOf 9)) = some y1 := hf 1 _ rfl
    rw [cells_ss] at k0
    rw [cells_str] at k1
    obtain ⟨A, c, ps, e0, hr⟩ := rs_of_field Tryz.underlying35 Tryz.underlying9 (by kernel_rfl) (show DataW.trod enc Tryz.prog W 0 (fun _ => true) true m 35 [a] = some y0 from k0)
    obtain ⟨s, e1, _, _⟩ := DataW.trod_string Tryz.underlying9 (show DataW.trod enc Tryz.prog W 0 (fun _ => true) true m 9 [b] = some y1 from k1)
    simp only [List.cons.injEq, and_true] at e1
    exact ⟨A, c, ps, s, e0, e1, hr⟩
set_option maxRecDepth 100000 in
/-- A fact's twelve cells. -/
theorem fact_of_cs {cs : List Value} {x : DataW H × List MemPlace} (h : DataW.trod enc Tryz.prog W 0 (fun _ => true) true n 41 cs = some x) : ∃ f : FV, cs = f.cs ∧ f.In W ∧ f.Wf := by
  obtain ⟨xs, m, _, _, hl, hlen, hf⟩ := DataW.trod_struct Tryz.underlying41 h
  rw [cells_fact] at hl
  match cs, hl, hf with
  | [c0, c1, c2, c3, c4, c5, c6, c7, c8, c9, c10, c11], _, hf =>
    match xs, hlen, hf with
    | [y0, y1, y2, y3, y4, y5, y6, y7, y8], _, hf =>
      have k0 : DataW.trod enc Tryz.prog W 0 (fun _ => true) true m 3 (([c0, c1, c2, c3, c4, c5, c6, c7, c8, c9, c10, c11].drop 0).take (Tryz.prog.cellsOf 3)) = some y0 := hf 0 _ rfl
      have k1 : DataW.trod enc Tryz.prog W 0 (fun _ => true) true m 3 (([c0, c1, c2, c3, c4, c5, c6, c7, c8, c9, c10, c11].drop 1).take (Tryz.prog.cellsOf 3)) = some y1 := hf 1 _ rfl
      have k2 : DataW.trod enc Tryz.prog W 0 (fun _ => true) true m 31 (([c0, c1, c2, c3, c4, c5, c6, c7, c8, c9, c10, c11].drop 2).take (Tryz.prog.cellsOf 31)) = some y2 := hf 2 _ rfl
      have k3 : DataW.trod enc Tryz.prog W 0 (fun _ => true) true m 34 (([c0, c1, c2, c3, c4, c5, c6, c7, c8, c9, c10, c11].drop 3).take (Tryz.prog.cellsOf 34)) = some y3 := hf 3 _ rfl
      have k4 : DataW.trod enc Tryz.prog W 0 (fun _ => true) true m 37 (([c0, c1, c2, c3, c4, c5, c6, c7, c8, c9, c10, c11].drop 5).take (Tryz.prog.cellsOf 37)) = some y4 := hf 4 _ rfl
      have k5 : DataW.trod enc Tryz.prog W 0 (fun _ => true) true m 37 (([c0, c1, c2, c3, c4, c5, c6, c7, c8, c9, c10, c11].drop 7).take (Tryz.prog.cellsOf 37)) = some y5 := hf 5 _ rfl
      have k6 : DataW.trod enc Tryz.prog W 0 (fun _ => true) true m 3 (([c0, c1, c2, c3, c4, c5, c6, c7, c8, c9, c10, c11].drop 9).take (Tryz.prog.cellsOf 3)) = some y6 := hf 6 _ rfl
      have k7 : DataW.trod enc Tryz.prog W 0 (fun _ => true) true m 3 (([c0, c1, c2, c3, c4, c5, c6, c7, c8, c9, c10, c11].drop 10).take (Tryz.prog.cellsOf 3)) = some y7 := hf 7 _ rfl
      have k8 : DataW.trod enc Tryz.prog W 0 (fun _ => true) true m 39 (([c0, c1, c2, c3, c4, c5, c6, c7, c8, c9, c10, c11].drop 11).take (Tryz.prog.cellsOf 39)) = some y8 := hf 8 _ rfl
      rw [cells_int] at k0 k1 k6 k7
      rw [cells_kind] at k2
      rw [cells_adr] at k3
      rw [cells_prin] at k4 k5
      rw [cells_flags] at k8
      obtain ⟨t, e0, _, w0⟩ := DataW.trod_int Tryz.underlying3 (show DataW.trod enc Tryz.prog W 0 (fun _ => true) true m 3 [c0] = some y0 from k0)
      obtain ⟨mi, e1, _, w1⟩ := DataW.trod_int Tryz.underlying3 (show DataW.trod enc Tryz.prog W 0 (fun _ => true) true m 3 [c1] = some y1 from k1)
      obtain ⟨kd, e2, _, w2⟩ := DataW.trod_int Tryz.underlying31 (show DataW.trod enc Tryz.prog W 0 (fun _ => true) true m 31 [c2] = some y2 from k2)
      obtain ⟨fk, FA, fc, fb, e3, e4, h3, w3⟩ := adr_of_cs (show DataW.trod enc Tryz.prog W 0 (fun _ => true) true m 34 [c3, c4] = some y3 from k3)
      obtain ⟨CA, cc, cp, cr, e5, e6, h4⟩ := prin_of_cs (show DataW.trod enc Tryz.prog W 0 (fun _ => true) true m 37 [c5, c6] = some y4 from k4)
      obtain ⟨SA, sc, sp, sr, e7, e8, h5⟩ := prin_of_cs (show DataW.trod enc Tryz.prog W 0 (fun _ => true) true m 37 [c7, c8] = some y5 from k5)
      obtain ⟨co, e9, _, w6⟩ := DataW.trod_int Tryz.underlying3 (show DataW.trod enc Tryz.prog W 0 (fun _ => true) true m 3 [c9] = some y6 from k6)
      obtain ⟨pr, e10, _, w7⟩ := DataW.trod_int Tryz.underlying3 (show DataW.trod enc Tryz.prog W 0 (fun _ => true) true m 3 [c10] = some y7 from k7)
      obtain ⟨fl, e11, _, w8⟩ := DataW.trod_int Tryz.underlying39 (show DataW.trod enc Tryz.prog W 0 (fun _ => true) true m 39 [c11] = some y8 from k8)
      obtain ⟨F, rfl⟩ := u32_of fl (u32_of_wf w8).1 (u32_of_wf w8).2
      simp only [List.cons.injEq, and_true] at e0 e1 e2 e9 e10 e11
      subst e0; subst e1; subst e2; subst e3; subst e4; subst e5; subst e6; subst e7; subst e8; subst e9; subst e10; subst e11
      exact ⟨⟨t, mi, kd, fk, FA, fb, fc, CA, cp, cc, cr, SA, sp, sc, sr, co, pr, F⟩, rfl, ⟨h3, h4, h5⟩, ⟨i64_of_wf w0, i64_of_wf w1, i64_of_wf w2, w3, i64_of_wf w6, i64_of_wf w7⟩⟩
end
set_option maxRecDepth 100000 in
/-- A fact by value. -/
theorem fact_of_trod {H : Type} {enc : TypeId × Value → H} {r : Reach} {base : Nat} {W : World} {v : Value} {d : DataW H} {qs : List MemPlace}
    (hv : Value.okWide Tryz.prog W r base 41 v) (h : DataW.Trod enc Tryz.prog W 0 (fun _ => true) true 41 v d qs) : ∃ f : FV, v = f.val ∧ f.In W ∧ f.Wf := by
  obtain ⟨cs, rfl, hsz⟩ := okWide_struct Tryz.underlying41 hv
  obtain ⟨fuel, hf⟩ := h
  obtain ⟨f, e, h1, h2⟩ := fact_of_cs hf
  refine ⟨f, ?_, h1, h2⟩
  have e2 : cs.toList = f.cs := e
  rw [show cs = f.cs.toArray by rw [← e2]]
  rfl
end Go.Proofs.YtnjmndofcpnmeaaGreatDoor
namespace Go.Proofs.YtnjmndofcpnmeaaGreatDoor
open Go Go.RowKit
set_option linter.unusedVariables false

set_option maxRecDepth 100000 in
theorem RNone_at (A : Option Addr) (n c : Nat) (r : ByteArray) (w : World) : Calls Tryz.prog 77 #[.agg #[.slice A n c, .string r]] w fun e w' => e = .returned (.bool (decide (n = 0) && r.toList.isEmpty)) ∧ Ext w w' := by
  have hg := heap_alloc_new w (.cells #[.slice A n c, .string r] 37)
  have hx := (Ext.refl w).alloc (.cells #[.slice A n c, .string r] 37)
  obtain ⟨W1, e1⟩ : ∃ W, w.alloc (.cells #[.slice A n c, .string r] 37) = W := ⟨_, rfl⟩
  rw [e1] at hg hx
  have c0 : W1.cell? ⟨w.heap.size, 0, none⟩ = some (.slice A n c) := by rw [cell_of_row _ w.heap.size 0 _ _ (0, 0) hg]; rfl
  have c1 : W1.cell? ⟨w.heap.size, 1, none⟩ = some (.string r) := by rw [cell_of_row _ w.heap.size 1 _ _ (0, 0) hg]; rfl
  have HX := Lib.hid hx
  clear hg hx
  by_cases hn : n = 0
  · subst hn
    go_enter Tryz.func77, Tryz.ntmps77
    go_wp2
    go_ret
    exact ⟨by simp, HX.out⟩
  · have q : ((n : Int) == 0) = false := by rw [beq_eq_false_iff_ne]; omega
    rw [decide_eq_false hn, Bool.false_and]
    clear hn
    go_enter Tryz.func77, Tryz.ntmps77
    go_wp2
    go_ret
    exact ⟨rfl, HX.out⟩
end Go.Proofs.YtnjmndofcpnmeaaGreatDoor
namespace Go.Proofs.YtnjmndofcpnmeaaGreatDoor
open Go Go.RowKit
set_option linter.unusedVariables false

end Go.Proofs.YtnjmndofcpnmeaaGreatDoor
