/- The iterator Elements. -/
import Derived.Test.YtmbmhepmeajnoaaDer6
import Derived.Test.YtmbmhepmeajnoaaElPure
import Derived.Test.YtmbmhepmeajnoaaRange
import Derived.RangeFuncBound
import Derived.RangeFuncCalls
import Derived.OwnWalkIn
import Derived.TacticsInMore
import Derived.LoopNIn
import Derived.LoopIn
namespace Go.Proofs.Ytmbmhepmeajnoaa
open Go Go.RowKit
attribute [local go_sem] Oper.semAt_some

/-- What the iterator finds: its box, the bytes. -/
def ElIt (g B : Nat) (A : Option Addr) (c : Nat) (l : List UInt8) (W : World) : Prop :=
  W.heap[g]? = some (.cells #[.slice A l.length c] 24 (0, 0)) ∧ BS W (.slice A l.length c) l ∧ B ≤ W.heap.size
theorem ElIt.ext {g B : Nat} {A : Option Addr} {c : Nat} {l : List UInt8} {W W' : World} (h : ElIt g B A c l W) (hx : Ext W W') : ElIt g B A c l W' := ⟨hx.heap h.1, h.2.1.ext hx, Nat.le_trans h.2.2 hx.size⟩
theorem ElIt.stab (B0 g B : Nat) (A : Option Addr) (c : Nat) (l : List UInt8) : Stab B0 (ElIt g B A c l) := (Stab.heap _ _ _ _).and ((Stab.bs _ _).and (Stab.size _))
/-- What is handed over: an offset, a slice, its bytes. -/
structure El where
  at_ : Nat
  A : Option Addr
  c : Nat
  b : List UInt8
def El.key (x : El) : Nat × List UInt8 := (x.at_, x.b)
def El.encs (x : El) : Array Value := #[.int .i64 (x.at_ : Int), .slice x.A x.b.length x.c]
def ElG (B : Nat) (l : List UInt8) (pre : List El) (x : El) (W : World) : Prop := (∃ rest, elemsAt l 0 = pre.map El.key ++ x.key :: rest) ∧ OB 5 W B (.slice x.A x.b.length x.c) x.b

set_option maxRecDepth 100000 in
set_option maxHeartbeats 1000000 in
theorem elements_iter (g B : Nat) (A : Option Addr) (c : Nat) (l : List UInt8) (hl : l.length ≤ 140737488355328) :
    Iter Try.prog 59 #[.pointer (some ⟨g, 0, none⟩)] El.encs (ElIt g B A c l) (ElG B l) (fun _ => False) (fun xs => xs.map El.key = elemsAt l 0) (fun pre => ∃ rest, elemsAt l 0 = pre.map El.key ++ rest) := by
  intro lp J Jx W hJ hJx hY hit h0
  refine callsIn_of_wp Try.func59 rfl trivial ?_ rfl
  simp only [Try.ntmps59, List.size_toArray, List.length_cons, List.length_nil, Nat.reduceAdd, Nat.reduceSub, Array.replicate_succ, Array.replicate_zero, List.push_toArray, List.append_toArray, List.nil_append, List.cons_append]
  gi_wp2
  gi_loopw [3] (fun i wr => ∃ (k : Nat) (pre : List El), i = .int .i64 k ∧ k ≤ l.length ∧ J pre wr ∧ ElIt g B A c l wr ∧ elemsAt l 0 = pre.map El.key ++ elemsAt l k) (fun i _ => l.length - (intOf i).toNat)
  case atStart => exact ⟨0, [], rfl, Nat.zero_le _, h0, hit, rfl⟩
  case round =>
    obtain ⟨k, pre, rfl, hk, hj, hi, he⟩ := hrel
    have hcell : wr.cell? ⟨g, 0, none⟩ = some (.slice A l.length c) := by rw [cell_of_row _ _ 0 _ _ (0, 0) hi.1]; rfl
    by_cases hlt : k < l.length
    · obtain ⟨m, hm⟩ : ∃ m, l.drop k = m := ⟨_, rfl⟩
      obtain ⟨A1, c1, hb1, hs1⟩ := run_slice1 (P := Try.prog) wr 24 A c l k m hm hk Try.underlying24 (info_parts u8info |>.elim fun i hi => ⟨i, hi.1, hi.2.2.1⟩) hi.2.1
      obtain ⟨⟨rb, re, rr⟩, hr⟩ : ∃ r, measureF m = r := ⟨_, rfl⟩
      by_cases her : rr = 0
      · subst her
        have hok := measureF_ok _ _ _ hr
        have hml : m.length = l.length - k := by rw [← hm]; simp
        have hre : k + re ≤ l.length := by omega
        have hre2 : 2 ≤ re := by omega
        obtain ⟨x, hx⟩ : ∃ x, (l.take (k + re)).drop k = x := ⟨_, rfl⟩
        have hxl : x.length ≤ l.length := by rw [← hx]; simp; omega
        obtain ⟨A2, c2, hb2, hs2'⟩ := run_slice12 (P := Try.prog) wr 24 A c l k (k + re) x hx (by omega) hre Try.underlying24 (info_parts u8info |>.elim fun i hi => ⟨i, hi.1, hi.2.2.1⟩) hi.2.1
        have hs2 : ∀ w' : World, (Instr.slice 24 (.slice A l.length c) (some (.int .i64 (k : Int))) (some (.int .i64 ((k : Int) + (re : Int)))) none).run Try.prog w' = .ok (.slice A2 x.length c2) w' := fun w' => by
          have := hs2' w'
          rwa [Int.natCast_add] at this
        clear hs2'
        have hnext : elemsAt l k = (k, x) :: elemsAt l (k + re) := by
          rw [elemsAt_next l k rb re hlt (by rw [hm]; exact hr)]
          have : (l.drop k).take re = x := by rw [← hx]; have := drop_take_swap l k 0 re; simpa using this
          rw [this]
        have HN := Lib.hid hnext; have HE := Lib.hid he; have HX := Lib.hid hx; have HM := Lib.hid hm; have HR := Lib.hid hr
        clear hnext he hx hm hml hok hr
        gi_wp2_with fail
        refine wide_call (measure_at A1 c1 m wr hb1 _ HR.out) ?_
        rintro e w1 ⟨rfl, hx1⟩
        have hcell1 := hx1.cell hcell
        gi_wp2_with fail
        refine wide_call (Clone_at A2 c2 x w1 (hb2.ext hx1) (by omega)) ?_
        rintro e w2 ⟨A3, c3, rfl, hob, hx2⟩
        have hx12 := hx1.trans hx2
        have hi2 := hi.ext hx12
        have hj2 : J pre w2 := hJ pre wr w2 none (by simp) ⟨hx12.os, hx12.tape, hx12.output, hx12.size, fun k hk _ => hx12.block k hk⟩ hj
        obtain ⟨fn, tmps, assign, body, hy, hR⟩ := hY pre ⟨k, A3, c3, x⟩ w2 hj2 hi2 ⟨⟨elemsAt l (k + re), by rw [HE.out, HN.out]; rfl⟩, hob.mono (Nat.le_trans hi.2.2 hx1.size)⟩
        dsimp only [El.encs] at hy
        clear hx12 hx1 hx2 hcell1 hs1 hs2
        gi_wp2_with fail
        refine ⟨rfl, hR.mono ?_⟩
        rintro e W3 (⟨rfl, hJ3, hI3⟩ | ⟨rfl, hJx3⟩)
        · gi_wp2_with fail
          go_roundw
          case rel => exact ⟨k + re, pre ++ [⟨k, A3, c3, x⟩], by go_num, hre, hJ3, hI3, by rw [HE.out, HN.out]; simp [El.key]⟩
          case measure => simp [intOf] <;> omega
        · gi_wp2_with fail
          refine bodyPost_ret (results_none rfl _ _ _) rfl ?_
          exact ⟨⟨_, rfl⟩, .inr ⟨_, ⟨elemsAt l (k + re), by rw [HE.out, HN.out]; simp [El.key]⟩, hJx3⟩⟩
      · have hne : ((rr : Int) != 0) = true := by simp; omega
        have hbad : elemsAt l k = [] := elemsAt_bad l k (by rw [hm, hr]; exact her)
        have HB := Lib.hid hbad; have HE := Lib.hid he; have HR := Lib.hid hr; have HER := Lib.hid her
        clear hbad he hr her hm
        gi_wp2_with fail
        refine wide_call (measure_at A1 c1 m wr hb1 _ HR.out) ?_
        rintro e w1 ⟨rfl, hx1⟩
        gi_wp2_with fail
        refine ⟨trivial, ?_⟩
        gi_wp2_with fail
        refine ⟨fun f hf => by simp at hf, ?_⟩
        gi_wp2_with fail
        refine bodyPost_ret (results_none rfl _ _ _) rfl ?_
        exact ⟨⟨_, rfl⟩, .inl ⟨pre, by rw [HE.out, HB.out]; simp, hJ pre wr w1 none (by simp) ⟨hx1.os, hx1.tape, hx1.output, hx1.size, fun k hk _ => hx1.block k hk⟩ hj, hi.ext hx1⟩⟩
    · have hend : elemsAt l k = [] := elemsAt_end l k (by omega)
      have hke : k = l.length := by omega
      have HB := Lib.hid hend; have HE := Lib.hid he
      clear hend he
      subst hke
      gi_wp2_with fail
      first | go_end0 | refine bodyPost_ret (results_none rfl _ _ _) rfl ?_
      exact ⟨⟨_, rfl⟩, .inl ⟨pre, by rw [HE.out, HB.out]; simp, hj, hi⟩⟩

set_option maxRecDepth 100000 in
theorem Elements_at (A : Option Addr) (c : Nat) (l : List UInt8) (w : World) (h : BS w (.slice A l.length c) l) (hl : l.length ≤ 140737488355328) :
    Calls Try.prog 29 #[.slice A l.length c] w fun e w' => ∃ A' c', e = .returned (.func (.func 59) #[] #[.pointer (some ⟨w.heap.size, 0, none⟩)]) ∧ ElIt w.heap.size 0 A' c' l w' ∧ OB 5 w' (w.heap.size + 1) (.slice A' l.length c') l ∧ Ext w w' := by
  have hmf : ∀ (fn : Fn) (first cap : Array Value) (w : World), (Instr.makeFunc fn first cap).run Try.prog w = .ok (.func fn first cap) w := fun _ _ _ _ => rfl
  go_enter Try.func29, Try.ntmps29
  go_wp2_with fail
  refine (Clone_at A c l _ (h.ext ((Ext.refl w).alloc _)) hl).mono ?_
  rintro e w1 ⟨A1, c1, rfl, hob, hx1⟩
  have hg := hx1.heap (heap_alloc_new w (.cells #[.slice A l.length c] 24))
  have k0 : w1.cell? ⟨w.heap.size, 0, none⟩ = some (.slice A l.length c) := by rw [cell_of_row _ _ 0 _ _ (0, 0) hg]; rfl
  have f0 := frozen_of_row w1 w.heap.size 0 _ _ hg
  go_wp2_with fail
  go_ret
  have hsz : (w.alloc (.cells #[.slice A l.length c] 24)).heap.size = w.heap.size + 1 := by simp
  rw [hsz] at hob
  have e0 := heap_setCell_same w1 w.heap.size 0 _ _ (.slice A1 l.length c1) hg
  have hgr : w1.grownBy (w1.setCell ⟨w.heap.size, 0, none⟩ (.slice A1 l.length c1)) (some w.heap.size) := grown_set (grown_refl _ _) 0 _
  have hob2 : OB 5 (w1.setCell ⟨w.heap.size, 0, none⟩ (.slice A1 l.length c1)) (w.heap.size + 1) (.slice A1 l.length c1) l := by
    refine ⟨hob.1, ?_⟩
    rcases hob.2 with hh | ⟨g, cap, cur, hv, hb, hh, r⟩
    · exact .inl hh
    · exact .inr ⟨g, cap, cur, hv, hb, (hgr.block g (Array.getElem?_eq_some_iff.1 hh).1 (by intro e; cases e; omega)).trans hh, r⟩
  refine ⟨A1, c1, rfl, ⟨?_, hob2.bs, Nat.zero_le _⟩, hob2, (((Ext.refl w).alloc _).trans hx1).setCell (Nat.le_refl _) _⟩
  rw [e0]; rfl
#print axioms elements_iter
end Go.Proofs.Ytmbmhepmeajnoaa
