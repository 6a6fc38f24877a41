/- Names: the iterator of strings.SplitSeq at a dot. -/
import Derived.Test.YtnjmndofcpnmeaaGreatDoorTx4
import Derived.Test.YtnjmndofcpnmeaaGreatDoorTx6
import Derived.Test.YtnjmndofcpnmeaaGreatDoorTx8
import Derived.Test.YtnjmndofcpnmeaaGreatDoorShelf
import Derived.Lib.IndexLaws
import Derived.RangeFuncBound
import Derived.RangeFuncCalls
import Derived.OwnWalkIn
import Derived.TacticsInMore
import Derived.LoopNIn
import Derived.LoopIn
namespace Go.Proofs.YtnjmndofcpnmeaaGreatDoor
open Go Go.RowKit
set_option linter.unusedVariables false

/-- What is left behind k dots. -/
def rst (s : ByteArray) : Nat → ByteArray
  | 0 => s
  | k + 1 => (rst s k).extract ((Lib.indexByte (rst s k).data.toList 46).toNat + 1) (rst s k).size
theorem rst_size (s : ByteArray) : ∀ k, (rst s k).size ≤ s.size
  | 0 => Nat.le_refl _
  | k + 1 => by
    have := rst_size s k
    rw [rst, ByteArray.size_extract]; omega
theorem dot_none {l : List UInt8} (h : Lib.indexByte l 46 = -1) : spl [] l = [l] := by
  rw [spl_acc l [] (fun c hc e => by
    obtain ⟨k, hk, rfl⟩ := List.getElem_of_mem hc
    exact Lib.indexByte_none h k (by rw [List.getElem?_eq_getElem hk, Option.some.injEq]; exact u8_of (n := 46) (by omega) e))]
  rfl
theorem dot_some {l : List UInt8} {o : Nat} (h : Lib.indexByte l 46 = o) : o < l.length ∧ spl [] l = l.take o :: spl [] (l.drop (o + 1)) := by
  obtain ⟨h1, h2⟩ := Lib.indexByte_some h
  have hlt := (List.getElem?_eq_some_iff.1 h1).1
  refine ⟨hlt, ?_⟩
  have he : l = l.take o ++ 46 :: l.drop (o + 1) := by
    have h3 := (List.getElem?_eq_some_iff.1 h1).2
    conv => lhs; rw [← List.take_append_drop o l, List.drop_eq_getElem_cons hlt, h3]
  conv => lhs; rw [he]
  rw [spl_hit _ [] _ (fun c hc e => by
    obtain ⟨k, hk, hk2⟩ := List.getElem_of_mem hc
    have hk3 : k < o := by simp at hk; omega
    rw [List.getElem_take] at hk2
    refine h2 k hk3 ?_
    rw [List.getElem?_eq_getElem (by omega), hk2, Option.some.injEq]
    exact u8_of (n := 46) (by omega) e)]
  rfl
theorem index_dot (s : ByteArray) (w : World) : Calls Tryz.prog 161 #[.string s, .string ⟨#[46]⟩] w fun e w' => e = .returned (.int .i64 (Lib.indexByte s.data.toList 46)) ∧ w = w' :=
  (Tryz.strings_Index_one s 46 w).mono fun e w' h => ⟨h.1, h.2.symm⟩
theorem extract_drop (s : ByteArray) (o : Nat) : (s.extract o s.size).data.toList = s.data.toList.drop o := by
  simp only [ByteArray.data_extract, Array.toList_extract, List.extract_eq_take_drop]
  exact List.take_of_length_le (by rw [List.length_drop, size_list]; omega)

/-- What the iterator finds: the string that is left, the separator, how many bytes of it are kept. -/
def SpIt (s : ByteArray) (bs bp bv : Nat) (pre : List ByteArray) (W : World) : Prop :=
  W.heap[bs]? = some (.cells #[.string (rst s pre.length)] 9 (0, 0)) ∧ W.heap[bp]? = some (.cells #[.string ⟨#[46]⟩] 9 (0, 0)) ∧ W.heap[bv]? = some (.cells #[.int .i64 0] 3 (0, 0))
theorem SpIt.stab (B0 : Nat) (s : ByteArray) (bs bp bv : Nat) (pre : List ByteArray) : Stab B0 (SpIt s bs bp bv pre) := (Stab.heap _ _ _ _).and ((Stab.heap _ _ _ _).and (Stab.heap _ _ _ _))
theorem SpIt.ext {s : ByteArray} {bs bp bv : Nat} {pre : List ByteArray} {W W' : World} (h : SpIt s bs bp bv pre W) (hx : Ext W W') : SpIt s bs bp bv pre W' := ⟨hx.heap h.1, hx.heap h.2.1, hx.heap h.2.2⟩
def dat (xs : List ByteArray) : List (List UInt8) := xs.map (·.data.toList)
def SpG (s : ByteArray) (pre : List ByteArray) (x : ByteArray) (_ : World) : Prop := (∃ rest, spl [] s.data.toList = dat pre ++ x.data.toList :: rest) ∧ x.size ≤ s.size
def strsz (v : Option Value) : Nat := match v with | some (.string b) => b.size | _ => 0
attribute [local go_sem] Oper.semAt_some

set_option maxRecDepth 100000 in
set_option maxHeartbeats 2000000 in
theorem split_iter (s : ByteArray) (hs : s.size ≤ 4294967280) (bs bp bv : Nat) (h1 : bs ≠ bp) (h2 : bs ≠ bv) :
    IterP Tryz.prog 199 #[.pointer (some ⟨bp, 0, none⟩), .pointer (some ⟨bs, 0, none⟩), .pointer (some ⟨bv, 0, none⟩)] (fun x => #[.string x]) (SpIt s bs bp bv) (SpG s) (fun k => k = bs) (fun xs => dat xs = spl [] s.data.toList) (fun pre => ∃ rest, spl [] s.data.toList = dat pre ++ rest) := by
  intro lp J Jx W hJ hJx hY hit h0
  refine callsIn_of_wp Tryz.func199 rfl trivial ?_ rfl
  simp only [Tryz.ntmps199, List.size_toArray, List.length_cons, List.length_nil, Nat.reduceAdd, Nat.reduceSub, Array.replicate_succ, Array.replicate_zero, List.push_toArray, List.append_toArray, List.nil_append, List.cons_append]
  have k1 : W.cell? ⟨bp, 0, none⟩ = some (.string ⟨#[46]⟩) := by rw [cell_of_row _ _ 0 _ _ (0, 0) hit.2.1]; rfl
  gi_wp2
  gi_loopw [7] (fun _ wr => ∃ pre : List ByteArray, J pre wr ∧ SpIt s bs bp bv pre wr ∧ spl [] s.data.toList = dat pre ++ spl [] (rst s pre.length).data.toList) (fun _ wr => strsz (wr.cell? ⟨bs, 0, none⟩))
  case atStart => exact ⟨[], h0, hit, rfl⟩
  case round =>
    obtain ⟨pre, hj, hi, he⟩ := hrel
    have hz := rst_size s pre.length
    obtain ⟨cur, hcur⟩ : ∃ cur, rst s pre.length = cur := ⟨_, rfl⟩
    have c0 : wr.cell? ⟨bs, 0, none⟩ = some (.string cur) := by rw [cell_of_row _ _ 0 _ _ (0, 0) hi.1, ← hcur]; rfl
    have c1 : wr.cell? ⟨bp, 0, none⟩ = some (.string ⟨#[46]⟩) := by rw [cell_of_row _ _ 0 _ _ (0, 0) hi.2.1]; rfl
    have c2 : wr.cell? ⟨bv, 0, none⟩ = some (.int .i64 0) := by rw [cell_of_row _ _ 0 _ _ (0, 0) hi.2.2]; rfl
    rw [hcur] at he hz
    have HI := Lib.hid hi; have HE := Lib.hid he; have HC := Lib.hid hcur; have HJ := Lib.hid hj
    have hcs : cur.size ≤ 4294967280 := by omega
    clear hi he hcur hj hz k1
    have hge := Lib.indexByte_ge cur.data.toList 46
    obtain ⟨o, ho⟩ : ∃ o, Lib.indexByte cur.data.toList 46 = o := ⟨_, rfl⟩
    have HIX := Lib.hid (index_dot cur wr)
    rw [ho] at hge HIX
    have HO := Lib.hid ho; clear ho
    rcases (show o = -1 ∨ ∃ k : Nat, o = k by exact if h : o = -1 then .inl h else .inr ⟨o.toNat, by omega⟩) with rfl | ⟨k, rfl⟩
    · have hsp := dot_none HO.out
      have HS := Lib.hid (show spl [] s.data.toList = dat pre ++ [cur.data.toList] by rw [HE.out, hsp])
      clear hsp
      gi_wp2_with fail
      refine wide_call HIX.out ?_
      rintro e w' ⟨rfl, rfl⟩
      obtain ⟨fn, tmps, assign, body, hy, hR⟩ := hY pre cur wr HJ.out HI.out ⟨⟨[], HS.out⟩, by rw [← HC.out]; exact rst_size _ _⟩
      gi_wp2_with fail
      refine ⟨rfl, hR.mono ?_⟩
      rintro e W3 (⟨rfl, hJ3, hI3⟩ | ⟨rfl, hJx3⟩)
      · gi_wp2_with fail
        first | go_end0 | refine bodyPost_ret (results_none rfl _ _ _) rfl ?_
        exact ⟨⟨_, rfl⟩, .inl ⟨_, by rw [HS.out]; simp [dat], hJ3⟩⟩
      · gi_wp2_with fail
        first | go_end0 | refine bodyPost_ret (results_none rfl _ _ _) rfl ?_
        exact ⟨⟨_, rfl⟩, .inr ⟨_, ⟨[], by rw [HS.out]; simp [dat]⟩, hJx3⟩⟩
    · obtain ⟨hko, hsp⟩ := dot_some HO.out
      rw [size_list] at hko
      have HS := Lib.hid (show spl [] s.data.toList = dat (pre ++ [cur.extract 0 k]) ++ spl [] (cur.extract (k + 1) cur.size).data.toList by rw [HE.out, hsp, extract_drop]; simp [dat])
      have HR := Lib.hid (show rst s (pre ++ [cur.extract 0 k]).length = cur.extract (k + 1) cur.size by
        rw [List.length_append, List.length_singleton, rst, HC.out, HO.out]; rfl)
      clear hsp
      gi_wp2_with fail
      refine wide_call HIX.out ?_
      rintro e w' ⟨rfl, rfl⟩
      obtain ⟨fn, tmps, assign, body, hy, hR⟩ := hY pre (cur.extract 0 k) wr HJ.out HI.out ⟨⟨spl [] (cur.extract (k + 1) cur.size).data.toList, by rw [HS.out]; simp [dat]⟩, by have := rst_size s pre.length; rw [HC.out] at this; rw [ByteArray.size_extract]; omega⟩
      gi_wp2_with fail
      refine ⟨rfl, hR.mono ?_⟩
      rintro e W3 (⟨rfl, hJ3, hI3⟩ | ⟨rfl, hJx3⟩)
      · have c3 : W3.cell? ⟨bs, 0, none⟩ = some (.string cur) := by rw [cell_of_row _ _ 0 _ _ (0, 0) hI3.1, ← HC.out]; rfl
        have c4 : W3.cell? ⟨bp, 0, none⟩ = some (.string ⟨#[46]⟩) := by rw [cell_of_row _ _ 0 _ _ (0, 0) hI3.2.1]; rfl
        have f3 : W3.frozen? ⟨bs, 0, none⟩ = false := frozen_of_row W3 bs 0 _ _ hI3.1
        have HI3 := Lib.hid hI3; have HJ3 := Lib.hid hJ3; clear hI3 hJ3
        gi_wp2_with fail
        go_roundw
        case rel =>
          have hg := grown_set1 W3 bs (.string (cur.extract (k + 1) cur.size))
          refine ⟨pre ++ [cur.extract 0 k], hJ _ _ _ _ (fun j hj => by cases hj; rfl) hg HJ3.out, ⟨?_, heap_far hg HI3.out.2.1 (Ne.symm h1), heap_far hg HI3.out.2.2 (Ne.symm h2)⟩, ?_⟩
          · rw [HR.out]
            exact row1_set _ HI3.out.1
          · rw [HR.out]; exact HS.out
        case measure =>
          have e1 : (W3.setCell ⟨bs, 0, none⟩ (.string (cur.extract (k + 1) cur.size))).cell? ⟨bs, 0, none⟩ = some (.string (cur.extract (k + 1) cur.size)) := (row1 (row1_set _ HI3.out.1)).1
          rw [e1, c0]
          simp only [strsz, ByteArray.size_extract]
          omega
      · gi_wp2_with fail
        first | go_end0 | refine bodyPost_ret (results_none rfl _ _ _) rfl ?_
        exact ⟨⟨_, rfl⟩, .inr ⟨_, ⟨_, HS.out⟩, hJx3⟩⟩

theorem SplitSeq_at (s : ByteArray) (w : World) :
    Calls Tryz.prog 108 #[.string s, .string ⟨#[46]⟩] w fun e w' => e = .returned (.func (.func 199) #[] #[.pointer (some ⟨w.heap.size + 1, 0, none⟩), .pointer (some ⟨w.heap.size, 0, none⟩), .pointer (some ⟨w.heap.size + 1 + 1, 0, none⟩)]) ∧
      SpIt s w.heap.size (w.heap.size + 1) (w.heap.size + 1 + 1) [] w' ∧ w'.heap.size = w.heap.size + 3 ∧ Ext w w' := by
  have hmf : ∀ (fn : Fn) (first cap : Array Value) (w : World), (Instr.makeFunc fn first cap).run Tryz.prog w = .ok (.func fn first cap) w := fun _ _ _ _ => rfl
  have hin : Calls Tryz.prog 156 #[.string s, .string ⟨#[46]⟩, .int .i64 0] w fun e w' => e = .returned (.func (.func 199) #[] #[.pointer (some ⟨w.heap.size + 1, 0, none⟩), .pointer (some ⟨w.heap.size, 0, none⟩), .pointer (some ⟨w.heap.size + 1 + 1, 0, none⟩)]) ∧
      SpIt s w.heap.size (w.heap.size + 1) (w.heap.size + 1 + 1) [] w' ∧ w'.heap.size = w.heap.size + 3 ∧ Ext w w' := by
    go_enter Tryz.func156, Tryz.ntmps156
    go_wp2
    go_ret
    have x1 := (Ext.refl w).alloc (.cells #[.string s] 9)
    have x2 := (Ext.refl (w.alloc (.cells #[.string s] 9))).alloc (.cells #[.string ⟨#[46]⟩] 9)
    have x3 := (Ext.refl ((w.alloc (.cells #[.string s] 9)).alloc (.cells #[.string ⟨#[46]⟩] 9))).alloc (.cells #[.int .i64 0] 3)
    have a1 := heap_alloc_new w (.cells #[.string s] 9)
    have a2 := heap_alloc_new (w.alloc (.cells #[.string s] 9)) (.cells #[.string ⟨#[46]⟩] 9)
    have a3 := heap_alloc_new ((w.alloc (.cells #[.string s] 9)).alloc (.cells #[.string ⟨#[46]⟩] 9)) (.cells #[.int .i64 0] 3)
    rw [World.size_alloc] at a2
    rw [World.size_alloc, World.size_alloc] at a3
    exact ⟨rfl, ⟨(x2.trans x3).heap a1, x3.heap a2, a3⟩, by simp, (x1.trans x2).trans x3⟩
  have HIN := Lib.hid hin; clear hin
  go_enter Tryz.func108, Tryz.ntmps108
  go_wp2_with fail
  refine HIN.out.mono ?_
  rintro e w1 ⟨rfl, hit, hsz, hx⟩
  go_wp2_with fail
  go_ret
  exact ⟨rfl, hit, hsz, hx⟩
end Go.Proofs.YtnjmndofcpnmeaaGreatDoor
