/- Texts laid together (wip/tools/automerge.py): Nm1, Nm2, NmPar, Wm. -/
import Derived.Test.YtgclchdccgkjaaaDoorMg5
import Derived.Handy
import Derived.Test.YtgclchdccgkjaaaDoorMg4
import Derived.Test.YtgclchdccgkjaaaDoorShelf
import Derived.Lib.IndexLaws
import Derived.RangeFuncBound
import Derived.RangeFuncCalls
import Derived.OwnWalkIn
import Derived.TacticsInMore
import Derived.LoopNIn
import Derived.LoopIn
import Derived.Lib.IndexMore
namespace Go.Proofs.YtgclchdccgkjaaaDoor
open Go Go.RowKit
set_option linter.unusedVariables false

theorem size_list (s : ByteArray) : s.data.toList.length = s.size := by rw [Array.length_toList]; rfl
theorem sized_at (s : ByteArray) (w : World) :
    Calls Tryd.prog 36 #[.string s] w fun e w' => e = .returned (.bool (sizedB s.data.toList)) ∧ w = w' := by
  have e : sizedB s.data.toList = decide (1 ≤ s.size ∧ s.size ≤ 32) := by unfold sizedB; rw [size_list]
  rw [e]; clear e
  by_cases h1 : 1 ≤ s.size
  · by_cases h2 : s.size ≤ 32
    · have e : decide (1 ≤ s.size ∧ s.size ≤ 32) = true := decide_eq_true ⟨h1, h2⟩
      rw [e]
      have d1 : 1 ≤ (s.size : Int) := by omega
      have d2 : decide ((s.size : Int) ≤ 32) = true := decide_eq_true (by omega)
      clear h1 h2 e
      go_enter Tryd.func36, Tryd.ntmps36
      go_wp2
      go_ret
      exact ⟨rfl, rfl⟩
    · have e : decide (1 ≤ s.size ∧ s.size ≤ 32) = false := decide_eq_false (fun h => h2 h.2)
      rw [e]
      have d1 : 1 ≤ (s.size : Int) := by omega
      have d2 : decide ((s.size : Int) ≤ 32) = false := decide_eq_false (by omega)
      clear h1 h2 e
      go_enter Tryd.func36, Tryd.ntmps36
      go_wp2
      go_ret
      exact ⟨rfl, rfl⟩
  · have e : decide (1 ≤ s.size ∧ s.size ≤ 32) = false := decide_eq_false (fun h => h1 h.1)
    rw [e]
    have d1 : decide (1 ≤ (s.size : Int)) = false := decide_eq_false (by omega)
    have d2 : (s.size : Int) < 1 := by omega
    clear h1 e
    go_enter Tryd.func36, Tryd.ntmps36
    go_wp2
    go_ret
    exact ⟨rfl, rfl⟩

theorem special_at (c : UInt8) (w : World) :
    Calls Tryd.prog 38 #[.int .u8 (c.toNat : Int)] w fun e w' => e = .returned (.bool (spc c)) ∧ w = w' := by
  by_cases h1 : c.toNat = 47
  · have e : spc c = true := by unfold spc; exact decide_eq_true (.inl h1)
    have d1 : ((c.toNat : Int) == 47) = true := by rw [h1]; rfl
    rw [e]; clear h1 e
    go_enter Tryd.func38, Tryd.ntmps38
    go_wp2
    go_ret
    exact ⟨rfl, rfl⟩
  · have d1 : ((c.toNat : Int) == 47) = false := by rw [beq_eq_false_iff_ne]; omega
    by_cases h2 : c.toNat = 64
    · have e : spc c = true := by unfold spc; exact decide_eq_true (.inr (.inl h2))
      have d2 : ((c.toNat : Int) == 64) = true := by rw [h2]; rfl
      rw [e]; clear h1 h2 e
      go_enter Tryd.func38, Tryd.ntmps38
      go_wp2
      go_ret
      exact ⟨rfl, rfl⟩
    · have d2 : ((c.toNat : Int) == 64) = false := by rw [beq_eq_false_iff_ne]; omega
      by_cases h3 : c.toNat = 92
      · have e : spc c = true := by unfold spc; exact decide_eq_true (.inr (.inr h3))
        have d3 : ((c.toNat : Int) == 92) = true := by rw [h3]; rfl
        rw [e]; clear h1 h2 h3 e
        go_enter Tryd.func38, Tryd.ntmps38
        go_wp2
        go_ret
        exact ⟨rfl, rfl⟩
      · have e : spc c = false := by unfold spc; exact decide_eq_false (by omega)
        have d3 : ((c.toNat : Int) == 92) = false := by rw [beq_eq_false_iff_ne]; omega
        rw [e]; clear h1 h2 h3 e
        go_enter Tryd.func38, Tryd.ntmps38
        go_wp2
        go_ret
        exact ⟨rfl, rfl⟩

theorem take_at (s : ByteArray) (k : Nat) (h : k < s.size) : s.data.toList.take (k + 1) = s.data.toList.take k ++ [s[k]] := by
  rw [List.take_succ_eq_append_getElem (by rw [Array.length_toList]; exact h)]; rfl
theorem all_take_no {p : UInt8 → Bool} {s : ByteArray} {k : Nat} (h : k < s.size) (hp : p s[k] = false) : s.data.toList.all p = false := by
  rw [List.all_eq_false]
  exact ⟨s[k], Array.getElem_mem_toList _, by rw [hp]; simp⟩
theorem all_take_yes {p : UInt8 → Bool} {s : ByteArray} {k : Nat} (h : k < s.size) (ha : (s.data.toList.take k).all p = true) (hp : p s[k] = true) : (s.data.toList.take (k + 1)).all p = true := by
  rw [take_at s k h, List.all_append, ha]; simp [hp]
theorem prtc_no {c : UInt8} (h : (c.toNat : Int) < 33 ∨ 126 < (c.toNat : Int)) : prtc c = false := by unfold prtc; exact decide_eq_false (by omega)
theorem prtc_yes {c : UInt8} (h : 33 ≤ (c.toNat : Int)) (h2 : (c.toNat : Int) ≤ 126) : prtc c = true := by unfold prtc; exact decide_eq_true (by omega)

set_option maxRecDepth 100000 in
theorem Part_at (s : ByteArray) (hs : s.size ≤ 4294967280) (w : World) :
    Calls Tryd.prog 16 #[.string s] w fun e w' => e = .returned (.bool (partB s.data.toList)) ∧ w = w' := by
  have HP := Lib.hid (show partB s.data.toList = (sizedB s.data.toList && s.data.toList.all prtc) from rfl)
  obtain ⟨b, hb⟩ : ∃ b, partB s.data.toList = b := ⟨_, rfl⟩
  rw [hb] at HP ⊢
  clear hb
  go_enter Tryd.func16, Tryd.ntmps16
  go_wp2
  go_loop [3, 6] (fun _ i => ∃ k : Nat, k ≤ s.size ∧ i = .int .i64 k ∧ (s.data.toList.take k).all prtc = true) (fun _ i => s.size - (intOf i).toNat)
  case atStart => exact ⟨0, Nat.zero_le _, rfl, by simp⟩
  case round =>
    obtain ⟨k, hk, rfl, hall⟩ := hrel
    have HA := Lib.hid hall; clear hall
    by_cases hlt : k < s.size
    · by_cases h1 : (s[k].toNat : Int) < 33
      · have HN := Lib.hid (all_take_no hlt (prtc_no (.inl h1)))
        go_wp2
        go_ret
        refine ⟨?_, rfl⟩
        rw [HP.out, HN.out, Bool.and_false]; rfl
      · have h1' : 33 ≤ (s[k].toNat : Int) := by omega
        by_cases h2 : 126 < (s[k].toNat : Int)
        · have HN := Lib.hid (all_take_no hlt (prtc_no (.inr h2)))
          clear h1
          go_wp2
          go_ret
          refine ⟨?_, rfl⟩
          rw [HP.out, HN.out, Bool.and_false]; rfl
        · have h2' : (s[k].toNat : Int) ≤ 126 := by omega
          have HY := Lib.hid (all_take_yes hlt HA.out (prtc_yes h1' h2'))
          clear h1 h2
          go_wp2
          go_round
          case rel => exact ⟨k + 1, by omega, by go_num, HY.out⟩
          case measure => simp [intOf]; omega
    · have HF := Lib.hid (show s.data.toList.all prtc = true by
        have := HA.out
        rwa [List.take_of_length_le (by rw [size_list]; omega)] at this)
      go_wp2_with fail
      refine (sized_at s w).mono ?_
      rintro e w' ⟨rfl, rfl⟩
      go_wp2_with fail
      go_ret
      refine ⟨?_, rfl⟩
      rw [HP.out, HF.out, Bool.and_true]; rfl

set_option maxRecDepth 100000 in
theorem all_at (A : Option Addr) (c : Nat) (bs : List Bool) (w : World) (h : RS w (.slice A bs.length c) (blv bs)) :
    Calls Tryd.prog 35 #[.slice A bs.length c] w fun e w' => e = .returned (.bool (bs.all id)) ∧ w = w' := by
  have HC := Lib.hid (contains_bools A c bs w h)
  obtain ⟨v, hv⟩ : ∃ v, bs.all id = v := ⟨_, rfl⟩
  rw [hv] at HC ⊢
  clear h hv
  go_enter Tryd.func35, Tryd.ntmps35
  go_wp2_with fail
  refine HC.out.mono ?_
  rintro e w' ⟨rfl, rfl⟩
  go_wp2_with fail
  go_ret
  refine ⟨?_, rfl⟩
  cases v <;> rfl
end Go.Proofs.YtgclchdccgkjaaaDoor
namespace Go.Proofs.YtgclchdccgkjaaaDoor
open Go Go.RowKit
set_option linter.unusedVariables false

/-- What is left behind k dots. -/
def rst (s : ByteArray) : Nat → ByteArray
  | 0 => s
  | k + 1 => (rst s k).extract ((Lib.indexByte (rst s k).data.toList 46).toNat + 1) (rst s k).size
theorem rst_size (s : ByteArray) : ∀ k, (rst s k).size ≤ s.size
  | 0 => Nat.le_refl _
  | k + 1 => by
    have := rst_size s k
    rw [rst, ByteArray.size_extract]; omega
theorem dot_none {l : List UInt8} (h : Lib.indexByte l 46 = -1) : spl [] l = [l] := by
  rw [spl_acc l [] (fun c hc e => by
    obtain ⟨k, hk, rfl⟩ := List.getElem_of_mem hc
    exact Lib.indexByte_none h k (by rw [List.getElem?_eq_getElem hk, Option.some.injEq]; exact u8_of (n := 46) (by omega) e))]
  rfl
theorem dot_some {l : List UInt8} {o : Nat} (h : Lib.indexByte l 46 = o) : o < l.length ∧ spl [] l = l.take o :: spl [] (l.drop (o + 1)) := by
  obtain ⟨h1, h2⟩ := Lib.indexByte_some h
  have hlt := (List.getElem?_eq_some_iff.1 h1).1
  refine ⟨hlt, ?_⟩
  have he : l = l.take o ++ 46 :: l.drop (o + 1) := by
    have h3 := (List.getElem?_eq_some_iff.1 h1).2
    conv => lhs; rw [← List.take_append_drop o l, List.drop_eq_getElem_cons hlt, h3]
  conv => lhs; rw [he]
  rw [spl_hit _ [] _ (fun c hc e => by
    obtain ⟨k, hk, hk2⟩ := List.getElem_of_mem hc
    have hk3 : k < o := by simp at hk; omega
    rw [List.getElem_take] at hk2
    refine h2 k hk3 ?_
    rw [List.getElem?_eq_getElem (by omega), hk2, Option.some.injEq]
    exact u8_of (n := 46) (by omega) e)]
  rfl
theorem index_dot (s : ByteArray) (w : World) : Calls Tryd.prog 79 #[.string s, .string ⟨#[46]⟩] w fun e w' => e = .returned (.int .i64 (Lib.indexByte s.data.toList 46)) ∧ w = w' :=
  (Tryd.strings_Index_one s 46 w).mono fun e w' h => ⟨h.1, h.2.symm⟩
theorem extract_take (s : ByteArray) (o : Nat) : (s.extract 0 o).data.toList = s.data.toList.take o := by
  simp [ByteArray.data_extract]
theorem extract_drop (s : ByteArray) (o : Nat) : (s.extract o s.size).data.toList = s.data.toList.drop o := by
  simp only [ByteArray.data_extract, Array.toList_extract, List.extract_eq_take_drop]
  exact List.take_of_length_le (by rw [List.length_drop, size_list]; omega)

/-- What the iterator finds: the string that is left, the separator, how many bytes of it are kept. -/
def SpIt (s : ByteArray) (bs bp bv : Nat) (pre : List ByteArray) (W : World) : Prop :=
  W.heap[bs]? = some (.cells #[.string (rst s pre.length)] 9 (0, 0)) ∧ W.heap[bp]? = some (.cells #[.string ⟨#[46]⟩] 9 (0, 0)) ∧ W.heap[bv]? = some (.cells #[.int .i64 0] 3 (0, 0))
theorem SpIt.stab (B0 : Nat) (s : ByteArray) (bs bp bv : Nat) (pre : List ByteArray) : Stab B0 (SpIt s bs bp bv pre) := (Stab.heap _ _ _ _).and ((Stab.heap _ _ _ _).and (Stab.heap _ _ _ _))
theorem SpIt.ext {s : ByteArray} {bs bp bv : Nat} {pre : List ByteArray} {W W' : World} (h : SpIt s bs bp bv pre W) (hx : Ext W W') : SpIt s bs bp bv pre W' := ⟨hx.heap h.1, hx.heap h.2.1, hx.heap h.2.2⟩
def dat (xs : List ByteArray) : List (List UInt8) := xs.map (·.data.toList)
def SpG (s : ByteArray) (pre : List ByteArray) (x : ByteArray) (_ : World) : Prop := (∃ rest, spl [] s.data.toList = dat pre ++ x.data.toList :: rest) ∧ x.size ≤ s.size
def strsz (v : Option Value) : Nat := match v with | some (.string b) => b.size | _ => 0
attribute [local go_sem] Oper.semAt_some

set_option maxRecDepth 100000 in
set_option maxHeartbeats 2000000 in
theorem split_iter (s : ByteArray) (hs : s.size ≤ 4294967280) (bs bp bv : Nat) (h1 : bs ≠ bp) (h2 : bs ≠ bv) :
    IterP Tryd.prog 77 #[.pointer (some ⟨bp, 0, none⟩), .pointer (some ⟨bs, 0, none⟩), .pointer (some ⟨bv, 0, none⟩)] (fun x => #[.string x]) (SpIt s bs bp bv) (SpG s) (fun k => k = bs) (fun xs => dat xs = spl [] s.data.toList) (fun pre => ∃ rest, spl [] s.data.toList = dat pre ++ rest) := by
  intro lp J Jx W hJ hJx hY hit h0
  refine callsIn_of_wp Tryd.func77 rfl trivial ?_ rfl
  simp only [Tryd.ntmps77, List.size_toArray, List.length_cons, List.length_nil, Nat.reduceAdd, Nat.reduceSub, Array.replicate_succ, Array.replicate_zero, List.push_toArray, List.append_toArray, List.nil_append, List.cons_append]
  have k1 : W.cell? ⟨bp, 0, none⟩ = some (.string ⟨#[46]⟩) := by rw [cell_of_row _ _ 0 _ _ (0, 0) hit.2.1]; rfl
  gi_wp2
  gi_loopw [7] (fun _ wr => ∃ pre : List ByteArray, J pre wr ∧ SpIt s bs bp bv pre wr ∧ spl [] s.data.toList = dat pre ++ spl [] (rst s pre.length).data.toList) (fun _ wr => strsz (wr.cell? ⟨bs, 0, none⟩))
  case atStart => exact ⟨[], h0, hit, rfl⟩
  case round =>
    obtain ⟨pre, hj, hi, he⟩ := hrel
    have hz := rst_size s pre.length
    obtain ⟨cur, hcur⟩ : ∃ cur, rst s pre.length = cur := ⟨_, rfl⟩
    have c0 : wr.cell? ⟨bs, 0, none⟩ = some (.string cur) := by rw [cell_of_row _ _ 0 _ _ (0, 0) hi.1, ← hcur]; rfl
    have c1 : wr.cell? ⟨bp, 0, none⟩ = some (.string ⟨#[46]⟩) := by rw [cell_of_row _ _ 0 _ _ (0, 0) hi.2.1]; rfl
    have c2 : wr.cell? ⟨bv, 0, none⟩ = some (.int .i64 0) := by rw [cell_of_row _ _ 0 _ _ (0, 0) hi.2.2]; rfl
    rw [hcur] at he hz
    have HI := Lib.hid hi; have HE := Lib.hid he; have HC := Lib.hid hcur; have HJ := Lib.hid hj
    have hcs : cur.size ≤ 4294967280 := by omega
    clear hi he hcur hj hz k1
    have hge := Lib.indexByte_ge cur.data.toList 46
    obtain ⟨o, ho⟩ : ∃ o, Lib.indexByte cur.data.toList 46 = o := ⟨_, rfl⟩
    have HIX := Lib.hid (index_dot cur wr)
    rw [ho] at hge HIX
    have HO := Lib.hid ho; clear ho
    rcases (show o = -1 ∨ ∃ k : Nat, o = k by exact if h : o = -1 then .inl h else .inr ⟨o.toNat, by omega⟩) with rfl | ⟨k, rfl⟩
    · have hsp := dot_none HO.out
      have HS := Lib.hid (show spl [] s.data.toList = dat pre ++ [cur.data.toList] by rw [HE.out, hsp])
      clear hsp
      gi_wp2_with fail
      refine wide_call HIX.out ?_
      rintro e w' ⟨rfl, rfl⟩
      obtain ⟨fn, tmps, assign, body, hy, hR⟩ := hY pre cur wr HJ.out HI.out ⟨⟨[], HS.out⟩, by rw [← HC.out]; exact rst_size _ _⟩
      gi_wp2_with fail
      refine ⟨rfl, hR.mono ?_⟩
      rintro e W3 (⟨rfl, hJ3, hI3⟩ | ⟨rfl, hJx3⟩)
      · gi_wp2_with fail
        first | go_end0 | refine bodyPost_ret (results_none rfl _ _ _) rfl ?_
        exact ⟨⟨_, rfl⟩, .inl ⟨_, by rw [HS.out]; simp [dat], hJ3⟩⟩
      · gi_wp2_with fail
        first | go_end0 | refine bodyPost_ret (results_none rfl _ _ _) rfl ?_
        exact ⟨⟨_, rfl⟩, .inr ⟨_, ⟨[], by rw [HS.out]; simp [dat]⟩, hJx3⟩⟩
    · obtain ⟨hko, hsp⟩ := dot_some HO.out
      rw [size_list] at hko
      have HS := Lib.hid (show spl [] s.data.toList = dat (pre ++ [cur.extract 0 k]) ++ spl [] (cur.extract (k + 1) cur.size).data.toList by rw [HE.out, hsp, extract_drop]; simp [dat])
      have HR := Lib.hid (show rst s (pre ++ [cur.extract 0 k]).length = cur.extract (k + 1) cur.size by
        rw [List.length_append, List.length_singleton, rst, HC.out, HO.out]; rfl)
      clear hsp
      gi_wp2_with fail
      refine wide_call HIX.out ?_
      rintro e w' ⟨rfl, rfl⟩
      obtain ⟨fn, tmps, assign, body, hy, hR⟩ := hY pre (cur.extract 0 k) wr HJ.out HI.out ⟨⟨spl [] (cur.extract (k + 1) cur.size).data.toList, by rw [HS.out]; simp [dat]⟩, by have := rst_size s pre.length; rw [HC.out] at this; rw [ByteArray.size_extract]; omega⟩
      gi_wp2_with fail
      refine ⟨rfl, hR.mono ?_⟩
      rintro e W3 (⟨rfl, hJ3, hI3⟩ | ⟨rfl, hJx3⟩)
      · have c3 : W3.cell? ⟨bs, 0, none⟩ = some (.string cur) := by rw [cell_of_row _ _ 0 _ _ (0, 0) hI3.1, ← HC.out]; rfl
        have c4 : W3.cell? ⟨bp, 0, none⟩ = some (.string ⟨#[46]⟩) := by rw [cell_of_row _ _ 0 _ _ (0, 0) hI3.2.1]; rfl
        have f3 : W3.frozen? ⟨bs, 0, none⟩ = false := frozen_of_row W3 bs 0 _ _ hI3.1
        have HI3 := Lib.hid hI3; have HJ3 := Lib.hid hJ3; clear hI3 hJ3
        gi_wp2_with fail
        go_roundw
        case rel =>
          have hg := grown_set1 W3 bs (.string (cur.extract (k + 1) cur.size))
          refine ⟨pre ++ [cur.extract 0 k], hJ _ _ _ _ (fun j hj => by cases hj; rfl) hg HJ3.out, ⟨?_, heap_far hg HI3.out.2.1 (Ne.symm h1), heap_far hg HI3.out.2.2 (Ne.symm h2)⟩, ?_⟩
          · rw [HR.out]
            exact row1_set _ HI3.out.1
          · rw [HR.out]; exact HS.out
        case measure =>
          have e1 : (W3.setCell ⟨bs, 0, none⟩ (.string (cur.extract (k + 1) cur.size))).cell? ⟨bs, 0, none⟩ = some (.string (cur.extract (k + 1) cur.size)) := (row1 (row1_set _ HI3.out.1)).1
          rw [e1, c0]
          simp only [strsz, ByteArray.size_extract]
          omega
      · gi_wp2_with fail
        first | go_end0 | refine bodyPost_ret (results_none rfl _ _ _) rfl ?_
        exact ⟨⟨_, rfl⟩, .inr ⟨_, ⟨_, HS.out⟩, hJx3⟩⟩

theorem SplitSeq_at (s : ByteArray) (w : World) :
    Calls Tryd.prog 37 #[.string s, .string ⟨#[46]⟩] w fun e w' => e = .returned (.func (.func 77) #[] #[.pointer (some ⟨w.heap.size + 1, 0, none⟩), .pointer (some ⟨w.heap.size, 0, none⟩), .pointer (some ⟨w.heap.size + 1 + 1, 0, none⟩)]) ∧
      SpIt s w.heap.size (w.heap.size + 1) (w.heap.size + 1 + 1) [] w' ∧ w'.heap.size = w.heap.size + 3 ∧ Ext w w' := by
  have hmf : ∀ (fn : Fn) (first cap : Array Value) (w : World), (Instr.makeFunc fn first cap).run Tryd.prog w = .ok (.func fn first cap) w := fun _ _ _ _ => rfl
  have hin : Calls Tryd.prog 58 #[.string s, .string ⟨#[46]⟩, .int .i64 0] w fun e w' => e = .returned (.func (.func 77) #[] #[.pointer (some ⟨w.heap.size + 1, 0, none⟩), .pointer (some ⟨w.heap.size, 0, none⟩), .pointer (some ⟨w.heap.size + 1 + 1, 0, none⟩)]) ∧
      SpIt s w.heap.size (w.heap.size + 1) (w.heap.size + 1 + 1) [] w' ∧ w'.heap.size = w.heap.size + 3 ∧ Ext w w' := by
    go_enter Tryd.func58, Tryd.ntmps58
    go_wp2
    go_ret
    have x1 := (Ext.refl w).alloc (.cells #[.string s] 9)
    have x2 := (Ext.refl (w.alloc (.cells #[.string s] 9))).alloc (.cells #[.string ⟨#[46]⟩] 9)
    have x3 := (Ext.refl ((w.alloc (.cells #[.string s] 9)).alloc (.cells #[.string ⟨#[46]⟩] 9))).alloc (.cells #[.int .i64 0] 3)
    have a1 := heap_alloc_new w (.cells #[.string s] 9)
    have a2 := heap_alloc_new (w.alloc (.cells #[.string s] 9)) (.cells #[.string ⟨#[46]⟩] 9)
    have a3 := heap_alloc_new ((w.alloc (.cells #[.string s] 9)).alloc (.cells #[.string ⟨#[46]⟩] 9)) (.cells #[.int .i64 0] 3)
    rw [World.size_alloc] at a2
    rw [World.size_alloc, World.size_alloc] at a3
    exact ⟨rfl, ⟨(x2.trans x3).heap a1, x3.heap a2, a3⟩, by simp, (x1.trans x2).trans x3⟩
  have HIN := Lib.hid hin; clear hin
  go_enter Tryd.func37, Tryd.ntmps37
  go_wp2_with fail
  refine HIN.out.mono ?_
  rintro e w1 ⟨rfl, hit, hsz, hx⟩
  go_wp2_with fail
  go_ret
  exact ⟨rfl, hit, hsz, hx⟩
end Go.Proofs.YtgclchdccgkjaaaDoor
namespace Go.Proofs.YtgclchdccgkjaaaDoor
set_option linter.unusedVariables false

/-- What lies behind each dot. -/
def par : List UInt8 → List (List UInt8)
  | [] => []
  | c :: r => if c.toNat = 46 then r :: par r else par r
theorem par_skip : ∀ (a r : List UInt8), (∀ c ∈ a, c.toNat ≠ 46) → par (a ++ r) = par r
  | [], r, _ => rfl
  | c :: a, r, h => by
    rw [List.cons_append, par, if_neg (h c (by simp)), par_skip a r (fun d hd => h d (by simp [hd]))]
theorem par_none {l : List UInt8} (h : ∀ c ∈ l, c.toNat ≠ 46) : par l = [] := by
  have := par_skip l [] h
  rwa [List.append_nil] at this
theorem labB_tail : ∀ (n : Nat) (s : List UInt8), labB n s = true → ∀ x ∈ par s, labB 0 x = true
  | _, [], _, x, hx => by simp [par] at hx
  | n, c :: r, h, x, hx => by
    unfold labB at h
    rw [par] at hx
    split at h
    · rename_i hc
      rw [if_pos hc] at hx
      simp only [Bool.and_eq_true] at h
      rcases List.mem_cons.1 hx with rfl | hx
      · exact h.2
      · exact labB_tail 0 r h.2 x hx
    · rename_i hc
      rw [if_neg hc] at hx
      simp only [Bool.and_eq_true] at h
      exact labB_tail (n + 1) r h.2 x hx
theorem par_len : ∀ (s x : List UInt8), x ∈ par s → x.length < s.length
  | [], x, hx => by simp [par] at hx
  | c :: r, x, hx => by
    rw [par] at hx
    rw [List.length_cons]
    split at hx
    · rcases List.mem_cons.1 hx with rfl | hx
      · omega
      · have := par_len r x hx; omega
    · have := par_len r x hx; omega
theorem par_realm {s x : List UInt8} (h : realmB s = true) (hx : x ∈ par s) : realmB x = true := by
  unfold realmB sizedB at h ⊢
  simp only [Bool.and_eq_true, decide_eq_true_eq] at h ⊢
  have h1 := labB_tail 0 s h.2 x hx
  have h2 := par_len s x hx
  refine ⟨⟨?_, by omega⟩, h1⟩
  cases x with
  | nil => simp [labB] at h1
  | cons => simp
theorem par_count : ∀ (s : List UInt8), (par s).length ≤ s.length
  | [] => by simp [par]
  | c :: r => by
    have := par_count r
    rw [par]
    split <;> simp only [List.length_cons] <;> omega
end Go.Proofs.YtgclchdccgkjaaaDoor
namespace Go.Proofs.YtgclchdccgkjaaaDoor
open Go Go.RowKit
set_option linter.unusedVariables false

/-- internal/bytealg.MaxLen holds some int. -/
def MaxN (w : World) : Prop := ∃ m, w.cell? ⟨0, 0, none⟩ = some (.int .i64 m)
theorem MaxN.ext {w w' : World} (h : MaxN w) (hx : Ext w w') : MaxN w' := let ⟨m, hm⟩ := h; ⟨m, hx.cell hm⟩

theorem cut_none {l : List UInt8} (h : Lib.indexByte l 46 = -1) : Lib.cut l [46] = (l, [], false) := by
  unfold Lib.cut
  rw [Lib.index_one, h]
  rfl
theorem cut_some {l : List UInt8} {o : Nat} (h : Lib.indexByte l 46 = o) : Lib.cut l [46] = (l.take o, l.drop (o + 1), true) := by
  unfold Lib.cut
  rw [Lib.index_one, h, if_pos (by omega)]
  simp
theorem par_cut_none {l : List UInt8} (h : Lib.indexByte l 46 = -1) : par l = [] := par_none (fun c hc e => by
  obtain ⟨k, hk, rfl⟩ := List.getElem_of_mem hc
  exact Lib.indexByte_none h k (by rw [List.getElem?_eq_getElem hk, Option.some.injEq]; exact u8_of (n := 46) (by omega) e))
theorem par_cut_some {l : List UInt8} {o : Nat} (h : Lib.indexByte l 46 = o) : par l = l.drop (o + 1) :: par (l.drop (o + 1)) := by
  obtain ⟨h1, h2⟩ := Lib.indexByte_some h
  have hlt := (List.getElem?_eq_some_iff.1 h1).1
  have he : l = l.take o ++ 46 :: l.drop (o + 1) := by
    have h3 := (List.getElem?_eq_some_iff.1 h1).2
    conv => lhs; rw [← List.take_append_drop o l, List.drop_eq_getElem_cons hlt, h3]
  conv => lhs; rw [he]
  rw [par_skip _ _ (fun c hc e => by
    obtain ⟨k, hk, hk2⟩ := List.getElem_of_mem hc
    have hk3 : k < o := by simp at hk; omega
    rw [List.getElem_take] at hk2
    refine h2 k hk3 ?_
    rw [List.getElem?_eq_getElem (by omega), hk2, Option.some.injEq]
    exact u8_of (n := 46) (by omega) e), par, if_pos (by decide)]
/-- What strings.Cut finds at a dot: the rest, whether there is one. -/
def CutP (s rest : ByteArray) (found : Bool) : Prop :=
  (found = false ∧ par s.data.toList = [] ∧ rest = ⟨#[]⟩) ∨ (found = true ∧ par s.data.toList = rest.data.toList :: par rest.data.toList ∧ rest.size < s.size)
theorem Cut_dot (s : ByteArray) (hs : s.size ≤ 4294967280) (w : World) (hm : MaxN w) :
    Calls Tryd.prog 47 #[.string s, .string ⟨#[46]⟩] w fun e w' => ∃ a rest found, e = .returned (.tuple #[.string a, .string rest, .bool found]) ∧ CutP s rest found ∧ Ext w w' := by
  obtain ⟨m, hm⟩ := hm
  refine (Tryd.strings_Cut s ⟨#[46]⟩ m w (by omega) hm).mono ?_
  rintro e w' ⟨rfl, n, rfl⟩
  refine ⟨_, _, _, rfl, ?_, (Ext.refl w).drewN n⟩
  have hge := Lib.indexByte_ge s.data.toList 46
  obtain ⟨o, ho⟩ : ∃ o, Lib.indexByte s.data.toList 46 = o := ⟨_, rfl⟩
  rw [ho] at hge
  rcases (show o = -1 ∨ ∃ k : Nat, o = k by exact if h : o = -1 then .inl h else .inr ⟨o.toNat, by omega⟩) with rfl | ⟨k, rfl⟩
  · rw [cut_none ho]
    exact .inl ⟨rfl, par_cut_none ho, rfl⟩
  · have hlt := (List.getElem?_eq_some_iff.1 (Lib.indexByte_some ho).1).1
    rw [size_list] at hlt
    rw [cut_some ho]
    refine .inr ⟨rfl, par_cut_some ho, ?_⟩
    show (s.data.toList.drop (k + 1)).toArray.size < s.size
    rw [List.size_toArray, List.length_drop, size_list]
    omega
end Go.Proofs.YtgclchdccgkjaaaDoor
