/- Flags: Text. -/
import Derived.Test.YtigjecmhhjjenaaDoorFl3
import Derived.Test.YtigjecmhhjjenaaDoorIn
import Derived.Test.YtigjecmhhjjenaaDoorOv
import Derived.Test.YtigjecmhhjjenaaDoorShelf
namespace Go.Proofs.YtigjecmhhjjenaaDoor
open Go Go.RowKit
set_option linter.unusedVariables false

theorem sinfo1 : (Tryd.prog.info? 9).map (fun i => (i.zero, i.size, i.bytes)) = some (some (.string ⟨#[]⟩), 1, 16) := by kernel_rfl
/-- The names of flags, one by one; their string. -/
def nmL (ks : List Nat) : List ByteArray := ks.map nmS
def stL (ks : List Nat) : List Value := ks.map fun k => .string (nmS k)
def joinF (f : W32) : List UInt8 := Lib.join ((nmL (bitsF f)).map (·.data.toList)) [44]
def textF (f : W32) : List UInt8 := if f = 0#32 then [45] else joinF f
theorem stL_len (ks : List Nat) : (stL ks).length = ks.length := by simp [stL]
theorem stL_snoc (ks : List Nat) (k : Nat) : stL (ks ++ [k]) = stL ks ++ [.string (nmS k)] := by simp [stL]
theorem bitsTo_len (f : W32) (n : Nat) : (bitsTo f n).length ≤ n := by
  unfold bitsTo
  exact Nat.le_trans (List.length_filter_le _ _) (by simp)
theorem bitsF_len (f : W32) : (bitsF f).length ≤ 32 := bitsTo_len f 32
theorem nmS_len (k : Nat) : (nmS k).size ≤ 12 := by
  unfold nmS nameAt
  cases h : namesL.find? fun x => x.1 == k with
  | none => decide
  | some x =>
    have hm := List.mem_of_find?_eq_some h
    have ha : ∀ y ∈ namesL, y.2.size ≤ 12 := by decide
    exact ha x hm
theorem join_len : ∀ (ls : List (List UInt8)), (∀ l ∈ ls, l.length ≤ 12) → (Lib.join ls [44]).length ≤ 13 * ls.length
  | [], _ => by simp [Lib.join, List.intercalate]
  | [l], h => by have := h l (by simp); simp [Lib.join, List.intercalate]; omega
  | l :: m :: r, h => by
    have h1 := h l (by simp)
    have h2 := join_len (m :: r) (fun x hx => h x (by simp [hx]))
    have e : Lib.join (l :: m :: r) [44] = l ++ [44] ++ Lib.join (m :: r) [44] := by simp [Lib.join, List.intercalate, List.intersperse]
    rw [e]
    simp only [List.length_append, List.length_cons, List.length_nil] at h2 ⊢
    omega
theorem and_bits (x y : W32) (k : Nat) : (andW x y).getLsbD k = (x.getLsbD k && y.getLsbD k) := by simp [andW]
theorem hasB_iff (x y : W32) : hasB x y = true ↔ ∀ k, k < 32 → y.getLsbD k = true → x.getLsbD k = true := by
  unfold hasB
  rw [beq_iff_eq]
  constructor
  · intro h k _ hy
    have := congrArg (fun z : W32 => z.getLsbD k) h
    simp only [and_bits, hy, Bool.and_true] at this
    exact this
  · intro h
    refine BitVec.eq_of_getLsbD_eq (fun k hk => ?_)
    rw [and_bits]
    cases hy : y.getLsbD k with
    | false => simp
    | true => rw [h k hk hy]; rfl
theorem bitW_bit (k j : Nat) (hk : k < 32) : (bitW k).getLsbD j = decide (j = k) := by
  unfold bitW
  rw [BitVec.getLsbD_shiftLeft]
  by_cases h : j = k
  · subst h; simp [hk]
  · simp [h]
    omega
theorem has_bit (x : W32) (k : Nat) (hk : k < 32) : hasB x (bitW k) = x.getLsbD k := by
  rw [Bool.eq_iff_iff, hasB_iff]
  constructor
  · intro h
    exact h k hk (by rw [bitW_bit k k hk]; simp)
  · intro h j hj hy
    rw [bitW_bit k j hk, decide_eq_true_eq] at hy
    subst hy
    exact h
theorem nm_bits (k : Nat) (hk : k < 32) : (orW tkM opM).getLsbD k = (nameAt k).isSome := by
  have h : ∀ k : Fin 32, (orW tkM opM).getLsbD k.val = (nameAt k.val).isSome := by decide
  exact h ⟨k, hk⟩
theorem isF_bit {f : W32} (hv : nmB f = true) (k : Nat) (hk : k < 32) : isF f k = f.getLsbD k := by
  unfold isF
  rw [has_bit f k hk]
  cases hf : f.getLsbD k with
  | false => simp
  | true =>
    have := (hasB_iff _ _).1 hv k hk hf
    rw [nm_bits k hk] at this
    rw [this]; rfl
theorem bitsF_ne {f : W32} (hv : nmB f = true) (hz : f ≠ 0#32) : (bitsF f).length ≠ 0 := by
  intro h
  have h0 := List.eq_nil_of_length_eq_zero h
  apply hz
  refine BitVec.eq_of_getLsbD_eq (fun k hk => ?_)
  unfold bitsF bitsTo at h0
  rw [List.filter_eq_nil_iff] at h0
  have := h0 k (by simpa using hk)
  rw [isF_bit hv k hk] at this
  simpa using this
/-- Text's own: the variable of the words, at block n, and their row. -/
def TxI (w : World) (n : Nat) (pre : List Nat) (W : World) : Prop := ∃ v, W.heap[n]? = some (.cells #[v] 69 (0, 0)) ∧ W.ownsRow (n + 2) 9 1 v (stL pre).length (stL pre) ∧ Ext w W ∧ n + 2 ≤ W.heap.size
theorem TxI.stab {B0 : Nat} {w : World} (h : w.heap.size ≤ B0) (n : Nat) (pre : List Nat) : Stab B0 (TxI w n pre) := Stab.ex fun v => (Stab.heap _ _ _ _).and ((Stab.own _ _ _ _ _).and ((Stab.ext w h).and (Stab.size _)))
attribute [local go_sem] Oper.semAt_some

set_option maxRecDepth 100000 in
set_option maxHeartbeats 2000000 in
theorem Text_yes (f : W32) (hv : nmB f = true) (hz : f ≠ 0#32) (w : World) :
    Calls Tryd.prog 17 #[.int .u32 (f.toNat : Int)] w fun e w' => e = .returned (.tuple #[.string ⟨(joinF f).toArray⟩, .int .i64 0]) ∧ Ext w w' := by
  obtain ⟨i0, hi, hz0, hz1, hz2⟩ := info_parts sinfo1
  have hnm := named_at f w
  rw [hv] at hnm
  have HNM := Lib.hid hnm
  have hne : ((f.toNat : Int) == 0) = false := by
    rw [beq_eq_false_iff_ne]
    intro h
    exact hz (BitVec.eq_of_toNat_eq (by simpa using h))
  have HNZ := Lib.hid (bitsF_ne hv hz)
  clear hnm hv hz
  refine calls_of_marks Tryd.func17 rfl ?_
  simp only [Tryd.ntmps17, List.size_toArray, List.length_cons, List.length_nil, Nat.reduceAdd, Nat.reduceSub, Array.replicate_succ, Array.replicate_zero, List.push_toArray, List.append_toArray, List.nil_append, List.cons_append]
  go_wp2_with fail
  refine HNM.out.mono ?_
  rintro _ w1 ⟨rfl, hx1⟩
  have h0 := heap_alloc_new w1 (.cells #[.slice none 0 0] 69)
  have hxa := hx1.trans ((Ext.refl w1).alloc (.cells #[.slice none 0 0] 69))
  obtain ⟨wa, hwa⟩ : ∃ wa, w1.alloc (.cells #[.slice none 0 0] 69) = wa := ⟨_, rfl⟩
  have hza : wa.heap.size = w1.heap.size + 1 := by rw [← hwa]; simp
  rw [hwa] at h0 hxa
  have H0 := Lib.hid h0; have HXA := Lib.hid hxa; have HZA := Lib.hid hza; have HX1 := Lib.hid hx1
  clear h0 hxa hx1 hza
  go_wp2_with fail
  refine (Each_at f wa).mono ?_
  rintro _ wb ⟨rfl, hfb, hzb, hxb⟩
  have HFB := Lib.hid hfb; have HZB := Lib.hid hzb; have HXB := Lib.hid (HXA.out.trans hxb)
  have H0B := Lib.hid (hxb.heap H0.out)
  clear hfb hzb hxb hwa H0 HNM
  go_wp2_with fail
  have hbz : w1.heap.size + 2 = wb.heap.size := by have := HZB.out; have := HZA.out; omega
  have HBZ := Lib.hid hbz; clear hbz
  refine wpIn_wide.1 (wp_rangeM (gf := 41) (lb := #[.pointer (some ⟨wa.heap.size, 0, none⟩)]) rfl (Go.Proofs.enters_of Tryd.func41 (by kernel_rfl) rfl)
    (each_iter f wa.heap.size) (fun _ => rfl) (fun k hk => hk.elim) HFB.out (FB.stab _ _ _)
    (fun pre W => TxI w w1.heap.size pre W) (fun cd pre W => False) (fun pre => TxI.stab HXB.out.size _ _) (fun cd pre => Stab.pure _)
    (fun pre X Y r hr hg h => ?_) (fun cd pre X Y r hr hg h => h) ⟨_, H0B.out, World.ownsRow_nil _ _ _ _, HXB.out, by have := HBZ.out; omega⟩ ?_ ?_ ?_)
  · obtain ⟨v, h1, h2, h3, h4⟩ := h
    have hn : r = none := by cases r with | none => rfl | some k => exact (hr k rfl).elim
    subst hn
    have hx := grown_of_ext hg
    exact ⟨v, hx.heap h1, own_ext1 h2 hx, h3.trans hx, Nat.le_trans h4 hx.size⟩
  · intro L pre k W hL hnL hzW hIW hitW hGW
    simp only [eachEnc]
    gi_wp2_with fail
    refine ⟨KeepsFrom.refl _ _, fun W2 hg2 hn2 hsz2 => ?_⟩
    have hI2 := (TxI.stab (B0 := wb.heap.size) HXB.out.size w1.heap.size pre) W W2 L hL hn2 hg2 hIW
    have hit2 := (FB.stab wb.heap.size wa.heap.size f) W W2 L hL hn2 hg2 hitW
    obtain ⟨v, h1, h2, h3, h4⟩ := hI2
    obtain ⟨g1, g2, rfl⟩ := hGW
    have HG := Lib.hid g1; have HIT := Lib.hid hit2; have HOW := Lib.hid h2; have HX2 := Lib.hid h3; have HC := Lib.hid h1
    have k0 := (row1 h1).1
    have HB := Lib.hid (bitsTo_yes g1)
    have HN := Lib.hid (show 0 < 1 from Nat.one_pos)
    clear hIW hitW hg2 hn2 hnL hit2 h1 h2 h3 g1 hsz2
    have HLT := Lib.hid (show ∀ j, v.ownBlock = some j → w1.heap.size + 2 ≤ j from fun j hj => (World.ownsRow.lt HOW.out j hj).1)
    have HX3 := Lib.hid ((Ext.refl W2).alloc (.cells #[.string (nmS k)] 9))
    have HB2 := Lib.hid (show (stL (bitsTo f k)).length ≤ 32 by rw [stL_len]; have := bitsTo_len f k; omega)
    gi_wp2_with (gi_at_builtin; refine wpListIn_append_rs _ rfl (.tmp 16) (.tmp 18) 69 rfl (w1.heap.size + 2) 9 i0 (.string ⟨#[]⟩) 16 Tryd.underlying69 hi hz0 hz1 hz2 rfl _ (stL (bitsTo f k)) rfl (own_ext1 HOW.out HX3.out) (.slice (some ⟨W2.heap.size, 0, none⟩) 1 1) [.string (nmS k)] rfl (RS.one (z := W2.heap.size) W2 _ _ rfl) (by simp [Value.oneCell']) (by have := HB2.out; simp; omega) (by omega) (Nat.le_trans h4 HX3.out.size) ?_; intro v4 w4 hown4 hg4 _; obtain ⟨g4, cap4, rfl⟩ := own_shape hown4; have HO4 := Lib.hid hown4; have HG4 := Lib.hid hg4; have HC4 := Lib.hid (own_keep hg4 HLT.out (by omega) (HX3.out.heap HC.out)); have k4 := (row1 HC4.out).1; have f4 := (row1 HC4.out).2; clear hown4 hg4)
    have hown4 := HO4.out
    rw [← stL_snoc] at hown4
    have hlt := HLT.out
    have hx3 := HX3.out
    exact ⟨((hx3.keepsOthers.trans (own_keepsOthers (own_ext1 HOW.out hx3) HG4.out)).trans (KeepsOthers.setCell w4 ⟨w1.heap.size, 0, none⟩ _)).from _,
      heap_far (grown_set1 _ _ _) (own_keep HG4.out hlt (by have := HZA.out; omega) (hx3.heap HIT.out)) (by have := HZA.out; omega),
      _, row1_set _ HC4.out, own_set hown4 _ (by omega), ((HX2.out.trans hx3).grown HG4.out (fun j hj => by have := hlt j hj; have := HX1.out.size; omega)).setCell (p := ⟨w1.heap.size, 0, none⟩) HX1.out.size _, by have := HG4.out.size; have := hx3.size; simp; omega⟩
  · intro D xs W hDw hS hIW hit hD
    subst hS
    obtain ⟨v, h1, h2, h3, h4⟩ := hIW
    have k0 := (row1 h1).1
    rcases h2.2 with ⟨_, h0⟩ | ⟨g, cap, cur, rfl, hgb, hr⟩
    · exact absurd h0 (by rw [stL_len]; exact HNZ.out)
    obtain ⟨hg, hnc, hcm, _⟩ := hr
    rw [stL_len] at hnc h2 k0
    have hlg : g < W.heap.size := (Array.getElem?_eq_some_iff.1 hg).1
    have hjn := Tryd.strings_Join g 0 cap (nmL (bitsF f)) ⟨#[44]⟩ W (by
      intro j x hx
      have hjl : j < (bitsF f).length := by have := (List.getElem?_eq_some_iff.1 hx).1; simpa [nmL] using this
      have hc := h2.cellAt j (by omega)
      rw [Nat.zero_add, hc, stL, List.getElem?_map]
      rw [nmL, List.getElem?_map] at hx
      cases hb : (bitsF f)[j]? with
      | none => rw [hb] at hx; cases hx
      | some y => rw [hb] at hx; injection hx with hx; subst hx; rfl) hlg (by simp only [nmL, List.length_map]; have := bitsF_len f; omega) (by simp only [nmL, List.length_map]; exact hnc) (by
      have := join_len ((nmL (bitsF f)).map (·.data.toList)) (fun l hl => by
        simp only [nmL, List.map_map, List.mem_map] at hl
        obtain ⟨y, _, rfl⟩ := hl
        have := nmS_len y
        show (nmS y).data.toList.length ≤ 12
        rw [Array.length_toList]; exact this)
      rw [List.length_map, nmL, List.length_map] at this
      have h32 := bitsF_len f
      exact Nat.le_trans this (by omega))
    have hln : (nmL (bitsF f)).length = (bitsF f).length := by simp [nmL]
    rw [hln] at hjn
    have HJ := Lib.hid hjn; have HX2 := Lib.hid h3; have HD := Lib.hid hD
    unfold maxLen at hcm
    clear h1 h2 h3 hjn hg hlg hgb hD hit h4 hln
    go_wp2_with fail
    refine HJ.out.mono ?_
    rintro _ w5 ⟨rfl, hx5⟩
    have hx5' : Ext W w5 := hx5
    have HX5 := Lib.hid (HX2.out.trans hx5'); have HD5 := Lib.hid (hx5'.heap HD.out)
    have hDw1 : w.heap.size ≤ D := by have := HXB.out.size; omega
    have hxp : Ext w (w5.putObj D (.deferred none)) := Ext.of_grown HX5.out (grown_put HD5.out) (by omega)
    have HXP := Lib.hid hxp
    clear hx5 hx5' hxp
    go_wp2_with fail
    refine ⟨by simp, .inl ⟨_, _, rfl, run_takeDeferred HD5.out, ?_⟩⟩
    exact ⟨.tuple #[.string ⟨(joinF f).toArray⟩, .int .i64 0], by simp [results, Tryd.results17, go_sem, joinF], rfl, HXP.out⟩
  · rintro D cd pre W hDw hS h hD
    exact h.elim

set_option maxRecDepth 100000 in
theorem Text_no (f : W32) (hv : nmB f = false) (w : World) :
    Calls Tryd.prog 17 #[.int .u32 (f.toNat : Int)] w fun e w' => e = .returned (.tuple #[.string ⟨#[]⟩, .int .i64 2]) ∧ Ext w w' := by
  have hnm := named_at f w
  rw [hv] at hnm
  have HNM := Lib.hid hnm
  clear hnm hv
  go_enter Tryd.func17, Tryd.ntmps17
  go_wp2_with fail
  refine HNM.out.mono ?_
  rintro _ w1 ⟨rfl, hx1⟩
  have HX := Lib.hid hx1; clear hx1
  go_wp2_with fail
  go_ret2
  exact ⟨rfl, HX.out⟩
set_option maxRecDepth 100000 in
theorem Text_zero (w : World) :
    Calls Tryd.prog 17 #[.int .u32 0] w fun e w' => e = .returned (.tuple #[.string ⟨#[45]⟩, .int .i64 0]) ∧ Ext w w' := by
  have hnm : Calls Tryd.prog 37 #[.int .u32 0] w fun e w' => e = .returned (.bool true) ∧ Ext w w' := named_at 0#32 w
  have HNM := Lib.hid hnm
  clear hnm
  go_enter Tryd.func17, Tryd.ntmps17
  go_wp2_with fail
  refine HNM.out.mono ?_
  rintro _ w1 ⟨rfl, hx1⟩
  have HX := Lib.hid hx1; clear hx1
  go_wp2_with fail
  go_ret2
  exact ⟨rfl, HX.out⟩
theorem Text_ok (f : W32) (hv : nmB f = true) (w : World) :
    Calls Tryd.prog 17 #[.int .u32 (f.toNat : Int)] w fun e w' => e = .returned (.tuple #[.string ⟨(textF f).toArray⟩, .int .i64 0]) ∧ Ext w w' := by
  unfold textF
  by_cases hz : f = 0#32
  · subst hz
    rw [if_pos rfl]
    exact Text_zero w
  · rw [if_neg hz]
    exact Text_yes f hv hz w
end Go.Proofs.YtigjecmhhjjenaaDoor
