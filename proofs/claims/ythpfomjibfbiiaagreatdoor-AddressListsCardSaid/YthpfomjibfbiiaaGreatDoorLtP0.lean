/- Lifetimes: the words of a string; what Parse needs of the library. -/
import Derived.Test.YthpfomjibfbiiaaGreatDoorLtT
import Derived.Test.YthpfomjibfbiiaaGreatDoorDec
import Derived.Lib.ConvBytes
namespace Go.Proofs.YthpfomjibfbiiaaGreatDoor
open Go Go.RowKit
set_option linter.unusedVariables false

theorem textT_eq (a s e r : Int) : textT a s e r = Lib.itoa a ++ 32 :: (Lib.itoa s ++ 32 :: (Lib.itoa e ++ 32 :: Lib.itoa r)) := by
  simp [textT, wordsT, Lib.join, List.intercalate]
theorem itoa_of {x : Int} (h : 0 ≤ x) : Lib.itoa x = Lib.decDigits x.toNat := by unfold Lib.itoa; rw [if_neg (by omega)]
theorem atoi_itoa {x : Int} (h0 : 0 ≤ x) (h1 : x ≤ 1099511627776) : Lib.atoiAll (Lib.itoa x) = .ok x := by
  rw [itoa_of h0, atoi_dec _ (by omega)]; congr 1; omega
theorem itoa_no {x : Int} (h : 0 ≤ x) : (32 : UInt8) ∉ Lib.itoa x := by rw [itoa_of h]; exact dec_no _ _ (by decide)
theorem itoa_pos {x : Int} (h : 0 ≤ x) : 1 ≤ (Lib.itoa x).length := by
  rw [itoa_of h]
  cases hd : Lib.decDigits x.toNat with
  | nil => exact absurd hd (dec_ne _)
  | cons c r => simp
/-- The words of a string. -/
def wordsB (s : ByteArray) : List ByteArray := Lib.splitB ⟨#[32]⟩ 0 (min 5 (s.size + 1) - 1) s
theorem wordsB_text {a st e r : Int} (hv : validB a st e r = true) (s : ByteArray) (hs : textT a st e r = s.data.toList) : (wordsB s).map (·.data.toList) = [Lib.itoa a, Lib.itoa st, Lib.itoa e, Lib.itoa r] := by
  obtain ⟨v1, v2, v3, v4, v5, v6, _⟩ := validB_bd hv
  have l1 := itoa_pos (x := a) (by omega)
  have l2 := itoa_pos (x := st) (by omega)
  have hsz : s.size = s.data.toList.length := by rw [Array.length_toList]; rfl
  have hL : 4 ≤ s.data.toList.length := by rw [← hs, textT_eq]; simp only [List.length_append, List.length_cons]; omega
  have hl : min 5 (s.size + 1) - 1 = 4 := by omega
  unfold wordsB
  rw [Lib.splitB_data, hl, ← hs, textT_eq]
  rw [show (⟨#[32]⟩ : ByteArray).data.toList = [32] from rfl, splitK_hit 32 3 _ _ (itoa_no (by omega)), splitK_hit 32 2 _ _ (itoa_no (by omega)), splitK_hit 32 1 _ _ (itoa_no (by omega)), splitK_miss 32 1 _ (itoa_no (by omega))]
/-- The number of a word. -/
def av (b : ByteArray) : Int := match Lib.atoiAll b.data.toList with | .ok v => v | _ => 0
theorem av_ok {b : ByteArray} {v : Int} (h : Lib.atoiAll b.data.toList = .ok v) : av b = v := by unfold av; rw [h]
theorem words_nums {a st e r : Int} (hv : validB a st e r = true) (s : ByteArray) (hs : textT a st e r = s.data.toList) : ∃ b0 b1 b2 b3, wordsB s = [b0, b1, b2, b3] ∧ Lib.atoiAll b0.data.toList = .ok a ∧ Lib.atoiAll b1.data.toList = .ok st ∧ Lib.atoiAll b2.data.toList = .ok e ∧ Lib.atoiAll b3.data.toList = .ok r := by
  obtain ⟨v1, v2, v3, v4, v5, v6, _⟩ := validB_bd hv
  have h := wordsB_text hv s hs
  generalize wordsB s = ws at h
  match ws, h with
  | [b0, b1, b2, b3], h =>
    simp only [List.map_cons, List.map_nil, List.cons.injEq, and_true] at h
    obtain ⟨h0, h1, h2, h3⟩ := h
    exact ⟨b0, b1, b2, b3, rfl, by rw [h0]; exact atoi_itoa (by omega) (by omega), by rw [h1]; exact atoi_itoa (by omega) (by omega), by rw [h2]; exact atoi_itoa (by omega) (by omega), by rw [h3]; exact atoi_itoa (by omega) (by omega)⟩
  | [], h => simp at h
  | [_], h => simp at h
  | [_, _], h => simp at h
  | [_, _, _], h => simp at h
  | _ :: _ :: _ :: _ :: _ :: _, h => simp at h
/-- What is read out of a string: the times whose string it is, or the error. -/
def PRes (l : List UInt8) (en : Ending) : Prop :=
  (∃ a st e r, validB a st e r = true ∧ textT a st e r = l ∧ en = .returned (.tuple #[.agg #[.int .i64 a, .int .i64 st, .int .i64 e, .int .i64 r], .int .i64 0])) ∨
  ((∀ a st e r, validB a st e r = true → textT a st e r ≠ l) ∧ en = .returned (.tuple #[.agg #[.int .i64 0, .int .i64 0, .int .i64 0, .int .i64 0], .int .i64 6]))
theorem textT_inj {a st e r a' st' e' r' : Int} (hv : validB a st e r = true) (hv' : validB a' st' e' r' = true) (h : textT a st e r = textT a' st' e' r') : a = a' ∧ st = st' ∧ e = e' ∧ r = r' := by
  obtain ⟨b0, b1, b2, b3, hb, h0, h1, h2, h3⟩ := words_nums hv ⟨(textT a st e r).toArray⟩ (by simp)
  obtain ⟨c0, c1, c2, c3, hc, k0, k1, k2, k3⟩ := words_nums hv' ⟨(textT a st e r).toArray⟩ (by simp [h])
  rw [hb] at hc
  simp only [List.cons.injEq, and_true] at hc
  obtain ⟨rfl, rfl, rfl, rfl⟩ := hc
  rw [h0] at k0; rw [h1] at k1; rw [h2] at k2; rw [h3] at k3
  injection k0; injection k1; injection k2; injection k3
  exact ⟨‹_›, ‹_›, ‹_›, ‹_›⟩
theorem PRes.uniq {l : List UInt8} {e e' : Ending} (h : PRes l e) (h' : PRes l e') : e = e' := by
  rcases h with ⟨a, s, x, r, hv, ht, rfl⟩ | ⟨hn, rfl⟩
  · rcases h' with ⟨a', s', x', r', hv', ht', rfl⟩ | ⟨hn', rfl⟩
    · obtain ⟨rfl, rfl, rfl, rfl⟩ := textT_inj hv hv' (ht.trans ht'.symm)
      rfl
    · exact absurd ht (hn' _ _ _ _ hv)
  · rcases h' with ⟨a', s', x', r', hv', ht', rfl⟩ | ⟨hn', rfl⟩
    · exact absurd ht' (hn _ _ _ _ hv')
    · rfl

/-! What the library's functions read. -/
def MaxL (w : World) : Prop := ∀ g, Tryz.prog.globalNamed "internal/bytealg.MaxLen" = some g → ∃ m, w.cell? ⟨g, 0, none⟩ = some (.int .i64 m)
theorem MaxL.ext {w w' : World} (h : MaxL w) (hx : Ext w w') : MaxL w' := fun g hg => let ⟨m, hm⟩ := h g hg; ⟨m, hx.cell hm⟩
def IfVar (n : String) (w : World) : Prop := ∃ tp p, w.var? Tryz.prog n = some #[.iface tp p]
theorem IfVar.ext {n : String} {w w' : World} (h : IfVar n w) (hx : Ext w w') : IfVar n w' := by
  obtain ⟨tp, p, h⟩ := h
  refine ⟨tp, p, ?_⟩
  unfold World.var? at h
  cases hg : Tryz.prog.globalNamed n with
  | none => rw [hg] at h; simp at h
  | some g =>
    have h' : w.var? Tryz.prog n = some #[.iface tp p] := by unfold World.var?; exact h
    rw [hg] at h
    simp only [Option.bind_some] at h
    have hlt : g < w.heap.size := by
      by_cases hh : g < w.heap.size
      · exact hh
      · rw [Array.getElem?_eq_none (by omega)] at h
        cases h
    exact var?_below hx hg hlt h'
structure Env (w : World) : Prop where
  pow : Pow w
  maxl : MaxL w
  syn : IfVar "strconv.ErrSyntax" w
  rng : IfVar "strconv.ErrRange" w
theorem Env.ext {w w' : World} (h : Env w) (hx : Ext w w') : Env w' := ⟨h.pow.ext hx, h.maxl.ext hx, h.syn.ext hx, h.rng.ext hx⟩

theorem SplitN_at (s : ByteArray) (hs : s.size ≤ 1000) (w : World) (hm : MaxL w) :
    Calls Tryz.prog 77 #[.string s, .string ⟨#[32]⟩, .int .i64 5] w fun e w' => ∃ n cap cs, e = .returned (.slice (some ⟨w.heap.size, 0, none⟩) n cap) ∧ n = (wordsB s).length ∧ w' = w.alloc (.cells cs 9) ∧ ∀ (j : Nat) b, (wordsB s)[j]? = some b → cs[j]? = some (.string b) := by
  obtain ⟨m, hm⟩ := hm 0 (by kernel_rfl)
  refine (Tryz.strings_SplitN s ⟨#[32]⟩ 5 m w (by omega) hm (by decide) (by omega) (by omega)).mono ?_
  rintro e w' ⟨rfl, rfl⟩
  refine ⟨_, _, _, rfl, rfl, rfl, fun j b hb => ?_⟩
  have hlt := (List.getElem?_eq_some_iff.1 hb).1
  unfold wordsB at hb hlt
  unfold Lib.cellsOf
  rw [List.getElem?_toArray, List.getElem?_append_left (by simpa using hlt), List.getElem?_map, hb]
  rfl
theorem ext_bytesWorld (w : World) (e : TypeId) (s : ByteArray) : Ext w (Lib.bytesWorld w e s) :=
  ⟨rfl, rfl, rfl, by rw [Lib.bytesWorld_size]; omega, fun k hk => Lib.bytesWorld_at_old w e s k (by omega)⟩
end Go.Proofs.YthpfomjibfbiiaaGreatDoor
