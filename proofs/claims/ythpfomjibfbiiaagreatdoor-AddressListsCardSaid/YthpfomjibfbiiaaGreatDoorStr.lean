/- Strings and byte slices: the two conversions over 'BS'. No program. -/
import Derived.Test.YthpfomjibfbiiaaGreatDoorMem
import Derived.Laws.IdiomStrings
namespace Go.Proofs.YthpfomjibfbiiaaGreatDoor
open Go Go.RowKit

/-- A literal row of bytes is owned. -/
theorem OB.lit (w : World) (e : TypeId) (B : Nat) (xs : List Value) (l : List UInt8) (h : xs = bv l) (n : Nat) (hn : n = l.length) (hl : l.length ≤ maxLen) (hB : B ≤ w.heap.size) {z : Nat} (hk : z = w.heap.size := by first | rfl | simp) :
    OB e (w.alloc (.cells xs.toArray e)) B (.slice (some ⟨z, 0, none⟩) n n) l := by
  subst h; subst hn; subst hk
  exact ⟨by simp, .inr ⟨w.heap.size, l.length, (bv l).toArray, rfl, hB, heap_alloc_new w _, Nat.le_refl _, hl, by simp, by
    simp only [Nat.mul_one]
    exact List.take_of_length_le (by simp)⟩⟩

section
variable {P : Program}
/-- 'string(b)'. -/
theorem run_str (w : World) (src dst e : TypeId) (v : Value) (l : List UInt8) (hs : P.underlying src = some (.slice e)) (he : P.underlying e = some (.int .u8)) (hd : P.underlying dst = some .string)
    (h : BS w v l) : (convert src dst v).run P w = .ok (.string ⟨l.toArray⟩) w := by
  obtain ⟨A, c, rfl, _, _, hc⟩ := h.open_
  rcases A with _ | ad
  · have hl : l = [] := by
      rcases Nat.eq_zero_or_pos l.length with h0 | h0
      · exact List.eq_nil_of_length_eq_zero h0
      · obtain ⟨ad, ha, _⟩ := hc h0; cases ha
    subst hl
    rw [run_convert_bytes_string w src dst e none _ c hs he hd]
    simp only [Conv.bytesToString, Sem.run_pure]
    rfl
  · refine run_convert_bytes_back w src dst e ad c l hs he hd (fun j hj => ?_)
    obtain ⟨ad', ha, _, hc'⟩ := hc (by omega)
    injection ha with ha
    subst ha
    exact hc' j hj

theorem BS.bytesRow (w : World) (l : List UInt8) (cap : Nat) (e : TypeId) (fr : Nat × Nat) (hl : l.length ≤ cap) (hm : cap ≤ maxLen) :
    BS (w.alloc (.cells (bytesRow ⟨l.toArray⟩ cap) e fr)) (.slice (some ⟨w.heap.size, 0, none⟩) l.length cap) l := by
  refine ⟨some ⟨w.heap.size, 0, none⟩, cap, by simp, by simpa using hl, hm, fun _ => ⟨⟨w.heap.size, 0, none⟩, rfl, by simp, fun j u hu => ?_⟩⟩
  have hadd : (⟨w.heap.size, 0, none⟩ : Addr).add j = ⟨w.heap.size, j, none⟩ := by unfold Addr.add; split <;> simp_all
  have hj : j < l.length := by
    have := (List.getElem?_eq_some_iff.1 hu).1
    simpa using this
  rw [hadd, World.cell?_alloc_mark, bytesRow_at _ _ _ (by simpa using hj)]
  rw [bv_get l j hj] at hu
  rw [← hu]
  simp

/-- '[]byte(s)'. -/
theorem run_bytes (w : World) (src dst e : TypeId) (l : List UInt8) (hs : P.underlying src = some .string) (hd : P.underlying dst = some (.slice e)) (he : P.underlying e = some (.int .u8)) (hl : l.length ≤ maxLen) :
    ∃ c w', (convert src dst (.string ⟨l.toArray⟩)).run P w = .ok (.slice (some ⟨w.heap.size, 0, none⟩) l.length c) w' ∧ BS w' (.slice (some ⟨w.heap.size, 0, none⟩) l.length c) l ∧ Ext w w' ∧ w'.heap.size = w.heap.size + 1 := by
  have hsz : (⟨l.toArray⟩ : ByteArray).size = l.length := by simp [ByteArray.size]
  have hr := run_bytes_of_string (P := P) w src dst e ⟨l.toArray⟩ hs hd he
  rw [hsz] at hr
  refine ⟨_, _, hr, BS.bytesRow w.drew l _ e _ (grownCap_ge w _ _ _) (grownCap_le_maxLen w _ _ _ hl), ((Ext.refl w).drew').alloc _, by simp⟩

theorem wpList_bytes (w : World) {ops : Array Oper} {rest : List Oper} {o : Oper} {a : Act} {Q : Exit → Act → World → Prop} (hgd : o.guard = none) (x : Operand) (src dst e : TypeId) (ho : o.op = .convert src dst x)
    (hs : P.underlying src = some .string) (hd : P.underlying dst = some (.slice e)) (he : P.underlying e = some (.int .u8)) (l : List UInt8) (hx : a.eval x = .string ⟨l.toArray⟩) (hl : l.length ≤ maxLen)
    (h : ∀ c w', BS w' (.slice (some ⟨w.heap.size, 0, none⟩) l.length c) l → Ext w w' → w'.heap.size = w.heap.size + 1 → wpList P ops Q rest (a.put o.dst (.slice (some ⟨w.heap.size, 0, none⟩) l.length c)) w') : wpList P ops Q (o :: rest) a w := by
  refine wpList_plain hgd fun K hK => ?_
  obtain ⟨c, w', hrun, h1, h2, h3⟩ := run_bytes (P := P) w src dst e l hs hd he hl
  unfold Oper.wp execOp
  simp only [ho, Sem.run_bind, hx, hrun, Result.andThen_ok, Sem.run_pure]
  exact hK _ _ (h c w' h1 h2 h3)
theorem wpList_str (w : World) {ops : Array Oper} {rest : List Oper} {o : Oper} {a : Act} {Q : Exit → Act → World → Prop} (hgd : o.guard = none) (x : Operand) (src dst e : TypeId) (ho : o.op = .convert src dst x)
    (hs : P.underlying src = some (.slice e)) (he : P.underlying e = some (.int .u8)) (hd : P.underlying dst = some .string) (v : Value) (l : List UInt8) (hx : a.eval x = v) (hl : BS w v l)
    (h : wpList P ops Q rest (a.put o.dst (.string ⟨l.toArray⟩)) w) : wpList P ops Q (o :: rest) a w := by
  refine wpList_plain hgd fun K hK => ?_
  unfold Oper.wp execOp
  simp only [ho, Sem.run_bind, hx, run_str w src dst e v l hs he hd hl, Result.andThen_ok, Sem.run_pure]
  exact hK _ _ h
end
end Go.Proofs.YthpfomjibfbiiaaGreatDoor
