/- Regions that draw their order and hold guarded operations, walked once with the guards as variables. No program. -/
import Derived.Test.YtnjmndofcpnmeaaGreatDoorTx0
import Derived.Laws.Concat
namespace Go.Proofs.YtnjmndofcpnmeaaGreatDoor
open Go Go.RowKit
set_option linter.unusedVariables false

section
variable {P : Program} {ops : Array Oper} {Vs : Nat → Value → World → Prop} {w0 : World}
/-- An operation whose outcome is told. -/
theorem wpE_val {Q : Act → World → Prop} {k : Nat} {o : Oper} {rest : List Oper} {a : Act} {Ws : Marks'} (v : Value) (hwd : Region.wanted o (yielded ops a.tmps) = true) (hp : plainOp o.op = true)
    (h : ∀ w, okw ops w0 Ws o w → ∀ K : Act → World → Prop, K (a.put o.dst v) w → o.wp P a w K (fun _ _ _ => False))
    (h2 : wpE P ops Vs w0 Q (k + 1) rest (a.put o.dst v) Ws) : wpE P ops Vs w0 Q k (o :: rest) a Ws :=
  wpE_op hwd hp fun w hw K hK => h w hw K (hK _ ⟨v, rfl⟩ h2)
/-- Two strings, one behind the other. -/
theorem wpE_cat {Q : Act → World → Prop} {k : Nat} {o : Oper} {rest : List Oper} {a : Act} {Ws : Marks'} (l m : List UInt8) {t : TypeId} {x y : Operand} {b : TypeId} (ho : o.op = .binOp .add t x y b) (hwd : Region.wanted o (yielded ops a.tmps) = true)
    (hx : a.eval x = .string ⟨l.toArray⟩) (hy : a.eval y = .string ⟨m.toArray⟩) (hs : l.length + m.length ≤ 9223372036854775807)
    (h2 : wpE P ops Vs w0 Q (k + 1) rest (a.put o.dst (.string ⟨(l ++ m).toArray⟩)) Ws) : wpE P ops Vs w0 Q k (o :: rest) a Ws := by
  refine wpE_val _ hwd (by rw [ho]; rfl) (fun w hw K hK => ?_) h2
  unfold Oper.wp execOp
  rw [ho]
  have hr := run_string_add_sum (P := P) w ⟨l.toArray⟩ ⟨m.toArray⟩ (by simpa [ByteArray.size] using hs)
  rw [ByteArray.mk_append_mk] at hr
  generalize (⟨(l ++ m).toArray⟩ : ByteArray) = r at *
  simp only [hx, hy]
  simp [binOp, eqGuard, hr, Oper.upon, Result.andThen]
  exact hK
/-- A call whose guard is a variable: it hands back v, which is no memory, or nothing. -/
theorem wpE_symcall {Q : Act → World → Prop} {k : Nat} {o : Oper} {rest : List Oper} {a : Act} {Ws : Marks'} (d : Tmp) (ho : o.dst = some d) (hd : d < a.tmps.size) (c : Bool) (v : Value) (hwd : Region.wanted o (yielded ops a.tmps) = c) (hv : ∀ v' w', Vs k v' w' → v' = v)
    (h : c = true → ∀ w, okw ops w0 Ws o w → ∀ K : Act → World → Prop, (∀ v' w', Vs k v' w' → Ext w w' → K (a.put o.dst v') w') → o.wp P a w K (fun _ _ _ => False))
    (h2 : wpE P ops Vs w0 Q (k + 1) rest (a.put o.dst (bif c then v else undef)) Ws) : wpE P ops Vs w0 Q k (o :: rest) a Ws := by
  cases c with
  | true =>
    rw [cond_true] at h2
    refine wpE_call d ho hd hwd (fun w hw K hK => h rfl w hw K fun v' w' hv' hx => hK _ _ ⟨v', rfl, hv'⟩ hx) fun v' w' _ hv' => ?_
    obtain rfl := hv v' w' hv'
    exact wpE_mono rest (k + 1) _ _ _ (stronger_adds _ _ _) h2
  | false =>
    rw [cond_false] at h2
    unfold wpE
    rw [hwd, if_neg (by decide)]
    exact h2
end
/-! The same in a plain region. -/
section
variable {P : Program} {ops : Array Oper}
theorem wpL_sym {Q : Exit → Act → World → Prop} {o : Oper} {rest : List Oper} {a : Act} {w : World} (c : Bool) (v : Value) (hwd : Region.wanted o (yielded ops a.tmps) = c)
    (h : c = true → ∀ K : Act → World → Prop, K (a.put o.dst v) w → o.wp P a w K Q)
    (h2 : wpList P ops Q rest (a.put o.dst (bif c then v else undef)) w) : wpList P ops Q (o :: rest) a w := by
  cases c with
  | true => exact wpList_step fun K hK => by rw [hwd, if_pos rfl]; exact h rfl K (hK _ _ h2)
  | false => exact wpList_step fun K hK => by rw [hwd, if_neg (by decide)]; exact hK _ _ h2
theorem wpL_symcall {Q : Exit → Act → World → Prop} {o : Oper} {rest : List Oper} {a : Act} {w : World} (c : Bool) (v : Value) (hwd : Region.wanted o (yielded ops a.tmps) = c)
    (h : c = true → ∀ K : Act → World → Prop, (∀ w', Ext w w' → K (a.put o.dst v) w') → o.wp P a w K Q)
    (h2 : ∀ w', Ext w w' → wpList P ops Q rest (a.put o.dst (bif c then v else undef)) w') : wpList P ops Q (o :: rest) a w := by
  cases c with
  | true => exact wpList_step fun K hK => by rw [hwd, if_pos rfl]; exact h rfl K fun w' hx => hK _ _ (h2 w' hx)
  | false => exact wpList_step fun K hK => by rw [hwd, if_neg (by decide)]; exact hK _ _ (h2 w (Ext.refl w))
theorem wpL_val {Q : Exit → Act → World → Prop} {o : Oper} {rest : List Oper} {a : Act} {w : World} (v : Value) (hwd : Region.wanted o (yielded ops a.tmps) = true)
    (h : ∀ K : Act → World → Prop, K (a.put o.dst v) w → o.wp P a w K Q)
    (h2 : wpList P ops Q rest (a.put o.dst v) w) : wpList P ops Q (o :: rest) a w :=
  wpL_sym true v hwd (fun _ => h) h2
end
end Go.Proofs.YtnjmndofcpnmeaaGreatDoor
