/- Names: the program's Parents and its iterator. -/
import Derived.Test.YtgclchdccgkjaaaDoorNm20
import Derived.Test.YtgclchdccgkjaaaDoorWm
namespace Go.Proofs.YtgclchdccgkjaaaDoor
open Go Go.RowKit
set_option linter.unusedVariables false

/-- What comes. -/
def parW (s : List UInt8) : List (List UInt8) := if realmB s = true then par s else []
/-- What the iterator finds: its box, the world's shape. -/
def PaIt (s : ByteArray) (g : Nat) (W : World) : Prop := W.heap[g]? = some (.cells #[.string s] 9 (0, 0)) ∧ MaxN W
def PaG (s : ByteArray) (pre : List ByteArray) (x : ByteArray) (_ : World) : Prop := (∃ rest, parW s.data.toList = dat pre ++ x.data.toList :: rest) ∧ x.size ≤ s.size
theorem Stab.cell {B : Nat} (p : Addr) (v : Value) : Stab B (fun W => W.cell? p = some v) := fun W W' l _ hn hg h => by
  have hlt := World.block_lt_of_cell? W p h
  refine (World.cell?_of_block (hg.block p.block hlt (fun e => ?_))).trans h
  injection e with e
  subst e
  have h' : W.cell? p = some v := h
  unfold World.cell? at h'
  cases ho : W.heap[p.block]? with
  | none => rw [ho] at h'; simp at h'
  | some o =>
    rw [ho] at h'
    cases o <;> simp at h'
    case cells cs t fr => exact hn _ _ _ ho
theorem PaIt.stab (B : Nat) (s : ByteArray) (g : Nat) : Stab B (PaIt s g) := (Stab.heap _ _ _ _).and (Stab.ex fun _ => Stab.cell _ _)
attribute [local go_sem] Oper.semAt_some
theorem PaIt.ext {s : ByteArray} {g : Nat} {W W' : World} (h : PaIt s g W) (hx : Ext W W') : PaIt s g W' := ⟨hx.heap h.1, h.2.ext hx⟩

set_option maxRecDepth 100000 in
set_option maxHeartbeats 2000000 in
theorem parents_iter (s : ByteArray) (hs : s.size ≤ 4294967280) (g : Nat) :
    Iter Tryd.prog 46 #[.pointer (some ⟨g, 0, none⟩)] (fun x : ByteArray => #[.string x]) (PaIt s g) (PaG s) (fun _ => False) (fun xs => dat xs = parW s.data.toList) (fun pre => ∃ rest, parW s.data.toList = dat pre ++ rest) := by
  intro lp J Jx W hJ hJx hY hit h0
  refine callsIn_of_wp Tryd.func46 rfl trivial ?_ rfl
  simp only [Tryd.ntmps46, List.size_toArray, List.length_cons, List.length_nil, Nat.reduceAdd, Nat.reduceSub, Array.replicate_succ, Array.replicate_zero, List.push_toArray, List.append_toArray, List.nil_append, List.cons_append]
  have k1 : W.cell? ⟨g, 0, none⟩ = some (.string s) := by rw [cell_of_row _ _ 0 _ _ (0, 0) hit.1]; rfl
  have HR := Lib.hid (Realm_at s hs W)
  have JE : ∀ pre A B, J pre A → Ext A B → J pre B := fun pre A B h hx => hJ pre A B none (by simp) (grown_none hx) h
  have HJE := Lib.hid JE; clear JE
  have HIT := Lib.hid hit; have H0 := Lib.hid h0; clear hit h0
  obtain ⟨rb, hrb⟩ : ∃ rb, realmB s.data.toList = rb := ⟨_, rfl⟩
  rw [hrb] at HR
  cases rb with
  | false =>
    have HW := Lib.hid (show parW s.data.toList = [] by unfold parW; rw [hrb]; rfl)
    clear hrb
    gi_wp2_with fail
    refine wide_call HR.out ?_
    rintro e w1 ⟨rfl, hx1⟩
    have HX1 := Lib.hid hx1; clear hx1
    gi_wp2_with fail
    first | go_end0 | refine bodyPost_ret (results_none rfl _ _ _) rfl ?_
    exact ⟨⟨_, rfl⟩, .inl ⟨[], by rw [HW.out]; rfl, HJE.out _ _ _ H0.out HX1.out, HIT.out.ext HX1.out⟩⟩
  | true =>
    have HW := Lib.hid (show parW s.data.toList = par s.data.toList by unfold parW; rw [hrb]; rfl)
    clear hrb
    gi_wp2_with fail
    refine wide_call HR.out ?_
    rintro e w1 ⟨rfl, hx1⟩
    have hit1 := HIT.out.ext hx1
    have k2 : w1.cell? ⟨g, 0, none⟩ = some (.string s) := by rw [cell_of_row _ _ 0 _ _ (0, 0) hit1.1]; rfl
    have HIT1 := Lib.hid hit1; have HJ1 := Lib.hid (HJE.out _ _ _ H0.out hx1); clear hx1 hit1 k1
    gi_wp2_with fail
    refine wide_call (Cut_dot s hs w1 HIT1.out.2) ?_
    rintro e w2 ⟨a0, r0, f0, rfl, hcp, hx2⟩
    have HIT2 := Lib.hid (HIT1.out.ext hx2); have HJ2 := Lib.hid (HJE.out _ _ _ HJ1.out hx2); clear hx2 k2
    have HC0 := Lib.hid hcp
    have HS0 := Lib.hid (show r0.size ≤ s.size by
      rcases hcp with ⟨_, _, h⟩ | ⟨_, _, h⟩
      · rw [h]; exact Nat.zero_le _
      · omega)
    clear hcp
    gi_wp2_with fail
    gi_loopw [4, 5] (fun vr vf wr => ∃ (pre : List ByteArray) (cur rest : ByteArray) (found : Bool), vr = .string rest ∧ vf = .bool found ∧ J pre wr ∧ PaIt s g wr ∧ parW s.data.toList = dat pre ++ par cur.data.toList ∧ CutP cur rest found ∧ cur.size ≤ s.size) (fun vr vf _ => match vr, vf with | .string b, .bool true => b.size + 1 | _, _ => 0)
    case atStart => exact ⟨[], s, r0, f0, rfl, rfl, HJ2.out, HIT2.out, by rw [HW.out]; rfl, HC0.out, Nat.le_refl _⟩
    case round =>
      obtain ⟨pre, cur, rest, found, rfl, rfl, hj, hi, he, hcp, hcs⟩ := hrel
      have HJ := Lib.hid hj; have HI := Lib.hid hi; have HE := Lib.hid he
      clear hj hi he
      rcases hcp with ⟨rfl, hp, hr⟩ | ⟨rfl, hp, hr⟩
      · have HP := Lib.hid hp; clear hp hr
        gi_wp2_with fail
        refine ⟨(fun _ h => by cases h), ?_⟩
        gi_wp2_with fail
        first | go_end0 | refine bodyPost_ret (results_none rfl _ _ _) rfl ?_
        exact ⟨⟨_, rfl⟩, .inl ⟨pre, by rw [HE.out, HP.out, List.append_nil], HJ.out, HI.out⟩⟩
      · have HN := Lib.hid (show parW s.data.toList = dat (pre ++ [rest]) ++ par rest.data.toList by rw [HE.out, hp]; simp [dat])
        have hrs : rest.size ≤ 4294967280 := by omega
        obtain ⟨fn, tmps, assign, body, hy, hR⟩ := hY pre rest wr HJ.out HI.out ⟨⟨par rest.data.toList, by rw [HE.out, hp]⟩, by omega⟩
        clear hp
        gi_wp2_with fail
        refine ⟨rfl, hR.mono ?_⟩
        rintro e W3 (⟨rfl, hJ3, hI3⟩ | ⟨rfl, hJx3⟩)
        · have HJ3 := Lib.hid hJ3; have HI3 := Lib.hid hI3; clear hJ3 hI3
          gi_wp2_with fail
          refine wide_call (Cut_dot rest hrs W3 HI3.out.2) ?_
          rintro e w4 ⟨a4, r4, f4, rfl, hcp4, hx4⟩
          have HC4 := Lib.hid hcp4; have HX4 := Lib.hid hx4; clear hcp4 hx4
          gi_wp2_with fail
          go_roundw
          case rel => exact ⟨pre ++ [rest], rest, r4, f4, rfl, rfl, HJE.out _ _ _ HJ3.out HX4.out, HI3.out.ext HX4.out, HN.out, HC4.out, by omega⟩
          case measure =>
            rcases HC4.out with ⟨rfl, _, _⟩ | ⟨rfl, _, h⟩
            · simp
            · simp; omega
        · gi_wp2_with fail
          first | go_end0 | refine bodyPost_ret (results_none rfl _ _ _) rfl ?_
          exact ⟨⟨_, rfl⟩, .inr ⟨pre ++ [rest], ⟨_, HN.out⟩, hJx3⟩⟩
theorem Parents_at (s : ByteArray) (w : World) :
    Calls Tryd.prog 27 #[.string s] w fun e w' => e = .returned (.func (.func 46) #[] #[.pointer (some ⟨w.heap.size, 0, none⟩)]) ∧ w' = w.alloc (.cells #[.string s] 9) := by
  have hmf : ∀ (fn : Fn) (first cap : Array Value) (w : World), (Instr.makeFunc fn first cap).run Tryd.prog w = .ok (.func fn first cap) w := fun _ _ _ _ => rfl
  go_enter Tryd.func27, Tryd.ntmps27
  go_wp2
  go_ret
  exact ⟨rfl, rfl⟩
end Go.Proofs.YtgclchdccgkjaaaDoor
