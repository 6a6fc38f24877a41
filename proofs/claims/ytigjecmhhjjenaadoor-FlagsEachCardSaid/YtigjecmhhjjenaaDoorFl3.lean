/- Flags: named, the iterator over flags. -/
import Derived.Test.YtigjecmhhjjenaaDoorFl2
import Derived.Test.YtigjecmhhjjenaaDoorRangeM
import Derived.RangeFuncBound
import Derived.RangeFuncCalls
import Derived.OwnWalkIn
import Derived.TacticsInMore
import Derived.LoopNIn
import Derived.LoopIn
namespace Go.Proofs.YtigjecmhhjjenaaDoor
open Go Go.RowKit
set_option linter.unusedVariables false

theorem named_at (x : W32) (w : World) :
    Calls Tryd.prog 37 #[.int .u32 (x.toNat : Int)] w fun e w' => e = .returned (.bool (nmB x)) ∧ Ext w w' := by
  have hX := (Ext.refl w).alloc (.cells #[.int .u32 4095, .int .u32 2031807] 24)
  have hR : RS (w.alloc (.cells #[.int .u32 4095, .int .u32 2031807] 24)) (.slice (some ⟨w.heap.size, 0, none⟩) 2 2) (fvs [tkM, opM]) := RS.new w _ (fvs [tkM, opM]) (by decide)
  have HX := Lib.hid hX; have HR := Lib.hid hR
  clear hX hR
  go_enter Tryd.func37, Tryd.ntmps37
  go_wp2_with fail
  refine (union2_at tkM opM _ _ _ HR.out).mono ?_
  rintro _ w1 ⟨rfl, rfl⟩
  go_wp2_with fail
  refine (Has_at (orW tkM opM) x _).mono ?_
  rintro _ w1 ⟨rfl, rfl⟩
  go_wp2_with fail
  go_ret
  exact ⟨rfl, HX.out⟩

/-- The flag of a bit; the bits of flags that have names. -/
def bitW (k : Nat) : W32 := 1#32 <<< k
def nmS (k : Nat) : ByteArray := (nameAt k).getD ⟨#[]⟩
def isF (f : W32) (k : Nat) : Bool := (nameAt k).isSome && hasB f (bitW k)
def bitsTo (f : W32) (n : Nat) : List Nat := (List.range n).filter (isF f)
def bitsF (f : W32) : List Nat := bitsTo f 32
theorem bitsTo_yes {f : W32} {k : Nat} (h : isF f k = true) : bitsTo f (k + 1) = bitsTo f k ++ [k] := by
  simp [bitsTo, List.range_succ, h]
theorem bitsTo_no {f : W32} {k : Nat} (h : isF f k = false) : bitsTo f (k + 1) = bitsTo f k := by
  simp [bitsTo, List.range_succ, h]
theorem bitsTo_front (f : W32) : ∀ (n m : Nat), ∃ rest, bitsTo f (n + m) = bitsTo f n ++ rest
  | n, 0 => ⟨[], by simp⟩
  | n, m + 1 => by
    obtain ⟨rest, h⟩ := bitsTo_front f n m
    cases hb : isF f (n + m) with
    | true => exact ⟨rest ++ [n + m], by rw [← Nat.add_assoc, bitsTo_yes hb, h, List.append_assoc]⟩
    | false => exact ⟨rest, by rw [← Nat.add_assoc, bitsTo_no hb, h]⟩
theorem bitsF_front (f : W32) (k : Nat) (h : k ≤ 32) : ∃ rest, bitsF f = bitsTo f k ++ rest := by
  obtain ⟨rest, hr⟩ := bitsTo_front f k (32 - k)
  exact ⟨rest, by rw [← hr, show k + (32 - k) = 32 by omega]; rfl⟩
def eachEnc (k : Nat) : Array Value := #[.int .u32 ((bitW k).toNat : Int), .string (nmS k)]
/-- The captured flags. -/
def FB (W : World) (b : Nat) (f : W32) : Prop := W.heap[b]? = some (.cells #[.int .u32 (f.toNat : Int)] 24 (0, 0))
theorem FB.stab (B0 : Nat) (b : Nat) (f : W32) : Stab B0 (fun W => FB W b f) := Stab.heap _ _ _ _
theorem FB.ext {W W' : World} {b : Nat} {f : W32} (h : FB W b f) (hx : Ext W W') : FB W' b f := hx.heap h
theorem NM.nck {B b : Nat} {W W' : World} (h : NM W b) (hk : NCK B W W') (hb : B ≤ b) : NM W' b := hk.2 _ _ hb h rfl
theorem pow_bit (k : Nat) (h : k < 32) : (2 : Int) ^ k % 4294967296 = ((bitW k).toNat : Int) := by
  have h1 : (2 : Nat) ^ k < 4294967296 := Nat.lt_of_lt_of_le (Nat.pow_lt_pow_right (by decide) h) (by decide)
  have h2 : (bitW k).toNat = 2 ^ k := by
    unfold bitW
    rw [BitVec.toNat_shiftLeft, Nat.shiftLeft_eq]
    simp [Nat.mod_eq_of_lt h1]
  rw [h2]
  have h3 : ((2 ^ k : Nat) : Int) = (2 : Int) ^ k := by simp
  rw [← h3]
  omega
attribute [local go_sem] Oper.semAt_some

set_option maxRecDepth 100000 in
set_option maxHeartbeats 2000000 in
theorem each_iter (f : W32) (bf : Nat) :
    IterM Tryd.prog 41 #[.pointer (some ⟨bf, 0, none⟩)] eachEnc (fun W => FB W bf f) (fun pre k _ => isF f k = true ∧ k < 32 ∧ pre = bitsTo f k) (fun _ => False) (fun xs => xs = bitsF f) (fun pre => ∃ rest, bitsF f = pre ++ rest) := by
  intro lp J Jx W hJ hJx hY hit h0
  refine callsIn_of_wp Tryd.func41 rfl trivial ?_ rfl
  simp only [Tryd.ntmps41, List.size_toArray, List.length_cons, List.length_nil, Nat.reduceAdd, Nat.reduceSub, Array.replicate_succ, Array.replicate_zero, List.push_toArray, List.append_toArray, List.nil_append, List.cons_append]
  gi_wp2_with fail
  refine wide_call (names_at W) ?_
  rintro e w1 ⟨rfl, hnm, hx⟩
  have hj1 := hJ [] W w1 none (by simp) (grown_none hx) h0
  have hit1 := FB.ext hit hx
  have hsz1 := hx.size
  have HNM := Lib.hid hnm; have HJ1 := Lib.hid hj1; have HI1 := Lib.hid hit1
  clear hnm hj1 hit1 hx hit h0
  gi_wp2_with fail
  gi_loopw [9] (fun i wr => ∃ k : Nat, k ≤ 32 ∧ i = .int .i64 k ∧ J (bitsTo f k) wr ∧ FB wr bf f ∧ NM wr W.heap.size ∧ W.heap.size ≤ wr.heap.size) (fun i _ => 32 - (intOf i).toNat)
  case atStart => exact ⟨0, by omega, rfl, HJ1.out, HI1.out, HNM.out, hsz1⟩
  case round =>
    obtain ⟨k, hk, rfl, hj, hi, hn, hz⟩ := hrel
    by_cases hlt : k < 32
    · have hlook := look_at wr _ k hlt hn
      have HJ := Lib.hid hj; have HI := Lib.hid hi; have HN := Lib.hid hn; have HZ := Lib.hid hz
      have c0 := (row1 hi).1
      clear hj hi hn hz HNM HJ1 HI1 hsz1
      cases hnk : nameAt k with
      | none =>
        have hno : isF f k = false := by simp [isF, hnk]
        have HB := Lib.hid (bitsTo_no hno)
        simp only [lookV, hnk] at hlook
        clear hno
        gi_wp2_with fail
        refine ⟨trivial, ?_⟩
        gi_wp2_with fail
        try (refine ⟨fun _ h => (by cases h), ?_⟩; gi_wp2_with fail)
        go_roundw
        case rel => exact ⟨k + 1, by omega, by go_num, by rw [HB.out]; exact HJ.out, HI.out, HN.out, HZ.out⟩
        case measure => simp [intOf]; omega
      | some s =>
        have HP := Lib.hid (pow_bit k hlt)
        cases hb : hasB f (bitW k) with
        | false =>
          have hno : isF f k = false := by simp [isF, hb]
          have HB := Lib.hid (bitsTo_no hno)
          have HH := Lib.hid (hb ▸ Has_lit2 _ f (bitW k) HP.out wr)
          simp only [lookV, hnk] at hlook
          clear hno hb
          gi_wp2_with fail
          refine wide_call HH.out ?_
          rintro _ w2 ⟨rfl, rfl⟩
          gi_wp2_with fail
          try (refine ⟨fun _ h => (by cases h), ?_⟩; gi_wp2_with fail)
          go_roundw
          case rel => exact ⟨k + 1, by omega, by go_num, by rw [HB.out]; exact HJ.out, HI.out, HN.out, HZ.out⟩
          case measure => simp [intOf]; omega
        | true =>
          have hys : isF f k = true := by simp [isF, hb, hnk]
          have HB := Lib.hid (bitsTo_yes hys)
          have HY := Lib.hid hys
          have HH := Lib.hid (hb ▸ Has_lit2 _ f (bitW k) HP.out wr)
          have HS := Lib.hid (show nmS k = s by simp [nmS, hnk])
          simp only [lookV, hnk] at hlook
          clear hys hb
          obtain ⟨fn, tmps, assign, body, hy, hR⟩ := hY (bitsTo f k) k wr HJ.out HI.out ⟨HY.out, hlt, rfl⟩
          unfold eachEnc at hy
          rw [HS.out, ← HP.out] at hy
          gi_wp2_with fail
          refine wide_call HH.out ?_
          rintro _ w2 ⟨rfl, rfl⟩
          gi_wp2_with fail
          refine ⟨rfl, hR.mono ?_⟩
          rintro e W3 ⟨hq3, (⟨rfl, hJ3, hI3⟩ | ⟨rfl, hJx3⟩)⟩
          · have HN3 := Lib.hid (HN.out.nck hq3 (Nat.le_refl _)); have HZ3 := Lib.hid (Nat.le_trans HZ.out hq3.1); have HJ3 := Lib.hid hJ3; have HI3 := Lib.hid hI3
            clear hq3 hJ3 hI3
            gi_wp2_with fail
            go_roundw
            case rel => exact ⟨k + 1, by omega, by go_num, by rw [HB.out]; exact HJ3.out, HI3.out, HN3.out, HZ3.out⟩
            case measure => simp [intOf]; omega
          · obtain ⟨rest, hrest⟩ := bitsF_front f (k + 1) (by omega)
            have HR := Lib.hid hrest
            clear hrest hq3
            gi_wp2_with fail
            first | go_end0 | refine bodyPost_ret (results_none rfl _ _ _) rfl ?_
            exact ⟨⟨_, rfl⟩, .inr ⟨_, ⟨rest, by rw [← HB.out]; exact HR.out⟩, hJx3⟩⟩
    · have h32 : k = 32 := by omega
      subst h32
      gi_wp2_with fail
      first | go_end0 | refine bodyPost_ret (results_none rfl _ _ _) rfl ?_
      exact ⟨⟨_, rfl⟩, .inl ⟨_, rfl, hj, hi⟩⟩

theorem Each_at (f : W32) (w : World) :
    Calls Tryd.prog 22 #[.int .u32 (f.toNat : Int)] w fun e w' => e = .returned (.func (.func 41) #[] #[.pointer (some ⟨w.heap.size, 0, none⟩)]) ∧ FB w' w.heap.size f ∧ w'.heap.size = w.heap.size + 1 ∧ Ext w w' := by
  have hmf : ∀ (fn : Fn) (first cap : Array Value) (w : World), (Instr.makeFunc fn first cap).run Tryd.prog w = .ok (.func fn first cap) w := fun _ _ _ _ => rfl
  have h0 := heap_alloc_new w (.cells #[.int .u32 (f.toNat : Int)] 24)
  have hX := (Ext.refl w).alloc (.cells #[.int .u32 (f.toNat : Int)] 24)
  have H0 := Lib.hid h0; have HX := Lib.hid hX
  clear h0 hX
  go_enter Tryd.func22, Tryd.ntmps22
  go_wp2
  go_ret
  exact ⟨rfl, H0.out, by simp, HX.out⟩
set_option maxRecDepth 100000 in
theorem postdated_at (x : W32) (w : World) :
    Calls Tryd.prog 47 #[.int .u32 (x.toNat : Int)] w fun e w' => e = .returned (.int .u32 ((bif hasB x 32#32 then 96#32 else 0#32 : W32).toNat : Int)) ∧ Ext w w' := by
  have H := Lib.hid (Has_lit2 32 x 32#32 (by decide) w)
  have hX := (Ext.refl w).alloc (.cells #[.int .u32 32, .int .u32 64] 24)
  have hR : RS (w.alloc (.cells #[.int .u32 32, .int .u32 64] 24)) (.slice (some ⟨w.heap.size, 0, none⟩) 2 2) (fvs [32#32, 64#32]) := RS.new w _ (fvs [32#32, 64#32]) (by decide)
  have HX := Lib.hid hX; have HR := Lib.hid hR
  clear hX hR
  obtain ⟨b, hb⟩ : ∃ b, hasB x 32#32 = b := ⟨_, rfl⟩
  rw [hb] at H ⊢
  clear hb
  cases b with
  | false =>
    go_enter Tryd.func47, Tryd.ntmps47
    go_wp2_with fail
    refine H.out.mono ?_
    rintro _ w1 ⟨rfl, rfl⟩
    go_wp2_with fail
    go_ret
    exact ⟨rfl, Ext.refl _⟩
  | true =>
    go_enter Tryd.func47, Tryd.ntmps47
    go_wp2_with fail
    refine H.out.mono ?_
    rintro _ w1 ⟨rfl, rfl⟩
    go_wp2_with fail
    refine (union2_at 32#32 64#32 _ _ _ HR.out).mono ?_
    rintro _ w1 ⟨rfl, rfl⟩
    go_wp2_with fail
    go_ret
    exact ⟨rfl, HX.out⟩
end Go.Proofs.YtigjecmhhjjenaaDoor
