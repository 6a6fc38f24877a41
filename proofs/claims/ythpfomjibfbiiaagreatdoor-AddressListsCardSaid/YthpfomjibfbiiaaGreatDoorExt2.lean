/- A region that draws its order, with a tail that is done last: the head by 'wpE', the tail step by step. No program. -/
import Derived.Test.YthpfomjibfbiiaaGreatDoorExt
import Derived.StillTail
namespace Go.Proofs.YthpfomjibfbiiaaGreatDoor
open Go Go.RowKit

section
variable {P : Program} {ops : Array Oper} {Vs : Nat → Value → World → Prop} {w0 : World} {md : Region.Mode}
def wpAnyEL (P : Program) (md : Region.Mode) (ops : Array Oper) (Vs : Nat → Value → World → Prop) (w0 : World) (n : Nat) (L : Array Bool → Act → World → Prop) : Nat → Array Bool → Act → Marks' → Prop
  | 0, listed, a, Ws => cons' w0 Ws → ∀ w, above w0 Ws w → L listed a w
  | fuel + 1, listed, a, Ws => cons' w0 Ws →
    Region.ready md ops listed ≠ [] ∧ ∀ i ∈ Region.ready md ops listed, i < n ∧ eOp P ops Vs w0 i (wpAnyEL P md ops Vs w0 n L fuel (listed.setIfInBounds i true)) a Ws

theorem wpAnyEL_mono {n : Nat} {L : Array Bool → Act → World → Prop} : ∀ (fuel : Nat) (listed : Array Bool) (a : Act) (Ws Ws' : Marks'), stronger Ws' Ws → wpAnyEL P md ops Vs w0 n L fuel listed a Ws → wpAnyEL P md ops Vs w0 n L fuel listed a Ws'
  | 0, _, _, _, _, hs, h => fun hc => fun w hw => h (hs.cons' hc) w (hs.above hw)
  | fuel + 1, _, _, _, _, hs, h => fun hc =>
    ⟨(h (hs.cons' hc)).1, fun i hi => ⟨((h (hs.cons' hc)).2 i hi).1, eOp_mono hs (fun a X X' hX hk => wpAnyEL_mono fuel _ a X X' hX hk) ((h (hs.cons' hc)).2 i hi).2⟩⟩

theorem wpAny_of_EL {n g : Nat} {L : Array Bool → Act → World → Prop} {Q' : Exit → Act → World → Prop} (hL : ∀ listed a w, L listed a w → wpAny P md ops Q' g listed a w) : ∀ (fuel : Nat) (listed : Array Bool) (a : Act) (Ws : Marks') (w : World), above w0 Ws w →
    wpAnyEL P md ops Vs w0 n L fuel listed a Ws → wpAny P md ops Q' (fuel + g) listed a w
  | 0, _, _, _, w, hw, h => by rw [Nat.zero_add]; exact hL _ _ _ (h ⟨w, hw⟩ w hw)
  | fuel + 1, listed, a, Ws, w, hw, h => by
    rw [show fuel + 1 + g = (fuel + g) + 1 by omega]
    obtain ⟨h1, h2⟩ := h ⟨w, hw⟩
    refine ⟨fun h0 => absurd h0 h1, fun i hi => ?_⟩
    have hh := (h2 i hi).2
    unfold eOp at hh
    unfold wpOp
    split
    · rename_i ho
      simp only [ho] at hh
      exact wpAny_of_EL hL fuel _ _ _ _ hw hh
    · rename_i o ho
      simp only [ho] at hh
      split
      · rename_i hwd
        simp only [hwd, if_true] at hh
        refine .inl ?_
        have h3 := hh w hw.okw
        unfold Oper.yieldsK at h3
        unfold Oper.wp
        generalize (execOp a.eval o).run P w = r at *
        cases r with
        | ok n w' =>
          cases n <;> simp only [yUpon] at h3 <;> simp only [Oper.upon]
          case value v => exact wpAny_of_EL hL fuel _ _ _ _ (hw.step h3.1) h3.2
          case skip => exact wpAny_of_EL hL fuel _ _ _ _ (hw.step h3.1) h3.2
          case enter f args =>
            refine h3.1.mono fun e w'' ⟨v, he, hx, hv⟩ => ?_
            subst he
            exact wpAny_of_EL hL fuel _ _ _ _ (hw.step hx) (h3.2 v w'' hx hv)
          case row row args => exact h3.1.mono fun v w'' ⟨hx, hv⟩ => wpAny_of_EL hL fuel _ _ _ _ (hw.step hx) (h3.2 v w'' hx hv)
        | halt x w' => simp only [yUpon] at h3
      · rename_i hwd
        simp only [hwd] at hh
        exact wpAny_of_EL hL fuel _ _ _ _ hw hh

theorem wpAnyEL_first {n : Nat} {L : Array Bool → Act → World → Prop} {i : Nat} {oi : Oper} (hi : ops[i]? = some oi) (hsel : ∀ (j : Nat) (o : Oper) cs b, ops[j]? = some o → o.op ≠ .select cs b)
    (hs : Region.sinkB md ops n = true) (hc0 : Region.chainB md ops n = true) (hn : n < ops.size) (hin : i < n) (hdone : ∀ listed a w, L listed a w → ∀ j ∈ Region.ready md ops listed, n ≤ j) :
    ∀ (fuel : Nat) (listed : Array Bool) (a : Act) (Ws : Marks'), HeadInv md ops n listed →
      (∀ j oj, ops[j]? = some oj → j ≠ i → listed.getD j true = false → (∀ e ∈ oj.after, Region.binds md e = true → e.on ≠ i) → oi.apart ops oj = true) →
      i ∈ Region.ready md ops listed → eOp P ops Vs w0 i (wpAnyEL P md ops Vs w0 n L fuel (listed.setIfInBounds i true)) a Ws →
      wpAnyEL P md ops Vs w0 n L (fuel + 1) listed a Ws := by
  intro fuel
  induction fuel with
  | zero =>
    intro listed a Ws inv _ hr H hc
    have hun := (mem_ready.1 hr).1
    refine ⟨fun h => (by rw [h] at hr; cases hr), fun j hj => ?_⟩
    have hjn : j < n := by
      rcases Nat.lt_or_ge j n with h | h
      · exact h
      · exact absurd hj (tail_waits hs hc0 hn inv _ i rfl hin hun j h)
    refine ⟨hjn, ?_⟩
    by_cases hji : j = i
    · subst hji; exact H
    · exfalso
      have hm := ready_mono hj hji
      obtain ⟨wc, hwc⟩ := hc
      rcases eOp_at hi H with ⟨_, h⟩ | ⟨_, h⟩
      · obtain ⟨v, w', he, hk⟩ := yUpon_some (h wc hwc.okw)
        have := hdone _ _ _ (hk ⟨w', hwc.step he⟩ w' (hwc.step he)) j hm
        omega
      · have := hdone _ _ _ (h ⟨wc, hwc⟩ wc hwc) j hm
        omega
  | succ fuel ih =>
    intro listed a Ws inv hfree hr H hc
    have hun := (mem_ready.1 hr).1
    refine ⟨fun h => (by rw [h] at hr; cases hr), fun j hj => ?_⟩
    have hjn : j < n := by
      rcases Nat.lt_or_ge j n with h | h
      · exact h
      · exact absurd hj (tail_waits hs hc0 hn inv _ i rfl hin hun j h)
    refine ⟨hjn, ?_⟩
    by_cases hji : j = i
    · subst hji; exact H
    · have hm := ready_mono hj hji
      obtain ⟨hjun, oj, hoj, hall⟩ := mem_ready.1 hj
      have hnot : ∀ e ∈ oj.after, Region.binds md e = true → e.on ≠ i := fun e he hb heq => by
        have h1 := hall e he hb
        have h0 := (mem_ready.1 hr).1
        rw [heq] at h1
        rcases Nat.lt_or_ge i listed.size with h' | h'
        · simp [h'] at h0 h1; rw [h0] at h1; cases h1
        · simp [Array.getElem?_eq_none h'] at h1
      have hap := hfree j oj hoj hji hjun hnot
      obtain ⟨a1, a2, a3⟩ := Oper.apart_spec hap
      have hsi := fun cs b => hsel i oi cs b hi
      have hsj := fun cs b => hsel j oj cs b hoj
      have hfree' : ∀ k ok, ops[k]? = some ok → k ≠ i → (listed.setIfInBounds j true).getD k true = false →
          (∀ e ∈ ok.after, Region.binds md e = true → e.on ≠ i) → oi.apart ops ok = true := fun k ok hk hki hun hno => by
        refine hfree k ok hk hki ?_ hno
        by_cases hjk : j = k
        · subst hjk; exact hjun
        · rw [getD_set_ne true hjk] at hun; exact hun
      have hr' := ready_mono hr (Ne.symm hji)
      have hset := Array.setIfInBounds_comm (xs := listed) true true hji
      obtain ⟨wc, hwc⟩ := hc
      -- operation j behind i, at whatever value of i
      have hj_w : ∀ v, Region.wanted oj (yielded ops (a.put oi.dst v).tmps) = Region.wanted oj (yielded ops a.tmps) := fun v => wanted_put oj a oi.dst v a1
      have hj_e : ∀ v, execOp (a.put oi.dst v).eval oj = execOp a.eval oj := fun v => execOp_put oj hsj a oi.dst v a1
      have hi_w : ∀ u, Region.wanted oi (yielded ops (a.put oj.dst u).tmps) = Region.wanted oi (yielded ops a.tmps) := fun u => wanted_put oi a oj.dst u a3
      have hi_e : ∀ u, execOp (a.put oj.dst u).eval oi = execOp a.eval oi := fun u => execOp_put oi hsi a oj.dst u a3
      refine eOp_mk hoj ?_
      rcases eOp_at hi H with ⟨hiw, hI⟩ | ⟨hiw, hI⟩
      · -- i is wanted
        -- an outcome of i at the world that is above all
        obtain ⟨vc, w1, he1, hk1⟩ := yUpon_some (hI wc hwc.okw)
        have hcomp := ((hk1 ⟨w1, hwc.step he1⟩).2 j hm).2
        rcases eOp_at hoj hcomp with ⟨hjw, hJ⟩ | ⟨hjw, hJ⟩
        · rw [hj_w] at hjw
          refine .inl ⟨hjw, fun w hw => ?_⟩
          -- all instances of what follows j in world w
          have key : yUpon P w (Vs j) (fun u w' => ∀ (x : { x : Value × World // ∃ w2, okw ops w0 Ws oi w2 ∧ Ext w2 x.2 ∧ wpAnyEL P md ops Vs w0 n L (fuel + 1) (listed.setIfInBounds i true) (a.put oi.dst x.1) (adds oi.dst x.2 Ws) ∧ cons' w0 (adds oi.dst x.2 Ws) }),
              wpAnyEL P md ops Vs w0 n L fuel ((listed.setIfInBounds i true).setIfInBounds j true) ((a.put oi.dst x.1.1).put oj.dst u) (adds oj.dst w' (adds oi.dst x.1.2 Ws))) ((execOp a.eval oj).run P w) := by
            refine yUpon_all ⟨(vc, w1), wc, hwc.okw, he1, hk1, ⟨w1, hwc.step he1⟩⟩ ?_
            rintro ⟨⟨v, wv⟩, w2, hk2, he2, hA, hcv⟩
            rcases eOp_at hoj ((hA hcv).2 j hm).2 with ⟨_, hJ2⟩ | ⟨hno, _⟩
            · have := hJ2 w (okw_adds a1 hw)
              unfold Oper.yieldsK at this
              rw [hj_e] at this
              exact this
            · rw [hj_w, hjw] at hno; cases hno
          refine yUpon_mono (fun u w' hew hall2 => ?_) key
          refine ih (listed.setIfInBounds j true) (a.put oj.dst u) (adds oj.dst w' Ws) (inv.set hj hjn) hfree' hr' ?_
          refine eOp_mk hi (.inl ⟨by rw [hi_w]; exact hiw, fun w2 hw2 => ?_⟩)
          have hw2' : okw ops w0 Ws oi w2 := okw_of_adds hw2
          have h4 := hI w2 hw2'
          unfold Oper.yieldsK at h4 ⊢
          rw [hi_e]
          refine yUpon_mono (fun v w3 he3 hA => ?_) h4
          rw [← Act.put_comm a v u a2, hset]
          -- either there is a world above all of it, or nothing is asked
          by_cases hcv : cons' w0 (adds oi.dst w3 (adds oj.dst w' Ws))
          · have hc2 : cons' w0 (adds oi.dst w3 Ws) := by
              have h5 : cons' w0 (adds oj.dst w' (adds oi.dst w3 Ws)) := (stronger.swap Ws oi.dst oj.dst w3 w').cons' hcv
              exact cons_of_adds h5
            exact wpAnyEL_mono fuel _ _ _ _ (stronger.swap Ws oi.dst oj.dst w3 w') (hall2 ⟨(v, w3), w2, hw2', he3, hA, hc2⟩)
          · cases fuel with
            | zero => exact fun hc => absurd hc hcv
            | succ n => exact fun hc => absurd hc hcv
        · rw [hj_w] at hjw
          refine .inr ⟨hjw, ?_⟩
          refine ih (listed.setIfInBounds j true) (a.put oj.dst undef) Ws (inv.set hj hjn) hfree' hr' ?_
          refine eOp_mk hi (.inl ⟨by rw [hi_w]; exact hiw, fun w2 hw2 => ?_⟩)
          have h4 := hI w2 hw2
          unfold Oper.yieldsK at h4 ⊢
          rw [hi_e]
          refine yUpon_mono (fun v w3 he3 hA => ?_) h4
          rw [← Act.put_comm a v undef a2, hset]
          by_cases hcv : cons' w0 (adds oi.dst w3 Ws)
          · rcases eOp_at hoj ((hA hcv).2 j hm).2 with ⟨hno, _⟩ | ⟨_, hJ2⟩
            · rw [hj_w, hjw] at hno; cases hno
            · exact hJ2
          · cases fuel with
            | zero => exact fun hc => absurd hc hcv
            | succ n => exact fun hc => absurd hc hcv
      · -- i is not wanted
        have hcomp := ((hI ⟨wc, hwc⟩).2 j hm).2
        rcases eOp_at hoj hcomp with ⟨hjw, hJ⟩ | ⟨hjw, hJ⟩
        · rw [hj_w] at hjw
          refine .inl ⟨hjw, fun w hw => ?_⟩
          have h4 := hJ w hw
          unfold Oper.yieldsK at h4 ⊢
          rw [hj_e] at h4
          refine yUpon_mono (fun u w' hew hA => ?_) h4
          refine ih (listed.setIfInBounds j true) (a.put oj.dst u) (adds oj.dst w' Ws) (inv.set hj hjn) hfree' hr' ?_
          refine eOp_mk hi (.inr ⟨by rw [hi_w]; exact hiw, ?_⟩)
          rw [← Act.put_comm a undef u a2, hset]
          exact hA
        · rw [hj_w] at hjw
          refine .inr ⟨hjw, ?_⟩
          refine ih (listed.setIfInBounds j true) (a.put oj.dst undef) Ws (inv.set hj hjn) hfree' hr' ?_
          refine eOp_mk hi (.inr ⟨by rw [hi_w]; exact hiw, ?_⟩)
          rw [← Act.put_comm a undef undef a2, hset]
          exact hJ

theorem wpAnyEL_lex {n g : Nat} {Lq : Act → World → Prop} (hsel : Region.noSelect ops = true) (hs : Region.sinkB md ops n = true) (hc : Region.chainB md ops n = true) (hn : n < ops.size) :
    ∀ (l : List Oper) (k : Nat) (listed : Array Bool) (a : Act) (Ws : Marks'), (∀ j, j < l.length → l[j]? = ops[k + j]?) → k + l.length = n → HeadInv md ops n listed →
    Region.lexHead md ops g l.length k listed = true → wpE P ops Vs w0 Lq k l a Ws →
    wpAnyEL P md ops Vs w0 n (fun listed' a' w' => Region.seqB md ops g n listed' = true ∧ Lq a' w') l.length listed a Ws
  | [], k, listed, a, Ws, _, hk, _, hB, h => by
    have : k = n := by simpa using hk
    subst this
    exact fun _ w hw => ⟨by simpa [Region.lexHead] using hB, h w hw⟩
  | o :: l, k, listed, a, Ws, hl, hk, inv, hB, h => by
    have h0 : ops[k]? = some o := by simpa using (hl 0 (by simp)).symm
    simp only [List.length_cons, Region.lexHead, Bool.and_eq_true] at hB
    obtain ⟨⟨hr, hf⟩, hB'⟩ := hB
    have hkn : k < n := by simp only [List.length_cons] at hk; omega
    have hr' : k ∈ Region.ready md ops listed := by simpa using hr
    have hst : eOp P ops Vs w0 k (wpE P ops Vs w0 Lq (k + 1) l) a Ws := by unfold eOp; simp only [h0]; exact h
    refine wpAnyEL_first h0 (Region.noSelect_spec hsel) hs hc hn hkn (fun listed' a' w' hL => seqB_ready hL.1) l.length listed a Ws inv (Region.free_spec h0 hf) hr' ?_
    unfold eOp at hst ⊢
    simp only [h0] at hst ⊢
    have hl' : ∀ j, j < l.length → l[j]? = ops[k + 1 + j]? := fun j hj => by have := hl (j + 1) (by simp; omega); simpa [Nat.add_assoc, Nat.add_comm 1 j] using this
    have hk' : k + 1 + l.length = n := by simp only [List.length_cons] at hk; omega
    split at hst
    · rename_i hw
      rw [if_pos hw]
      exact fun w hk => yUpon_mono (fun v w' _ hv => wpAnyEL_lex hsel hs hc hn l (k + 1) _ _ _ hl' hk' (inv.set hr' hkn) hB' hv) (hst w hk)
    · rename_i hw
      rw [if_neg hw]
      exact wpAnyEL_lex hsel hs hc hn l (k + 1) _ _ _ hl' hk' (inv.set hr' hkn) hB' hst

/-- **A region that draws its order, with a tail.** -/
theorem wp_region_ext_tail (n : Nat) (Vs : Nat → Value → World → Prop) {id : Nat} {Q : Exit → Act → World → Prop} {a : Act} {w : World} {l : List Oper} (hm : P.follows .mixedOrders = true) (hB : Region.lexTailB .any l.toArray n = true)
    (h : wpE P l.toArray Vs w.drew (fun a' w' => wpList P l.toArray Q (l.drop n) a' w') 0 (l.take n) a []) : (Code.region id l.toArray true).wp P Q a w := by
  simp only [Region.lexTailB, Bool.and_eq_true, decide_eq_true_eq] at hB
  obtain ⟨⟨⟨⟨hsel, hn⟩, hs⟩, hc⟩, hlex⟩ := hB
  have hn' : n < l.length := by simpa using hn
  have htl : (l.take n).length = n := by simp; omega
  have hdl : (l.drop n).length = l.toArray.size - n := by simp
  have inv0 : HeadInv .any l.toArray n (Array.replicate l.toArray.size false) :=
    ⟨by simp, fun j oj _ hl => (by rw [getD_replicate_false] at hl; cases hl), fun t _ ht => getD_in (by simpa using ht) (getD_replicate_false _ _)⟩
  have H := wpAnyEL_lex (md := .any) (g := l.toArray.size - n) hsel hs hc hn (l.take n) 0 _ a [] (fun j hj => by
    have hj' : j < n := by rw [htl] at hj; exact hj
    simp [hj']) (by simpa using htl) inv0 (by rw [htl]; exact hlex) h
  refine wp_region_any hm ?_
  have := wpAny_of_EL (w0 := w.drew) (Q' := Q) (g := l.toArray.size - n) (fun listed a' w' hL => by
    have := wpAny_of_seq (md := .any) (Q' := Q) (l.drop n) n listed a' w' (fun j => by simp [List.getElem?_drop]) (by rw [hdl]; exact hL.1) hL.2
    rwa [hdl] at this) _ _ _ [] w.drew ⟨Ext.refl _, fun _ _ h => by cases h⟩ H
  rw [htl, show n + (l.toArray.size - n) = l.toArray.size by omega] at this
  exact this
end
#print axioms wp_region_ext_tail
end Go.Proofs.YthpfomjibfbiiaaGreatDoor
