/- Pc30. -/
import Derived.Test.YtnjmndofcpnmeaaGreatDoorPc29
import Derived.Test.YtnjmndofcpnmeaaGreatDoorPc0
import Derived.Sort.Grow
import Derived.Deep.Draws
import Derived.Test.YtnjmndofcpnmeaaGreatDoorPc8
import Derived.Test.YtnjmndofcpnmeaaGreatDoorPc19
import Derived.Test.YtnjmndofcpnmeaaGreatDoorPc27
import Derived.Test.YtnjmndofcpnmeaaGreatDoorPc9
import Derived.Test.YtnjmndofcpnmeaaGreatDoorPc4
namespace Go.Proofs.YtnjmndofcpnmeaaGreatDoor
open Go Go.RowKit
set_option linter.unusedVariables false
structure ExtD (w w':World):Prop where
 ext:Ext w w'
 drawn:w.drawn≤w'.drawn
theorem ExtD.refl (w:World):ExtD w w:=⟨Ext.refl w,Nat.le_refl _⟩
theorem ExtD.trans {a b c:World}(h:ExtD a b)(k:ExtD b c):ExtD a c:=⟨h.ext.trans k.ext,Nat.le_trans h.drawn k.drawn⟩
theorem ExtD.drew (w:World):ExtD w w.drew:=⟨Ext.drew w,Nat.le_succ _⟩
theorem ExtD.alloc (w:World)(o:Obj):ExtD w (w.alloc o):=⟨Below.alloc (Ext.refl w) (Nat.le_refl _) o,Nat.le_refl _⟩
theorem ExtD.grow {w w':World}(h:ExtD w w'):∃ q os,w'=Go.Sort.grow (w.drewN q) os:=by
 refine ⟨w'.drawn-w.drawn,w'.heap.extract w.heap.size,?_⟩
 have h1:=h.ext.os;have h2:=h.ext.tape;have h3:=h.ext.output;have h4:=h.ext.size;have h5:=h.drawn
 have hh:w.heap++w'.heap.extract w.heap.size=w'.heap:=by
  apply Array.ext_getElem?
  intro i
  by_cases hi:i<w.heap.size
  ·rw [Array.getElem?_append_left hi,h.ext.block i hi]
  ·rw [Array.getElem?_append_right (by omega),Array.getElem?_extract]
   by_cases hj:i<w'.heap.size
   ·rw [if_pos (by omega),show w.heap.size+(i-w.heap.size)=i by omega]
   ·rw [if_neg (by omega),Array.getElem?_eq_none (by omega)]
 obtain ⟨a,b,c,d,e⟩:=w'
 simp only at h1 h2 h3 h4 h5 hh
 subst h1;subst h2;subst h3
 unfold Go.Sort.grow World.drewN
 simp only [hh,World.mk.injEq,true_and,and_true]
 omega
section
variable {P:Program} {ops:Array Oper} {md:Region.Mode} {Vs:Nat→Value→World→Prop} {w0:World}
def yUponD (P:Program) (w:World) (V:Value→World→Prop) (K:Value→World→Prop):Result Next→Prop
 | .ok (.value v) w'=>ExtD w w'∧K v w'
 | .ok .skip w'=>ExtD w w'∧K undef w'
 | .ok (.enter f args) w'=>Calls P f args w' (fun e w''=>∃ v,e=.returned v∧ExtD w w''∧V v w'')∧∀ v w'',ExtD w w''→V v w''→K v w''
 | .ok (.row row args) w'=>Rows P row args w' (fun v w''=>ExtD w w''∧V v w'')∧∀ v w'',ExtD w w''→V v w''→K v w''
 | _=>False
def Oper.yieldsKD (P:Program)(o:Oper)(a:Act)(w:World)(V:Value→World→Prop)(K:Value→World→Prop):Prop:=yUponD P w V K ((execOp a.eval o).run P w)
theorem yUpon_monoD {w:World}{V K K':Value→World→Prop}{r:Result Next}(h:∀ v w',ExtD w w'→K v w'→K' v w')(hh:yUponD P w V K r):yUponD P w V K' r:=by
 cases r with
 | ok n w'=>
  cases n<;>simp only [yUponD] at hh ⊢
  case value v=>exact ⟨hh.1,h _ _ hh.1 hh.2⟩
  case skip=>exact ⟨hh.1,h _ _ hh.1 hh.2⟩
  case enter f args=>exact ⟨hh.1,fun v w'' he hv=>h _ _ he (hh.2 v w'' he hv)⟩
  case row row args=>exact ⟨hh.1,fun v w'' he hv=>h _ _ he (hh.2 v w'' he hv)⟩
 | halt x w'=>simp only [yUponD] at hh
theorem yUpon_someD {w:World}{V K:Value→World→Prop}{r:Result Next}(hh:yUponD P w V K r):∃ v w',ExtD w w'∧K v w':=by
 cases r with
 | ok n w'=>
  cases n<;>simp only [yUponD] at hh
  case value v=>exact ⟨v,w',hh⟩
  case skip=>exact ⟨_,w',hh⟩
  case enter f args=>
   obtain ⟨e,w'',fr,⟨v,_,he,hv⟩,_⟩:=hh.1 []
   exact ⟨v,w'',he,hh.2 v w'' he hv⟩
  case row row args=>
   obtain ⟨v,w'',⟨he,hv⟩,_⟩:=hh.1 (Frame.enter P 0 #[] .normal) []
   exact ⟨v,w'',he,hh.2 v w'' he hv⟩
 | halt x w'=>simp only [yUponD] at hh
abbrev MarksD':=List (Tmp × World)
def aboveD (w0:World)(Ws:MarksD')(w:World):Prop:=ExtD w0 w∧∀ d wd,(d,wd)∈Ws→ExtD wd w
def okwD (ops:Array Oper)(w0:World)(Ws:MarksD')(o:Oper)(w:World):Prop:=ExtD w0 w∧∀ d wd,(d,wd)∈Ws→d∈o.looksAt ops→ExtD wd w
def consD' (w0:World)(Ws:MarksD'):Prop:=∃ w,aboveD w0 Ws w
def addsD (dst:Option Tmp)(w:World)(Ws:MarksD'):MarksD':=match dst with | some d=>(d,w)::Ws | none=>Ws
def strongerD (Ws' Ws:MarksD'):Prop:=∀ d wd,(d,wd)∈Ws→(d,wd)∈Ws'
theorem aboveD.okw {Ws:MarksD'}{o:Oper}{w:World}(h:aboveD w0 Ws w):okwD ops w0 Ws o w:=⟨h.1,fun d wd hm _=>h.2 d wd hm⟩
theorem aboveD.step {Ws:MarksD'}{dst:Option Tmp}{w w':World}(h:aboveD w0 Ws w)(he:ExtD w w'):aboveD w0 (addsD dst w' Ws) w':=by
 refine ⟨h.1.trans he,fun d wd hm=>?_⟩
 cases dst with
 | none=>exact (h.2 d wd hm).trans he
 | some t=>
  rcases List.mem_cons.1 hm with e | hm
  ·cases e;exact ExtD.refl _
  ·exact (h.2 d wd hm).trans he
theorem strongerD.adds {Ws Ws':MarksD'}(h:strongerD Ws' Ws)(dst:Option Tmp)(w:World):strongerD (addsD dst w Ws') (addsD dst w Ws):=by
 cases dst with
 | none=>exact h
 | some t=>
  intro d wd hm
  rcases List.mem_cons.1 hm with e | hm
  ·exact List.mem_cons.2 (.inl e)
  ·exact List.mem_cons.2 (.inr (h d wd hm))
theorem strongerD.swap (Ws:MarksD')(x y:Option Tmp)(u v:World):strongerD (Proofs.YtnjmndofcpnmeaaGreatDoor.addsD x u (Proofs.YtnjmndofcpnmeaaGreatDoor.addsD y v Ws)) (Proofs.YtnjmndofcpnmeaaGreatDoor.addsD y v (Proofs.YtnjmndofcpnmeaaGreatDoor.addsD x u Ws)):=by
 intro d wd hm
 cases x<;>cases y<;>simp only [Proofs.YtnjmndofcpnmeaaGreatDoor.addsD,List.mem_cons] at hm ⊢
 ·exact hm
 ·exact hm
 ·exact hm
 ·rcases hm with h | h | h
  ·exact .inr (.inl h)
  ·exact .inl h
  ·exact .inr (.inr h)
theorem strongerD.okw {Ws Ws':MarksD'}(h:strongerD Ws' Ws){o:Oper}{w:World}(hk:okwD ops w0 Ws' o w):Proofs.YtnjmndofcpnmeaaGreatDoor.okwD ops w0 Ws o w:=⟨hk.1,fun d wd hm hl=>hk.2 d wd (h d wd hm) hl⟩
theorem strongerD.cons' {Ws Ws':MarksD'}(h:strongerD Ws' Ws)(hk:consD' w0 Ws'):Proofs.YtnjmndofcpnmeaaGreatDoor.consD' w0 Ws:=let ⟨w,h1,h2⟩:=hk;⟨w,h1,fun d wd hm=>h2 d wd (h d wd hm)⟩
theorem strongerD.above {Ws Ws':MarksD'}(h:strongerD Ws' Ws){w:World}(hk:aboveD w0 Ws' w):Proofs.YtnjmndofcpnmeaaGreatDoor.aboveD w0 Ws w:=⟨hk.1,fun d wd hm=>hk.2 d wd (h d wd hm)⟩
theorem okw_addsD {Ws:MarksD'}{dst:Option Tmp}{w1:World}{o:Oper}{w:World}(hd:∀ d,dst=some d→d ∉ o.looksAt ops)(h:okwD ops w0 Ws o w):okwD ops w0 (addsD dst w1 Ws) o w:=by
 refine ⟨h.1,fun d wd hm hl=>?_⟩
 cases dst with
 | none=>exact h.2 d wd hm hl
 | some t=>
  rcases List.mem_cons.1 hm with e | hm
  ·cases e;exact absurd hl (hd _ rfl)
  ·exact h.2 d wd hm hl
theorem okw_of_addsD {Ws:MarksD'}{dst:Option Tmp}{w1:World}{o:Oper}{w:World}(h:okwD ops w0 (addsD dst w1 Ws) o w):okwD ops w0 Ws o w:=by
 refine ⟨h.1,fun d wd hm hl=>h.2 d wd ?_ hl⟩
 cases dst with
 | none=>exact hm
 | some t=>exact List.mem_cons.2 (.inr hm)
theorem cons_of_addsD {Ws:MarksD'}{dst:Option Tmp}{w1:World}(h:consD' w0 (addsD dst w1 Ws)):consD' w0 Ws:=by
 obtain ⟨w,h1,h2⟩:=h
 refine ⟨w,h1,fun d wd hm=>h2 d wd ?_⟩
 cases dst with
 | none=>exact hm
 | some t=>exact List.mem_cons.2 (.inr hm)
def wpED (P:Program) (ops:Array Oper) (Vs:Nat→Value→World→Prop) (w0:World) (Q:Act→World→Prop):Nat→List Oper→Act→MarksD'→Prop
 | _,[],a,Ws=>∀ w,aboveD w0 Ws w→Q a w
 | k,o::rest,a,Ws=>
  if Region.wanted o (yielded ops a.tmps) then ∀ w,okwD ops w0 Ws o w→Oper.yieldsKD P o a w (Vs k) (fun v w'=>wpED P ops Vs w0 Q (k+1) rest (a.put o.dst v) (addsD o.dst w' Ws))
  else wpED P ops Vs w0 Q (k+1) rest (a.put o.dst undef) Ws
def eOpD (P:Program)(ops:Array Oper)(Vs:Nat→Value→World→Prop)(w0:World)(i:Nat)(K:Act→MarksD'→Prop)(a:Act)(Ws:MarksD'):Prop:=
 match ops[i]? with
 | none=>K a Ws
 | some o=>if Region.wanted o (yielded ops a.tmps) then ∀ w,okwD ops w0 Ws o w→Oper.yieldsKD P o a w (Vs i) (fun v w'=>K (a.put o.dst v) (addsD o.dst w' Ws)) else K (a.put o.dst undef) Ws
theorem eOp_monoD {i:Nat}{a:Act}{Ws Ws':MarksD'}{K K':Act→MarksD'→Prop}(hs:strongerD Ws' Ws)(h:∀ a X X',strongerD X' X→K a X→K' a X')(hh:eOpD P ops Vs w0 i K a Ws):eOpD P ops Vs w0 i K' a Ws':=by
 unfold eOpD at *
 split
 ·rename_i ho;simp only [ho] at hh;exact h _ _ _ hs hh
 ·rename_i o ho
  simp only [ho] at hh
  split
  ·rename_i hw
   simp only [hw,if_true] at hh
   exact fun w hk=>yUpon_monoD (fun v w' _ hv=>h _ _ _ (hs.adds _ _) hv) (hh w (hs.okw hk))
  ·rename_i hw;simp only [hw] at hh;exact h _ _ _ hs hh
def wpAnyED (P:Program) (md:Region.Mode) (ops:Array Oper) (Vs:Nat→Value→World→Prop) (w0:World) (Q:Act→World→Prop):Nat→Array Bool→Act→MarksD'→Prop
 | 0,listed,a,Ws=>consD' w0 Ws→Region.ready md ops listed=[]∧∀ w,aboveD w0 Ws w→Q a w
 | fuel+1,listed,a,Ws=>consD' w0 Ws →
  (Region.ready md ops listed=[]→∀ w,aboveD w0 Ws w→Q a w) ∧
  ∀ i∈Region.ready md ops listed,eOpD P ops Vs w0 i (wpAnyED P md ops Vs w0 Q fuel (listed.setIfInBounds i true)) a Ws
theorem wpAnyE_monoD {Q:Act→World→Prop}:∀ (fuel:Nat) (listed:Array Bool) (a:Act) (Ws Ws':MarksD'),strongerD Ws' Ws→wpAnyED P md ops Vs w0 Q fuel listed a Ws→wpAnyED P md ops Vs w0 Q fuel listed a Ws'
 | 0,_,_,_,_,hs,h=>fun hc=>⟨(h (hs.cons' hc)).1,fun w hw=>(h (hs.cons' hc)).2 w (hs.above hw)⟩
 | fuel+1,_,_,_,_,hs,h=>fun hc=>
  ⟨fun h0 w hw=>(h (hs.cons' hc)).1 h0 w (hs.above hw),fun i hi=>eOp_monoD hs (fun a X X' hX hk=>wpAnyE_monoD fuel _ a X X' hX hk) ((h (hs.cons' hc)).2 i hi)⟩
theorem wpAny_of_ED {Q:Act→World→Prop} {Q':Exit→Act→World→Prop} (hQ:∀ a w,Q a w→Q' .normal a w):∀ (fuel:Nat) (listed:Array Bool) (a:Act) (Ws:MarksD') (w:World),aboveD w0 Ws w →
  wpAnyED P md ops Vs w0 Q fuel listed a Ws→wpAny P md ops Q' fuel listed a w
 | 0,_,_,_,w,hw,h=>⟨(h ⟨w,hw⟩).1,hQ _ _ ((h ⟨w,hw⟩).2 w hw)⟩
 | fuel+1,listed,a,Ws,w,hw,h=>by
  obtain ⟨h1,h2⟩:=h ⟨w,hw⟩
  refine ⟨fun h0=>hQ _ _ (h1 h0 w hw),fun i hi=>?_⟩
  have hh:=h2 i hi
  unfold eOpD at hh
  unfold wpOp
  split
  ·rename_i ho
   simp only [ho] at hh
   exact wpAny_of_ED hQ fuel _ _ _ _ hw hh
  ·rename_i o ho
   simp only [ho] at hh
   split
   ·rename_i hwd
    simp only [hwd,if_true] at hh
    refine .inl ?_
    have h3:=hh w hw.okw
    unfold Oper.yieldsKD at h3
    unfold Oper.wp
    generalize (execOp a.eval o).run P w=r at *
    cases r with
    | ok n w'=>
     cases n<;>simp only [yUponD] at h3<;>simp only [Oper.upon]
     case value v=>exact wpAny_of_ED hQ fuel _ _ _ _ (hw.step h3.1) h3.2
     case skip=>exact wpAny_of_ED hQ fuel _ _ _ _ (hw.step h3.1) h3.2
     case enter f args=>
      refine h3.1.mono fun e w'' ⟨v,he,hx,hv⟩=>?_
      subst he
      exact wpAny_of_ED hQ fuel _ _ _ _ (hw.step hx) (h3.2 v w'' hx hv)
     case row row args=>exact h3.1.mono fun v w'' ⟨hx,hv⟩=>wpAny_of_ED hQ fuel _ _ _ _ (hw.step hx) (h3.2 v w'' hx hv)
    | halt x w'=>simp only [yUponD] at h3
   ·rename_i hwd
    simp only [hwd] at hh
    exact wpAny_of_ED hQ fuel _ _ _ _ hw hh
theorem eOp_atD {i:Nat} {o:Oper} (hi:ops[i]? = some o) {K:Act→MarksD'→Prop} {a:Act} {Ws:MarksD'} (h:eOpD P ops Vs w0 i K a Ws):
  (Region.wanted o (yielded ops a.tmps)=true∧∀ w,okwD ops w0 Ws o w→Oper.yieldsKD P o a w (Vs i) (fun v w'=>K (a.put o.dst v) (addsD o.dst w' Ws))) ∨
  (Region.wanted o (yielded ops a.tmps)=false∧K (a.put o.dst undef) Ws):=by
 unfold eOpD at h
 simp only [hi] at h
 by_cases hw:Region.wanted o (yielded ops a.tmps)=true
 ·simp only [hw,if_true] at h;exact .inl ⟨hw,h⟩
 ·simp only [hw] at h;exact .inr ⟨by simpa using hw,h⟩
theorem eOp_mkD {i:Nat} {o:Oper} (hi:ops[i]? = some o) {K:Act→MarksD'→Prop} {a:Act} {Ws:MarksD'}
  (h:(Region.wanted o (yielded ops a.tmps)=true∧∀ w,okwD ops w0 Ws o w→Oper.yieldsKD P o a w (Vs i) (fun v w'=>K (a.put o.dst v) (addsD o.dst w' Ws))) ∨
  (Region.wanted o (yielded ops a.tmps)=false∧K (a.put o.dst undef) Ws)):eOpD P ops Vs w0 i K a Ws:=by
 unfold eOpD
 simp only [hi]
 rcases h with ⟨hw,h⟩ | ⟨hw,h⟩
 ·simp only [hw,if_true];exact h
 ·simp only [hw,Bool.false_eq_true,if_false];exact h
theorem yUpon_allD {ι:Sort _}{w:World}{V:Value→World→Prop}{K:ι→Value→World→Prop}{r:Result Next}(i0:ι)(h:∀ i,yUponD P w V (K i) r):yUponD P w V (fun v w'=>∀ i,K i v w') r:=by
 have h0:=h i0
 cases r with
 | ok n w'=>
  cases n<;>simp only [yUponD] at h0 ⊢
  case value v=>exact ⟨h0.1,fun i=>by have:=h i;simp only [yUponD] at this;exact this.2⟩
  case skip=>exact ⟨h0.1,fun i=>by have:=h i;simp only [yUponD] at this;exact this.2⟩
  case enter f args=>exact ⟨h0.1,fun v w'' he hv i=>by have:=h i;simp only [yUponD] at this;exact this.2 v w'' he hv⟩
  case row row args=>exact ⟨h0.1,fun v w'' he hv i=>by have:=h i;simp only [yUponD] at this;exact this.2 v w'' he hv⟩
 | halt x w'=>simp only [yUponD] at h0
theorem wpAnyE_firstD {Q:Act→World→Prop} {i:Nat} {oi:Oper} (hi:ops[i]? = some oi) (hsel:∀ (j:Nat) (o:Oper) cs b,ops[j]? = some o→o.op≠.select cs b):
  ∀ (fuel:Nat) (listed:Array Bool) (a:Act) (Ws:MarksD'),
   (∀ j oj,ops[j]? = some oj→j≠i→listed.getD j true=false→(∀ e∈oj.after,Region.binds md e=true→e.on≠i)→oi.apart ops oj=true) →
   i∈Region.ready md ops listed→eOpD P ops Vs w0 i (wpAnyED P md ops Vs w0 Q fuel (listed.setIfInBounds i true)) a Ws →
   wpAnyED P md ops Vs w0 Q (fuel+1) listed a Ws:=by
 intro fuel
 induction fuel with
 | zero=>
  intro listed a Ws _ hr H hc
  refine ⟨fun h=>(by rw [h] at hr;cases hr),fun j hj=>?_⟩
  by_cases hji:j=i
  ·subst hji;exact H
  ·exfalso
   have hm:=ready_mono hj hji
   obtain ⟨wc,hwc⟩:=hc
   rcases eOp_atD hi H with ⟨_,h⟩ | ⟨_,h⟩
   ·obtain ⟨v,w',he,hk⟩:=yUpon_someD (h wc hwc.okw)
    have:=(hk ⟨w',hwc.step he⟩).1
    rw [this] at hm
    cases hm
   ·have:=(h ⟨wc,hwc⟩).1
    rw [this] at hm
    cases hm
 | succ fuel ih=>
  intro listed a Ws hfree hr H hc
  refine ⟨fun h=>(by rw [h] at hr;cases hr),fun j hj=>?_⟩
  by_cases hji:j=i
  ·subst hji;exact H
  ·have hm:=ready_mono hj hji
   obtain ⟨hjun,oj,hoj,hall⟩:=mem_ready.1 hj
   have hnot:∀ e∈oj.after,Region.binds md e=true→e.on≠i:=fun e he hb heq=>by
    have h1:=hall e he hb
    have h0:=(mem_ready.1 hr).1
    rw [heq] at h1
    rcases Nat.lt_or_ge i listed.size with h' | h'
    ·simp [h'] at h0 h1;rw [h0] at h1;cases h1
    ·simp [Array.getElem?_eq_none h'] at h1
   have hap:=hfree j oj hoj hji hjun hnot
   obtain ⟨a1,a2,a3⟩:=Oper.apart_spec hap
   have hsi:=fun cs b=>hsel i oi cs b hi
   have hsj:=fun cs b=>hsel j oj cs b hoj
   have hfree':∀ k ok,ops[k]? = some ok→k≠i→(listed.setIfInBounds j true).getD k true=false →
     (∀ e∈ok.after,Region.binds md e=true→e.on≠i)→oi.apart ops ok=true:=fun k ok hk hki hun hno=>by
    refine hfree k ok hk hki ?_ hno
    by_cases hjk:j=k
    ·subst hjk;exact hjun
    ·rw [getD_set_ne true hjk] at hun;exact hun
   have hr':=ready_mono hr (Ne.symm hji)
   have hset:=Array.setIfInBounds_comm (xs:=listed) true true hji
   obtain ⟨wc,hwc⟩:=hc
   have hj_w:∀ v,Region.wanted oj (yielded ops (a.put oi.dst v).tmps)=Region.wanted oj (yielded ops a.tmps):=fun v=>wanted_put oj a oi.dst v a1
   have hj_e:∀ v,execOp (a.put oi.dst v).eval oj=execOp a.eval oj:=fun v=>execOp_put oj hsj a oi.dst v a1
   have hi_w:∀ u,Region.wanted oi (yielded ops (a.put oj.dst u).tmps)=Region.wanted oi (yielded ops a.tmps):=fun u=>wanted_put oi a oj.dst u a3
   have hi_e:∀ u,execOp (a.put oj.dst u).eval oi=execOp a.eval oi:=fun u=>execOp_put oi hsi a oj.dst u a3
   refine eOp_mkD hoj ?_
   rcases eOp_atD hi H with ⟨hiw,hI⟩ | ⟨hiw,hI⟩
   ·
    obtain ⟨vc,w1,he1,hk1⟩:=yUpon_someD (hI wc hwc.okw)
    have hcomp:=(hk1 ⟨w1,hwc.step he1⟩).2 j hm
    rcases eOp_atD hoj hcomp with ⟨hjw,hJ⟩ | ⟨hjw,hJ⟩
    ·rw [hj_w] at hjw
     refine .inl ⟨hjw,fun w hw=>?_⟩
     have key:yUponD P w (Vs j) (fun u w'=>∀ (x:{ x:Value × World // ∃ w2,okwD ops w0 Ws oi w2∧ExtD w2 x.2∧wpAnyED P md ops Vs w0 Q (fuel+1) (listed.setIfInBounds i true) (a.put oi.dst x.1) (addsD oi.dst x.2 Ws)∧consD' w0 (addsD oi.dst x.2 Ws) }),
       wpAnyED P md ops Vs w0 Q fuel ((listed.setIfInBounds i true).setIfInBounds j true) ((a.put oi.dst x.1.1).put oj.dst u) (addsD oj.dst w' (addsD oi.dst x.1.2 Ws))) ((execOp a.eval oj).run P w):=by
      refine yUpon_allD ⟨(vc,w1),wc,hwc.okw,he1,hk1,⟨w1,hwc.step he1⟩⟩ ?_
      rintro ⟨⟨v,wv⟩,w2,hk2,he2,hA,hcv⟩
      rcases eOp_atD hoj ((hA hcv).2 j hm) with ⟨_,hJ2⟩ | ⟨hno,_⟩
      ·have:=hJ2 w (okw_addsD a1 hw)
       unfold Oper.yieldsKD at this
       rw [hj_e] at this
       exact this
      ·rw [hj_w,hjw] at hno;cases hno
     refine yUpon_monoD (fun u w' hew hall2=>?_) key
     refine ih (listed.setIfInBounds j true) (a.put oj.dst u) (addsD oj.dst w' Ws) hfree' hr' ?_
     refine eOp_mkD hi (.inl ⟨by rw [hi_w];exact hiw,fun w2 hw2=>?_⟩)
     have hw2':okwD ops w0 Ws oi w2:=okw_of_addsD hw2
     have h4:=hI w2 hw2'
     unfold Oper.yieldsKD at h4 ⊢
     rw [hi_e]
     refine yUpon_monoD (fun v w3 he3 hA=>?_) h4
     rw [← Act.put_comm a v u a2,hset]
     by_cases hcv:consD' w0 (addsD oi.dst w3 (addsD oj.dst w' Ws))
     ·have hc2:consD' w0 (addsD oi.dst w3 Ws):=by
       have h5:consD' w0 (addsD oj.dst w' (addsD oi.dst w3 Ws)):=(strongerD.swap Ws oi.dst oj.dst w3 w').cons' hcv
       exact cons_of_addsD h5
      exact wpAnyE_monoD fuel _ _ _ _ (strongerD.swap Ws oi.dst oj.dst w3 w') (hall2 ⟨(v,w3),w2,hw2',he3,hA,hc2⟩)
     ·cases fuel with
      | zero=>exact fun hc=>absurd hc hcv
      | succ n=>exact fun hc=>absurd hc hcv
    ·rw [hj_w] at hjw
     refine .inr ⟨hjw,?_⟩
     refine ih (listed.setIfInBounds j true) (a.put oj.dst undef) Ws hfree' hr' ?_
     refine eOp_mkD hi (.inl ⟨by rw [hi_w];exact hiw,fun w2 hw2=>?_⟩)
     have h4:=hI w2 hw2
     unfold Oper.yieldsKD at h4 ⊢
     rw [hi_e]
     refine yUpon_monoD (fun v w3 he3 hA=>?_) h4
     rw [← Act.put_comm a v undef a2,hset]
     by_cases hcv:consD' w0 (addsD oi.dst w3 Ws)
     ·rcases eOp_atD hoj ((hA hcv).2 j hm) with ⟨hno,_⟩ | ⟨_,hJ2⟩
      ·rw [hj_w,hjw] at hno;cases hno
      ·exact hJ2
     ·cases fuel with
      | zero=>exact fun hc=>absurd hc hcv
      | succ n=>exact fun hc=>absurd hc hcv
   ·
    have hcomp:=(hI ⟨wc,hwc⟩).2 j hm
    rcases eOp_atD hoj hcomp with ⟨hjw,hJ⟩ | ⟨hjw,hJ⟩
    ·rw [hj_w] at hjw
     refine .inl ⟨hjw,fun w hw=>?_⟩
     have h4:=hJ w hw
     unfold Oper.yieldsKD at h4 ⊢
     rw [hj_e] at h4
     refine yUpon_monoD (fun u w' hew hA=>?_) h4
     refine ih (listed.setIfInBounds j true) (a.put oj.dst u) (addsD oj.dst w' Ws) hfree' hr' ?_
     refine eOp_mkD hi (.inr ⟨by rw [hi_w];exact hiw,?_⟩)
     rw [← Act.put_comm a undef u a2,hset]
     exact hA
    ·rw [hj_w] at hjw
     refine .inr ⟨hjw,?_⟩
     refine ih (listed.setIfInBounds j true) (a.put oj.dst undef) Ws hfree' hr' ?_
     refine eOp_mkD hi (.inr ⟨by rw [hi_w];exact hiw,?_⟩)
     rw [← Act.put_comm a undef undef a2,hset]
     exact hJ
theorem wpAnyE_lexD {Q:Act→World→Prop} (hs:Region.noSelect ops=true):∀ (l:List Oper) (k:Nat) (listed:Array Bool) (a:Act) (Ws:MarksD'),(∀ j,l[j]? = ops[k+j]?) →
  Region.lexFrom md ops l.length k listed=true→wpED P ops Vs w0 Q k l a Ws→wpAnyED P md ops Vs w0 Q l.length listed a Ws
 | [],_,_,_,_,_,hB,h=>fun _=>⟨by simpa [Region.lexFrom] using hB,h⟩
 | o::l,k,listed,a,Ws,hl,hB,h=>by
  have h0:ops[k]? = some o:=by simpa using (hl 0).symm
  simp only [List.length_cons,Region.lexFrom,Bool.and_eq_true] at hB
  obtain ⟨⟨hr,hf⟩,hB'⟩:=hB
  have hst:eOpD P ops Vs w0 k (wpED P ops Vs w0 Q (k+1) l) a Ws:=by unfold eOpD;simp only [h0];exact h
  refine wpAnyE_firstD h0 (Region.noSelect_spec hs) l.length listed a Ws (Region.free_spec h0 hf) (by simpa using hr) ?_
  unfold eOpD at hst ⊢
  simp only [h0] at hst ⊢
  split at hst
  ·rename_i hw
   rw [if_pos hw]
   exact fun w hk=>yUpon_monoD (fun v w' _ hv=>wpAnyE_lexD hs l (k+1) _ _ _ (fun j=>by have:=hl (j+1);simpa [Nat.add_assoc,Nat.add_comm 1 j] using this) hB' hv) (hst w hk)
  ·rename_i hw
   rw [if_neg hw]
   exact wpAnyE_lexD hs l (k+1) _ _ _ (fun j=>by have:=hl (j+1);simpa [Nat.add_assoc,Nat.add_comm 1 j] using this) hB' hst
theorem wpE_monoD {Q:Act→World→Prop}:∀ (l:List Oper) (k:Nat) (a:Act) (Ws Ws':MarksD'),strongerD Ws' Ws→wpED P ops Vs w0 Q k l a Ws→wpED P ops Vs w0 Q k l a Ws'
 | [],_,_,_,_,hs,h=>fun w hw=>h w (hs.above hw)
 | o::l,k,a,Ws,Ws',hs,h=>by
  unfold wpED at h ⊢
  split
  ·rename_i hw
   rw [if_pos hw] at h
   exact fun w hk=>yUpon_monoD (fun v w' _ hv=>wpE_monoD l (k+1) _ _ _ (hs.adds _ _) hv) (h w (hs.okw hk))
  ·rename_i hw
   rw [if_neg hw] at h
   exact wpE_monoD l (k+1) _ _ _ hs h
theorem stronger_addsD (dst:Option Tmp)(w:World)(Ws:MarksD'):strongerD (addsD dst w Ws) Ws:=by
 intro d wd hm
 cases dst with
 | none=>exact hm
 | some t=>exact List.mem_cons.2 (.inr hm)
theorem wpE_nilD {Q:Act→World→Prop}{k:Nat}{a:Act}{Ws:MarksD'}(h:∀ w,aboveD w0 Ws w→Q a w):wpED P ops Vs w0 Q k [] a Ws:=h
theorem wpE_opD {Q:Act→World→Prop} {k:Nat} {o:Oper} {rest:List Oper} {a:Act} {Ws:MarksD'} (hwd:Region.wanted o (yielded ops a.tmps)=true) (hp:plainOp o.op=true)
  (h:∀ w,okwD ops w0 Ws o w→∀ K:Act→World→Prop,(∀ a',(∃ v,a'=a.put o.dst v)→wpED P ops Vs w0 Q (k+1) rest a' Ws→K a' w)→o.wp P a w K (fun _ _ _=>False)):
  wpED P ops Vs w0 Q k (o::rest) a Ws:=by
 unfold wpED
 rw [if_pos hwd]
 intro w hw
 have h1:=h w hw (fun a' w'=>w'=w∧wpED P ops Vs w0 Q (k+1) rest a' Ws) (fun a' _ hk=>⟨rfl,hk⟩)
 unfold Oper.yieldsKD
 unfold Oper.wp at h1
 generalize hr:(execOp a.eval o).run P w=r at *
 cases r with
 | ok n w'=>
  rcases run_plain hp hr with ⟨v,rfl⟩ | rfl
  ·simp only [Oper.upon] at h1;simp only [yUponD];obtain ⟨rfl,hk⟩:=h1;exact ⟨ExtD.refl _,wpE_monoD rest (k+1) _ _ _ (stronger_addsD _ _ _) hk⟩
  ·simp only [Oper.upon] at h1;simp only [yUponD];obtain ⟨rfl,hk⟩:=h1;exact ⟨ExtD.refl _,wpE_monoD rest (k+1) _ _ _ (stronger_addsD _ _ _) hk⟩
 | halt x w'=>cases x<;>simp only [Oper.upon] at h1
theorem wpE_callD {Q:Act→World→Prop} {k:Nat} {o:Oper} {rest:List Oper} {a:Act} {Ws:MarksD'} (d:Tmp) (ho:o.dst=some d) (hd:d<a.tmps.size) (hwd:Region.wanted o (yielded ops a.tmps)=true)
  (h:∀ w,okwD ops w0 Ws o w→∀ K:Act→World→Prop,(∀ a' w',(∃ v,a'=a.put o.dst v∧Vs k v w')→ExtD w w'→K a' w')→o.wp P a w K (fun _ _ _=>False))
  (h2:∀ v w',ExtD w0 w'→Vs k v w'→wpED P ops Vs w0 Q (k+1) rest (a.put o.dst v) (addsD o.dst w' Ws)):
  wpED P ops Vs w0 Q k (o::rest) a Ws:=by
 unfold wpED
 rw [if_pos hwd]
 intro w hw
 have h1:=h w hw (fun a' w'=>∃ v,a'=a.put o.dst v∧Vs k v w'∧ExtD w w') (fun a' w' ⟨v,e,hv⟩ hx=>⟨v,e,hv,hx⟩)
 unfold Oper.yieldsKD
 unfold Oper.wp at h1
 rw [ho] at h2
 generalize hr:(execOp a.eval o).run P w=r at *
 cases r with
 | ok n w'=>
  cases n<;>simp only [Oper.upon,ho] at h1<;>simp only [yUponD,ho]
  case value v=>
   obtain ⟨u,e,hv,hx⟩:=h1
   obtain rfl:=put_inj hd e
   exact ⟨hx,h2 v w' (hw.1.trans hx) hv⟩
  case skip=>
   obtain ⟨u,e,hv,hx⟩:=h1
   obtain rfl:=put_inj hd e
   exact ⟨hx,h2 _ w' (hw.1.trans hx) hv⟩
  case defer df=>
   obtain ⟨u,e,_⟩:=h1
   have:=congrArg Act.defers e
   simp [Act.put] at this
  case enter f args=>
   refine ⟨h1.mono fun e w'' he=>?_,fun v w'' hx hv=>h2 v w'' (hw.1.trans hx) hv⟩
   cases e with
   | returned v=>
    obtain ⟨u,e,hv,hx⟩:=he
    obtain rfl:=put_inj hd e
    exact ⟨v,rfl,hx,hv⟩
   | panicked c=>exact he.elim
   | outgrown=>obtain ⟨_,_,hf⟩:=he;exact hf.elim
  case row row args=>
   refine ⟨h1.mono fun v w'' he=>?_,fun v w'' hx hv=>h2 v w'' (hw.1.trans hx) hv⟩
   obtain ⟨u,e,hv,hx⟩:=he
   obtain rfl:=put_inj hd e
   exact ⟨hx,hv⟩
 | halt x w'=>cases x<;>simp only [Oper.upon] at h1
theorem wp_region_extD (Vs:Nat→Value→World→Prop) {id:Nat} {Q:Exit→Act→World→Prop} {a:Act} {w:World} {l:List Oper} (hm:P.follows .mixedOrders=true) (hB:Region.lexB .any l.toArray=true)
  (h:wpED P l.toArray Vs w.drew (fun a' w'=>Q .normal a' w') 0 l a []):(Code.region id l.toArray true).wp P Q a w:=by
 simp only [Region.lexB,Bool.and_eq_true] at hB
 refine wp_region_any hm (wpAny_of_ED (w0:=w.drew) (Ws:=[]) (Q:=fun a' w'=>Q .normal a' w') (Vs:=Vs) (fun _ _ h=>h) _ _ _ _ ⟨ExtD.refl _,fun _ _ h=>by cases h⟩ ?_)
 have:=wpAnyE_lexD (Vs:=Vs) (md:=.any) hB.1 l 0 (Array.replicate l.length false) a [] (by simp) (by simpa using hB.2) h
 simpa using this
end
#print axioms wp_region_extD
end Go.Proofs.YtnjmndofcpnmeaaGreatDoor
namespace Go.Proofs.YtnjmndofcpnmeaaGreatDoor
open Go Go.RowKit
set_option linter.unusedVariables false
set_option maxRecDepth 100000 in
set_option maxHeartbeats 1000000 in
theorem NCompareD_at (A:Option Addr) (c:Nat) (ps:List ByteArray) (r:ByteArray) (B:Option Addr) (d:Nat) (qs:List ByteArray) (t:ByteArray) (hn:ps.length≤1000) (hm:qs.length≤1000) (w:World) (hR:RS w (.slice A ps.length c) (sv ps)) (hQ:RS w (.slice B qs.length d) (sv qs)):
  Calls Tryz.prog 75 #[.agg #[.slice A ps.length c,.string r],.agg #[.slice B qs.length d,.string t]] w fun e w'=>e=.returned (.int .i64 (cmpN (dat ps) r.data.toList (dat qs) t.data.toList))∧ExtD w w':=by
 have hT:=heap_alloc_new w (.cells #[.slice A ps.length c,.string r] 37)
 have hU:=heap_alloc_new (w.alloc (.cells #[.slice A ps.length c,.string r] 37)) (.cells #[.slice B qs.length d,.string t] 37)
 rw [World.size_alloc] at hU
 have x1:=(Ext.refl w).alloc (.cells #[.slice A ps.length c,.string r] 37)
 have x2:=(Ext.refl (w.alloc (.cells #[.slice A ps.length c,.string r] 37))).alloc (.cells #[.slice B qs.length d,.string t] 37)
 have hT2:=x2.heap hT
 have hx:=x1.trans x2
 obtain ⟨wb,hwb⟩:∃ wb,wb=(w.alloc (.cells #[.slice A ps.length c,.string r] 37)).alloc (.cells #[.slice B qs.length d,.string t] 37):=⟨_,rfl⟩
 rw [← hwb] at hT2 hU hx
 have HT:Hid (PB wb w.heap.size (.slice A ps.length c) r):=Lib.hid hT2
 have HU:Hid (PB wb (w.heap.size+1) (.slice B qs.length d) t):=Lib.hid hU
 have HXB:=Lib.hid (show ExtD w wb from hwb ▸ (ExtD.alloc w _).trans (ExtD.alloc _ _))
 have HR:=Lib.hid (hR.ext hx);have HQ:=Lib.hid (hQ.ext hx)
 clear hT hT2 hU hx x1 x2 hR hQ
 obtain ⟨X,hX⟩:∃ X,ordB r.data.toList t.data.toList=X:=⟨_,rfl⟩
 obtain ⟨Y,hY⟩:∃ Y,cmpL (dat ps) (dat qs)=Y:=⟨_,rfl⟩
 have HO:=Lib.hid (show fnz [X,Y]=cmpN (dat ps) r.data.toList (dat qs) t.data.toList by
  unfold cmpN;rw [hX,hY,fnz,fnz,fnz];by_cases h:X=0<;>by_cases h2:Y=0<;>simp [h,h2])
 obtain ⟨Z,hZ⟩:∃ Z,cmpN (dat ps) r.data.toList (dat qs) t.data.toList=Z:=⟨_,rfl⟩
 rw [hZ] at HO ⊢
 clear hZ
 have HXY:=Lib.hid hX;have HYY:=Lib.hid hY;clear hX hY
 go_enter Tryz.func75,Tryz.ntmps75
 go_wp2_with fail
 rw [← hwb]
 clear hwb
 refine wp_region_extD (fun i v' w'=>match i with | 4=>v'=.int .i64 X | 9=>v'=.int .i64 Y | 10=>RS w' v' (ivo [X,Y]) | 11=>v'=.int .i64 Z | _=>False) (by kernel_rfl) (by kernel_rfl) ?_
 refine wpE_opD rfl rfl (fun w' hw' K' hK'=>?_)
 have hE:=hw'.1.ext
 go_step
 refine hK' _ ⟨_,rfl⟩ ?_
 clear hK' K' hE hw' w'
 refine wpE_opD rfl rfl (fun w' hw' K' hK'=>?_)
 have hE:=hw'.1.ext
 obtain ⟨u0,u1⟩:=(HT.out.ext ((Ext.drew wb).trans hE)).cells
 go_step
 refine hK' _ ⟨_,rfl⟩ ?_
 clear hK' K' u0 u1 hE hw' w'
 refine wpE_opD rfl rfl (fun w' hw' K' hK'=>?_)
 have hE:=hw'.1.ext
 go_step
 refine hK' _ ⟨_,rfl⟩ ?_
 clear hK' K' hE hw' w'
 refine wpE_opD rfl rfl (fun w' hw' K' hK'=>?_)
 have hE:=hw'.1.ext
 obtain ⟨u0,u1⟩:=(HU.out.ext ((Ext.drew wb).trans hE)).cells
 go_step
 refine hK' _ ⟨_,rfl⟩ ?_
 clear hK' K' u0 u1 hE hw' w'
 refine wpE_callD 9 rfl (by simp) rfl (fun w' hw' K' hK'=>?_) ?_
 ·have hE:=hw'.1.ext
  go_step
  refine (cmpS_at r t w').mono ?_
  rintro en w2 ⟨rfl,rfl⟩
  exact hK' _ _ ⟨_,rfl,by rw [HXY.out];exact Eq.refl (Value.int .i64 X)⟩ (ExtD.refl _)
 rintro _ w7 _ rfl
 simp only [Act.put,sT1,sT2,sT3]
 refine wpE_opD rfl rfl (fun w' hw' K' hK'=>?_)
 have hE:=hw'.1.ext
 go_step
 refine hK' _ ⟨_,rfl⟩ ?_
 clear hK' K' hE hw' w'
 refine wpE_opD rfl rfl (fun w' hw' K' hK'=>?_)
 have hE:=hw'.1.ext
 obtain ⟨u0,u1⟩:=(HT.out.ext ((Ext.drew wb).trans hE)).cells
 go_step
 refine hK' _ ⟨_,rfl⟩ ?_
 clear hK' K' u0 u1 hE hw' w'
 refine wpE_opD rfl rfl (fun w' hw' K' hK'=>?_)
 have hE:=hw'.1.ext
 go_step
 refine hK' _ ⟨_,rfl⟩ ?_
 clear hK' K' hE hw' w'
 refine wpE_opD rfl rfl (fun w' hw' K' hK'=>?_)
 have hE:=hw'.1.ext
 obtain ⟨u0,u1⟩:=(HU.out.ext ((Ext.drew wb).trans hE)).cells
 go_step
 refine hK' _ ⟨_,rfl⟩ ?_
 clear hK' K' u0 u1 hE hw' w'
 refine wpE_callD 14 rfl (by simp) rfl (fun w' hw' K' hK'=>?_) ?_
 ·have hE:=hw'.1.ext
  go_step
  refine (sCompare_at A c ps B d qs hn hm w' (HR.out.ext ((Ext.drew wb).trans hE)) (HQ.out.ext ((Ext.drew wb).trans hE))).mono ?_
  rintro en w2 ⟨rfl,rfl⟩
  exact hK' _ _ ⟨_,rfl,by rw [HYY.out];exact Eq.refl (Value.int .i64 Y)⟩ (ExtD.refl _)
 rintro _ w7 _ rfl
 simp only [Act.put,sT1,sT2,sT3]
 refine wpE_callD 15 rfl (by simp) rfl (fun w' hw' K' hK'=>?_) ?_
 ·have hE:=hw'.1.ext
  go_step
  exact hK' _ _ ⟨_,rfl,RS.new w' 3 (ivo [X,Y]) (by simp [ivo,maxLen])⟩ (ExtD.alloc w' _)
 rintro v8 w8 _ ⟨A8,c8,rfl,hl8,hm8,hc8⟩
 have hR8:RS w8 (.slice A8 (ivo [X,Y]).length c8) (ivo [X,Y]):=⟨A8,c8,rfl,hl8,hm8,hc8⟩
 clear hl8 hm8 hc8
 simp only [Act.put,sT1,sT2,sT3]
 refine wpE_callD 16 rfl (by simp) rfl (fun w' hw' K' hK'=>?_) ?_
 ·have hE:=hw'.1.ext
  have hM:Ext w8 w':=(hw'.2 15 w8 (by simp [addsD]) (by decide)).ext
  go_step
  refine (or_at A8 c8 [X,Y] (by simp) w' (hR8.ext hM)).mono ?_
  rintro en w2 ⟨rfl,rfl⟩
  exact hK' _ _ ⟨_,rfl,by rw [HO.out];exact Eq.refl (Value.int .i64 Z)⟩ (ExtD.refl _)
 rintro _ w9 _ rfl
 simp only [Act.put,sT1,sT2,sT3]
 refine wpE_opD rfl rfl (fun w' hw' K' hK'=>?_)
 have hE:=hw'.1.ext
 go_step
 refine hK' _ ⟨_,rfl⟩ ?_
 clear hK' K' hE hw' w'
 refine wpE_nilD (fun w' hw'=>?_)
 have hE:=hw'.1.ext
 go_wp2_with fail
 go_ret
 exact ⟨rfl,HXB.out.trans ((ExtD.drew wb).trans hw'.1)⟩
end Go.Proofs.YtnjmndofcpnmeaaGreatDoor
namespace Go.Proofs.YtnjmndofcpnmeaaGreatDoor
set_option linter.unusedVariables false
structure Good {α:Type} (f:α→α→Int):Prop where
 bd:∀ a b,-1≤f a b∧f a b≤1
 swap:∀ a b,f b a = - f a b
 zero:∀ a b,f a b=0 ↔ a=b
 trans:∀ a b c,f a b≤0→f b c≤0→f a c≤0
def lexL {α:Type} (f:α→α→Int):List α→List α→Int
 | [],[]=>0
 | [],_::_=>-1
 | _::_,[]=>1
 | a::x,b::y=>if f a b≠0 then f a b else lexL f x y
theorem lexL_good {α:Type} {f:α→α→Int} (h:Good f):Good (lexL f) where
 bd:=by
  intro a
  induction a with
  | nil=>intro b;cases b<;>simp [lexL]
  | cons a x ih=>
   intro b
   cases b with
   | nil=>simp [lexL]
   | cons b y=>
    rw [lexL]
    split
    ·exact h.bd a b
    ·exact ih y
 swap:=by
  intro a
  induction a with
  | nil=>intro b;cases b<;>simp [lexL]
  | cons a x ih=>
   intro b
   cases b with
   | nil=>simp [lexL]
   | cons b y=>
    rw [lexL,lexL,h.swap a b]
    by_cases hz:f a b=0
    ·rw [if_neg (by omega),if_neg (by omega)];exact ih y
    ·rw [if_pos (by omega),if_pos hz]
 zero:=by
  intro a
  induction a with
  | nil=>intro b;cases b<;>simp [lexL]
  | cons a x ih=>
   intro b
   cases b with
   | nil=>simp [lexL]
   | cons b y=>
    rw [lexL]
    by_cases hz:f a b=0
    ·rw [if_neg (by omega),ih y,List.cons.injEq,(h.zero a b).1 hz];simp
    ·rw [if_pos hz,List.cons.injEq]
     constructor
     ·intro e;exact absurd e hz
     ·intro e;exact absurd ((h.zero a b).2 e.1) hz
 trans:=by
  intro a
  induction a with
  | nil=>intro b c;cases c<;>simp [lexL]
  | cons a x ih=>
   intro b c h1 h2
   cases b with
   | nil=>simp [lexL] at h1
   | cons b y=>
    cases c with
    | nil=>simp [lexL] at h2
    | cons c z=>
     rw [lexL] at h1 h2 ⊢
     have h1':f a b≤0:=by by_cases e:f a b=0<;>simp [e] at h1<;>omega
     have h2':f b c≤0:=by by_cases e:f b c=0<;>simp [e] at h2<;>omega
     have h3:=h.trans a b c h1' h2'
     by_cases hz:f a c=0
     ·have hac:=(h.zero a c).1 hz
      subst hac
      have hs:=h.swap a b
      have e1:f a b=0:=by omega
      have e2:f b a=0:=by omega
      rw [if_neg (by omega)] at h1 h2 ⊢
      exact ih y z h1 h2
     ·rw [if_pos hz];exact h3
def bcmp (a b:UInt8):Int:=if a<b then -1 else if a=b then 0 else 1
theorem bcmp_good:Good bcmp where
 bd:=by intro a b;unfold bcmp;split<;>(try split)<;>omega
 swap:=by
  intro a b
  unfold bcmp
  rcases Nat.lt_trichotomy a.toNat b.toNat with h | h | h
  ·have h1:a<b:=UInt8.lt_iff_toNat_lt.2 h
   have h2:¬ b<a:=fun e=>by have:=UInt8.lt_iff_toNat_lt.1 e;omega
   have h3:¬ b=a:=fun e=>by subst e;omega
   simp [h1,h2,h3]
  ·have h1:a=b:=UInt8.toNat_inj.1 h
   subst h1
   have h2:¬ a<a:=fun e=>by have:=UInt8.lt_iff_toNat_lt.1 e;omega
   simp [h2]
  ·have h1:b<a:=UInt8.lt_iff_toNat_lt.2 h
   have h2:¬ a<b:=fun e=>by have:=UInt8.lt_iff_toNat_lt.1 e;omega
   have h3:¬ a=b:=fun e=>by subst e;omega
   simp [h1,h2,h3]
 zero:=by
  intro a b
  unfold bcmp
  by_cases h1:a<b
  ·have h3:¬ a=b:=fun e=>by subst e;have:=UInt8.lt_iff_toNat_lt.1 h1;omega
   simp [h1,h3]
  ·by_cases h2:a=b<;>simp [h1,h2]
 trans:=by
  intro a b c h1 h2
  have key:∀ x y:UInt8,bcmp x y≤0 ↔ x.toNat≤y.toNat:=by
   intro x y
   unfold bcmp
   by_cases h:x<y
   ·have:=UInt8.lt_iff_toNat_lt.1 h
    simp [h];omega
   ·have h':¬ x.toNat<y.toNat:=fun e=>h (UInt8.lt_iff_toNat_lt.2 e)
    by_cases h2:x=y
    ·subst h2;simp [h]
    ·have h2':x.toNat≠y.toNat:=fun e=>h2 (UInt8.toNat_inj.1 e)
     simp [h,h2];omega
  rw [key] at h1 h2 ⊢
  omega
theorem ordB_lex:∀ (a b:List UInt8),ordB a b=lexL bcmp a b
 | [],[]=>by simp [ordB,lexL,Op.bytesLess]
 | [],_::_=>by simp [ordB,lexL,Op.bytesLess]
 | _::_,[]=>by simp [ordB,lexL,Op.bytesLess]
 | a::x,b::y=>by
  have ih:=ordB_lex x y
  rw [lexL,← ih]
  unfold ordB bcmp
  rw [Op.bytesLess]
  by_cases h1:a<b
  ·simp [h1]
  ·by_cases h2:a=b
   ·subst h2
    simp [h1]
   ·simp [h1,h2]
theorem cmpL_lex:∀ (a b:List (List UInt8)),cmpL a b=lexL ordB a b
 | [],[]=>rfl
 | [],_::_=>rfl
 | _::_,[]=>rfl
 | a::x,b::y=>by rw [cmpL,lexL,cmpL_lex x y]
theorem ordB_good:Good ordB:=by
 rw [show ordB=lexL bcmp from funext fun a=>funext fun b=>ordB_lex a b]
 exact lexL_good bcmp_good
theorem cmpL_good:Good cmpL:=by
 rw [show cmpL=lexL ordB from funext fun a=>funext fun b=>cmpL_lex a b]
 exact lexL_good ordB_good
abbrev Nm:=List (List UInt8) × List UInt8
def cmpP (a b:Nm):Int:=cmpN a.1 a.2 b.1 b.2
theorem cmpP_good:Good cmpP where
 bd:=by
  intro a b
  unfold cmpP cmpN
  split
  ·exact ordB_good.bd _ _
  ·exact cmpL_good.bd _ _
 swap:=by
  intro a b
  unfold cmpP cmpN
  rw [ordB_good.swap a.2 b.2,cmpL_good.swap a.1 b.1]
  by_cases hz:ordB a.2 b.2=0
  ·rw [if_neg (by omega),if_neg (by omega)]
  ·rw [if_pos (by omega),if_pos hz]
 zero:=by
  intro a b
  unfold cmpP
  rw [cmpN_zero]
  constructor
  ·intro h;exact Prod.ext h.1 h.2
  ·rintro rfl;exact ⟨rfl,rfl⟩
 trans:=by
  intro a b c h1 h2
  unfold cmpP cmpN at h1 h2 ⊢
  have h1':ordB a.2 b.2≤0:=by by_cases e:ordB a.2 b.2=0<;>simp [e] at h1<;>omega
  have h2':ordB b.2 c.2≤0:=by by_cases e:ordB b.2 c.2=0<;>simp [e] at h2<;>omega
  have h3:=ordB_good.trans _ _ _ h1' h2'
  by_cases hz:ordB a.2 c.2=0
  ·have hac:=(ordB_good.zero _ _).1 hz
   have hs:=ordB_good.swap a.2 b.2
   rw [← hac] at h2 h2' ⊢
   rw [if_neg (by omega)] at h1 h2
   rw [if_neg (by rw [(ordB_good.zero a.2 a.2).2 rfl];omega)]
   exact cmpL_good.trans _ _ _ h1 h2
  ·rw [if_pos hz];exact h3
end Go.Proofs.YtnjmndofcpnmeaaGreatDoor
namespace Go.Proofs.YtnjmndofcpnmeaaGreatDoor
open Go Go.Lib
set_option linter.unusedVariables false
def nmA (l:List Fct)(i:Nat):List (List UInt8) × List UInt8:=((atF l i).cp,(atF l i).cr)
def ltA (l:List Fct)(i j:Nat):Prop:=cmpP (nmA l i) (nmA l j)<0
theorem cmpP_irr (a:List (List UInt8) × List UInt8):cmpP a a=0:=(cmpP_good.zero a a).2 rfl
theorem cmpP_tr {a b c:List (List UInt8) × List UInt8}(h:cmpP a b<0)(k:cmpP b c<0):cmpP a c<0:=by
 have h1:=cmpP_good.trans a b c (by omega) (by omega)
 rcases Int.lt_or_eq_of_le h1 with h2 | h2
 ·exact h2
 ·have e:=(cmpP_good.zero a c).1 h2
  subst e
  have:=cmpP_good.swap a b
  omega
theorem ltA_irr (l:List Fct)(i:Nat):¬ ltA l i i:=by
 unfold ltA
 rw [cmpP_irr]
 omega
theorem ltA_tr (l:List Fct)(i j k:Nat)(h:ltA l i j)(h2:ltA l j k):ltA l i k:=cmpP_tr h h2
theorem ltA_tot {l:List Fct}{i j:Nat}(hne:who false (atF l i)≠who false (atF l j))(h:¬ ltA l i j):ltA l j i:=by
 unfold ltA at h ⊢
 have h1:=cmpP_good.swap (nmA l i) (nmA l j)
 have h2:cmpP (nmA l i) (nmA l j)≠0:=fun e=>by
  have e1:=(cmpP_good.zero _ _).1 e
  unfold nmA at e1
  injection e1 with e1 e2
  refine hne ?_
  unfold who
  rw [if_neg (by decide),if_neg (by decide),e1,e2]
 omega
def ActL (l:List Fct)(n:Nat)(js:List Nat):Prop:=js.Pairwise (ltA l)∧∀ i,i∈js ↔ i∈fstK n (fun i=>wantB (atF l i)) (fun i=>who false (atF l i))
theorem ActL.uniq {l:List Fct}{n:Nat}{js ks:List Nat}(h:ActL l n js)(k:ActL l n ks):js=ks:=rise_eqR (ltA_irr l) (ltA_tr l) h.1 k.1 fun x=>by rw [h.2,k.2]
theorem ActL.nil (l:List Fct):ActL l 0 []:=⟨List.Pairwise.nil,fun i=>⟨fun h=>(by simp at h),fun h=>absurd (fstK_mem.1 h).1 (Nat.not_lt_zero i)⟩⟩
theorem ActL.nodup {l:List Fct}{n:Nat}{js:List Nat}(h:ActL l n js):js.Nodup:=by
 refine List.Pairwise.imp (fun {a b} hab e=>?_) h.1
 subst e
 exact ltA_irr l a hab
theorem ActL.len {l:List Fct}{n:Nat}{js:List Nat}(h:ActL l n js):js.length≤n:=by
 have:=nodup_le h.nodup (b:=List.range n) fun x hx=>List.mem_range.2 (fstK_mem.1 ((h.2 x).1 hx)).1
 rwa [List.length_range] at this
theorem ActL.skip {l:List Fct}{n:Nat}{js:List Nat}(h:ActL l n js)(hn:wantB (atF l n)=false∨∃ j,j<n∧wantB (atF l j)=true∧who false (atF l j)=who false (atF l n)):ActL l (n+1) js:=by
 refine ⟨h.1,fun i=>?_⟩
 rw [h.2,fstK_succ,if_neg]
 rintro ⟨h1,h2⟩
 rcases hn with e | ⟨j,hj,hw,e⟩
 ·rw [e] at h1;cases h1
 ·obtain ⟨m,hm,hk,_⟩:=fstK_ex (P:=fun i=>wantB (atF l i)) (K:=fun i=>who false (atF l i)) j hj hw
  exact h2 m hm (hk.trans e)
theorem ActL.ins {l:List Fct} {n p:Nat} {js:List Nat} (h:ActL l n js) (hw:wantB (atF l n)=true) (hf:∀ j,j<n→wantB (atF l j)=true→who false (atF l j)≠who false (atF l n)) (hp:p≤js.length)
  (h1:∀ y∈js.drop p,ltA l n y) (h2:∀ q (hq:q<js.length),q+1=p→¬ ltA l n js[q]):ActL l (n+1) (js.take p++n::js.drop p):=by
 have hmem:∀ y∈js,who false (atF l n)≠who false (atF l y):=fun y hy e=>by
  obtain ⟨a,b,_⟩:=fstK_mem.1 ((h.2 y).1 hy)
  exact hf y a b e.symm
 refine ⟨rise_ins (ltA_tr l) h.1 (fun y hy=>?_) h1,fun i=>?_⟩
 ·cases p with
  | zero=>simp at hy
  | succ q=>
   have hq:q<js.length:=by omega
   have hlast:=ltA_tot (hmem _ (List.getElem_mem hq)) (h2 q hq rfl)
   rw [List.take_succ_eq_append_getElem hq] at hy
   rcases List.mem_append.1 hy with hy | hy
   ·obtain ⟨r,hr,e⟩:=List.getElem_of_mem hy
    rw [List.getElem_take] at e
    rw [List.length_take] at hr
    have:=List.pairwise_iff_getElem.1 h.1 r q (by omega) hq (by omega)
    rw [e] at this
    exact ltA_tr l _ _ _ this hlast
   ·rw [List.mem_singleton] at hy
    subst hy
    exact hlast
 ·rw [fstK_succ,if_pos ⟨hw,fun j hj=>by obtain ⟨a,b,_⟩:=fstK_mem.1 hj;exact hf j a b⟩,List.mem_append (s:=fstK n _ _),← h.2,List.mem_singleton,List.mem_append,List.mem_cons]
  have:i∈js ↔ i∈js.take p∨i∈js.drop p:=by rw [← List.mem_append,List.take_append_drop]
  rw [this]
  constructor
  ·rintro (h | h | h)
   ·exact .inl (.inl h)
   ·exact .inr h
   ·exact .inl (.inr h)
  ·rintro ((h | h) | h)
   ·exact .inl h
   ·exact .inr (.inr h)
   ·exact .inr (.inl h)
end Go.Proofs.YtnjmndofcpnmeaaGreatDoor
namespace Go.Proofs.YtnjmndofcpnmeaaGreatDoor
open Go Go.RowKit Go.Shelf Go.Sort
set_option linter.unusedVariables false
structure VV where
 CA:Option Addr
 cp:List ByteArray
 cc:Nat
 cr:ByteArray
 rq:Int
 su:Int
 pl:Int
 ad:Int
 f:Int
 l:Int
 deriving Inhabited
def VV.cs (m:VV):List Value:=[.slice m.CA m.cp.length m.cc,.string m.cr,.int .i64 m.rq,.int .i64 m.su,.int .i64 m.pl,.int .i64 m.ad,.int .i64 m.f,.int .i64 m.l]
def VV.val (m:VV):Value:=.agg #[.slice m.CA m.cp.length m.cc,.string m.cr,.int .i64 m.rq,.int .i64 m.su,.int .i64 m.pl,.int .i64 m.ad,.int .i64 m.f,.int .i64 m.l]
def VV.In (w:World)(m:VV):Prop:=RS w (.slice m.CA m.cp.length m.cc) (sv m.cp)
def VV.Blk (m:VV)(b:Nat):Prop:=m.cp≠[]∧∃ ad,m.CA=some ad∧ad.block=b
def VV.nm (m:VV):List (List UInt8) × List UInt8:=(dat m.cp,m.cr.data.toList)
structure VV.Is (m:VV) (a:Actv):Prop where
 cp:dat m.cp=a.cp
 cr:m.cr.data.toList=a.cr
 rq:m.rq=(a.req:Int)
 su:m.su=(a.suc:Int)
 pl:m.pl=(a.pln:Int)
 ad:m.ad=(a.adr:Int)
 f:m.f=a.fst
 l:m.l=a.lst
theorem VV.In.ext {w w':World}{m:VV}(h:m.In w)(hx:Ext w w'):m.In w':=RS.ext h hx
def EV:Ek VV where
 k:=8
 kp:=by decide
 cs:=VV.cs
 len:=fun _=>rfl
 one:=fun x u hu=>by simp [VV.cs] at hu;rcases hu with rfl | rfl | rfl | rfl | rfl | rfl | rfl | rfl<;>rfl
 no8:=fun x u hu n e=>by subst e;simp [VV.cs] at hu
 In:=VV.In
 Blk:=VV.Blk
 blt:=fun w m b h hb=>by
  obtain ⟨hne,ad,ha,rfl⟩:=hb
  exact (RS.lt h (sv_ne hne) ha).1
 keep:=fun w w' m row h hg hr=>RS.off h (fun hne ad ha e=>(hr _ e).2 ⟨ne_sv hne,ad,ha,rfl⟩) hg
def actZ:Value:=.agg #[.slice none 0 0,.string ⟨#[]⟩,.int .i64 0,.int .i64 0,.int .i64 0,.int .i64 0,.int .i64 0,.int .i64 0]
theorem act_info:∃ i:TypeInfo,Tryz.prog.info? 58=some i∧i.zero=some actZ∧i.size=8∧i.bytes=88:=
 info_parts (show (Tryz.prog.info? 58).map (fun i=>(i.zero,i.size,i.bytes))=some (some actZ,8,88) by kernel_rfl)
theorem act_zs:actZ.cells.size=8:=rfl
theorem act_zn:∀ x∈actZ.cells.toList,∀ n,x≠.int .u8 n:=by
 intro x hx n e
 subst e
 simp [actZ,Value.cells] at hx
def V8 (w:World)(g:Nat)(m:VV):Prop:=RW w g 58 #[.slice m.CA m.cp.length m.cc,.string m.cr,.int .i64 m.rq,.int .i64 m.su,.int .i64 m.pl,.int .i64 m.ad,.int .i64 m.f,.int .i64 m.l]
theorem V8.ext {w w':World}{g:Nat}{m:VV}(h:V8 w g m)(hx:Ext w w'):V8 w' g m:=RW.ext h hx
theorem V8.cells {w:World}{g:Nat}{m:VV}(h:V8 w g m):w.cell? ⟨g,0,none⟩=some (.slice m.CA m.cp.length m.cc)∧w.cell? ⟨g,1,none⟩=some (.string m.cr)∧w.cell? ⟨g,2,none⟩=some (.int .i64 m.rq)∧w.cell? ⟨g,3,none⟩=some (.int .i64 m.su)∧w.cell? ⟨g,4,none⟩=some (.int .i64 m.pl)∧w.cell? ⟨g,5,none⟩=some (.int .i64 m.ad)∧w.cell? ⟨g,6,none⟩=some (.int .i64 m.f)∧w.cell? ⟨g,7,none⟩=some (.int .i64 m.l):=by
 unfold V8 RW at h
 refine ⟨?_,?_,?_,?_,?_,?_,?_,?_⟩<;>(rw [cell_of_row _ _ _ _ _ (0,0) h];rfl)
theorem V8.news {w:World}{g:Nat}{m:VV}(h:V8 w g m):∀ j u,(EV.all [m])[j]? = some u→w.cell? ((⟨g,0,none⟩:Addr).add j)=some u:=fun j u hu=>by
 rw [Ek.all_one] at hu
 rw [add0,cell_of_row _ _ j _ _ (0,0) h,← hu]
 show _=(VV.cs m)[j]?
 unfold VV.cs
 rw [← List.getElem?_toArray]
theorem boxesV (w:World)(m q:VV):∃ W,((w.alloc (.cells #[.slice m.CA m.cp.length m.cc,.string m.cr,.int .i64 m.rq,.int .i64 m.su,.int .i64 m.pl,.int .i64 m.ad,.int .i64 m.f,.int .i64 m.l] 58)).alloc (.cells #[.slice q.CA q.cp.length q.cc,.string q.cr,.int .i64 q.rq,.int .i64 q.su,.int .i64 q.pl,.int .i64 q.ad,.int .i64 q.f,.int .i64 q.l] 58))=W∧V8 W w.heap.size m∧V8 W (w.heap.size+1) q∧ExtD w W:=by
 have hT:=heap_alloc_new w (.cells #[.slice m.CA m.cp.length m.cc,.string m.cr,.int .i64 m.rq,.int .i64 m.su,.int .i64 m.pl,.int .i64 m.ad,.int .i64 m.f,.int .i64 m.l] 58)
 have hU:=heap_alloc_new (w.alloc (.cells #[.slice m.CA m.cp.length m.cc,.string m.cr,.int .i64 m.rq,.int .i64 m.su,.int .i64 m.pl,.int .i64 m.ad,.int .i64 m.f,.int .i64 m.l] 58)) (.cells #[.slice q.CA q.cp.length q.cc,.string q.cr,.int .i64 q.rq,.int .i64 q.su,.int .i64 q.pl,.int .i64 q.ad,.int .i64 q.f,.int .i64 q.l] 58)
 rw [World.size_alloc] at hU
 have x1:=ExtD.alloc w (.cells #[.slice m.CA m.cp.length m.cc,.string m.cr,.int .i64 m.rq,.int .i64 m.su,.int .i64 m.pl,.int .i64 m.ad,.int .i64 m.f,.int .i64 m.l] 58)
 have x2:=ExtD.alloc (w.alloc (.cells #[.slice m.CA m.cp.length m.cc,.string m.cr,.int .i64 m.rq,.int .i64 m.su,.int .i64 m.pl,.int .i64 m.ad,.int .i64 m.f,.int .i64 m.l] 58)) (.cells #[.slice q.CA q.cp.length q.cc,.string q.cr,.int .i64 q.rq,.int .i64 q.su,.int .i64 q.pl,.int .i64 q.ad,.int .i64 q.f,.int .i64 q.l] 58)
 exact ⟨_,rfl,x2.ext.heap hT,hU,x1.trans x2⟩
def sameV (m q:VV):Bool:=(((((sameP m.cp m.cr q.cp q.cr&&m.rq==q.rq)&&m.su==q.su)&&m.pl==q.pl)&&m.ad==q.ad)&&m.f==q.f)&&m.l==q.l
theorem sameV_is {m q:VV}{a:Actv}(h:m.Is a)(k:q.Is a):sameV m q=true:=by
 unfold sameV
 rw [sameP_eq,h.cp,h.cr,h.rq,h.su,h.pl,h.ad,h.f,h.l,k.cp,k.cr,k.rq,k.su,k.pl,k.ad,k.f,k.l]
 simp
set_option maxRecDepth 100000 in
set_option maxHeartbeats 1000000 in
theorem SameV_at (m q:VV) (w:World) (hm:m.In w) (hq:q.In w) (hml:m.cp.length≤1000) (hql:q.cp.length≤1000):
  Calls Tryz.prog 21 #[m.val,q.val] w fun e w'=>e=.returned (.bool (sameV m q))∧Ext w w':=by
 obtain ⟨W2,e2,h0,h1,hxd⟩:=boxesV w m q
 have hx:=hxd.ext
 have HM:=Lib.hid h0;have HQ:=Lib.hid h1;have HX:=Lib.hid hx
 have HC0:=Lib.hid (fun W (hw:Ext W2 W)=>SameP_at m.CA m.cc m.cp m.cr q.CA q.cc q.cp q.cr hml hql W (hm.ext (hx.trans hw)) (hq.ext (hx.trans hw)))
 have hsa:sameV m q=((((((sameP m.cp m.cr q.cp q.cr&&m.rq==q.rq)&&m.su==q.su)&&m.pl==q.pl)&&m.ad==q.ad)&&m.f==q.f)&&m.l==q.l):=rfl
 rw [hsa]
 unfold VV.val
 clear hsa
 obtain ⟨pc,hpc⟩:∃ b,sameP m.cp m.cr q.cp q.cr=b:=⟨_,rfl⟩
 rw [hpc] at HC0 ⊢
 clear hpc h0 h1 hx hxd hm hq
 obtain ⟨q1,hq1⟩:∃ q1:Bool,(m.rq==q.rq)=q1:=⟨_,rfl⟩
 have Hq1:=Lib.hid hq1;clear hq1
 obtain ⟨p2,hp2⟩:∃ p2:Bool,(pc&&q1)=p2:=⟨_,rfl⟩
 have Hp2:=Lib.hid hp2;clear hp2
 obtain ⟨q3,hq3⟩:∃ q3:Bool,(m.su==q.su)=q3:=⟨_,rfl⟩
 have Hq3:=Lib.hid hq3;clear hq3
 obtain ⟨p4,hp4⟩:∃ p4:Bool,(p2&&q3)=p4:=⟨_,rfl⟩
 have Hp4:=Lib.hid hp4;clear hp4
 obtain ⟨q5,hq5⟩:∃ q5:Bool,(m.pl==q.pl)=q5:=⟨_,rfl⟩
 have Hq5:=Lib.hid hq5;clear hq5
 obtain ⟨p6,hp6⟩:∃ p6:Bool,(p4&&q5)=p6:=⟨_,rfl⟩
 have Hp6:=Lib.hid hp6;clear hp6
 obtain ⟨q7,hq7⟩:∃ q7:Bool,(m.ad==q.ad)=q7:=⟨_,rfl⟩
 have Hq7:=Lib.hid hq7;clear hq7
 obtain ⟨p8,hp8⟩:∃ p8:Bool,(p6&&q7)=p8:=⟨_,rfl⟩
 have Hp8:=Lib.hid hp8;clear hp8
 obtain ⟨q9,hq9⟩:∃ q9:Bool,(m.f==q.f)=q9:=⟨_,rfl⟩
 have Hq9:=Lib.hid hq9;clear hq9
 obtain ⟨p10,hp10⟩:∃ p10:Bool,(p8&&q9)=p10:=⟨_,rfl⟩
 have Hp10:=Lib.hid hp10;clear hp10
 obtain ⟨q11,hq11⟩:∃ q11:Bool,(m.l==q.l)=q11:=⟨_,rfl⟩
 have Hq11:=Lib.hid hq11;clear hq11
 obtain ⟨p12,hp12⟩:∃ p12:Bool,(p10&&q11)=p12:=⟨_,rfl⟩
 have Hp12:=Lib.hid hp12;clear hp12
 have HX0:=Lib.hid (Ext.refl W2)
 go_enter Tryz.func21,Tryz.ntmps21
 go_upto_region 1 with fail
 refine wp_region_lit ?_
 refine wpL_val (.pointer (some ⟨w.heap.size,0,none⟩)) rfl (fun K' hK'=>?_) ?_
 ·go_step
  exact hK'
 simp only [Act.put,sT1,sT2,sT3]
 refine wpL_val (.agg #[.slice m.CA m.cp.length m.cc,.string m.cr]) rfl (fun K' hK'=>?_) ?_
 ·obtain ⟨u0,u1,u2,u3,u4,u5,u6,u7⟩:=(HM.out.ext HX0.out).cells
  go_step
  exact hK'
 simp only [Act.put,sT1,sT2,sT3]
 refine wpL_val (.pointer (some ⟨(w.heap.size+1),0,none⟩)) rfl (fun K' hK'=>?_) ?_
 ·go_step
  exact hK'
 simp only [Act.put,sT1,sT2,sT3]
 refine wpL_val (.agg #[.slice q.CA q.cp.length q.cc,.string q.cr]) rfl (fun K' hK'=>?_) ?_
 ·obtain ⟨u0,u1,u2,u3,u4,u5,u6,u7⟩:=(HQ.out.ext HX0.out).cells
  go_step
  exact hK'
 simp only [Act.put,sT1,sT2,sT3]
 refine wpL_symcall true (.bool pc) (rfl) (fun hc K' hK'=>?_) (fun wc9 hx=>?_)
 ·skip
  try simp only [cond_true]
  go_step
  refine (HC0.out W2 HX0.out).mono ?_
  rintro _ w2 ⟨rfl,hx⟩
  exact hK' _ hx
 have HX9:=Lib.hid (HX0.out.trans hx);clear hx
 simp only [cond_true,Act.put,sT1,sT2,sT3]
 refine wpL_val (.bool pc) rfl (fun K' hK'=>?_) ?_
 ·go_step
  exact hK'
 simp only [Act.put,sT1,sT2,sT3]
 refine wpL_sym pc (.pointer (some ⟨w.heap.size,2,none⟩)) (by cases pc<;>kernel_rfl) (fun hc K' hK'=>?_) ?_
 ·subst hc
  try simp only [cond_true]
  go_step
  exact hK'
 simp only [Act.put,sT1,sT2,sT3]
 refine wpL_sym pc (.int .i64 m.rq) (by cases pc<;>kernel_rfl) (fun hc K' hK'=>?_) ?_
 ·subst hc
  try simp only [cond_true]
  obtain ⟨u0,u1,u2,u3,u4,u5,u6,u7⟩:=(HM.out.ext HX9.out).cells
  go_step
  exact hK'
 simp only [Act.put,sT1,sT2,sT3]
 refine wpL_sym pc (.pointer (some ⟨(w.heap.size+1),2,none⟩)) (by cases pc<;>kernel_rfl) (fun hc K' hK'=>?_) ?_
 ·subst hc
  try simp only [cond_true]
  go_step
  exact hK'
 simp only [Act.put,sT1,sT2,sT3]
 refine wpL_sym pc (.int .i64 q.rq) (by cases pc<;>kernel_rfl) (fun hc K' hK'=>?_) ?_
 ·subst hc
  try simp only [cond_true]
  obtain ⟨u0,u1,u2,u3,u4,u5,u6,u7⟩:=(HQ.out.ext HX9.out).cells
  go_step
  exact hK'
 simp only [Act.put,sT1,sT2,sT3]
 refine wpL_sym pc (.bool q1) (by cases pc<;>kernel_rfl) (fun hc K' hK'=>?_) ?_
 ·subst hc
  try simp only [cond_true]
  have hq:=Hq1.out
  subst hq
  go_step
  exact hK'
 simp only [Act.put,sT1,sT2,sT3]
 refine wpL_val (.bool p2) rfl (fun K' hK'=>?_) ?_
 ·have hp:=Hp2.out
  subst hp
  cases pc
  ·go_step
   exact hK'
  ·go_step
   exact hK'
 simp only [Act.put,sT1,sT2,sT3]
 refine wpL_val (.bool p2) rfl (fun K' hK'=>?_) ?_
 ·go_step
  exact hK'
 simp only [Act.put,sT1,sT2,sT3]
 refine wpL_sym p2 (.pointer (some ⟨w.heap.size,3,none⟩)) (by cases p2<;>kernel_rfl) (fun hc K' hK'=>?_) ?_
 ·subst hc
  try simp only [cond_true]
  go_step
  exact hK'
 simp only [Act.put,sT1,sT2,sT3]
 refine wpL_sym p2 (.int .i64 m.su) (by cases p2<;>kernel_rfl) (fun hc K' hK'=>?_) ?_
 ·subst hc
  try simp only [cond_true]
  obtain ⟨u0,u1,u2,u3,u4,u5,u6,u7⟩:=(HM.out.ext HX9.out).cells
  go_step
  exact hK'
 simp only [Act.put,sT1,sT2,sT3]
 refine wpL_sym p2 (.pointer (some ⟨(w.heap.size+1),3,none⟩)) (by cases p2<;>kernel_rfl) (fun hc K' hK'=>?_) ?_
 ·subst hc
  try simp only [cond_true]
  go_step
  exact hK'
 simp only [Act.put,sT1,sT2,sT3]
 refine wpL_sym p2 (.int .i64 q.su) (by cases p2<;>kernel_rfl) (fun hc K' hK'=>?_) ?_
 ·subst hc
  try simp only [cond_true]
  obtain ⟨u0,u1,u2,u3,u4,u5,u6,u7⟩:=(HQ.out.ext HX9.out).cells
  go_step
  exact hK'
 simp only [Act.put,sT1,sT2,sT3]
 refine wpL_sym p2 (.bool q3) (by cases p2<;>kernel_rfl) (fun hc K' hK'=>?_) ?_
 ·subst hc
  try simp only [cond_true]
  have hq:=Hq3.out
  subst hq
  go_step
  exact hK'
 simp only [Act.put,sT1,sT2,sT3]
 refine wpL_val (.bool p4) rfl (fun K' hK'=>?_) ?_
 ·have hp:=Hp4.out
  subst hp
  cases p2
  ·go_step
   exact hK'
  ·go_step
   exact hK'
 simp only [Act.put,sT1,sT2,sT3]
 refine wpL_val (.bool p4) rfl (fun K' hK'=>?_) ?_
 ·go_step
  exact hK'
 simp only [Act.put,sT1,sT2,sT3]
 refine wpL_sym p4 (.pointer (some ⟨w.heap.size,4,none⟩)) (by cases p4<;>kernel_rfl) (fun hc K' hK'=>?_) ?_
 ·subst hc
  try simp only [cond_true]
  go_step
  exact hK'
 simp only [Act.put,sT1,sT2,sT3]
 refine wpL_sym p4 (.int .i64 m.pl) (by cases p4<;>kernel_rfl) (fun hc K' hK'=>?_) ?_
 ·subst hc
  try simp only [cond_true]
  obtain ⟨u0,u1,u2,u3,u4,u5,u6,u7⟩:=(HM.out.ext HX9.out).cells
  go_step
  exact hK'
 simp only [Act.put,sT1,sT2,sT3]
 refine wpL_sym p4 (.pointer (some ⟨(w.heap.size+1),4,none⟩)) (by cases p4<;>kernel_rfl) (fun hc K' hK'=>?_) ?_
 ·subst hc
  try simp only [cond_true]
  go_step
  exact hK'
 simp only [Act.put,sT1,sT2,sT3]
 refine wpL_sym p4 (.int .i64 q.pl) (by cases p4<;>kernel_rfl) (fun hc K' hK'=>?_) ?_
 ·subst hc
  try simp only [cond_true]
  obtain ⟨u0,u1,u2,u3,u4,u5,u6,u7⟩:=(HQ.out.ext HX9.out).cells
  go_step
  exact hK'
 simp only [Act.put,sT1,sT2,sT3]
 refine wpL_sym p4 (.bool q5) (by cases p4<;>kernel_rfl) (fun hc K' hK'=>?_) ?_
 ·subst hc
  try simp only [cond_true]
  have hq:=Hq5.out
  subst hq
  go_step
  exact hK'
 simp only [Act.put,sT1,sT2,sT3]
 refine wpL_val (.bool p6) rfl (fun K' hK'=>?_) ?_
 ·have hp:=Hp6.out
  subst hp
  cases p4
  ·go_step
   exact hK'
  ·go_step
   exact hK'
 simp only [Act.put,sT1,sT2,sT3]
 refine wpL_val (.bool p6) rfl (fun K' hK'=>?_) ?_
 ·go_step
  exact hK'
 simp only [Act.put,sT1,sT2,sT3]
 refine wpL_sym p6 (.pointer (some ⟨w.heap.size,5,none⟩)) (by cases p6<;>kernel_rfl) (fun hc K' hK'=>?_) ?_
 ·subst hc
  try simp only [cond_true]
  go_step
  exact hK'
 simp only [Act.put,sT1,sT2,sT3]
 refine wpL_sym p6 (.int .i64 m.ad) (by cases p6<;>kernel_rfl) (fun hc K' hK'=>?_) ?_
 ·subst hc
  try simp only [cond_true]
  obtain ⟨u0,u1,u2,u3,u4,u5,u6,u7⟩:=(HM.out.ext HX9.out).cells
  go_step
  exact hK'
 simp only [Act.put,sT1,sT2,sT3]
 refine wpL_sym p6 (.pointer (some ⟨(w.heap.size+1),5,none⟩)) (by cases p6<;>kernel_rfl) (fun hc K' hK'=>?_) ?_
 ·subst hc
  try simp only [cond_true]
  go_step
  exact hK'
 simp only [Act.put,sT1,sT2,sT3]
 refine wpL_sym p6 (.int .i64 q.ad) (by cases p6<;>kernel_rfl) (fun hc K' hK'=>?_) ?_
 ·subst hc
  try simp only [cond_true]
  obtain ⟨u0,u1,u2,u3,u4,u5,u6,u7⟩:=(HQ.out.ext HX9.out).cells
  go_step
  exact hK'
 simp only [Act.put,sT1,sT2,sT3]
 refine wpL_sym p6 (.bool q7) (by cases p6<;>kernel_rfl) (fun hc K' hK'=>?_) ?_
 ·subst hc
  try simp only [cond_true]
  have hq:=Hq7.out
  subst hq
  go_step
  exact hK'
 simp only [Act.put,sT1,sT2,sT3]
 refine wpL_val (.bool p8) rfl (fun K' hK'=>?_) ?_
 ·have hp:=Hp8.out
  subst hp
  cases p6
  ·go_step
   exact hK'
  ·go_step
   exact hK'
 simp only [Act.put,sT1,sT2,sT3]
 refine wpL_val (.bool p8) rfl (fun K' hK'=>?_) ?_
 ·go_step
  exact hK'
 simp only [Act.put,sT1,sT2,sT3]
 refine wpL_sym p8 (.pointer (some ⟨w.heap.size,6,none⟩)) (by cases p8<;>kernel_rfl) (fun hc K' hK'=>?_) ?_
 ·subst hc
  try simp only [cond_true]
  go_step
  exact hK'
 simp only [Act.put,sT1,sT2,sT3]
 refine wpL_sym p8 (.int .i64 m.f) (by cases p8<;>kernel_rfl) (fun hc K' hK'=>?_) ?_
 ·subst hc
  try simp only [cond_true]
  obtain ⟨u0,u1,u2,u3,u4,u5,u6,u7⟩:=(HM.out.ext HX9.out).cells
  go_step
  exact hK'
 simp only [Act.put,sT1,sT2,sT3]
 refine wpL_sym p8 (.pointer (some ⟨(w.heap.size+1),6,none⟩)) (by cases p8<;>kernel_rfl) (fun hc K' hK'=>?_) ?_
 ·subst hc
  try simp only [cond_true]
  go_step
  exact hK'
 simp only [Act.put,sT1,sT2,sT3]
 refine wpL_sym p8 (.int .i64 q.f) (by cases p8<;>kernel_rfl) (fun hc K' hK'=>?_) ?_
 ·subst hc
  try simp only [cond_true]
  obtain ⟨u0,u1,u2,u3,u4,u5,u6,u7⟩:=(HQ.out.ext HX9.out).cells
  go_step
  exact hK'
 simp only [Act.put,sT1,sT2,sT3]
 refine wpL_sym p8 (.bool q9) (by cases p8<;>kernel_rfl) (fun hc K' hK'=>?_) ?_
 ·subst hc
  try simp only [cond_true]
  have hq:=Hq9.out
  subst hq
  go_step
  exact hK'
 simp only [Act.put,sT1,sT2,sT3]
 refine wpL_val (.bool p10) rfl (fun K' hK'=>?_) ?_
 ·have hp:=Hp10.out
  subst hp
  cases p8
  ·go_step
   exact hK'
  ·go_step
   exact hK'
 simp only [Act.put,sT1,sT2,sT3]
 refine wpL_val (.bool p10) rfl (fun K' hK'=>?_) ?_
 ·go_step
  exact hK'
 simp only [Act.put,sT1,sT2,sT3]
 refine wpL_sym p10 (.pointer (some ⟨w.heap.size,7,none⟩)) (by cases p10<;>kernel_rfl) (fun hc K' hK'=>?_) ?_
 ·subst hc
  try simp only [cond_true]
  go_step
  exact hK'
 simp only [Act.put,sT1,sT2,sT3]
 refine wpL_sym p10 (.int .i64 m.l) (by cases p10<;>kernel_rfl) (fun hc K' hK'=>?_) ?_
 ·subst hc
  try simp only [cond_true]
  obtain ⟨u0,u1,u2,u3,u4,u5,u6,u7⟩:=(HM.out.ext HX9.out).cells
  go_step
  exact hK'
 simp only [Act.put,sT1,sT2,sT3]
 refine wpL_sym p10 (.pointer (some ⟨(w.heap.size+1),7,none⟩)) (by cases p10<;>kernel_rfl) (fun hc K' hK'=>?_) ?_
 ·subst hc
  try simp only [cond_true]
  go_step
  exact hK'
 simp only [Act.put,sT1,sT2,sT3]
 refine wpL_sym p10 (.int .i64 q.l) (by cases p10<;>kernel_rfl) (fun hc K' hK'=>?_) ?_
 ·subst hc
  try simp only [cond_true]
  obtain ⟨u0,u1,u2,u3,u4,u5,u6,u7⟩:=(HQ.out.ext HX9.out).cells
  go_step
  exact hK'
 simp only [Act.put,sT1,sT2,sT3]
 refine wpL_sym p10 (.bool q11) (by cases p10<;>kernel_rfl) (fun hc K' hK'=>?_) ?_
 ·subst hc
  try simp only [cond_true]
  have hq:=Hq11.out
  subst hq
  go_step
  exact hK'
 simp only [Act.put,sT1,sT2,sT3]
 refine wpL_val (.bool p12) rfl (fun K' hK'=>?_) ?_
 ·have hp:=Hp12.out
  subst hp
  cases p10
  ·go_step
   exact hK'
  ·go_step
   exact hK'
 simp only [Act.put,sT1,sT2,sT3]
 go_wp2_with fail
 go_ret
 refine ⟨?_,HX.out.trans HX9.out⟩
 have h:=Hp12.out;subst h
 have h:=Hq11.out;subst h
 have h:=Hp10.out;subst h
 have h:=Hq9.out;subst h
 have h:=Hp8.out;subst h
 have h:=Hq7.out;subst h
 have h:=Hp6.out;subst h
 have h:=Hq5.out;subst h
 have h:=Hp4.out;subst h
 have h:=Hq3.out;subst h
 have h:=Hp2.out;subst h
 have h:=Hq1.out;subst h
 rfl
set_option maxRecDepth 100000 in
set_option maxHeartbeats 1000000 in
theorem cmpAct_at (m q:VV) (w:World) (hm:m.In w) (hq:q.In w) (hml:m.cp.length≤1000) (hql:q.cp.length≤1000):
  Calls Tryz.prog 74 #[m.val,q.val] w fun e w'=>e=.returned (.int .i64 (cmpP m.nm q.nm))∧ExtD w w':=by
 obtain ⟨W2,e2,h0,h1,hx⟩:=boxesV w m q
 have HX:=Lib.hid hx
 have HC0:=Lib.hid (NCompareD_at m.CA m.cc m.cp m.cr q.CA q.cc q.cp q.cr hml hql W2 (hm.ext hx.ext) (hq.ext hx.ext))
 rw [show cmpN (dat m.cp) m.cr.data.toList (dat q.cp) q.cr.data.toList=cmpP m.nm q.nm from rfl] at HC0
 obtain ⟨c0,c1,c2,c3,c4,c5,c6,c7⟩:=h0.cells
 obtain ⟨d0,d1,d2,d3,d4,d5,d6,d7⟩:=h1.cells
 generalize cmpP m.nm q.nm=r at *
 unfold VV.val
 clear h0 h1 hx hm hq hml hql
 go_enter Tryz.func74,Tryz.ntmps74
 go_wp2_with fail
 refine HC0.out.mono ?_
 rintro _ w3 ⟨rfl,hx3⟩
 have HX3:=Lib.hid (HX.out.trans hx3)
 clear hx3
 go_wp2_with fail
 go_ret
 exact ⟨rfl,HX3.out⟩
def vv0:VV:=⟨none,[],0,⟨#[]⟩,0,0,0,0,0,0⟩
def atV (ms:List VV)(i:Nat):VV:=ms[i]?.getD vv0
theorem atV_get {ms:List VV}{i:Nat}(h:i<ms.length):atV ms i=ms[i]:=by unfold atV;rw [List.getElem?_eq_getElem h];rfl
theorem atV_mem (ms:List VV)(i:Nat):atV ms i∈ms∨atV ms i=vv0:=by
 by_cases h:i<ms.length
 ·exact .inl (by rw [atV_get h];exact List.getElem_mem h)
 ·exact .inr (by unfold atV;rw [List.getElem?_eq_none (by omega)];rfl)
def EVi (ms:List VV):Ek Nat where
 k:=8
 kp:=by decide
 cs:=fun i=>(atV ms i).cs
 len:=fun _=>rfl
 one:=fun x u hu=>EV.one _ u hu
 no8:=fun x u hu n=>EV.no8 _ u hu n
 In:=fun _ _=>True
 Blk:=fun _ _=>False
 blt:=fun _ _ _ _ h=>h.elim
 keep:=fun _ _ _ _ _ _ _=>trivial
theorem all_range (ms:List VV):EV.all ms=(EVi ms).all (List.range ms.length):=by
 have:ms=(List.range ms.length).map (atV ms):=by
  refine List.ext_getElem (by simp) fun i h1 h2=>?_
  rw [List.getElem_map,List.getElem_range,atV_get h1]
 show ms.flatMap EV.cs=(List.range ms.length).flatMap (EVi ms).cs
 conv=>lhs;rw [this]
 rw [List.flatMap_map]
 rfl
theorem ROW.byIx {w:World}{B:Nat}{v:Value}{ms:List VV}(h:ROW EV 58 w B v ms):ROW (EVi ms) 58 w B v (List.range ms.length):=by
 obtain ⟨h0,h1,h2⟩:=h
 refine ⟨h0,?_,fun x _=>⟨trivial,fun b _=>id⟩⟩
 rw [← all_range,List.length_range]
 exact h1
theorem RDS.ofIx {w:World}{v:Value}{ms:List VV}{ys:List Nat}(h:RDS (EVi ms) w v ys):RDS EV w v (ys.map (atV ms)):=by
 obtain ⟨A,c,h1,h2,h3,h4⟩:=h
 refine ⟨A,c,by rw [List.length_map];exact h1,by rw [List.length_map];exact h2,h3,fun i hi=>?_⟩
 rw [List.length_map] at hi
 obtain ⟨ad,k1,k2⟩:=h4 i hi
 refine ⟨ad,k1,fun j u hu=>k2 j u ?_⟩
 rw [List.getElem_map] at hu
 exact hu
theorem swoV (ms:List VV):SWO (ltOf fun x y:Nat=>cmpP (atV ms x).nm (atV ms y).nm) where
 irrefl x:=by unfold ltOf;simp [cmpP_irr]
 trans x y z h1 h2:=by
  unfold ltOf at *
  simp at *
  exact cmpP_tr h1 h2
 ntrans x y z h1 h2:=by
  unfold ltOf at *
  simp at *
  have s1:=cmpP_good.swap (atV ms x).nm (atV ms y).nm
  have s2:=cmpP_good.swap (atV ms y).nm (atV ms z).nm
  have s3:=cmpP_good.swap (atV ms x).nm (atV ms z).nm
  have:=cmpP_good.trans (atV ms z).nm (atV ms y).nm (atV ms x).nm (by omega) (by omega)
  omega
end Go.Proofs.YtnjmndofcpnmeaaGreatDoor
namespace Go.Proofs.YtnjmndofcpnmeaaGreatDoor
open Go Go.RowKit
set_option linter.unusedVariables false
set_option maxRecDepth 100000 in
theorem RNone_at (A:Option Addr)(n c:Nat)(r:ByteArray)(w:World):Calls Tryz.prog 77 #[.agg #[.slice A n c,.string r]] w fun e w'=>e=.returned (.bool (decide (n=0)&&r.toList.isEmpty))∧Ext w w':=by
 have hg:=heap_alloc_new w (.cells #[.slice A n c,.string r] 37)
 have hx:=(Ext.refl w).alloc (.cells #[.slice A n c,.string r] 37)
 obtain ⟨W1,e1⟩:∃ W,w.alloc (.cells #[.slice A n c,.string r] 37)=W:=⟨_,rfl⟩
 rw [e1] at hg hx
 have c0:W1.cell? ⟨w.heap.size,0,none⟩=some (.slice A n c):=by rw [cell_of_row _ w.heap.size 0 _ _ (0,0) hg];rfl
 have c1:W1.cell? ⟨w.heap.size,1,none⟩=some (.string r):=by rw [cell_of_row _ w.heap.size 1 _ _ (0,0) hg];rfl
 have HX:=Lib.hid hx
 clear hg hx
 by_cases hn:n=0
 ·subst hn
  go_enter Tryz.func77,Tryz.ntmps77
  go_wp2
  go_ret
  exact ⟨by simp,HX.out⟩
 ·have q:((n:Int)==0)=false:=by rw [beq_eq_false_iff_ne];omega
  rw [decide_eq_false hn,Bool.false_and]
  clear hn
  go_enter Tryz.func77,Tryz.ntmps77
  go_wp2
  go_ret
  exact ⟨rfl,HX.out⟩
end Go.Proofs.YtnjmndofcpnmeaaGreatDoor
