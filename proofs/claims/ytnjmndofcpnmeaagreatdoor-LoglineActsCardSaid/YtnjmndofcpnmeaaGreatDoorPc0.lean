/- Pc0. -/
import Derived.Still
import Derived.Below
import Derived.WalkKit
import Derived.Maps.AppendAt
import Derived.Laws.OwnMore
import Derived.Deep.Draws
import Derived.Lib.Hide
import Derived.Test.YtnjmndofcpnmeaaGreatDoorProg
import Derived.WalkLawsBesides
import Derived.WalkSpells
import Derived.Deep.LoopGhost
import Derived.StillTailTactics
import Derived.BigQuiet
import Derived.Laws.IdiomStrings
namespace Go.Proofs.YtnjmndofcpnmeaaGreatDoor
theorem sT1{α:Type _}(l:List α)(i:Nat)(a:α):l.toArray.setIfInBounds i a=(l.set i a).toArray:=List.setIfInBounds_toArray ..
theorem sT2{α:Type _}{x:α}{xs:List α}{n:Nat}{a:α}:(x::xs).set (n+1) a=x::xs.set n a:=rfl
theorem sT3{α:Type _}{x:α}{xs:List α}{a:α}:(x::xs).set 0 a=a::xs:=rfl
open Go Go.RowKit
def Ext (w w':World):Prop:=Below w.heap.size w w'
theorem Ext.refl (w:World):Ext w w:=Below.refl _ _
theorem Ext.trans {a b c:World}(h:Ext a b)(k:Ext b c):Ext a c:=Below.trans h (Below.mono k h.size)
theorem Ext.drew (w:World):Ext w w.drew:=(Below.refl _ _).drew
theorem Ext.of {w w':World}(h:Below w.heap.size w w'):Ext w w':=h
theorem Ext.size {w w':World}(h:Ext w w'):w.heap.size≤w'.heap.size:=Below.size h
section
variable {P:Program} {ops:Array Oper} {md:Region.Mode} {Vs:Nat→Value→World→Prop} {w0:World}
def yUpon (P:Program) (w:World) (V:Value→World→Prop) (K:Value→World→Prop):Result Next→Prop
 | .ok (.value v) w'=>Ext w w'∧K v w'
 | .ok .skip w'=>Ext w w'∧K undef w'
 | .ok (.enter f args) w'=>Calls P f args w' (fun e w''=>∃ v,e=.returned v∧Ext w w''∧V v w'')∧∀ v w'',Ext w w''→V v w''→K v w''
 | .ok (.row row args) w'=>Rows P row args w' (fun v w''=>Ext w w''∧V v w'')∧∀ v w'',Ext w w''→V v w''→K v w''
 | _=>False
def Oper.yieldsK (P:Program)(o:Oper)(a:Act)(w:World)(V:Value→World→Prop)(K:Value→World→Prop):Prop:=yUpon P w V K ((execOp a.eval o).run P w)
theorem yUpon_mono {w:World}{V K K':Value→World→Prop}{r:Result Next}(h:∀ v w',Ext w w'→K v w'→K' v w')(hh:yUpon P w V K r):yUpon P w V K' r:=by
 cases r with
 | ok n w'=>
  cases n<;>simp only [yUpon] at hh ⊢
  case value v=>exact ⟨hh.1,h _ _ hh.1 hh.2⟩
  case skip=>exact ⟨hh.1,h _ _ hh.1 hh.2⟩
  case enter f args=>exact ⟨hh.1,fun v w'' he hv=>h _ _ he (hh.2 v w'' he hv)⟩
  case row row args=>exact ⟨hh.1,fun v w'' he hv=>h _ _ he (hh.2 v w'' he hv)⟩
 | halt x w'=>simp only [yUpon] at hh
theorem yUpon_some {w:World}{V K:Value→World→Prop}{r:Result Next}(hh:yUpon P w V K r):∃ v w',Ext w w'∧K v w':=by
 cases r with
 | ok n w'=>
  cases n<;>simp only [yUpon] at hh
  case value v=>exact ⟨v,w',hh⟩
  case skip=>exact ⟨_,w',hh⟩
  case enter f args=>
   obtain ⟨e,w'',fr,⟨v,_,he,hv⟩,_⟩:=hh.1 []
   exact ⟨v,w'',he,hh.2 v w'' he hv⟩
  case row row args=>
   obtain ⟨v,w'',⟨he,hv⟩,_⟩:=hh.1 (Frame.enter P 0 #[] .normal) []
   exact ⟨v,w'',he,hh.2 v w'' he hv⟩
 | halt x w'=>simp only [yUpon] at hh
abbrev Marks':=List (Tmp × World)
def above (w0:World)(Ws:Marks')(w:World):Prop:=Ext w0 w∧∀ d wd,(d,wd)∈Ws→Ext wd w
def okw (ops:Array Oper)(w0:World)(Ws:Marks')(o:Oper)(w:World):Prop:=Ext w0 w∧∀ d wd,(d,wd)∈Ws→d∈o.looksAt ops→Ext wd w
def cons' (w0:World)(Ws:Marks'):Prop:=∃ w,above w0 Ws w
def adds (dst:Option Tmp)(w:World)(Ws:Marks'):Marks':=match dst with | some d=>(d,w)::Ws | none=>Ws
def stronger (Ws' Ws:Marks'):Prop:=∀ d wd,(d,wd)∈Ws→(d,wd)∈Ws'
theorem above.okw {Ws:Marks'}{o:Oper}{w:World}(h:above w0 Ws w):okw ops w0 Ws o w:=⟨h.1,fun d wd hm _=>h.2 d wd hm⟩
theorem above.step {Ws:Marks'}{dst:Option Tmp}{w w':World}(h:above w0 Ws w)(he:Ext w w'):above w0 (adds dst w' Ws) w':=by
 refine ⟨h.1.trans he,fun d wd hm=>?_⟩
 cases dst with
 | none=>exact (h.2 d wd hm).trans he
 | some t=>
  rcases List.mem_cons.1 hm with e | hm
  ·cases e;exact Ext.refl _
  ·exact (h.2 d wd hm).trans he
theorem stronger.adds {Ws Ws':Marks'}(h:stronger Ws' Ws)(dst:Option Tmp)(w:World):stronger (adds dst w Ws') (adds dst w Ws):=by
 cases dst with
 | none=>exact h
 | some t=>
  intro d wd hm
  rcases List.mem_cons.1 hm with e | hm
  ·exact List.mem_cons.2 (.inl e)
  ·exact List.mem_cons.2 (.inr (h d wd hm))
theorem stronger.swap (Ws:Marks')(x y:Option Tmp)(u v:World):stronger (Proofs.YtnjmndofcpnmeaaGreatDoor.adds x u (Proofs.YtnjmndofcpnmeaaGreatDoor.adds y v Ws)) (Proofs.YtnjmndofcpnmeaaGreatDoor.adds y v (Proofs.YtnjmndofcpnmeaaGreatDoor.adds x u Ws)):=by
 intro d wd hm
 cases x<;>cases y<;>simp only [Proofs.YtnjmndofcpnmeaaGreatDoor.adds,List.mem_cons] at hm ⊢
 ·exact hm
 ·exact hm
 ·exact hm
 ·rcases hm with h | h | h
  ·exact .inr (.inl h)
  ·exact .inl h
  ·exact .inr (.inr h)
theorem stronger.okw {Ws Ws':Marks'}(h:stronger Ws' Ws){o:Oper}{w:World}(hk:okw ops w0 Ws' o w):Proofs.YtnjmndofcpnmeaaGreatDoor.okw ops w0 Ws o w:=⟨hk.1,fun d wd hm hl=>hk.2 d wd (h d wd hm) hl⟩
theorem stronger.cons' {Ws Ws':Marks'}(h:stronger Ws' Ws)(hk:cons' w0 Ws'):Proofs.YtnjmndofcpnmeaaGreatDoor.cons' w0 Ws:=let ⟨w,h1,h2⟩:=hk;⟨w,h1,fun d wd hm=>h2 d wd (h d wd hm)⟩
theorem stronger.above {Ws Ws':Marks'}(h:stronger Ws' Ws){w:World}(hk:above w0 Ws' w):Proofs.YtnjmndofcpnmeaaGreatDoor.above w0 Ws w:=⟨hk.1,fun d wd hm=>hk.2 d wd (h d wd hm)⟩
theorem okw_adds {Ws:Marks'}{dst:Option Tmp}{w1:World}{o:Oper}{w:World}(hd:∀ d,dst=some d→d ∉ o.looksAt ops)(h:okw ops w0 Ws o w):okw ops w0 (adds dst w1 Ws) o w:=by
 refine ⟨h.1,fun d wd hm hl=>?_⟩
 cases dst with
 | none=>exact h.2 d wd hm hl
 | some t=>
  rcases List.mem_cons.1 hm with e | hm
  ·cases e;exact absurd hl (hd _ rfl)
  ·exact h.2 d wd hm hl
theorem okw_of_adds {Ws:Marks'}{dst:Option Tmp}{w1:World}{o:Oper}{w:World}(h:okw ops w0 (adds dst w1 Ws) o w):okw ops w0 Ws o w:=by
 refine ⟨h.1,fun d wd hm hl=>h.2 d wd ?_ hl⟩
 cases dst with
 | none=>exact hm
 | some t=>exact List.mem_cons.2 (.inr hm)
theorem cons_of_adds {Ws:Marks'}{dst:Option Tmp}{w1:World}(h:cons' w0 (adds dst w1 Ws)):cons' w0 Ws:=by
 obtain ⟨w,h1,h2⟩:=h
 refine ⟨w,h1,fun d wd hm=>h2 d wd ?_⟩
 cases dst with
 | none=>exact hm
 | some t=>exact List.mem_cons.2 (.inr hm)
def wpE (P:Program) (ops:Array Oper) (Vs:Nat→Value→World→Prop) (w0:World) (Q:Act→World→Prop):Nat→List Oper→Act→Marks'→Prop
 | _,[],a,Ws=>∀ w,above w0 Ws w→Q a w
 | k,o::rest,a,Ws=>
  if Region.wanted o (yielded ops a.tmps) then ∀ w,okw ops w0 Ws o w→Oper.yieldsK P o a w (Vs k) (fun v w'=>wpE P ops Vs w0 Q (k+1) rest (a.put o.dst v) (adds o.dst w' Ws))
  else wpE P ops Vs w0 Q (k+1) rest (a.put o.dst undef) Ws
def eOp (P:Program)(ops:Array Oper)(Vs:Nat→Value→World→Prop)(w0:World)(i:Nat)(K:Act→Marks'→Prop)(a:Act)(Ws:Marks'):Prop:=
 match ops[i]? with
 | none=>K a Ws
 | some o=>if Region.wanted o (yielded ops a.tmps) then ∀ w,okw ops w0 Ws o w→Oper.yieldsK P o a w (Vs i) (fun v w'=>K (a.put o.dst v) (adds o.dst w' Ws)) else K (a.put o.dst undef) Ws
theorem eOp_mono {i:Nat}{a:Act}{Ws Ws':Marks'}{K K':Act→Marks'→Prop}(hs:stronger Ws' Ws)(h:∀ a X X',stronger X' X→K a X→K' a X')(hh:eOp P ops Vs w0 i K a Ws):eOp P ops Vs w0 i K' a Ws':=by
 unfold eOp at *
 split
 ·rename_i ho;simp only [ho] at hh;exact h _ _ _ hs hh
 ·rename_i o ho
  simp only [ho] at hh
  split
  ·rename_i hw
   simp only [hw,if_true] at hh
   exact fun w hk=>yUpon_mono (fun v w' _ hv=>h _ _ _ (hs.adds _ _) hv) (hh w (hs.okw hk))
  ·rename_i hw;simp only [hw] at hh;exact h _ _ _ hs hh
def wpAnyE (P:Program) (md:Region.Mode) (ops:Array Oper) (Vs:Nat→Value→World→Prop) (w0:World) (Q:Act→World→Prop):Nat→Array Bool→Act→Marks'→Prop
 | 0,listed,a,Ws=>cons' w0 Ws→Region.ready md ops listed=[]∧∀ w,above w0 Ws w→Q a w
 | fuel+1,listed,a,Ws=>cons' w0 Ws →
  (Region.ready md ops listed=[]→∀ w,above w0 Ws w→Q a w) ∧
  ∀ i∈Region.ready md ops listed,eOp P ops Vs w0 i (wpAnyE P md ops Vs w0 Q fuel (listed.setIfInBounds i true)) a Ws
theorem wpAnyE_mono {Q:Act→World→Prop}:∀ (fuel:Nat) (listed:Array Bool) (a:Act) (Ws Ws':Marks'),stronger Ws' Ws→wpAnyE P md ops Vs w0 Q fuel listed a Ws→wpAnyE P md ops Vs w0 Q fuel listed a Ws'
 | 0,_,_,_,_,hs,h=>fun hc=>⟨(h (hs.cons' hc)).1,fun w hw=>(h (hs.cons' hc)).2 w (hs.above hw)⟩
 | fuel+1,_,_,_,_,hs,h=>fun hc=>
  ⟨fun h0 w hw=>(h (hs.cons' hc)).1 h0 w (hs.above hw),fun i hi=>eOp_mono hs (fun a X X' hX hk=>wpAnyE_mono fuel _ a X X' hX hk) ((h (hs.cons' hc)).2 i hi)⟩
theorem wpAny_of_E {Q:Act→World→Prop} {Q':Exit→Act→World→Prop} (hQ:∀ a w,Q a w→Q' .normal a w):∀ (fuel:Nat) (listed:Array Bool) (a:Act) (Ws:Marks') (w:World),above w0 Ws w →
  wpAnyE P md ops Vs w0 Q fuel listed a Ws→wpAny P md ops Q' fuel listed a w
 | 0,_,_,_,w,hw,h=>⟨(h ⟨w,hw⟩).1,hQ _ _ ((h ⟨w,hw⟩).2 w hw)⟩
 | fuel+1,listed,a,Ws,w,hw,h=>by
  obtain ⟨h1,h2⟩:=h ⟨w,hw⟩
  refine ⟨fun h0=>hQ _ _ (h1 h0 w hw),fun i hi=>?_⟩
  have hh:=h2 i hi
  unfold eOp at hh
  unfold wpOp
  split
  ·rename_i ho
   simp only [ho] at hh
   exact wpAny_of_E hQ fuel _ _ _ _ hw hh
  ·rename_i o ho
   simp only [ho] at hh
   split
   ·rename_i hwd
    simp only [hwd,if_true] at hh
    refine .inl ?_
    have h3:=hh w hw.okw
    unfold Oper.yieldsK at h3
    unfold Oper.wp
    generalize (execOp a.eval o).run P w=r at *
    cases r with
    | ok n w'=>
     cases n<;>simp only [yUpon] at h3<;>simp only [Oper.upon]
     case value v=>exact wpAny_of_E hQ fuel _ _ _ _ (hw.step h3.1) h3.2
     case skip=>exact wpAny_of_E hQ fuel _ _ _ _ (hw.step h3.1) h3.2
     case enter f args=>
      refine h3.1.mono fun e w'' ⟨v,he,hx,hv⟩=>?_
      subst he
      exact wpAny_of_E hQ fuel _ _ _ _ (hw.step hx) (h3.2 v w'' hx hv)
     case row row args=>exact h3.1.mono fun v w'' ⟨hx,hv⟩=>wpAny_of_E hQ fuel _ _ _ _ (hw.step hx) (h3.2 v w'' hx hv)
    | halt x w'=>simp only [yUpon] at h3
   ·rename_i hwd
    simp only [hwd] at hh
    exact wpAny_of_E hQ fuel _ _ _ _ hw hh
theorem eOp_at {i:Nat} {o:Oper} (hi:ops[i]? = some o) {K:Act→Marks'→Prop} {a:Act} {Ws:Marks'} (h:eOp P ops Vs w0 i K a Ws):
  (Region.wanted o (yielded ops a.tmps)=true∧∀ w,okw ops w0 Ws o w→Oper.yieldsK P o a w (Vs i) (fun v w'=>K (a.put o.dst v) (adds o.dst w' Ws))) ∨
  (Region.wanted o (yielded ops a.tmps)=false∧K (a.put o.dst undef) Ws):=by
 unfold eOp at h
 simp only [hi] at h
 by_cases hw:Region.wanted o (yielded ops a.tmps)=true
 ·simp only [hw,if_true] at h;exact .inl ⟨hw,h⟩
 ·simp only [hw] at h;exact .inr ⟨by simpa using hw,h⟩
theorem eOp_mk {i:Nat} {o:Oper} (hi:ops[i]? = some o) {K:Act→Marks'→Prop} {a:Act} {Ws:Marks'}
  (h:(Region.wanted o (yielded ops a.tmps)=true∧∀ w,okw ops w0 Ws o w→Oper.yieldsK P o a w (Vs i) (fun v w'=>K (a.put o.dst v) (adds o.dst w' Ws))) ∨
  (Region.wanted o (yielded ops a.tmps)=false∧K (a.put o.dst undef) Ws)):eOp P ops Vs w0 i K a Ws:=by
 unfold eOp
 simp only [hi]
 rcases h with ⟨hw,h⟩ | ⟨hw,h⟩
 ·simp only [hw,if_true];exact h
 ·simp only [hw,Bool.false_eq_true,if_false];exact h
theorem yUpon_all {ι:Sort _}{w:World}{V:Value→World→Prop}{K:ι→Value→World→Prop}{r:Result Next}(i0:ι)(h:∀ i,yUpon P w V (K i) r):yUpon P w V (fun v w'=>∀ i,K i v w') r:=by
 have h0:=h i0
 cases r with
 | ok n w'=>
  cases n<;>simp only [yUpon] at h0 ⊢
  case value v=>exact ⟨h0.1,fun i=>by have:=h i;simp only [yUpon] at this;exact this.2⟩
  case skip=>exact ⟨h0.1,fun i=>by have:=h i;simp only [yUpon] at this;exact this.2⟩
  case enter f args=>exact ⟨h0.1,fun v w'' he hv i=>by have:=h i;simp only [yUpon] at this;exact this.2 v w'' he hv⟩
  case row row args=>exact ⟨h0.1,fun v w'' he hv i=>by have:=h i;simp only [yUpon] at this;exact this.2 v w'' he hv⟩
 | halt x w'=>simp only [yUpon] at h0
theorem wpAnyE_first {Q:Act→World→Prop} {i:Nat} {oi:Oper} (hi:ops[i]? = some oi) (hsel:∀ (j:Nat) (o:Oper) cs b,ops[j]? = some o→o.op≠.select cs b):
  ∀ (fuel:Nat) (listed:Array Bool) (a:Act) (Ws:Marks'),
   (∀ j oj,ops[j]? = some oj→j≠i→listed.getD j true=false→(∀ e∈oj.after,Region.binds md e=true→e.on≠i)→oi.apart ops oj=true) →
   i∈Region.ready md ops listed→eOp P ops Vs w0 i (wpAnyE P md ops Vs w0 Q fuel (listed.setIfInBounds i true)) a Ws →
   wpAnyE P md ops Vs w0 Q (fuel+1) listed a Ws:=by
 intro fuel
 induction fuel with
 | zero=>
  intro listed a Ws _ hr H hc
  refine ⟨fun h=>(by rw [h] at hr;cases hr),fun j hj=>?_⟩
  by_cases hji:j=i
  ·subst hji;exact H
  ·exfalso
   have hm:=ready_mono hj hji
   obtain ⟨wc,hwc⟩:=hc
   rcases eOp_at hi H with ⟨_,h⟩ | ⟨_,h⟩
   ·obtain ⟨v,w',he,hk⟩:=yUpon_some (h wc hwc.okw)
    have:=(hk ⟨w',hwc.step he⟩).1
    rw [this] at hm
    cases hm
   ·have:=(h ⟨wc,hwc⟩).1
    rw [this] at hm
    cases hm
 | succ fuel ih=>
  intro listed a Ws hfree hr H hc
  refine ⟨fun h=>(by rw [h] at hr;cases hr),fun j hj=>?_⟩
  by_cases hji:j=i
  ·subst hji;exact H
  ·have hm:=ready_mono hj hji
   obtain ⟨hjun,oj,hoj,hall⟩:=mem_ready.1 hj
   have hnot:∀ e∈oj.after,Region.binds md e=true→e.on≠i:=fun e he hb heq=>by
    have h1:=hall e he hb
    have h0:=(mem_ready.1 hr).1
    rw [heq] at h1
    rcases Nat.lt_or_ge i listed.size with h' | h'
    ·simp [h'] at h0 h1;rw [h0] at h1;cases h1
    ·simp [Array.getElem?_eq_none h'] at h1
   have hap:=hfree j oj hoj hji hjun hnot
   obtain ⟨a1,a2,a3⟩:=Oper.apart_spec hap
   have hsi:=fun cs b=>hsel i oi cs b hi
   have hsj:=fun cs b=>hsel j oj cs b hoj
   have hfree':∀ k ok,ops[k]? = some ok→k≠i→(listed.setIfInBounds j true).getD k true=false →
     (∀ e∈ok.after,Region.binds md e=true→e.on≠i)→oi.apart ops ok=true:=fun k ok hk hki hun hno=>by
    refine hfree k ok hk hki ?_ hno
    by_cases hjk:j=k
    ·subst hjk;exact hjun
    ·rw [getD_set_ne true hjk] at hun;exact hun
   have hr':=ready_mono hr (Ne.symm hji)
   have hset:=Array.setIfInBounds_comm (xs:=listed) true true hji
   obtain ⟨wc,hwc⟩:=hc
   have hj_w:∀ v,Region.wanted oj (yielded ops (a.put oi.dst v).tmps)=Region.wanted oj (yielded ops a.tmps):=fun v=>wanted_put oj a oi.dst v a1
   have hj_e:∀ v,execOp (a.put oi.dst v).eval oj=execOp a.eval oj:=fun v=>execOp_put oj hsj a oi.dst v a1
   have hi_w:∀ u,Region.wanted oi (yielded ops (a.put oj.dst u).tmps)=Region.wanted oi (yielded ops a.tmps):=fun u=>wanted_put oi a oj.dst u a3
   have hi_e:∀ u,execOp (a.put oj.dst u).eval oi=execOp a.eval oi:=fun u=>execOp_put oi hsi a oj.dst u a3
   refine eOp_mk hoj ?_
   rcases eOp_at hi H with ⟨hiw,hI⟩ | ⟨hiw,hI⟩
   ·
    obtain ⟨vc,w1,he1,hk1⟩:=yUpon_some (hI wc hwc.okw)
    have hcomp:=(hk1 ⟨w1,hwc.step he1⟩).2 j hm
    rcases eOp_at hoj hcomp with ⟨hjw,hJ⟩ | ⟨hjw,hJ⟩
    ·rw [hj_w] at hjw
     refine .inl ⟨hjw,fun w hw=>?_⟩
     have key:yUpon P w (Vs j) (fun u w'=>∀ (x:{ x:Value × World // ∃ w2,okw ops w0 Ws oi w2∧Ext w2 x.2∧wpAnyE P md ops Vs w0 Q (fuel+1) (listed.setIfInBounds i true) (a.put oi.dst x.1) (adds oi.dst x.2 Ws)∧cons' w0 (adds oi.dst x.2 Ws) }),
       wpAnyE P md ops Vs w0 Q fuel ((listed.setIfInBounds i true).setIfInBounds j true) ((a.put oi.dst x.1.1).put oj.dst u) (adds oj.dst w' (adds oi.dst x.1.2 Ws))) ((execOp a.eval oj).run P w):=by
      refine yUpon_all ⟨(vc,w1),wc,hwc.okw,he1,hk1,⟨w1,hwc.step he1⟩⟩ ?_
      rintro ⟨⟨v,wv⟩,w2,hk2,he2,hA,hcv⟩
      rcases eOp_at hoj ((hA hcv).2 j hm) with ⟨_,hJ2⟩ | ⟨hno,_⟩
      ·have:=hJ2 w (okw_adds a1 hw)
       unfold Oper.yieldsK at this
       rw [hj_e] at this
       exact this
      ·rw [hj_w,hjw] at hno;cases hno
     refine yUpon_mono (fun u w' hew hall2=>?_) key
     refine ih (listed.setIfInBounds j true) (a.put oj.dst u) (adds oj.dst w' Ws) hfree' hr' ?_
     refine eOp_mk hi (.inl ⟨by rw [hi_w];exact hiw,fun w2 hw2=>?_⟩)
     have hw2':okw ops w0 Ws oi w2:=okw_of_adds hw2
     have h4:=hI w2 hw2'
     unfold Oper.yieldsK at h4 ⊢
     rw [hi_e]
     refine yUpon_mono (fun v w3 he3 hA=>?_) h4
     rw [← Act.put_comm a v u a2,hset]
     by_cases hcv:cons' w0 (adds oi.dst w3 (adds oj.dst w' Ws))
     ·have hc2:cons' w0 (adds oi.dst w3 Ws):=by
       have h5:cons' w0 (adds oj.dst w' (adds oi.dst w3 Ws)):=(stronger.swap Ws oi.dst oj.dst w3 w').cons' hcv
       exact cons_of_adds h5
      exact wpAnyE_mono fuel _ _ _ _ (stronger.swap Ws oi.dst oj.dst w3 w') (hall2 ⟨(v,w3),w2,hw2',he3,hA,hc2⟩)
     ·cases fuel with
      | zero=>exact fun hc=>absurd hc hcv
      | succ n=>exact fun hc=>absurd hc hcv
    ·rw [hj_w] at hjw
     refine .inr ⟨hjw,?_⟩
     refine ih (listed.setIfInBounds j true) (a.put oj.dst undef) Ws hfree' hr' ?_
     refine eOp_mk hi (.inl ⟨by rw [hi_w];exact hiw,fun w2 hw2=>?_⟩)
     have h4:=hI w2 hw2
     unfold Oper.yieldsK at h4 ⊢
     rw [hi_e]
     refine yUpon_mono (fun v w3 he3 hA=>?_) h4
     rw [← Act.put_comm a v undef a2,hset]
     by_cases hcv:cons' w0 (adds oi.dst w3 Ws)
     ·rcases eOp_at hoj ((hA hcv).2 j hm) with ⟨hno,_⟩ | ⟨_,hJ2⟩
      ·rw [hj_w,hjw] at hno;cases hno
      ·exact hJ2
     ·cases fuel with
      | zero=>exact fun hc=>absurd hc hcv
      | succ n=>exact fun hc=>absurd hc hcv
   ·
    have hcomp:=(hI ⟨wc,hwc⟩).2 j hm
    rcases eOp_at hoj hcomp with ⟨hjw,hJ⟩ | ⟨hjw,hJ⟩
    ·rw [hj_w] at hjw
     refine .inl ⟨hjw,fun w hw=>?_⟩
     have h4:=hJ w hw
     unfold Oper.yieldsK at h4 ⊢
     rw [hj_e] at h4
     refine yUpon_mono (fun u w' hew hA=>?_) h4
     refine ih (listed.setIfInBounds j true) (a.put oj.dst u) (adds oj.dst w' Ws) hfree' hr' ?_
     refine eOp_mk hi (.inr ⟨by rw [hi_w];exact hiw,?_⟩)
     rw [← Act.put_comm a undef u a2,hset]
     exact hA
    ·rw [hj_w] at hjw
     refine .inr ⟨hjw,?_⟩
     refine ih (listed.setIfInBounds j true) (a.put oj.dst undef) Ws hfree' hr' ?_
     refine eOp_mk hi (.inr ⟨by rw [hi_w];exact hiw,?_⟩)
     rw [← Act.put_comm a undef undef a2,hset]
     exact hJ
theorem wpAnyE_lex {Q:Act→World→Prop} (hs:Region.noSelect ops=true):∀ (l:List Oper) (k:Nat) (listed:Array Bool) (a:Act) (Ws:Marks'),(∀ j,l[j]? = ops[k+j]?) →
  Region.lexFrom md ops l.length k listed=true→wpE P ops Vs w0 Q k l a Ws→wpAnyE P md ops Vs w0 Q l.length listed a Ws
 | [],_,_,_,_,_,hB,h=>fun _=>⟨by simpa [Region.lexFrom] using hB,h⟩
 | o::l,k,listed,a,Ws,hl,hB,h=>by
  have h0:ops[k]? = some o:=by simpa using (hl 0).symm
  simp only [List.length_cons,Region.lexFrom,Bool.and_eq_true] at hB
  obtain ⟨⟨hr,hf⟩,hB'⟩:=hB
  have hst:eOp P ops Vs w0 k (wpE P ops Vs w0 Q (k+1) l) a Ws:=by unfold eOp;simp only [h0];exact h
  refine wpAnyE_first h0 (Region.noSelect_spec hs) l.length listed a Ws (Region.free_spec h0 hf) (by simpa using hr) ?_
  unfold eOp at hst ⊢
  simp only [h0] at hst ⊢
  split at hst
  ·rename_i hw
   rw [if_pos hw]
   exact fun w hk=>yUpon_mono (fun v w' _ hv=>wpAnyE_lex hs l (k+1) _ _ _ (fun j=>by have:=hl (j+1);simpa [Nat.add_assoc,Nat.add_comm 1 j] using this) hB' hv) (hst w hk)
  ·rename_i hw
   rw [if_neg hw]
   exact wpAnyE_lex hs l (k+1) _ _ _ (fun j=>by have:=hl (j+1);simpa [Nat.add_assoc,Nat.add_comm 1 j] using this) hB' hst
theorem wpE_mono {Q:Act→World→Prop}:∀ (l:List Oper) (k:Nat) (a:Act) (Ws Ws':Marks'),stronger Ws' Ws→wpE P ops Vs w0 Q k l a Ws→wpE P ops Vs w0 Q k l a Ws'
 | [],_,_,_,_,hs,h=>fun w hw=>h w (hs.above hw)
 | o::l,k,a,Ws,Ws',hs,h=>by
  unfold wpE at h ⊢
  split
  ·rename_i hw
   rw [if_pos hw] at h
   exact fun w hk=>yUpon_mono (fun v w' _ hv=>wpE_mono l (k+1) _ _ _ (hs.adds _ _) hv) (h w (hs.okw hk))
  ·rename_i hw
   rw [if_neg hw] at h
   exact wpE_mono l (k+1) _ _ _ hs h
theorem stronger_adds (dst:Option Tmp)(w:World)(Ws:Marks'):stronger (adds dst w Ws) Ws:=by
 intro d wd hm
 cases dst with
 | none=>exact hm
 | some t=>exact List.mem_cons.2 (.inr hm)
theorem wpE_nil {Q:Act→World→Prop}{k:Nat}{a:Act}{Ws:Marks'}(h:∀ w,above w0 Ws w→Q a w):wpE P ops Vs w0 Q k [] a Ws:=h
def plainOp:Op→Bool
 | .move _ | .assign _ | .pick .. | .alloc _ | .box .. | .build .. | .buildSlice .. | .load .. | .store .. | .binOp .. | .unOp .. | .convert .. | .makeInterface .. | .makeFunc .. | .makeMap .. | .makeSlice ..
 | .slice .. | .fieldAddr .. | .field .. | .indexAddr .. | .index .. | .lookup .. | .extract .. | .typeAssert ..=>true
 | .call { callee:=.builtin .append,.. } | .call { callee:=.builtin .cap,.. } | .call { callee:=.builtin .len,.. } | .call { callee:=.builtin .min,.. } | .call { callee:=.builtin .max,.. } | .call { callee:=.builtin .copy,.. }=>true
 | _=>false
theorem run_v {P:Program}{w w':World}{s:Sem Value}{n:Next}(h:(do pure (Next.value (← s)):Sem Next).run P w=.ok n w'):∃ v,n=.value v:=by
 simp only [Sem.run_bind] at h
 cases hs:s.run P w with
 | ok v w1=>rw [hs] at h;simp only [Result.andThen,Sem.run_pure,Result.ok.injEq] at h;exact ⟨v,h.1.symm⟩
 | halt x w1=>rw [hs] at h;simp [Result.andThen] at h
theorem run_u {P:Program}{w w':World}{s:Sem Unit}{n:Next}(h:(do s;pure Next.skip:Sem Next).run P w=.ok n w'):n=.skip:=by
 simp only [Sem.run_bind] at h
 cases hs:s.run P w with
 | ok v w1=>rw [hs] at h;simp only [Result.andThen,Sem.run_pure,Result.ok.injEq] at h;exact h.1.symm
 | halt x w1=>rw [hs] at h;simp [Result.andThen] at h
theorem run_p {P:Program}{w w':World}{v:Value}{n:Next}(h:(pure (Next.value v):Sem Next).run P w=.ok n w'):∃ v,n=.value v:=by
 simp only [Sem.run_pure,Result.ok.injEq] at h;exact ⟨v,h.1.symm⟩
theorem run_plain {P:Program}{ρ:Operand→Value}{o:Oper}{w w':World}{n:Next}(hp:plainOp o.op=true)(h:(execOp ρ o).run P w=.ok n w'):(∃ v,n=.value v)∨n=.skip:=by
 obtain ⟨dst,op,type,pos,after,guard⟩:=o
 simp only at hp
 unfold plainOp at hp
 split at hp
 all_goals first
  | (cases hp;done)
  | (exact .inl (run_v h))
  | (exact .inl (run_p h))
  | (exact .inr (run_u h))
  | skip
 ·
  rename_i c x y
  exact .inl (run_v (s:=do pure (if ← asBool (ρ c) then ρ x else ρ y)) (by
   simp only [execOp,Sem.run_bind] at h ⊢
   rw [← h]
   cases (asBool (ρ c)).run P w<;>simp [Result.andThen,Sem.run_pure]))
theorem wpE_op {Q:Act→World→Prop} {k:Nat} {o:Oper} {rest:List Oper} {a:Act} {Ws:Marks'} (hwd:Region.wanted o (yielded ops a.tmps)=true) (hp:plainOp o.op=true)
  (h:∀ w,okw ops w0 Ws o w→∀ K:Act→World→Prop,(∀ a',(∃ v,a'=a.put o.dst v)→wpE P ops Vs w0 Q (k+1) rest a' Ws→K a' w)→o.wp P a w K (fun _ _ _=>False)):
  wpE P ops Vs w0 Q k (o::rest) a Ws:=by
 unfold wpE
 rw [if_pos hwd]
 intro w hw
 have h1:=h w hw (fun a' w'=>w'=w∧wpE P ops Vs w0 Q (k+1) rest a' Ws) (fun a' _ hk=>⟨rfl,hk⟩)
 unfold Oper.yieldsK
 unfold Oper.wp at h1
 generalize hr:(execOp a.eval o).run P w=r at *
 cases r with
 | ok n w'=>
  rcases run_plain hp hr with ⟨v,rfl⟩ | rfl
  ·simp only [Oper.upon] at h1;simp only [yUpon];obtain ⟨rfl,hk⟩:=h1;exact ⟨Ext.refl _,wpE_mono rest (k+1) _ _ _ (stronger_adds _ _ _) hk⟩
  ·simp only [Oper.upon] at h1;simp only [yUpon];obtain ⟨rfl,hk⟩:=h1;exact ⟨Ext.refl _,wpE_mono rest (k+1) _ _ _ (stronger_adds _ _ _) hk⟩
 | halt x w'=>cases x<;>simp only [Oper.upon] at h1
theorem wpE_nil' {Q:Act→World→Prop} {k:Nat} {o:Oper} {rest:List Oper} {a:Act} {Ws:Marks'} (hwd:Region.wanted o (yielded ops a.tmps)=true) (x:Operand) (ho:o.op=.nilCheck x) (ad:Addr) (hx:a.eval x=.pointer (some ad))
  (h:wpE P ops Vs w0 Q (k+1) rest (a.put o.dst (.pointer (some ad))) Ws):wpE P ops Vs w0 Q k (o::rest) a Ws:=by
 unfold wpE
 rw [if_pos hwd]
 intro w hw
 unfold Oper.yieldsK execOp
 rw [ho]
 simp only [hx,Sem.run_pure,yUpon]
 exact ⟨Ext.refl _,wpE_mono rest (k+1) _ _ _ (stronger_adds _ _ _) h⟩
theorem put_inj {a:Act}{d:Tmp}{u v:Value}(hd:d<a.tmps.size)(h:a.put (some d) u=a.put (some d) v):u=v:=by
 simp only [Act.put,Act.mk.injEq,and_true] at h
 have:=congrArg (fun x=>x[d]?) h
 simpa [Array.getElem?_setIfInBounds,hd] using this
theorem wpE_call {Q:Act→World→Prop} {k:Nat} {o:Oper} {rest:List Oper} {a:Act} {Ws:Marks'} (d:Tmp) (ho:o.dst=some d) (hd:d<a.tmps.size) (hwd:Region.wanted o (yielded ops a.tmps)=true)
  (h:∀ w,okw ops w0 Ws o w→∀ K:Act→World→Prop,(∀ a' w',(∃ v,a'=a.put o.dst v∧Vs k v w')→Ext w w'→K a' w')→o.wp P a w K (fun _ _ _=>False))
  (h2:∀ v w',Ext w0 w'→Vs k v w'→wpE P ops Vs w0 Q (k+1) rest (a.put o.dst v) (adds o.dst w' Ws)):
  wpE P ops Vs w0 Q k (o::rest) a Ws:=by
 unfold wpE
 rw [if_pos hwd]
 intro w hw
 have h1:=h w hw (fun a' w'=>∃ v,a'=a.put o.dst v∧Vs k v w'∧Ext w w') (fun a' w' ⟨v,e,hv⟩ hx=>⟨v,e,hv,hx⟩)
 unfold Oper.yieldsK
 unfold Oper.wp at h1
 rw [ho] at h2
 generalize hr:(execOp a.eval o).run P w=r at *
 cases r with
 | ok n w'=>
  cases n<;>simp only [Oper.upon,ho] at h1<;>simp only [yUpon,ho]
  case value v=>
   obtain ⟨u,e,hv,hx⟩:=h1
   obtain rfl:=put_inj hd e
   exact ⟨hx,h2 v w' (hw.1.trans hx) hv⟩
  case skip=>
   obtain ⟨u,e,hv,hx⟩:=h1
   obtain rfl:=put_inj hd e
   exact ⟨hx,h2 _ w' (hw.1.trans hx) hv⟩
  case defer df=>
   obtain ⟨u,e,_⟩:=h1
   have:=congrArg Act.defers e
   simp [Act.put] at this
  case enter f args=>
   refine ⟨h1.mono fun e w'' he=>?_,fun v w'' hx hv=>h2 v w'' (hw.1.trans hx) hv⟩
   cases e with
   | returned v=>
    obtain ⟨u,e,hv,hx⟩:=he
    obtain rfl:=put_inj hd e
    exact ⟨v,rfl,hx,hv⟩
   | panicked c=>exact he.elim
   | outgrown=>obtain ⟨_,_,hf⟩:=he;exact hf.elim
  case row row args=>
   refine ⟨h1.mono fun v w'' he=>?_,fun v w'' hx hv=>h2 v w'' (hw.1.trans hx) hv⟩
   obtain ⟨u,e,hv,hx⟩:=he
   obtain rfl:=put_inj hd e
   exact ⟨hx,hv⟩
 | halt x w'=>cases x<;>simp only [Oper.upon] at h1
theorem wp_region_ext (Vs:Nat→Value→World→Prop) {id:Nat} {Q:Exit→Act→World→Prop} {a:Act} {w:World} {l:List Oper} (hm:P.follows .mixedOrders=true) (hB:Region.lexB .any l.toArray=true)
  (h:wpE P l.toArray Vs w.drew (fun a' w'=>Q .normal a' w') 0 l a []):(Code.region id l.toArray true).wp P Q a w:=by
 simp only [Region.lexB,Bool.and_eq_true] at hB
 refine wp_region_any hm (wpAny_of_E (w0:=w.drew) (Ws:=[]) (Q:=fun a' w'=>Q .normal a' w') (Vs:=Vs) (fun _ _ h=>h) _ _ _ _ ⟨Ext.refl _,fun _ _ h=>by cases h⟩ ?_)
 have:=wpAnyE_lex (Vs:=Vs) (md:=.any) hB.1 l 0 (Array.replicate l.length false) a [] (by simp) (by simpa using hB.2) h
 simpa using this
end
#print axioms wp_region_ext
end Go.Proofs.YtnjmndofcpnmeaaGreatDoor
namespace Go.Proofs.YtnjmndofcpnmeaaGreatDoor
open Go Go.RowKit
theorem block_of_add (a:Addr)(n:Nat):(a.add n).block=a.block:=by unfold Addr.add;split<;>rfl
theorem add_of_add (a:Addr)(i j:Nat):(a.add i).add j=a.add (i+j):=by
 unfold Addr.add
 by_cases hi:i=0<;>by_cases hj:j=0<;>simp [hi,hj,Nat.add_assoc]
theorem Ext.cell {w w':World}(h:Ext w w'){p:Addr}{v:Value}(hc:w.cell? p=some v):w'.cell? p=some v:=
 (Below.cell h (World.block_lt_of_cell? w p hc)).trans hc
theorem Ext.frozen {w w':World}(h:Ext w w'){p:Addr}(hp:p.block<w.heap.size):w'.frozen? p=w.frozen? p:=Below.frozen h hp
theorem Ext.heap {w w':World}(h:Ext w w'){k:Nat}{o:Obj}(hk:w.heap[k]? = some o):w'.heap[k]? = some o:=(h.block k (Array.getElem?_eq_some_iff.1 hk).1).trans hk
theorem Ext.alloc {w w':World}(h:Ext w w')(o:Obj):Ext w (w'.alloc o):=Below.alloc h h.size o
theorem Ext.drew' {w w':World}(h:Ext w w'):Ext w w'.drew:=Below.drew h
theorem Ext.drewN {w w':World}(h:Ext w w')(n:Nat):Ext w (w'.drewN n):=⟨h.os,h.tape,h.output,h.size,h.block⟩
theorem Ext.setCell {w w':World}(h:Ext w w'){p:Addr}(hp:w.heap.size≤p.block)(u:Value):Ext w (w'.setCell p u):=Below.setCell h hp u
theorem Ext.grown {a w w':World}{row:Option Nat}(h:Ext a w)(hg:w.grownBy w' row)(hr:∀ k,row=some k→a.heap.size≤k):Ext a w':=Below.grown h hg h.size hr
def RS (w:World)(v:Value)(xs:List Value):Prop:=
 ∃ A c,v=.slice A xs.length c∧xs.length≤c∧c≤maxLen∧(0<xs.length→∃ ad,A=some ad∧ad.block<w.heap.size∧∀ j u,xs[j]? = some u→w.cell? (ad.add j)=some u)
def bv (l:List UInt8):List Value:=l.map fun b=>.int .u8 (b.toNat:Int)
@[simp] theorem bv_length (l:List UInt8):(bv l).length=l.length:=by simp [bv]
@[simp] theorem bv_nil:bv []=[]:=rfl
@[simp] theorem bv_append (a b:List UInt8):bv (a++b)=bv a++bv b:=by simp [bv]
theorem bv_get (l:List UInt8)(j:Nat)(h:j<l.length):(bv l)[j]? = some (.int .u8 (l[j].toNat:Int)):=by simp [bv,h]
theorem bv_one (l:List UInt8):∀ u∈bv l,u.oneCell'=true:=by
 intro u hu
 simp only [bv,List.mem_map] at hu
 obtain ⟨b,_,rfl⟩:=hu
 rfl
def BS (w:World)(v:Value)(l:List UInt8):Prop:=RS w v (bv l)
section
variable {w w':World} {v:Value} {xs:List Value} {l:List UInt8}
theorem RS.ext (h:RS w v xs)(he:Ext w w'):RS w' v xs:=by
 obtain ⟨A,c,hv,h1,h2,h3⟩:=h
 refine ⟨A,c,hv,h1,h2,fun hp=>?_⟩
 obtain ⟨ad,ha,hb,hc⟩:=h3 hp
 exact ⟨ad,ha,Nat.lt_of_lt_of_le hb he.size,fun j u hu=>he.cell (hc j u hu)⟩
theorem BS.ext (h:BS w v l)(he:Ext w w'):BS w' v l:=RS.ext h he
theorem RS.nil (w:World):RS w (.slice none 0 0) []:=⟨none,0,rfl,Nat.le_refl _,Nat.zero_le _,fun h=>absurd h (Nat.lt_irrefl 0)⟩
theorem BS.nil (w:World):BS w (.slice none 0 0) []:=RS.nil w
theorem RS.open_ (h:RS w v xs):∃ A c,v=.slice A xs.length c∧xs.length≤c∧c≤maxLen∧(0<xs.length→∃ ad,A=some ad∧ad.block<w.heap.size∧∀ j u,xs[j]? = some u→w.cell? (ad.add j)=some u):=h
theorem BS.open_ (h:BS w v l):∃ A c,v=.slice A l.length c∧l.length≤c∧c≤maxLen∧(0<l.length→∃ ad,A=some ad∧ad.block<w.heap.size∧∀ j (hj:j<l.length),w.cell? (ad.add j)=some (.int .u8 (l[j].toNat:Int))):=by
 obtain ⟨A,c,hv,h1,h2,h3⟩:=h
 simp only [bv_length] at hv h1 h3
 refine ⟨A,c,hv,h1,h2,fun hp=>?_⟩
 obtain ⟨ad,ha,hb,hc⟩:=h3 hp
 exact ⟨ad,ha,hb,fun j hj=>hc j _ (bv_get l j hj)⟩
theorem RS.of_own {base:Nat}{e:TypeId}{n:Nat}(h:w.ownsRow base e 1 v n xs):RS w v xs:=by
 obtain ⟨h1,h2⟩:=h
 simp only [Nat.mul_one] at h1
 subst h1
 rcases h2 with ⟨hv,h0⟩ | ⟨g,cap,cur,hv,hb,hg,hc,hm,hs,ht⟩
 ·have hx:xs=[]:=List.eq_nil_of_length_eq_zero h0
  subst hx
  exact ⟨none,0,hv,Nat.le_refl _,Nat.zero_le _,fun h=>absurd h (Nat.lt_irrefl 0)⟩
 ·refine ⟨some ⟨g,0,none⟩,cap,hv,hc,hm,fun _=>⟨⟨g,0,none⟩,rfl,(Array.getElem?_eq_some_iff.1 hg).1,fun j u hu=>?_⟩⟩
  have hown:w.ownsRow base e 1 (.slice (some ⟨g,0,none⟩) xs.length cap) xs.length xs:=⟨by simp,.inr ⟨g,cap,cur,rfl,hb,hg,hc,hm,hs,ht⟩⟩
  exact hown.cells (g:=g) rfl j u hu
theorem BS.of_own {base:Nat}{e:TypeId}{n:Nat}(h:w.ownsRow base e 1 v n (bv l)):BS w v l:=RS.of_own h
end
def OB (e:TypeId)(w:World)(B:Nat)(v:Value)(l:List UInt8):Prop:=w.ownsRow B e 1 v l.length (bv l)
theorem OB.bs {e:TypeId}{w:World}{B:Nat}{v:Value}{l:List UInt8}(h:OB e w B v l):BS w v l:=BS.of_own h
theorem OB.nil (e:TypeId)(w:World)(B:Nat):OB e w B (.slice none 0 0) []:=World.ownsRow_nil _ _ _ _
theorem OB.ext {e:TypeId}{w w':World}{B:Nat}{v:Value}{l:List UInt8}(h:OB e w B v l)(he:Ext w w'):OB e w' B v l:=by
 refine ⟨h.1,?_⟩
 rcases h.2 with hn | ⟨g,cap,cur,hv,hb,hg,r⟩
 ·exact .inl hn
 ·exact .inr ⟨g,cap,cur,hv,hb,he.heap hg,r⟩
theorem OB.mono {e:TypeId}{w:World}{B B':Nat}{v:Value}{l:List UInt8}(h:OB e w B v l)(hB:B'≤B):OB e w B' v l:=by
 refine ⟨h.1,?_⟩
 rcases h.2 with hn | ⟨g,cap,cur,hv,hb,r⟩
 ·exact .inl hn
 ·exact .inr ⟨g,cap,cur,hv,Nat.le_trans hB hb,r⟩
section
variable {P:Program}
theorem run_append_of_nil (w:World) (base:Nat) (t ty e:TypeId) (i:TypeInfo) (size:Nat) (ht:P.underlying t=some (.slice e)) (hi:P.info? e=some i)
  (v:Value) (n:Nat) (xs:List Value) (hown:w.ownsRow base e size v n xs) (c:Nat):(Builtin.append_ #[t,t] ty #[v,.slice none 0 c]).run P w=.ok v w:=by
 rcases hown.2 with ⟨rfl,rfl⟩ | ⟨g,cap,cur,rfl,_,_,hnc,_⟩
 ·simp [Builtin.append_,run_underlying ht,sizeOf,typeInfo,hi,Builtin.lenOf,Builtin.firstCells]
 ·simp [Builtin.append_,run_underlying ht,sizeOf,typeInfo,hi,Builtin.lenOf,Builtin.firstCells,hnc,storeCells]
theorem run_append_rs (w:World) (base:Nat) (t ty e:TypeId) (i:TypeInfo) (z:Value) (bytes:Nat) (ht:P.underlying t=some (.slice e)) (hi:P.info? e=some i) (hz:i.zero=some z)
  (hsize:i.size=1) (hby:i.bytes=bytes) (hzs:z.cells.size=1)
  (v:Value) (xs:List Value) (hown:w.ownsRow base e 1 v xs.length xs)
  (s:Value) (news:List Value) (hr:RS w s news) (h1:∀ u∈news,u.oneCell'=true)
  (hbytes:(xs.length+news.length)*bytes≤140737488355328) (hby0:0<bytes) (hbase:base≤w.heap.size):
  ∃ v' w',(Builtin.append_ #[t,t] ty #[v,s]).run P w=.ok v' w'∧w'.ownsRow base e 1 v' (xs++news).length (xs++news)∧w.grownBy w' v.ownBlock ∧
   (v'.ownBlock=v.ownBlock∨v'.ownBlock=some w.heap.size):=by
 obtain ⟨A,c,rfl,hlc,hcm,hcell⟩:=hr
 have h63:xs.length+news.length≤maxLen:=by
  have:xs.length+news.length≤(xs.length+news.length)*bytes:=Nat.le_mul_of_pos_right _ hby0
  unfold maxLen;omega
 rw [List.length_append]
 rcases A with _ | ad
 ·have hm:news.length=0:=by
   rcases Nat.eq_zero_or_pos news.length with h0 | h0
   ·exact h0
   ·obtain ⟨ad,h,_⟩:=hcell h0
    cases h
  have hn:news=[]:=List.eq_nil_of_length_eq_zero hm
  subst hn
  exact ⟨v,w,run_append_of_nil w base t ty e i 1 ht hi v xs.length xs hown c,by simpa using hown,World.grownBy.refl w _,.inl rfl⟩
 ·have hcells:∀ j u,news[j]? = some u→w.cell? (ad.add j)=some u:=by
   intro j u hu
   rcases Nat.eq_zero_or_pos news.length with h0 | h0
   ·have hn:news=[]:=List.eq_nil_of_length_eq_zero h0
    subst hn
    simp at hu
   ·obtain ⟨ad',h,_,hc⟩:=hcell h0
    injection h with h
    subst h
    exact hc j u hu
  obtain ⟨v',w',hrun,h2,h3,_,h5⟩:=run_append_own_at (P:=P) w base t ty e i z 1 bytes ht hi hz hsize hby hzs (by omega) v xs.length xs hown ad news.length c news (by simp) hcells h1 h63 hbytes hbase
  exact ⟨v',w',hrun,h2,h3,h5⟩
theorem wpList_append_rs (w:World) {ops:Array Oper} {rest:List Oper} {o:Oper} {a:Act} {Q:Exit→Act→World→Prop} (hgd:o.guard=none) (s x:Operand) (t:TypeId)
  (ho:o.op=.call { callee:=.builtin .append,args:=#[s,x],argTypes:=#[t,t] })
  (base:Nat) (e:TypeId) (i:TypeInfo) (z:Value) (bytes:Nat) (ht:P.underlying t=some (.slice e)) (hi:P.info? e=some i) (hz:i.zero=some z)
  (hsize:i.size=1) (hby:i.bytes=bytes) (hzs:z.cells.size=1)
  (v:Value) (xs:List Value) (hs:a.eval s=v) (hown:w.ownsRow base e 1 v xs.length xs)
  (sv:Value) (news:List Value) (hx:a.eval x=sv) (hr:RS w sv news) (h1:∀ u∈news,u.oneCell'=true)
  (hbytes:(xs.length+news.length)*bytes≤140737488355328) (hby0:0<bytes) (hbase:base≤w.heap.size)
  (h:∀ v' w',w'.ownsRow base e 1 v' (xs++news).length (xs++news)→w.grownBy w' v.ownBlock→(v'.ownBlock=v.ownBlock∨v'.ownBlock=some w.heap.size)→wpList P ops Q rest (a.put o.dst v') w'):wpList P ops Q (o::rest) a w:=by
 refine wpList_plain hgd fun K hK=>?_
 obtain ⟨v',w',hrun,h2,h3,h4⟩:=run_append_rs (P:=P) w base t o.type e i z bytes ht hi hz hsize hby hzs v xs hown sv news hr h1 hbytes hby0 hbase
 unfold Oper.wp execOp
 simp only [ho,resolve,invoke,builtin,Sem.run_bind,Sem.run_pure,Result.andThen_ok,List.map_toArray,List.map_cons,List.map_nil,hs,hx,hrun]
 exact hK _ _ (h v' w' h2 h3 h4)
theorem wpList_append_bs (w:World) {ops:Array Oper} {rest:List Oper} {o:Oper} {a:Act} {Q:Exit→Act→World→Prop} (hgd:o.guard=none) (s x:Operand) (t:TypeId)
  (ho:o.op=.call { callee:=.builtin .append,args:=#[s,x],argTypes:=#[t,t] })
  (base:Nat) (e:TypeId) (i:TypeInfo) (z:Value) (ht:P.underlying t=some (.slice e)) (hi:P.info? e=some i) (hz:i.zero=some z)
  (hsize:i.size=1) (hby:i.bytes=1) (hzs:z.cells.size=1)
  (v:Value) (l:List UInt8) (hs:a.eval s=v) (hown:OB e w base v l)
  (sv:Value) (m:List UInt8) (hx:a.eval x=sv) (hr:BS w sv m)
  (hbytes:l.length+m.length≤140737488355328) (hbase:base≤w.heap.size)
  (h:∀ v' w',OB e w' base v' (l++m)→w.grownBy w' v.ownBlock→(v'.ownBlock=v.ownBlock∨v'.ownBlock=some w.heap.size)→wpList P ops Q rest (a.put o.dst v') w'):wpList P ops Q (o::rest) a w:=by
 refine wpList_append_rs w hgd s x t ho base e i z 1 ht hi hz hsize hby hzs v (bv l) hs (by unfold OB at hown;simpa using hown) sv (bv m) hx hr (bv_one m) (by simpa using hbytes) (by omega) hbase ?_
 intro v' w' h1 h2 h3
 exact h v' w' (by unfold OB;simpa using h1) h2 h3
end
theorem OB.lt {e:TypeId}{w:World}{B:Nat}{v:Value}{l:List UInt8}(h:OB e w B v l):∀ k,v.ownBlock=some k→B≤k:=fun k hk=>(World.ownsRow.lt h k hk).1
theorem OB.shape {e:TypeId}{w:World}{B:Nat}{v:Value}{l:List UInt8}(h:OB e w B v l):∃ A c,v=.slice A l.length c:=by
 obtain ⟨A,c,hv,_⟩:=h.bs.open_
 exact ⟨A,c,hv⟩
theorem OB.ret {e:TypeId} {w w':World} {B:Nat} {en:Ending} {l:List UInt8} (h:∃ v,en=.returned v∧OB e w' B v l∧Ext w w'):
  ∃ A c,en=.returned (.slice A l.length c)∧OB e w' B (.slice A l.length c) l∧Ext w w':=by
 obtain ⟨v,rfl,hb,hx⟩:=h
 obtain ⟨A,c,rfl⟩:=hb.shape
 exact ⟨A,c,rfl,hb,hx⟩
theorem BS.new (w:World)(e:TypeId)(l:List UInt8)(hl:l.length≤maxLen):BS (w.alloc (.cells (bv l).toArray e)) (.slice (some ⟨w.heap.size,0,none⟩) l.length l.length) l:=by
 refine ⟨some ⟨w.heap.size,0,none⟩,l.length,by simp,by simp,hl,fun _=>⟨⟨w.heap.size,0,none⟩,rfl,by simp,fun j u hu=>?_⟩⟩
 have hg:(w.alloc (.cells (bv l).toArray e)).heap[w.heap.size]? = some (.cells (bv l).toArray e (0,0)):=heap_alloc_new w _
 have hadd:(⟨w.heap.size,0,none⟩:Addr).add j=⟨w.heap.size,j,none⟩:=by unfold Addr.add;split<;>simp_all
 rw [hadd,cell_of_row _ _ j _ e (0,0) hg]
 simpa using hu
theorem RS.new (w:World)(e:TypeId)(xs:List Value)(hl:xs.length≤maxLen):RS (w.alloc (.cells xs.toArray e)) (.slice (some ⟨w.heap.size,0,none⟩) xs.length xs.length) xs:=by
 refine ⟨some ⟨w.heap.size,0,none⟩,xs.length,rfl,Nat.le_refl _,hl,fun _=>⟨⟨w.heap.size,0,none⟩,rfl,by simp,fun j u hu=>?_⟩⟩
 have hg:(w.alloc (.cells xs.toArray e)).heap[w.heap.size]? = some (.cells xs.toArray e (0,0)):=heap_alloc_new w _
 have hadd:(⟨w.heap.size,0,none⟩:Addr).add j=⟨w.heap.size,j,none⟩:=by unfold Addr.add;split<;>simp_all
 rw [hadd,cell_of_row _ _ j _ e (0,0) hg]
 simpa using hu
theorem BS.new' (w:World)(e:TypeId)(xs:List Value)(l:List UInt8)(h:xs=bv l)(n:Nat)(hn:n=l.length)(hl:l.length≤maxLen){z:Nat}(hk:z=w.heap.size:=by first | rfl | simp):BS (w.alloc (.cells xs.toArray e)) (.slice (some ⟨z,0,none⟩) n n) l:=by
 subst h;subst hn;subst hk;exact BS.new w e l hl
end Go.Proofs.YtnjmndofcpnmeaaGreatDoor
namespace Go.Proofs.YtnjmndofcpnmeaaGreatDoor
end Go.Proofs.YtnjmndofcpnmeaaGreatDoor
namespace Go.Proofs.YtnjmndofcpnmeaaGreatDoor
open Go Go.RowKit
def blv (bs:List Bool):List Value:=bs.map Value.bool
theorem blv_length (bs:List Bool):(blv bs).length=bs.length:=by simp [blv]
theorem blv_get (bs:List Bool)(j:Nat)(h:j<bs.length):(blv bs)[j]? = some (.bool bs[j]):=by simp [blv,h]
set_option maxRecDepth 100000 in
theorem index_bools (A:Option Addr) (c:Nat) (bs:List Bool) (w:World) (h:RS w (.slice A bs.length c) (blv bs)):
  Calls Tryz.prog 221 #[.slice A bs.length c,.bool false] w fun e w'=>∃ r:Int,e=.returned (.int .i64 r)∧(decide (0≤r) = !(bs.all id))∧w=w':=by
 obtain ⟨A',c',he,h1,h2,h3⟩:=h
 rw [blv_length] at h1 h3 he
 injection he with e1 _ e3
 subst e1;subst e3
 unfold maxLen at h2
 have H3:=Lib.hid h3;clear h3
 go_enter Tryz.func221,Tryz.ntmps221
 go_wp2
 go_loop [5,8] (fun _ i=>∃ k:Nat,k≤bs.length∧i=.int .i64 k∧∀ j (hj:j<bs.length),j<k→bs[j]=true) (fun _ i=>bs.length-(intOf i).toNat)
 case atStart=>exact ⟨0,Nat.zero_le _,rfl,fun j _ hj=>absurd hj (Nat.not_lt_zero _)⟩
 case round=>
  obtain ⟨k,hk,rfl,hall⟩:=hrel
  have HA:=Lib.hid hall;clear hall
  by_cases hlt:k<bs.length
  ·obtain ⟨ad,rfl,hb,hc⟩:=H3.out (by omega)
   have hck:=hc k _ (blv_get bs k hlt)
   have HB:=Lib.hid hb;clear hb hc
   cases hbk:bs[k]
   ·rw [hbk] at hck
    have HK:=Lib.hid hbk;clear hbk
    go_wp2
    go_ret
    refine ⟨k,rfl,?_,rfl⟩
    have h0:bs.all id=false:=by
     rw [List.all_eq_false]
     exact ⟨bs[k],List.getElem_mem hlt,by simp [HK.out]⟩
    rw [h0]
    simp
   ·rw [hbk] at hck
    have HK:=Lib.hid hbk;clear hbk
    go_wp2
    go_round
    case rel=>exact ⟨k+1,by omega,by go_num,fun j hj hj2=>by
     rcases Nat.lt_or_ge j k with h5 | h5
     ·exact HA.out j hj h5
     ·obtain rfl:j=k:=by omega
      exact HK.out⟩
    case measure=>simp [intOf];omega
  ·obtain rfl:k=bs.length:=by omega
   go_wp2
   go_ret
   refine ⟨-1,rfl,?_,rfl⟩
   have h0:bs.all id=true:=by
    rw [List.all_eq_true]
    intro b hb
    obtain ⟨j,hj,rfl⟩:=List.getElem_of_mem hb
    exact HA.out j hj hj
   rw [h0]
   decide
set_option maxRecDepth 100000 in
theorem contains_bools (A:Option Addr) (c:Nat) (bs:List Bool) (w:World) (h:RS w (.slice A bs.length c) (blv bs)):
  Calls Tryz.prog 182 #[.slice A bs.length c,.bool false] w fun e w'=>e=.returned (.bool (!(bs.all id)))∧w=w':=by
 obtain ⟨v,hv⟩:∃ v,v=bs.all id:=⟨_,rfl⟩
 have hidx:=index_bools A c bs w h
 rw [← hv] at hidx ⊢
 have HI:=Lib.hid hidx;clear hidx hv h
 go_enter Tryz.func182,Tryz.ntmps182
 go_wp2_with fail
 refine HI.out.mono ?_
 rintro e w' ⟨r,rfl,hr,rfl⟩
 go_wp2_with fail
 go_ret
 exact ⟨rfl,rfl⟩
theorem OB.lit (w:World)(e:TypeId)(B:Nat)(xs:List Value)(l:List UInt8)(h:xs=bv l)(n:Nat)(hn:n=l.length)(hl:l.length≤maxLen)(hB:B≤w.heap.size){z:Nat}(hk:z=w.heap.size:=by first | rfl | simp):
  OB e (w.alloc (.cells xs.toArray e)) B (.slice (some ⟨z,0,none⟩) n n) l:=by
 subst h;subst hn;subst hk
 exact ⟨by simp,.inr ⟨w.heap.size,l.length,(bv l).toArray,rfl,hB,heap_alloc_new w _,Nat.le_refl _,hl,by simp,by
  simp only [Nat.mul_one]
  exact List.take_of_length_le (by simp)⟩⟩
section
variable {P:Program}
theorem run_str (w:World) (src dst e:TypeId) (v:Value) (l:List UInt8) (hs:P.underlying src=some (.slice e)) (he:P.underlying e=some (.int .u8)) (hd:P.underlying dst=some .string)
  (h:BS w v l):(convert src dst v).run P w=.ok (.string ⟨l.toArray⟩) w:=by
 obtain ⟨A,c,rfl,_,_,hc⟩:=h.open_
 rcases A with _ | ad
 ·have hl:l=[]:=by
   rcases Nat.eq_zero_or_pos l.length with h0 | h0
   ·exact List.eq_nil_of_length_eq_zero h0
   ·obtain ⟨ad,ha,_⟩:=hc h0;cases ha
  subst hl
  rw [run_convert_bytes_string w src dst e none _ c hs he hd]
  simp only [Conv.bytesToString,Sem.run_pure]
  rfl
 ·refine run_convert_bytes_back w src dst e ad c l hs he hd (fun j hj=>?_)
  obtain ⟨ad',ha,_,hc'⟩:=hc (by omega)
  injection ha with ha
  subst ha
  exact hc' j hj
theorem BS.bytesRow (w:World) (l:List UInt8) (cap:Nat) (e:TypeId) (fr:Nat × Nat) (hl:l.length≤cap) (hm:cap≤maxLen):
  BS (w.alloc (.cells (bytesRow ⟨l.toArray⟩ cap) e fr)) (.slice (some ⟨w.heap.size,0,none⟩) l.length cap) l:=by
 refine ⟨some ⟨w.heap.size,0,none⟩,cap,by simp,by simpa using hl,hm,fun _=>⟨⟨w.heap.size,0,none⟩,rfl,by simp,fun j u hu=>?_⟩⟩
 have hadd:(⟨w.heap.size,0,none⟩:Addr).add j=⟨w.heap.size,j,none⟩:=by unfold Addr.add;split<;>simp_all
 have hj:j<l.length:=by
  have:=(List.getElem?_eq_some_iff.1 hu).1
  simpa using this
 rw [hadd,World.cell?_alloc_mark,bytesRow_at _ _ _ (by simpa using hj)]
 rw [bv_get l j hj] at hu
 rw [← hu]
 simp
theorem run_bytes (w:World) (src dst e:TypeId) (l:List UInt8) (hs:P.underlying src=some .string) (hd:P.underlying dst=some (.slice e)) (he:P.underlying e=some (.int .u8)) (hl:l.length≤maxLen):
  ∃ c w',(convert src dst (.string ⟨l.toArray⟩)).run P w=.ok (.slice (some ⟨w.heap.size,0,none⟩) l.length c) w'∧BS w' (.slice (some ⟨w.heap.size,0,none⟩) l.length c) l∧Ext w w'∧w'.heap.size=w.heap.size+1:=by
 have hsz:(⟨l.toArray⟩:ByteArray).size=l.length:=by simp [ByteArray.size]
 have hr:=run_bytes_of_string (P:=P) w src dst e ⟨l.toArray⟩ hs hd he
 rw [hsz] at hr
 refine ⟨_,_,hr,BS.bytesRow w.drew l _ e _ (grownCap_ge w _ _ _) (grownCap_le_maxLen w _ _ _ hl),((Ext.refl w).drew').alloc _,by simp⟩
end
end Go.Proofs.YtnjmndofcpnmeaaGreatDoor
namespace Go.Proofs.YtnjmndofcpnmeaaGreatDoor
open Go Go.RowKit
def NoU8 (w:World)(g:Nat):Prop:=∀ p:Addr,p.block=g→∀ n,w.cell? p≠some (.int .u8 n)
theorem grown_refl (w:World)(g:Option Nat):w.grownBy w g:=World.grownBy.refl w g
theorem grown_trans {a b c:World}{g:Option Nat}(h:a.grownBy b g)(k:b.grownBy c g):a.grownBy c g:=World.grownBy.trans h k
theorem Ext.but {w w':World}(h:Ext w w')(g:Option Nat):w.grownBy w' g:=⟨h.os,h.tape,h.output,h.size,fun k hk _=>h.block k hk⟩
theorem grown_set {w w':World}{g:Nat}(h:w.grownBy w' (some g))(i:Nat)(u:Value):w.grownBy (w'.setCell ⟨g,i,none⟩ u) (some g):=
 ⟨h.os,h.tape,h.output,by simpa [World.setCell] using h.size,fun k hk hne=>(Below.heap_setCell w' ⟨g,i,none⟩ u k (fun e=>hne (by rw [e]))).trans (h.block k hk hne)⟩
theorem Ext.of_grown {w0 w w':World}{g:Nat}(hx:Ext w0 w)(h:w.grownBy w' (some g))(hg:w0.heap.size≤g):Ext w0 w':=hx.grown h (fun k hk=>by cases hk;exact hg)
theorem BS.but {w w':World}{v:Value}{l:List UInt8}{g:Nat}(h:BS w v l)(hn:NoU8 w g)(hb:w.grownBy w' (some g)):BS w' v l:=by
 obtain ⟨A,c,hv,h1,h2,h3⟩:=h
 refine ⟨A,c,hv,h1,h2,fun hp=>?_⟩
 obtain ⟨ad,ha,hbl,hc⟩:=h3 hp
 have hne:ad.block≠g:=by
  intro e
  have h0:=hc 0 _ (List.getElem?_eq_getElem hp)
  have hu:(bv l)[0]∈bv l:=List.getElem_mem _
  simp only [bv,List.mem_map] at hu
  obtain ⟨b,_,hb'⟩:=hu
  rw [show (bv l)[0]=.int .u8 (b.toNat:Int) from hb'.symm] at h0
  exact hn (ad.add 0) (by rw [block_of_add];exact e) _ h0
 refine ⟨ad,ha,Nat.lt_of_lt_of_le hbl hb.size,fun j u hu=>?_⟩
 exact (World.cell?_of_block (hb.block _ (by rw [block_of_add];exact hbl) (by rw [block_of_add];intro e;exact hne (by injection e)))).trans (hc j u hu)
section
variable {P:Program}
theorem run_slice1 (w:World) (t:TypeId) (A:Option Addr) (c:Nat) (l:List UInt8) (lo:Nat) (m:List UInt8) (hm:l.drop lo=m) (h1:lo≤l.length) (ht:P.underlying t=some (.slice (P.elem t))) (hs:∃ i,P.info? (P.elem t)=some i∧i.size=1)
  (h:BS w (.slice A l.length c) l):
  ∃ A' c',BS w (.slice A' m.length c') m∧∀ w':World,(Instr.slice t (.slice A l.length c) (some (.int .i64 (lo:Int))) none none).run P w'=.ok (.slice A' m.length c') w':=by
 obtain ⟨i,hi0,hi1⟩:=hs
 obtain ⟨A0,c0,he,k1,k2,k3⟩:=h.open_
 injection he with e1 e2 e3
 subst e1;subst e3
 have hml:m.length=l.length-lo:=by subst hm;simp
 refine ⟨if c=lo then A else A.map (·.add (lo*1)),c-lo,?_,fun w'=>?_⟩
 ·refine ⟨if c=lo then A else A.map (·.add (lo*1)),c-lo,by simp,by simp [hml];omega,by unfold maxLen at *;omega,fun hp=>?_⟩
  simp only [bv_length,hml] at hp
  rw [if_neg (by omega)]
  obtain ⟨ad,rfl,hb,hc⟩:=k3 (by omega)
  refine ⟨ad.add (lo*1),rfl,by rw [block_of_add];exact hb,fun j u hu=>?_⟩
  have hj:j<m.length:=by
   have:=(List.getElem?_eq_some_iff.1 hu).1
   simpa using this
  rw [add_of_add,Nat.mul_one,hc (lo+j) (by omega)]
  rw [bv_get m j hj] at hu
  rw [← hu]
  subst hm
  simp
 ·rw [run_slice_l w' t A l.length c ht .i64 lo (by omega) (by omega)]
  simp [sizeOf,typeInfo,hi0,hi1,sliced,hml]
end
end Go.Proofs.YtnjmndofcpnmeaaGreatDoor
