/- Pc48. -/
import Derived.Test.YtnjmndofcpnmeaaGreatDoorPc40
import Derived.Test.YtnjmndofcpnmeaaGreatDoorPc47
import Derived.Test.YtnjmndofcpnmeaaGreatDoorPc46
import Derived.Test.YtnjmndofcpnmeaaGreatDoorPc45
import Derived.Test.YtnjmndofcpnmeaaGreatDoorPc33
import Derived.Test.YtnjmndofcpnmeaaGreatDoorPc19
import Derived.Test.YtnjmndofcpnmeaaGreatDoorPc43
import Derived.Test.YtnjmndofcpnmeaaGreatDoorPc39
namespace Go.Proofs.YtnjmndofcpnmeaaGreatDoor
open Go Go.RowKit
set_option linter.unusedVariables false
theorem who_P (m q:FV):sameP m.cp m.cr q.cp q.cr=decide (who false m.fct=who false q.fct):=by
 rw [sameP_eq]
 show _=decide (Who.client (dat m.cp) m.cr.data.toList=Who.client (dat q.cp) q.cr.data.toList)
 rw [← Bool.decide_and]
 exact decide_eq_decide.2 ⟨fun h=>by rw [h.1,h.2],fun h=>by injection h with h1 h2;exact ⟨h1,h2⟩⟩
theorem wp_app {o:Oper}{a:Act}{w w':World}{K:Act→World→Prop}(s x:Operand)(t:TypeId)(ho:o.op=.call { callee:=.builtin .append,args:=#[s,x],argTypes:=#[t,t] }) (v y r:Value) (hs:a.eval s=v) (hx:a.eval x=y) (hrun:(Builtin.append_ #[t,t] o.type #[v,y]).run Tryz.prog w=.ok r w') (hK:K (a.put o.dst r) w'):o.wp Tryz.prog a w K (fun _ _ _=>False):=by
 unfold Oper.wp execOp
 simp only [ho,resolve,invoke,builtin,Sem.run_bind,Sem.run_pure,Result.andThen_ok,List.map_toArray,List.map_cons,List.map_nil,hs,hx,hrun]
 exact hK
structure RAM (wo:World) (B:Nat) (W:World) (g:Nat) (m:VV) (v:Value) (az:List (Int × List UInt8)):Prop where
 b5:V8 W g m
 ex:Ext wo W
 dv:DOV 34 W B v az
 lo:wo.heap.size≤g
 hi:g<B
 sz:B≤W.heap.size
theorem V8.nu {w:World}{g:Nat}{m:VV}(h:V8 w g m):NoU8 w g:=NoU8.of h fun x hx n e=>by subst e;simp at hx
section
variable {wo W W':World} {B g:Nat} {m:VV} {v:Value} {az:List (Int × List UInt8)}
theorem RAM.ext (h:RAM wo B W g m v az)(hx:Ext W W'):RAM wo B W' g m v az:=⟨h.b5.ext hx,h.ex.trans hx,h.dv.ext hx,h.lo,h.hi,Nat.le_trans h.sz hx.size⟩
theorem RAM.put {m':VV}(h:RAM wo B W g m v az)(k:Nat)(u:Value)(hb:V8 (W.setCell ⟨g,k,none⟩ u) g m'):RAM wo B (W.setCell ⟨g,k,none⟩ u) g m' v az:=by
 have hg:=grown_set (grown_refl W (some g)) k u
 exact ⟨hb,h.ex.setCell (p:=⟨g,k,none⟩) h.lo u,h.dv.off h.b5.nu hg (fun e=>by have:=(h.dv.lt g e).1;have:=h.hi;omega),h.lo,h.hi,Nat.le_trans h.sz hg.size⟩
theorem RAM.app {v':Value}{az':List (Int × List UInt8)}(h:RAM wo B W g m v az)(hd:DOV 34 W' B v' az')(hg:W.grownBy W' v.ownBlock):RAM wo B W' g m v' az':=
 ⟨(hg.block g (Array.getElem?_eq_some_iff.1 h.b5).1 (fun e=>by have:=(h.dv.lt g e.symm).1;have:=h.hi;omega)).trans h.b5,h.ex.grown hg (fun j hj=>by have:=(h.dv.lt j hj).1;have:=h.hi;have:=h.lo;omega),hd,h.lo,h.hi,Nat.le_trans h.sz hg.size⟩
end
theorem fold_len {α:Type} [DecidableEq α] (F:Nat→α):∀ (js:List Nat) (ks:List α),(js.foldl (fun ks j=>addK ks (F j)) ks).length≤ks.length+js.length
 | [],ks=>Nat.le_refl _
 | j::js,ks=>by
  have h:=fold_len F js (addK ks (F j))
  have h2:(addK ks (F j)).length≤ks.length+1:=by
   unfold addK
   split
   ·omega
   ·rw [List.length_append];exact Nat.le_refl _
  rw [List.foldl_cons,List.length_cons]
  omega
theorem RAI.bnd {l:List Fct}{i k:Nat}{rq su pl fi la:Int}{b:Bool}{az:List (Int × List UInt8)}(h:RAI l i k rq su pl fi la b az)(hk:k≤1000):(0≤rq∧rq≤1000)∧(0≤su∧su≤1000)∧(0≤pl∧pl≤1000)∧az.length≤1000:=by
 have h1:(actK l i k).length≤k:=by
  have:=List.length_filter_le (fun j=>!decide ((atF l j).kd=0)&&decide (who false (atF l j)=who false (atF l i))) (List.range k)
  rwa [List.length_range] at this
 have h2:=List.length_filter_le (fun j=>sucB (atF l j)) (actK l i k)
 have h3:=List.length_filter_le (fun j=>plnB (atF l j)) (actK l i k)
 have h4:az.length=((actK l i k).foldl (fun ks j=>addK ks (who true (atF l j))) []).length:=by rw [← h.az,List.length_map]
 have h5:=fold_len (fun j=>who true (atF l j)) (actK l i k) []
 rw [← h4] at h5
 have e1:=h.rq;have e2:=h.su;have e3:=h.pl
 unfold sufN at e2
 unfold plnN at e3
 simp only [List.length_nil] at h5
 omega
def RAS (l:List Fct)(e:Ending)(w':World):Prop:=∃ (A:Option Addr) (c:Nat) (ms:List VV) (js:List Nat),e=.returned (.slice A ms.length c)∧RDS EV w' (.slice A ms.length c) ms∧(∀ m∈ms,m.In w')∧AIs l ms js∧ActL l l.length js
end Go.Proofs.YtnjmndofcpnmeaaGreatDoor
namespace Go.Proofs.YtnjmndofcpnmeaaGreatDoor
open Go Go.Lib
set_option linter.unusedVariables false
theorem cod_cons (f:Fct)(l:List Fct)(c:Int):codF (f::l) c=(if f.co=c then 1 else 0)+codF l c:=by
 unfold codF
 rw [List.filter_cons]
 by_cases h:f.co=c
 ·rw [if_pos (by rw [decide_eq_true_eq];exact h),if_pos h,List.length_cons];omega
 ·rw [if_neg (by rw [decide_eq_true_eq];exact h),if_neg h];omega
theorem cod_pos {l:List Fct}{c:Int}:0<codF l c ↔ ∃ f∈l,f.co=c:=by
 unfold codF
 rw [List.length_pos_iff_exists_mem]
 constructor
 ·rintro ⟨f,hf⟩
  rw [List.mem_filter,decide_eq_true_eq] at hf
  exact ⟨f,hf⟩
 ·rintro ⟨f,hf⟩
  exact ⟨f,by rw [List.mem_filter,decide_eq_true_eq];exact hf⟩
theorem sum_one (x:Int):∀ (ks:List Int),ks.Nodup→(ks.map fun c=>if x=c then 1 else 0).sum=if x∈ks then 1 else 0
 | [],_=>by simp
 | c::ks,h=>by
  rw [List.nodup_cons] at h
  rw [List.map_cons,List.sum_cons,sum_one x ks h.2]
  by_cases e:x=c
  ·subst e
   rw [if_pos rfl,if_neg h.1,if_pos (by simp)]
  ·rw [if_neg e]
   by_cases k:x∈ks
   ·rw [if_pos k,if_pos (List.mem_cons_of_mem _ k)]
   ·rw [if_neg k,if_neg (by simp [e,k])]
theorem sum_add (f g:Int→Nat):∀ (ks:List Int),(ks.map fun c=>f c+g c).sum=(ks.map f).sum+(ks.map g).sum
 | []=>rfl
 | c::ks=>by
  simp only [List.map_cons,List.sum_cons,sum_add f g ks]
  omega
theorem sum_cod {ks:List Int} (hd:ks.Nodup):∀ (l:List Fct),(∀ f∈l,f.co∈ks)→(ks.map (codF l)).sum=l.length
 | [],_=>by
  have:∀ ks:List Int,(ks.map (codF [])).sum=0:=fun ks=>by
   induction ks with
   | nil=>rfl
   | cons c r ih=>rw [List.map_cons,List.sum_cons,ih];rfl
  exact this ks
 | f::l,h=>by
  have e:codF (f::l)=fun c=>(if f.co=c then 1 else 0)+codF l c:=funext fun c=>cod_cons f l c
  rw [e,sum_add,sum_one f.co ks hd,if_pos (h f (by simp)),sum_cod hd l (fun g hg=>h g (List.mem_cons_of_mem _ hg)),List.length_cons]
  omega
end Go.Proofs.YtnjmndofcpnmeaaGreatDoor
namespace Go.Proofs.YtnjmndofcpnmeaaGreatDoor
open Go Go.RowKit Go.Maps
set_option linter.unusedVariables false
theorem wpList_store_row {P:Program} (w:World) {ops:Array Oper} {rest:List Oper} {o:Oper} {a:Act} {Q:Exit→Act→World→Prop} (hgd:o.guard=none) (p x:Operand) (t:TypeId) (ho:o.op=.store t p x)
  (g off:Nat) (u:TypeId) (cur vs:Array Value) (hp:a.eval p=.pointer (some ⟨g,off,none⟩)) (hx:a.eval x=.agg vs) (hsz:(sizeOf t).run P w=.ok vs.size w) (hr:w.heap[g]? = some (.cells cur u (0,0))) (hlen:off+vs.size≤cur.size) (h1:∀ v∈vs.toList,v.oneCell'=true)
  (hK:∀ w' cu,w'.heap[g]? = some (.cells cu u (0,0))→cu.size=cur.size→w.grownBy w' (some g)→wpList P ops Q rest (a.put o.dst undef) w'):wpList P ops Q (o::rest) a w:=by
 refine wpList_plain hgd fun K hK'=>?_
 have hrun:=run_storeCells_at (P:=P) g off u vs.toList 0 cur w hr (by simp;omega) h1
 obtain ⟨cu,hcu⟩:∃ cu,(cur.toList.take (off+0)++vs.toList++cur.toList.drop (off+0+vs.toList.length)).toArray=cu:=⟨_,rfl⟩
 have hcs:cu.size=cur.size:=by rw [← hcu];simp;omega
 rw [hcu] at hrun
 have hw':(w.setRow g cu).heap[g]? = some (.cells cu u (0,0)):=setRow_heap w g cur cu u (0,0) hr
 have hg':w.grownBy (w.setRow g cu) (some g):=⟨rfl,rfl,rfl,by simp,fun k _ hk=>setRow_other w g k _ (fun e=>hk (by simp [e]))⟩
 unfold Oper.wp execOp
 simp only [ho,hp,hx]
 simp [Instr.storeAt,Instr.sureAddr,storeVar,Value.cells,hsz,hrun,Result.andThen,Oper.upon]
 exact hK' _ _ (hK _ cu hw' hcs hg')
def OWR (w:World)(B:Nat)(A:Option Addr)(n c:Nat):Prop:=n≤c∧c≤maxLen∧((n=0∧A=none)∨∃ g cur,A=some ⟨g,0,none⟩∧B≤g∧w.heap[g]? = some (.cells cur 41 (0,0))∧n*12≤cur.size)
theorem OWR.ext {w w':World}{B:Nat}{A:Option Addr}{n c:Nat}(h:OWR w B A n c)(hx:Ext w w'):OWR w' B A n c:=by
 refine ⟨h.1,h.2.1,?_⟩
 rcases h.2.2 with h | ⟨g,cur,h1,h2,h3,h4⟩
 ·exact .inl h
 ·exact .inr ⟨g,cur,h1,h2,hx.heap h3,h4⟩
theorem run_app_facts (w:World) (ty:TypeId) (A:Option Addr) (c n:Nat) (xs:List FV) (hnx:xs.length=n) (h:FS w (.slice A n c) xs) (hn:n≤1000):
  ∃ A' c' w',(Builtin.append_ #[22,22] ty #[.slice none 0 0,.slice A n c]).run Tryz.prog w=.ok (.slice A' n c') w'∧FS w' (.slice A' n c') xs∧OWR w' w.heap.size A' n c'∧Ext w w':=by
 subst hnx
 obtain ⟨i0,hi,iz0,iz1,iz2⟩:=fact_info
 have h':=h
 obtain ⟨A',c',he,h1,h2,h3⟩:=h
 injection he with e1 _ e3
 subst e1;subst e3
 rcases Nat.eq_zero_or_pos xs.length with h0 | h0
 ·obtain rfl:=List.length_eq_zero_iff.1 h0
  refine ⟨none,0,w,?_,FS.nil w,⟨Nat.le_refl _,Nat.zero_le _,.inl ⟨rfl,rfl⟩⟩,Ext.refl w⟩
  cases A with
  | none=>exact run_append_nothing w _ _ ty _ i0 Tryz.underlying22 hi none 0 0 (Nat.le_refl _) _ (Src.ofNil w Tryz.underlying22 c)
  | some a=>exact run_append_nothing w _ _ ty _ i0 Tryz.underlying22 hi none 0 0 (Nat.le_refl _) _ (Src.ofSlice w Tryz.underlying22 a 0 c [] (by simp) (by simp) (by simp))
 ·obtain ⟨_,a,rfl,_⟩:=h3 0 h0
  have hcs:∀ j u,(EF.all xs)[j]? = some u→w.cell? (a.add j)=some u:=fun j u hu=>by
   have hj:j<(EF.all xs).length:=(List.getElem?_eq_some_iff.1 hu).1
   rw [EF.all_len] at hj
   have hd:j / EF.k<xs.length:=Nat.div_lt_of_lt_mul (by rw [Nat.mul_comm];exact hj)
   have hm:j % EF.k<EF.k:=Nat.mod_lt _ EF.kp
   obtain ⟨_,ad',k1,k2⟩:=h3 (j / EF.k) hd
   obtain rfl:a=ad':=Option.some.inj k1
   have e:=Nat.div_add_mod j EF.k
   rw [Nat.mul_comm] at e
   have:=EF.all_get xs (j / EF.k) (j % EF.k) hd hm
   rw [e] at this
   rw [this] at hu
   have:=k2 _ _ hu
   rwa [show j / EF.k*12+j % EF.k=j from e] at this
  have hone:∀ u∈EF.all xs,u.oneCell'=true:=by
   intro u hu
   unfold Ek.all at hu
   obtain ⟨y,_,hu⟩:=List.mem_flatMap.1 hu
   exact EF.one y u hu
  obtain ⟨v',w',hrun,g1,g2,g3,_⟩:=run_append_own_at (P:=Tryz.prog) w w.heap.size 22 ty 41 i0 factZ EF.k 160 Tryz.underlying22 hi iz0 iz1 iz2 rfl EF.kp (.slice none 0 0) 0 [] (World.ownsRow_nil _ _ _ _) a xs.length c (EF.all xs) (EF.all_len xs) hcs hone (by unfold maxLen;omega) (by omega) (Nat.le_refl _)
  have hx:Ext w w':=grown_of_ext g2
  rw [List.nil_append,Nat.zero_add] at g1
  rcases g1.2 with ⟨_,h9⟩ | ⟨g,cap,cur,rfl,hb,hg,hnc,hcm,hcs2,_⟩
  ·omega
  ·refine ⟨some ⟨g,0,none⟩,cap,w',hrun,?_,⟨hnc,hcm,.inr ⟨g,cur,rfl,hb,hg,?_⟩⟩,hx⟩
   ·refine ⟨_,cap,rfl,hnc,hcm,fun i hi=>⟨(h3 i hi).1.ext hx,_,rfl,fun j u hu=>?_⟩⟩
    have hj:j<EF.k:=by rw [← EF.len xs[i]];exact (List.getElem?_eq_some_iff.1 hu).1
    exact g1.cells rfl _ _ ((EF.all_get xs i j hi hj).trans hu)
   ·have h12:cur.size=cap*12:=hcs2
    omega
theorem AcIt.off {w1 w2 w3:World} {g:Nat} {A AO:Option Addr} {c n cO:Nat} {ms:List VV} (hg1:RW w2 g 55 #[.slice A ms.length c]) (hr:RDS EV w2 (.slice A ms.length c) ms) (hin:∀ m∈ms,m.In w2) (hg:w1.heap.size≤g) (hA:∀ ad,A=some ad→w1.heap.size≤ad.block) (hst:∀ m∈ms,STB w2 m.CA)
  (hO:∀ b,(Value.slice AO n cO).ownBlock=some b→b<w1.heap.size∧∃ cur,w2.heap[b]? = some (.cells cur 41 (0,0))) (hgr:w2.grownBy w3 (Value.slice AO n cO).ownBlock):AcIt g A c ms w3:=by
 have hne:∀ k,w1.heap.size≤k→(Value.slice AO n cO).ownBlock≠some k:=fun k hk e=>by
  have:=(hO k e).1
  omega
 refine ⟨(hgr.block g (Array.getElem?_eq_some_iff.1 hg1).1 (fun e=>hne g hg e.symm)).trans hg1,?_,fun m hm=>?_⟩
 ·obtain ⟨A',c',he,h1,h2,h3⟩:=hr
  injection he with e1 _ e3
  subst e1;subst e3
  refine ⟨A,c,rfl,h1,h2,fun i hi=>?_⟩
  obtain ⟨ad,k1,k2⟩:=h3 i hi
  exact ⟨ad,k1,fun j u hu=>hgr.cell (k2 j u hu) (by rw [block_of_add];exact fun e=>hne _ (hA ad k1) e.symm)⟩
 ·exact (hin m hm).off (fun _ ad hA e=>by
   obtain ⟨_,cur,h1⟩:=hO _ e
   obtain ⟨cs,h2⟩:=hst m hm ad hA
   rw [h1] at h2
   injection h2 with h2
   injection h2 with _ h2 _
   exact absurd h2 (by decide)) hgr
def AIV (V0:World)(bT bK:Nat)(turn k:Int)(W:World):Prop:=Ext V0 W∧W.heap[bT]? = some (.cells #[.int .i64 turn] 3 (0,0))∧W.heap[bK]? = some (.cells #[.int .i64 k] 3 (0,0))
theorem AIV.stab {V0:World}{B:Nat}(bT bK:Nat)(turn k:Int)(h:V0.heap.size≤B):Stab B (AIV V0 bT bK turn k):=(Stab.ext V0 h).and ((Stab.heap _ _ _ _).and (Stab.heap _ _ _ _))
theorem AIV.ext {V0 W W':World}{bT bK:Nat}{t k:Int}(h:AIV V0 bT bK t k W)(hx:Ext W W'):AIV V0 bT bK t k W':=⟨h.1.trans hx,hx.heap h.2.1,hx.heap h.2.2⟩
theorem AIV.set {V0 W:World}{bT bK:Nat}{t k:Int}(h:AIV V0 bT bK t k W)(d:bT≠bK)(z:V0.heap.size≤bK)(m:Int):AIV V0 bT bK t m (W.setCell ⟨bK,0,none⟩ (.int .i64 m)):=
 have hg:=grown_set1 W bK (.int .i64 m)
 ⟨h.1.setCell (p:=⟨bK,0,none⟩) z _,heap_far hg h.2.1 (by omega),row1_set _ h.2.2⟩
theorem sum_le {ks:List Int} (hd:ks.Nodup):∀ (l:List Fct),(ks.map (codF l)).sum≤l.length
 | []=>by
  have:∀ ks:List Int,(ks.map (codF [])).sum=0:=fun ks=>by
   induction ks with
   | nil=>rfl
   | cons c r ih=>rw [List.map_cons,List.sum_cons,ih];rfl
  rw [this ks];exact Nat.zero_le _
 | f::l=>by
  have e:codF (f::l)=fun c=>(if f.co=c then 1 else 0)+codF l c:=funext fun c=>cod_cons f l c
  have h:=sum_le hd l
  rw [e,sum_add,sum_one f.co ks hd,List.length_cons]
  split<;>omega
theorem cod_take (xs:List FV)(k:Nat)(hk:k<xs.length)(x:Int):codF ((xs.map FV.fct).take (k+1)) x=codF ((xs.map FV.fct).take k) x+if (xs[k]'hk).co=x then 1 else 0:=by
 have hk2:k<(xs.map FV.fct).length:=by rw [List.length_map];exact hk
 rw [List.take_succ_eq_append_getElem hk2,codF_snoc,List.getElem_map]
 rfl
structure CDI (D:DataW Unit) (left:Lit→Bool) (l:List Fct) (ks:List Int):Prop where
 nd:ks.Nodup
 mem:∀ z,z∈ks ↔ 0<codF l z∧left (.int .i64 z)=false
theorem CDI.start {D:DataW Unit}{l:List Fct}(h:CD D l):CDI D (Maps.has D) l []:=⟨List.nodup_nil,fun z=>⟨fun hz=>(by cases hz),fun ⟨h1,h2⟩=>(by rw [(h.has z).2 h1] at h2;cases h2)⟩⟩
theorem leftI {left:Lit→Bool}{s t:Int}:(left (.int .i64 t) && !(Lit.int .i64 t).sameKey (.int .i64 s))=false ↔ left (.int .i64 t)=false∨t=s:=by
 by_cases h:t=s
 ·subst h
  rw [WideAt.sameKey_self (by trivial)]
  simp
 ·rw [sameKey_ne (litI_ne h)]
  simp [h]
theorem CDI.step {D:DataW Unit}{left:Lit→Bool}{l:List Fct}{ks:List Int}{x:Int}(h:CDI D left l ks)(hx:0<codF l x)(hl:left (.int .i64 x)=true):CDI D (fun z=>left z && !z.sameKey (.int .i64 x)) l (ks++[x]):=by
 have hn:x ∉ ks:=fun e=>by rw [((h.mem x).1 e).2] at hl;cases hl
 refine ⟨?_,fun z=>?_⟩
 ·rw [List.nodup_append]
  refine ⟨h.nd,by simp,fun a ha b hb=>?_⟩
  rw [List.mem_singleton] at hb
  subst hb
  rintro rfl
  exact hn ha
 ·rw [List.mem_append,List.mem_singleton,h.mem]
  constructor
  ·rintro (⟨h1,h2⟩ | rfl)
   ·exact ⟨h1,leftI.2 (.inl h2)⟩
   ·exact ⟨hx,leftI.2 (.inr rfl)⟩
  ·rintro ⟨h1,h2⟩
   rcases leftI.1 h2 with h2 | rfl
   ·exact .inl ⟨h1,h2⟩
   ·exact .inr rfl
theorem CDI.sum {D:DataW Unit}{left:Lit→Bool}{l:List Fct}{ks:List Int}(h:CDI D left l ks)(hl:∀ kl,left kl=false):(ks.map (codF l)).sum=l.length:=
 sum_cod h.nd l fun f hf=>(h.mem f.co).2 ⟨cod_pos.2 ⟨f,hf,rfl⟩,hl _⟩
theorem CDI.le {D:DataW Unit}{left:Lit→Bool}{l:List Fct}{ks:List Int}(h:CDI D left l ks):(ks.map (codF l)).sum≤l.length:=sum_le h.nd l
end Go.Proofs.YtnjmndofcpnmeaaGreatDoor
