/- Pa42. -/
import Derived.Test.YtnjmndofcpnmeaaGreatDoorPa22
import Derived.Test.YtnjmndofcpnmeaaGreatDoorPa20
import Derived.Test.YtnjmndofcpnmeaaGreatDoorPa41
import Derived.Test.YtnjmndofcpnmeaaGreatDoorPa36
import Derived.Deep.DeepCutAuto
namespace Go.Proofs.YtnjmndofcpnmeaaGreatDoor
open Go Go.Lib
set_option linter.unusedVariables false
def winTo (l:List Fct)(w:Int)(ad:Bool)(a i:Nat):List Nat:=(List.range i).filter fun j=>failB (atF l j)&&decide (who ad (atF l j)=who ad (atF l a))&&decide ((atF l a).t-w≤(atF l j).t)
theorem winTo_yes {l:List Fct}{w:Int}{ad:Bool}{a i:Nat}(h1:failB (atF l i)=true)(h2:decide (who ad (atF l i)=who ad (atF l a))=true)(h3:(atF l a).t-w≤(atF l i).t):winTo l w ad a (i+1)=winTo l w ad a i++[i]:=by
 unfold winTo
 rw [filt_succ,h1,h2,decide_eq_true h3]
 rfl
theorem winTo_no {l:List Fct}{w:Int}{ad:Bool}{a i:Nat}(h:failB (atF l i)=false∨decide (who ad (atF l i)=who ad (atF l a))=false∨(atF l i).t<(atF l a).t-w):winTo l w ad a (i+1)=winTo l w ad a i:=by
 unfold winTo
 rw [filt_succ,if_neg,List.append_nil]
 intro e
 rw [Bool.and_eq_true,Bool.and_eq_true,decide_eq_true_eq (p:=_≤_)] at e
 rcases h with h | h | h
 ·rw [h] at e;exact absurd e.1.1 (by decide)
 ·rw [h] at e;exact absurd e.1.2 (by decide)
 ·omega
theorem winTo_len (l:List Fct)(w:Int)(ad:Bool)(a i:Nat):(winTo l w ad a i).length≤i:=by
 have:=List.length_filter_le (fun j=>failB (atF l j)&&decide (who ad (atF l j)=who ad (atF l a))&&decide ((atF l a).t-w≤(atF l j).t)) (List.range i)
 rwa [List.length_range] at this
theorem winTo_lt {l:List Fct}{w:Int}{ad:Bool}{a i j:Nat}(h:j∈winTo l w ad a i):j<i:=by
 unfold winTo at h
 exact List.mem_range.1 (List.mem_filter.1 h).1
def firT (l:List Fct):List Nat→Int
 | []=>-1
 | j::_=>(atF l j).t
theorem firT_snoc (l:List Fct)(W:List Nat)(i:Nat):firT l (W++[i])=if W=[] then (atF l i).t else firT l W:=by
 cases W with
 | nil=>rfl
 | cons j r=>rfl
theorem firT_pos {l:List Fct}{W:List Nat}(h:W≠[])(ht:∀ j∈W,0≤(atF l j).t):0≤firT l W:=by
 cases W with
 | nil=>exact absurd rfl h
 | cons j r=>exact ht j (by simp)
theorem firT_beg {l:List Fct}{w:Int}{ad:Bool}{a:Nat}(h:winF l w ad a≠[]):firT l (winF l w ad a)=begF l w ad a:=by
 unfold begF
 cases e:winF l w ad a with
 | nil=>exact absurd e h
 | cons j r=>rfl
abbrev Prn:=List (List UInt8) × List UInt8
def whoC (c:Prn):Who:=.client c.1 c.2
def CLS (l:List Fct)(ad:Bool)(W:List Nat)(cs:List Prn):Prop:=
 if ad then (cs.map whoC).Nodup∧∀ x,x∈cs.map whoC ↔ ∃ j∈W,who false (atF l j)=x else cs.length=W.length
theorem CLS.nil (l:List Fct)(ad:Bool):CLS l ad [] []:=by
 unfold CLS
 cases ad
 ·rw [if_neg (by decide)]
  rfl
 ·rw [if_pos rfl]
  exact ⟨List.nodup_nil,fun x=>⟨fun h=>(by simp at h),fun ⟨j,h,_⟩=>(by simp at h)⟩⟩
theorem CLS.any {l:List Fct}{W:List Nat}{cs:List Prn}(h:CLS l false W cs)(i:Nat)(c:Prn):CLS l false (W++[i]) (cs++[c]):=by
 unfold CLS at h ⊢
 rw [if_neg (by decide)] at h ⊢
 rw [List.length_append,List.length_append,h]
 rfl
theorem CLS.old {l:List Fct}{W:List Nat}{cs:List Prn}(h:CLS l true W cs){i:Nat}(hi:who false (atF l i)∈cs.map whoC):CLS l true (W++[i]) cs:=by
 unfold CLS at h ⊢
 rw [if_pos rfl] at h ⊢
 refine ⟨h.1,fun x=>?_⟩
 rw [h.2]
 constructor
 ·rintro ⟨j,hj,e⟩;exact ⟨j,by simp [hj],e⟩
 ·rintro ⟨j,hj,e⟩
  rcases List.mem_append.1 hj with hj | hj
  ·exact ⟨j,hj,e⟩
  ·rw [List.mem_singleton] at hj
   subst hj
   rw [← e]
   exact (h.2 _).1 hi
theorem CLS.new {l:List Fct}{W:List Nat}{cs:List Prn}(h:CLS l true W cs){i:Nat}{c:Prn}(hc:whoC c=who false (atF l i))(hi:who false (atF l i) ∉ cs.map whoC):CLS l true (W++[i]) (cs++[c]):=by
 unfold CLS at h ⊢
 rw [if_pos rfl] at h ⊢
 rw [List.map_append,List.map_cons,List.map_nil,hc]
 refine ⟨?_,fun x=>?_⟩
 ·rw [List.nodup_append]
  refine ⟨h.1,by simp,fun a ha b hb e=>?_⟩
  rw [List.mem_singleton] at hb
  subst hb
  exact hi (e ▸ ha)
 ·rw [List.mem_append,h.2]
  constructor
  ·rintro (⟨j,hj,e⟩ | hx)
   ·exact ⟨j,by simp [hj],e⟩
   ·rw [List.mem_singleton] at hx
    exact ⟨i,by simp,hx.symm⟩
  ·rintro ⟨j,hj,e⟩
   rcases List.mem_append.1 hj with hj | hj
   ·exact .inl ⟨j,hj,e⟩
   ·rw [List.mem_singleton] at hj
    subst hj
    exact .inr (by rw [List.mem_singleton];exact e.symm)
theorem CLS.le {l:List Fct}{ad:Bool}{W:List Nat}{cs:List Prn}(h:CLS l ad W cs):cs.length≤W.length:=by
 unfold CLS at h
 cases ad
 ·rw [if_neg (by decide)] at h
  exact Nat.le_of_eq h
 ·rw [if_pos rfl] at h
  have:=nodup_le h.1 (b:=W.map fun j=>who false (atF l j)) fun x hx=>by
   obtain ⟨j,hj,e⟩:=(h.2 x).1 hx
   exact List.mem_map.2 ⟨j,hj,e⟩
  rwa [List.length_map,List.length_map] at this
theorem CLS.len {l:List Fct}{w:Int}{ad:Bool}{a:Nat}{cs:List Prn}(h:CLS l ad (winF l w ad a) cs):cs.length=cntF l w ad a:=by
 unfold CLS at h
 cases ad
 ·rw [if_neg (by decide)] at h
  rw [cnt_win,h]
 ·rw [if_pos rfl] at h
  rw [cnt_any h.1 h.2,List.length_map]
end Go.Proofs.YtnjmndofcpnmeaaGreatDoor
namespace Go.Proofs.YtnjmndofcpnmeaaGreatDoor
open Go Go.RowKit
set_option linter.unusedVariables false
structure PV where
 CA:Option Addr
 cp:List ByteArray
 cc:Nat
 cr:ByteArray
def PV.cs (p:PV):List Value:=[.slice p.CA p.cp.length p.cc,.string p.cr]
def PV.pr (p:PV):Prn:=(dat p.cp,p.cr.data.toList)
def FV.pv (f:FV):PV:=⟨f.CA,f.cp,f.cc,f.cr⟩
def PV.Blk (p:PV)(b:Nat):Prop:=p.cp≠[]∧∃ ad,p.CA=some ad∧ad.block=b
def EP:Ek PV where
 k:=2
 kp:=by decide
 cs:=PV.cs
 len:=fun _=>rfl
 one:=fun x u hu=>by simp [PV.cs] at hu;rcases hu with rfl | rfl<;>rfl
 no8:=fun x u hu n e=>by subst e;simp [PV.cs] at hu
 In:=fun w p=>RS w (.slice p.CA p.cp.length p.cc) (sv p.cp)
 Blk:=PV.Blk
 blt:=fun w m b h hb=>by
  obtain ⟨hne,ad,ha,rfl⟩:=hb
  exact (RS.lt h (sv_ne hne) ha).1
 keep:=fun w w' m row h hg hr=>RS.off h (fun hne ad ha e=>(hr _ e).2 ⟨ne_sv hne,ad,ha,rfl⟩) hg
def prnZ:Value:=.agg #[.slice none 0 0,.string ⟨#[]⟩]
theorem prn_info:∃ i:TypeInfo,Tryz.prog.info? 37=some i∧i.zero=some prnZ∧i.size=2∧i.bytes=40:=
 info_parts (show (Tryz.prog.info? 37).map (fun i=>(i.zero,i.size,i.bytes))=some (some prnZ,2,40) by kernel_rfl)
theorem prn_zn:∀ x∈prnZ.cells.toList,∀ n,x≠.int .u8 n:=by
 intro x hx n e
 subst e
 simp [prnZ,Value.cells] at hx
theorem PV.news {w:World}{g:Nat}{p:PV}(h:RW w g 37 #[.slice p.CA p.cp.length p.cc,.string p.cr]):∀ j u,(EP.all [p])[j]? = some u→w.cell? ((⟨g,0,none⟩:Addr).add j)=some u:=fun j u hu=>by
 rw [Ek.all_one] at hu
 rw [add0,cell_of_row _ _ j _ _ (0,0) h,← hu]
 show _=(PV.cs p)[j]?
 unfold PV.cs
 rw [← List.getElem?_toArray]
structure P2 (w:World) (p:Addr) (m:PV):Prop where
 cells:w.cell? p=some (.slice m.CA m.cp.length m.cc)∧w.cell? ⟨p.block,p.off+1,none⟩=some (.string m.cr)
theorem P2.ext {w w':World}{p:Addr}{m:PV}(h:P2 w p m)(hx:Ext w w'):P2 w' p m:=⟨hx.cell h.cells.1,hx.cell h.cells.2⟩
theorem ROW.p2 {w:World}{B:Nat}{A:Option Addr}{n c:Nat}{ms:List PV}(h:ROW EP 37 w B (.slice A n c) ms)(k:Nat)(hk:k<ms.length):RS w (.slice ms[k].CA ms[k].cp.length ms[k].cc) (sv ms[k].cp)∧∃ ad,A=some ad∧P2 w (ad.add (k*2)) ms[k]:=by
 obtain ⟨A',c',e1,_,_,h4⟩:=h.cells
 injection e1 with e1 _ _
 subst e1
 obtain ⟨hin,ad,hA,hc⟩:=h4 k hk
 refine ⟨hin,ad,hA,⟨hc 0 _ rfl,?_⟩⟩
 rw [cell_addj w ad (k*2) 1 (by decide)]
 exact hc 1 _ rfl
theorem rw7 {w:World}{g:Nat}{t:TypeId}{a0 a1 a2 a3 a4 a5 a6:Value}(h:RW w g t #[a0,a1,a2,a3,a4,a5,a6]):(w.cell? ⟨g,0,none⟩=some a0∧w.cell? ⟨g,1,none⟩=some a1∧w.cell? ⟨g,2,none⟩=some a2∧w.cell? ⟨g,3,none⟩=some a3∧w.cell? ⟨g,4,none⟩=some a4∧w.cell? ⟨g,5,none⟩=some a5∧w.cell? ⟨g,6,none⟩=some a6)∧(w.frozen? ⟨g,0,none⟩=false∧w.frozen? ⟨g,1,none⟩=false∧w.frozen? ⟨g,2,none⟩=false∧w.frozen? ⟨g,3,none⟩=false∧w.frozen? ⟨g,4,none⟩=false∧w.frozen? ⟨g,5,none⟩=false∧w.frozen? ⟨g,6,none⟩=false):=by
 refine ⟨⟨?_,?_,?_,?_,?_,?_,?_⟩,h.soft 0,h.soft 1,h.soft 2,h.soft 3,h.soft 4,h.soft 5,h.soft 6⟩<;>(rw [cell_of_row _ _ _ _ _ (0,0) h];rfl)
structure CNI (w W:World) (fi tt:Int) (v:Value) (cs:List PV):Prop where
 r0:RW W w.heap.size 50 #[.slice none 0 0,.string ⟨#[]⟩,.int .i64 0,.slice none 0 0,.int .i64 0,.int .i64 0,.int .i64 0]
 r1:RW W (w.heap.size+1) 50 #[.slice none 0 0,.string ⟨#[]⟩,.int .i64 0,.slice none 0 0,.int .i64 0,.int .i64 fi,.int .i64 tt]
 ro:ROW EP 37 W (w.heap.size+2) v cs
 bl:∀ p∈cs,p.cp≠[]→∀ ad,p.CA=some ad→ad.block<w.heap.size
 pl:∀ p∈cs,p.cp.length≤1000
 ex:Ext w W
theorem CNI.ext {w W W':World}{fi tt:Int}{v:Value}{cs:List PV}(h:CNI w W fi tt v cs)(hx:Ext W W'):CNI w W' fi tt v cs:=⟨h.r0.ext hx,h.r1.ext hx,h.ro.ext hx,h.bl,h.pl,h.ex.trans hx⟩
theorem CNI.sz {w W:World}{fi tt:Int}{v:Value}{cs:List PV}(h:CNI w W fi tt v cs):w.heap.size+2≤W.heap.size:=(Array.getElem?_eq_some_iff.1 h.r1).1
theorem CNI.setF {w W:World}{fi tt:Int}{v:Value}{cs:List PV}(h:CNI w W fi tt v cs)(x:Int):CNI w (W.setCell ⟨w.heap.size+1,5,none⟩ (.int .i64 x)) x tt v cs:=
 ⟨heap_set_ne h.r0 (show w.heap.size≠w.heap.size+1 by omega),h.r1.set 5 (.int .i64 x),
  h.ro.keep (grown_set (grown_refl W (some (w.heap.size+1))) 5 _) (fun b hb=>by
  injection hb with hb
  subst hb
  refine ⟨fun hv=>by have:=(h.ro.lt _ hv).1;omega,NoU8.of h.r1 fun x hx n e=>by subst e;simp at hx,fun p hp hB=>?_⟩
  obtain ⟨hne,ad,hA,e⟩:=hB
  have:=h.bl p hp hne ad hA
  omega),h.bl,h.pl,h.ex.setCell (p:=⟨w.heap.size+1,5,none⟩) (Nat.le_succ _) _⟩
theorem CNI.app {w W W8:World}{fi tt:Int}{v v8:Value}{cs:List PV}{p:PV}(h:CNI w W fi tt v cs)(ho:ROW EP 37 W8 (w.heap.size+2) v8 (cs++[p]))(hg:W.grownBy W8 v.ownBlock)(hp:p.cp≠[]→∀ ad,p.CA=some ad→ad.block<w.heap.size)(hl:p.cp.length≤1000):CNI w W8 fi tt v8 (cs++[p]):=by
 have hne:∀ k,k<w.heap.size+2→some k≠v.ownBlock:=fun k hk e=>by have:=(h.ro.lt k e.symm).1;omega
 refine ⟨(hg.block w.heap.size (Array.getElem?_eq_some_iff.1 h.r0).1 (hne _ (by omega))).trans h.r0,(hg.block (w.heap.size+1) (Array.getElem?_eq_some_iff.1 h.r1).1 (hne _ (by omega))).trans h.r1,ho,fun q hq=>?_,fun q hq=>?_,h.ex.grown hg (fun k hk=>by have:=(h.ro.lt k hk).1;omega)⟩
 ·rcases List.mem_append.1 hq with hq | hq
  ·exact h.bl q hq
  ·rw [List.mem_singleton] at hq
   subst hq
   exact hp
 ·rcases List.mem_append.1 hq with hq | hq
  ·exact h.pl q hq
  ·rw [List.mem_singleton] at hq
   subst hq
   exact hl
theorem who_Q (q:PV)(f:FV):sameP q.cp q.cr f.cp f.cr=decide (whoC q.pr=who false f.fct):=by
 rw [sameP_eq]
 show _=decide (Who.client (dat q.cp) q.cr.data.toList=Who.client (dat f.cp) f.cr.data.toList)
 rw [← Bool.decide_and]
 exact decide_eq_decide.2 ⟨fun h=>by rw [h.1,h.2],fun h=>by injection h with h1 h2;exact ⟨h1,h2⟩⟩
def CNP (l:List Fct)(win:Int)(ad:Bool)(a:Nat)(B:Nat)(e:Ending)(w':World):Prop:=∃ m:MV,e=.returned (.agg #[.slice m.CA m.cp.length m.cc,.string m.cr,.int .i64 m.fk,.slice m.FA m.fb.length m.fc,.int .i64 m.n,.int .i64 m.b,.int .i64 m.t])∧m.In w'∧m.alm=almO l win ad a∧(m.cp≠[]→∀ ad',m.CA=some ad'→ad'.block<B)∧m.cp.length≤1000∧(m.fb≠[]→∀ ad',m.FA=some ad'→ad'.block<B)
end Go.Proofs.YtnjmndofcpnmeaaGreatDoor
