/- Pc45. -/
import Derived.Test.YtnjmndofcpnmeaaGreatDoorPc43
import Derived.Test.YtnjmndofcpnmeaaGreatDoorPc44
import Derived.Laws.EntriesVeiled
namespace Go.Proofs.YtnjmndofcpnmeaaGreatDoor
open Go Go.RowKit
set_option linter.unusedVariables false
theorem wpListIn_store_var {F:Fence} {n:Nat} {P:Program} (w:World) {ops:Array Oper} {rest:List Oper} {o:Oper} {a:Act} {Q:Exit→Act→World→Prop} (hgd:o.guard=none) (p x:Operand) (t:TypeId) (ho:o.op=.store t p x)
  (g:Nat) (u:TypeId) (cur vs:Array Value) (hp:a.eval p=.pointer (some ⟨g,0,none⟩)) (hx:a.eval x=.agg vs) (hsz:(sizeOf t).run P w=.ok vs.size w) (hr:w.heap[g]? = some (.cells cur u (0,0))) (hlen:cur.size=vs.size) (h1:∀ v∈vs.toList,v.oneCell'=true)
  (hK:∀ w',w'.heap[g]? = some (.cells vs u (0,0))→w.grownBy w' (some g)→wpListIn F n P ops Q rest (a.put o.dst undef) w'):wpListIn F n P ops Q (o::rest) a w:=by
 refine wpListIn_plain hgd fun K hK'=>?_
 have hrun:=run_storeCells_at (P:=P) g 0 u vs.toList 0 cur w hr (by simp [hlen]) h1
 have e1:(cur.toList.take (0+0)++vs.toList++cur.toList.drop (0+0+vs.toList.length)).toArray=vs:=by
  have:cur.toList.drop (0+0+vs.toList.length)=[]:=by
   apply List.drop_eq_nil_of_le
   simp [hlen]
  rw [this]
  simp
 rw [e1] at hrun
 have hw':(w.setRow g vs).heap[g]? = some (.cells vs u (0,0)):=setRow_heap w g cur vs u (0,0) hr
 have hg':w.grownBy (w.setRow g vs) (some g):=⟨rfl,rfl,rfl,by simp,fun k _ hk=>setRow_other w g k _ (fun e=>hk (by simp [e]))⟩
 unfold Oper.wpIn
 refine ⟨?_,?_⟩
 ·simp [Oper.about,ho]
 ·rw [Oper.semAt_plain F _ _ (by rw [ho];intro c hc';cases hc')]
  unfold execOp
  simp only [ho,hp,hx]
  simp [Instr.storeAt,Instr.sureAddr,storeVar,Value.cells,hsz,hrun,Result.andThen,Oper.uponIn]
  exact hK' _ _ (hK _ hw' hg')
structure F8 (w:World) (p:Addr) (m:VV):Prop where
 cells:w.cell? p=some (.slice m.CA m.cp.length m.cc)∧w.cell? ⟨p.block,p.off+1,none⟩=some (.string m.cr)∧w.cell? ⟨p.block,p.off+2,none⟩=some (.int .i64 m.rq)∧w.cell? ⟨p.block,p.off+3,none⟩=some (.int .i64 m.su)∧w.cell? ⟨p.block,p.off+4,none⟩=some (.int .i64 m.pl)∧w.cell? ⟨p.block,p.off+5,none⟩=some (.int .i64 m.ad)∧w.cell? ⟨p.block,p.off+6,none⟩=some (.int .i64 m.f)∧w.cell? ⟨p.block,p.off+7,none⟩=some (.int .i64 m.l)
theorem F8.ext {w w':World}{p:Addr}{m:VV}(h:F8 w p m)(hx:Ext w w'):F8 w' p m:=by
 obtain ⟨y0,y1,y2,y3,y4,y5,y6,y7⟩:=h.cells
 exact ⟨hx.cell y0,hx.cell y1,hx.cell y2,hx.cell y3,hx.cell y4,hx.cell y5,hx.cell y6,hx.cell y7⟩
theorem RDS.act_at {w:World}{A:Option Addr}{n c:Nat}{ms:List VV}(h:RDS EV w (.slice A n c) ms)(k:Nat)(hk:k<ms.length):∃ p,A=some p∧F8 w (p.add (k*8)) ms[k]:=by
 obtain ⟨A',c',he,_,_,h4⟩:=h
 injection he with e1 e2 e3
 subst e1
 obtain ⟨p,rfl,k3⟩:=h4 k hk
 change ∀ j u,(VV.cs ms[k])[j]? = some u→w.cell? (p.add (k*8+j))=some u at k3
 refine ⟨p,rfl,k3 0 _ rfl,?_,?_,?_,?_,?_,?_,?_⟩
 all_goals rw [cell_addj w p (k*8) _ (by decide)]
 ·exact k3 1 _ rfl
 ·exact k3 2 _ rfl
 ·exact k3 3 _ rfl
 ·exact k3 4 _ rfl
 ·exact k3 5 _ rfl
 ·exact k3 6 _ rfl
 ·exact k3 7 _ rfl
theorem cell_far {W W':World}{l:Nat}{a:Addr}{v:Value}(hn:NC W l)(hg:W.grownBy W' (some l))(hm:W.cell? a=some v):W'.cell? a=some v:=by
 have hm0:=hm
 unfold World.cell? at hm0
 cases ho:W.heap[a.block]? with
 | none=>rw [ho] at hm0;simp at hm0
 | some o=>
  rw [ho] at hm0
  cases o<;>simp at hm0
  case cells cs t fr=>
   rw [← hm]
   exact World.cell?_of_block ((heap_nc hn hg ho).trans ho.symm)
theorem Stab.rds {B:Nat}(v:Value)(ms:List VV):Stab B (fun W=>RDS EV W v ms):=fun W W' l _ hn hg h=>by
 obtain ⟨A,c,hv,h1,h2,h3⟩:=h
 refine ⟨A,c,hv,h1,h2,fun i hi=>?_⟩
 obtain ⟨ad,e,k⟩:=h3 i hi
 exact ⟨ad,e,fun j u hu=>cell_far hn hg (k j u hu)⟩
def AcIt (g:Nat)(A:Option Addr)(c:Nat)(ms:List VV)(W:World):Prop:=W.heap[g]? = some (.cells #[.slice A ms.length c] 55 (0,0))∧RDS EV W (.slice A ms.length c) ms∧∀ m∈ms,m.In W
theorem AcIt.stab (B:Nat)(g:Nat)(A:Option Addr)(c:Nat)(ms:List VV):Stab B (AcIt g A c ms):=(Stab.heap _ _ _ _).and ((Stab.rds _ _).and (fun W W' l hl hn hg h m hm=>Stab.rs (B:=B) _ _ W W' l hl hn hg (h m hm)))
theorem AcIt.ext {g:Nat}{A:Option Addr}{c:Nat}{ms:List VV}{W W':World}(h:AcIt g A c ms W)(hx:Ext W W'):AcIt g A c ms W':=⟨hx.heap h.1,h.2.1.ext hx,fun m hm=>(h.2.2 m hm).ext hx⟩
def AcG (ms:List VV)(pre:List VV)(x:VV)(W:World):Prop:=∃ h:pre.length<ms.length,x.In W∧x.cp.length≤1000∧∀ a,(ms[pre.length]'h).Is a→x.Is a
attribute [local go_sem] Oper.semAt_some
set_option maxRecDepth 100000 in
set_option maxHeartbeats 2000000 in
theorem acts_iter (g:Nat) (A:Option Addr) (c:Nat) (ms:List VV) (hL:ms.length≤1000) (hcp:∀ m∈ms,m.cp.length≤1000):
  Iter Tryz.prog 76 #[.pointer (some ⟨g,0,none⟩)] (fun m:VV=>#[m.val]) (AcIt g A c ms) (AcG ms) (fun _=>False) (fun xs=>xs.length=ms.length) (fun pre=>pre.length≤ms.length):=by
 intro lp J Jx W hJ hJx hY hit h0
 refine callsIn_of_wp Tryz.func76 rfl trivial ?_ rfl
 simp only [Tryz.ntmps76,List.size_toArray,List.length_cons,List.length_nil,Nat.reduceAdd,Nat.reduceSub,Array.replicate_succ,Array.replicate_zero,List.push_toArray,List.append_toArray,List.nil_append,List.cons_append]
 have c0:=(row1 hit.1).1
 have HIT:=Lib.hid hit;have HJ0:=Lib.hid h0;have HCP:=Lib.hid hcp
 clear hit h0 hcp
 obtain ⟨n,hn'⟩:∃ n,ms.length=n:=⟨_,rfl⟩
 rw [hn'] at c0 hL
 have HN:=Lib.hid hn'
 clear hn'
 gi_wp2_with fail
 gi_loopw [4,7] (fun _ i wr=>∃ (pre:List VV),pre.length≤n∧i=.int .i64 (pre.length:Int)∧Hid (J pre wr)∧Hid (AcIt g A c ms wr)) (fun _ i _=>n-(intOf i).toNat)
 case atStart=>exact ⟨[],by simp,rfl,HJ0,HIT⟩
 case round=>
  obtain ⟨pre,hk,rfl,HJ,HI⟩:=hrel
  obtain ⟨k,hkk⟩:∃ k,pre.length=k:=⟨_,rfl⟩
  have HK:=Lib.hid hkk
  rw [hkk] at hk ⊢
  clear hkk
  by_cases hlt:k<n
  ·have hlx:k<ms.length:=by rw [HN.out];exact hlt
   obtain ⟨p,rfl,h8⟩:=HI.out.2.1.act_at k hlx
   have hin:=HI.out.2.2 _ (List.getElem_mem hlx)
   have hl8:=HCP.out _ (List.getElem_mem hlx)
   obtain ⟨q,hq⟩:∃ q,ms[k]=q:=⟨_,rfl⟩
   have HQ:=Lib.hid (show ∀ (hh:k<ms.length) (a:Actv),(ms[k]'hh).Is a→q.Is a from fun hh a h=>hq ▸ h);have HLX:=Lib.hid hlx
   rw [hq] at h8 hin hl8
   obtain ⟨u0,u1,u2,u3,u4,u5,u6,u7⟩:=h8.cells
   have zB:=heap_alloc_new wr (.cells #[.slice none 0 0,.string ⟨#[]⟩,.int .i64 0,.int .i64 0,.int .i64 0,.int .i64 0,.int .i64 0,.int .i64 0] 58)
   have xz:=(Ext.refl wr).alloc (.cells #[.slice none 0 0,.string ⟨#[]⟩,.int .i64 0,.int .i64 0,.int .i64 0,.int .i64 0,.int .i64 0,.int .i64 0] 58)
   obtain ⟨WB,eB⟩:∃ W,wr.alloc (.cells #[.slice none 0 0,.string ⟨#[]⟩,.int .i64 0,.int .i64 0,.int .i64 0,.int .i64 0,.int .i64 0,.int .i64 0] 58)=W:=⟨_,rfl⟩
   rw [eB] at zB xz
   have HCY:=Lib.hid (fun W (hW:Ext wr W)=>NCopy_at q.CA q.cc q.cp q.cr hl8 W (RS.ext hin hW))
   have HL8:=Lib.hid hl8
   clear h8 hin hq hlx hl8
   gi_wp2_with (first
    | (refine wpListIn_store_var WB rfl (.tmp 4) (.tmp 10) 58 rfl wr.heap.size 58 #[.slice none 0 0,.string ⟨#[]⟩,.int .i64 0,.int .i64 0,.int .i64 0,.int .i64 0,.int .i64 0,.int .i64 0] #[.slice q.CA q.cp.length q.cc,.string q.cr,.int .i64 q.rq,.int .i64 q.su,.int .i64 q.pl,.int .i64 q.ad,.int .i64 q.f,.int .i64 q.l] rfl rfl (Tryz.sizeOf58 WB) zB rfl (one8 rfl) ?_;intro W5 b5 hg5;have HX5:=Lib.hid (show Ext wr W5 from Below.grown xz hg5 xz.size (fun j hj=>by cases hj;exact Nat.le_refl _));have HB5:=Lib.hid (show V8 W5 wr.heap.size q from b5);obtain ⟨d0,d1,d2,d3,d4,d5,d6,d7⟩:=HB5.out.cells;clear b5 hg5)
    | fail)
   refine wide_call (HCY.out W5 HX5.out) ?_
   rintro e w6 ⟨A',c',rfl,how,hx6⟩
   have b6:V8 w6 wr.heap.size q:=HB5.out.ext hx6
   have hst:=stb_own how
   have f0:w6.frozen? ⟨wr.heap.size,0,none⟩=false:=RW.soft b6 0
   have f1:w6.frozen? ⟨wr.heap.size,1,none⟩=false:=RW.soft b6 1
   obtain ⟨d60,d61,d62,d63,d64,d65,d66,d67⟩:=b6.cells
   have hg7:=grown_set (grown_set (grown_refl w6 (some wr.heap.size)) 0 (.slice A' q.cp.length c')) 1 (.string q.cr)
   have b7:=RW.set (RW.set b6 0 (.slice A' q.cp.length c')) 1 (.string q.cr)
   obtain ⟨W7,e7⟩:∃ W,(w6.setCell ⟨wr.heap.size,0,none⟩ (.slice A' q.cp.length c')).setCell ⟨wr.heap.size,1,none⟩ (.string q.cr)=W:=⟨_,rfl⟩
   rw [e7] at hg7 b7
   have B7:V8 W7 wr.heap.size { q with CA:=A',cc:=c' }:=b7
   have x7:Ext wr W7:=Below.grown (HX5.out.trans hx6) hg7 (HX5.out.trans hx6).size (fun j hj=>by cases hj;exact Nat.le_refl _)
   have hin7:VV.In W7 { q with CA:=A',cc:=c' }:=RS.off (RS.of_own how) (fun _ ad hA e=>stb_nev hst b6 ad hA (by injection e with e;exact e.symm)) hg7
   obtain ⟨d70,d71,d72,d73,d74,d75,d76,d77⟩:=B7.cells
   obtain ⟨fn,tmps,assign,body,hyy,hR⟩:=hY pre { q with CA:=A',cc:=c' } W7 (hJ pre wr W7 none (by simp) (grown_none x7) HJ.out) (HI.out.ext x7) (by
    have hk:=HK.out
    subst hk
    exact ⟨HLX.out,hin7,HL8.out,fun a h=>by have h:=HQ.out _ a h;exact ⟨h.cp,h.cr,h.rq,h.su,h.pl,h.ad,h.f,h.l⟩⟩)
   dsimp only [VV.val] at hyy d70 d71 d72 d73 d74 d75 d76 d77
   clear b6 b7 B7 hg7 how hst hin7 x7 hx6 zB xz eB HB5 HX5 HCY u0 u1 u2 u3 u4 u5 u6 u7 d0 d1 d2 d3 d4 d5 d6 d7
   gi_wp2_with fail
   refine ⟨rfl,hR.mono ?_⟩
   rintro e W8 (⟨rfl,hJ3,hI3⟩ | ⟨rfl,hJx3⟩)
   ·have HJ3:=Lib.hid hJ3;have HI3:=Lib.hid hI3
    clear hJ3 hI3 hyy hR
    gi_wp2_with fail
    go_roundw
    case rel=>exact ⟨pre++[{ q with CA:=A',cc:=c' }],by rw [List.length_append,HK.out];simp;omega,by rw [List.length_append,HK.out];go_num,HJ3,HI3⟩
    case measure=>simp [intOf];omega
   ·have HX3:=Lib.hid hJx3
    clear hJx3 hyy hR
    gi_wp2_with fail
    first | go_end0 | refine bodyPost_ret (results_none rfl _ _ _) rfl ?_
    exact ⟨⟨_,rfl⟩,.inr ⟨_,by rw [List.length_append,HK.out,HN.out];simp;omega,HX3.out⟩⟩
  ·obtain rfl:k=n:=by omega
   have HPE:=Lib.hid (show pre.length=ms.length by rw [HK.out,HN.out])
   have hnx:¬ (k:Int)<(k:Int):=by omega
   clear hlt
   gi_wp2_with fail
   first | go_end0 | refine bodyPost_ret (results_none rfl _ _ _) rfl ?_
   exact ⟨⟨_,rfl⟩,.inl ⟨pre,HPE.out,HJ.out,HI.out⟩⟩
end Go.Proofs.YtnjmndofcpnmeaaGreatDoor
