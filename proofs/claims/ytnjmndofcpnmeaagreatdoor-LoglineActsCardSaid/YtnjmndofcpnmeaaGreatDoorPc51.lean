/- Pc51. -/
import Derived.Test.YtnjmndofcpnmeaaGreatDoorPc0
import Derived.Test.YtnjmndofcpnmeaaGreatDoorPc48
import Derived.Test.YtnjmndofcpnmeaaGreatDoorPc50
import Derived.Test.YtnjmndofcpnmeaaGreatDoorPc40
import Derived.Deep.CutRange
import Derived.Deep.CutBlock
import Derived.BigQuiet
import Derived.Test.YtnjmndofcpnmeaaGreatDoorPc39
import Derived.Shelf.Abstract
namespace Go.Proofs.YtnjmndofcpnmeaaGreatDoor
open Go Go.RowKit Go.Maps
set_option linter.unusedVariables false
attribute [local irreducible] wpE
attribute [local go_sem] Oper.semAt_some
theorem wpList_app {P:Program}(w:World){ops:Array Oper}{rest:List Oper}{o:Oper}{a:Act}{Q:Exit→Act→World→Prop}(hgd:o.guard=none)(s x:Operand)(t:TypeId)(ho:o.op=.call { callee:=.builtin .append,args:=#[s,x],argTypes:=#[t,t] }) (v y r:Value) (w':World) (hs:a.eval s=v) (hx:a.eval x=y) (hrun:(Builtin.append_ #[t,t] o.type #[v,y]).run P w=.ok r w') (hK:wpList P ops Q rest (a.put o.dst r) w'):wpList P ops Q (o::rest) a w:=by
 refine wpList_plain hgd fun K hK'=>?_
 unfold Oper.wp
 simp [execOp,ho,resolve,invoke,builtin,hs,hx,hrun,Result.andThen]
 exact hK' _ _ hK
theorem wp_cut_def {P:Program} {s:Code} {K:Act→World→Prop} {Q':Exit→Act→World→Prop} {a:Act} {w:World} (R:Nat→World→Prop)
  (first:∀ K':Act→World→Prop,(∀ D W',R D W'→K' { a with defers:={ target:=.collected D,args:=#[] }::a.defers } W')→s.wp P (Exit.then K' Q') a w)
  (rest:∀ D W',R D W'→K { a with defers:={ target:=.collected D,args:=#[] }::a.defers } W'):s.wp P (Exit.then K Q') a w:=by
 exact first K rest
theorem acts_nil (cap:Array Value)(w:World):(binOp .eql 53 (.func (.func 76) #[] cap) .nilFunc).run Tryz.prog w=.ok (.bool false) w:=by kernel_rfl
theorem same_acts {l:List Fct}{ms mw:List VV}{js:List Nat}{x:VV}{k:Nat}(hai:AIs l ms js)(haw:AIs l mw js)(h:k<ms.length)(h2:k<mw.length)(hx:∀ a,(ms[k]'h).Is a→x.Is a):∃ a,x.Is a∧(mw[k]'h2).Is a:=
 ⟨actF l (js[k]'(by rw [← hai.1];exact h)),hx _ (hai.2.1 k h _),haw.2.1 k h2 _⟩
set_option maxRecDepth 100000 in
set_option maxHeartbeats 4000000 in
theorem lawLgAc (A:Option Addr) (c:Nat) (xs:List FV) (many:Int) (w:World) (hF:FS w (.slice A xs.length c) xs) (hwf:∀ f∈xs,f.Wf) (hm:i64B many) (hE:EnvA w):
  Calls Tryz.prog 4 #[.slice A xs.length c,.int .i64 many] w fun e w'=>e=.returned (.bool true)∧Ext w w':=by
 have hmm:=@run_makeMap Tryz.prog
 obtain ⟨wb,hwb⟩:∃ wb,wb=(w.alloc (.cells #[.int .i64 many] 3)).alloc (.cells #[.bool false] 4):=⟨_,rfl⟩
 have hxb:Ext w wb:=by rw [hwb];exact ((Ext.refl w).alloc _).alloc _
 have g3:wb.heap[w.heap.size]? = some (.cells #[.int .i64 many] 3 (0,0)):=by rw [hwb];exact ((Ext.refl _).alloc _).heap (heap_alloc_new w _)
 have g4:wb.heap[w.heap.size+1]? = some (.cells #[.bool false] 4 (0,0)):=by
  rw [hwb]
  have h:=heap_alloc_new (w.alloc (.cells #[.int .i64 many] 3)) (.cells #[.bool false] 4)
  rwa [World.size_alloc] at h
 have hzb:wb.heap.size=w.heap.size+2:=by rw [hwb];simp
 have HFW:=Lib.hid (fun W (hx:Ext w W)=>Few_at A c xs W (hF.ext hx))
 have HFX:=Lib.hid (fun W (hx:Ext w W)=>hF.ext hx)
 have HE:=Lib.hid hE;have HWF:=Lib.hid hwf;have HXB:=Lib.hid hxb;have G3:=Lib.hid g3;have G4:=Lib.hid g4;have HZB:=Lib.hid hzb
 obtain ⟨fb,hfb⟩:∃ b,fewB xs=b:=⟨_,rfl⟩
 rw [hfb] at HFW
 obtain ⟨n,hn'⟩:∃ n,xs.length=n:=⟨_,rfl⟩
 have HN:=Lib.hid hn'
 rw [hn'] at HFW HFX ⊢
 clear hF hE hwf hn' hm hxb g3 g4 hzb
 cases fb with
 | false=>
  clear hfb
  go_enter Tryz.func4,Tryz.ntmps4
  go_wp2_with fail
  rw [← hwb]
  refine (HFW.out wb HXB.out).mono ?_
  rintro _ w1 ⟨rfl,hx1⟩
  have HX1:=Lib.hid hx1
  clear hx1
  go_wp2_with fail
  refine (LKnown_at _ (HE.out.ext (HXB.out.trans HX1.out))).mono ?_
  rintro _ wk ⟨rfl,hxk⟩
  have e4:=hxk.heap (HX1.out.heap G4.out)
  obtain ⟨k4,f4⟩:=row1 e4
  have hc:=(row1 (row1_set (.bool true) e4)).1
  have HXK:=Lib.hid ((HXB.out.trans HX1.out).trans hxk)
  clear hxk e4
  go_wp2_with fail
  refine bodyPost_ret (v:=.bool true) (by simp [results,Tryz.results4,go_sem,hc]) rfl ?_
  exact ⟨rfl,HXK.out.setCell (p:=⟨w.heap.size+1,0,none⟩) (show w.heap.size≤w.heap.size+1 by omega) _⟩
 | true=>
 have HSZ:=Lib.hid (fewB_yes hfb).1
 have hn40:n≤40:=by have:=(fewB_yes hfb).2;rw [HN.out] at this;exact this
 clear hfb
 have HN40:=Lib.hid hn40
 refine calls_of_marks Tryz.func4 rfl ?_
 simp only [Tryz.ntmps4,List.size_toArray,List.length_cons,List.length_nil,Nat.reduceAdd,Nat.reduceSub,Array.replicate_succ,Array.replicate_zero,List.push_toArray,List.append_toArray,List.nil_append,List.cons_append]
 go_wp2_with fail
 rw [← hwb]
 refine (HFW.out wb HXB.out).mono ?_
 rintro _ w2 ⟨rfl,hx2⟩
 have HX2:=Lib.hid hx2
 obtain ⟨A1,c1,w3,hrun3,hfs3,how3,hx3⟩:=run_app_facts w2 22 A c n xs HN.out (HFX.out w2 (HXB.out.trans hx2)) (by omega)
 have HX3:=Lib.hid hx3;have HOW3:=Lib.hid how3
 have HAC:=Lib.hid (Activities_at A1 c1 xs w3 (by rw [HN.out];exact hfs3) (by rw [HN.out];omega) HSZ.out (fun f hf=>(HWF.out f hf).fk) (HE.out.ext ((HXB.out.trans hx2).trans hx3)).env.pow)
 rw [HN.out] at HAC
 clear hwb hx2 hfs3 how3 hx3 HFW
 go_wp2_with (at_builtin;refine wpList_app _ rfl _ _ 22 rfl _ _ _ _ rfl rfl hrun3 ?_)
 refine HAC.out.mono ?_
 rintro _ w4 ⟨⟨gI,A2,c2,ms,js,rfl,hbx,hrds,hin,hai,hal,hgi,hA2,hst⟩,hx4⟩
 have HAI:=Lib.hid hai
 have HAL:=Lib.hid hal
 have HIT:=Lib.hid (fun W (hO:∀ b,(Value.slice A1 n c1).ownBlock=some b→b<w3.heap.size∧∃ cur,w4.heap[b]? = some (.cells cur 41 (0,0))) (hg:w4.grownBy W (Value.slice A1 n c1).ownBlock)=>AcIt.off hbx hrds hin hgi hA2 hst hO hg)
 have HOW4:=Lib.hid (HOW3.out.ext hx4)
 have HB4:=Lib.hid (show Ext wb w4 from (HX2.out.trans HX3.out).trans hx4)
 have HOB:=Lib.hid (show ∀ b,(Value.slice A1 n c1).ownBlock=some b→w2.heap.size≤b∧b<w3.heap.size∧∃ cur,w4.heap[b]? = some (.cells cur 41 (0,0)) from fun b hb=>by
  rcases HOW3.out.2.2 with ⟨_,h0⟩ | ⟨g,cur,h1,h2,h3,h4⟩
  ·rw [h0] at hb;cases hb
  ·rw [h1] at hb
   injection hb with hb
   have hb:g=b:=hb
   subst hb
   exact ⟨h2,(Array.getElem?_eq_some_iff.1 h3).1,cur,hx4.heap h3⟩)
 clear hbx hrds hin hai hal hgi hA2 hst hx4 HAC hrun3
 go_wp2_with fail
 go_loopw [7] (fun v wr=>∃ k:Nat,k≤n∧v=.int .i64 k∧Hid (w4.grownBy wr (Value.slice A1 n c1).ownBlock)∧Hid (OWR wr w2.heap.size A1 n c1)) (fun v _=>n-(intOf v).toNat)
 case atStart=>exact ⟨0,Nat.zero_le _,rfl,Lib.hid (grown_refl _ _),HOW4⟩
 case round=>
  obtain ⟨k,hk,rfl,HGR,HOW⟩:=hrel
  by_cases hlt:k<n
  ·obtain ⟨hnc,hcm,hor⟩:=HOW.out
   rcases hor with ⟨h0,_⟩ | ⟨g,cur,rfl,hg,hh,hsz⟩
   ·omega
   have HH:=Lib.hid hh;have HG:=Lib.hid hg
   have hks:k*12+12≤cur.size:=by omega
   have HKS:=Lib.hid hks
   have HNC:=Lib.hid hnc;have HCM:=Lib.hid hcm;have HSC:=Lib.hid hsz
   clear hh hg hks hsz hnc hcm
   go_wp2_with (first | (refine wpList_store_row wr rfl (.tmp 35) (.tmp 34) 41 rfl g (k*12) 41 cur #[.int .i64 0,.int .i64 0,.int .i64 0,.int .i64 0,.slice none 0 0,.slice none 0 0,.string ⟨#[]⟩,.slice none 0 0,.string ⟨#[]⟩,.int .i64 0,.int .i64 0,.int .u32 0] rfl rfl (Tryz.sizeOf41 wr) HH.out (by have:=HKS.out;simpa using this) (one8 rfl) ?_;intro w' cu hh' hcs hgr;have HH':=Lib.hid hh';have HCS:=Lib.hid hcs;have HGR':=Lib.hid hgr;clear hh' hcs hgr) | fail)
   go_roundw
   case rel=>exact ⟨k+1,by omega,by go_num,Lib.hid (grown_trans HGR.out HGR'.out),Lib.hid ⟨HNC.out,HCM.out,.inr ⟨g,cu,rfl,HG.out,HH'.out,by rw [HCS.out];exact HSC.out⟩⟩⟩
   case measure=>simp [intOf];omega
  ·obtain rfl:n=k:=by omega
   obtain ⟨wo,rfl⟩:∃ wo:World,wo=wr:=⟨_,rfl⟩
   have hit:=HIT.out wo (fun b hb=>(HOB.out b hb).2) HGR.out
   have hxo:Ext wb wo:=HB4.out.grown HGR.out (fun j hj=>by have h1:=(HOB.out j hj).1;have h2:=HX2.out.size;omega)
   have HITO:=Lib.hid hit;have HXO:=Lib.hid hxo
   have HRA:=Lib.hid (RActivities_at A c xs wo (by rw [HN.out];exact HFX.out wo (HXB.out.trans hxo)) (by rw [HN.out];omega) HSZ.out)
   rw [HN.out] at HRA
   have hnn:¬ ((n:Int)<(n:Int)):=by omega
   have hq:=acts_nil #[.pointer (some ⟨gI,0,none⟩)]
   clear hit hxo HIT HOB HB4 HOW4 HOW HGR
   go_wp2_with fail
   refine HRA.out.mono ?_
   rintro _ w5 ⟨⟨AW,cW,mw,jw,rfl,hrw,hiw,haw,hlw⟩,hx5⟩
   obtain rfl:jw=js:=hlw.uniq HAL.out
   have HRW:=Lib.hid hrw;have HIW:=Lib.hid hiw;have HAW:=Lib.hid haw
   have HLE:=Lib.hid (show ms.length=mw.length by rw [HAI.out.1,haw.1])
   have HIT5:=Lib.hid (HITO.out.ext hx5);have HX5:=Lib.hid (HXO.out.trans hx5)
   obtain ⟨nw,hnw⟩:∃ nw,mw.length=nw:=⟨_,rfl⟩
   have HNW:=Lib.hid hnw
   rw [hnw] at HLE HRW ⊢
   have hnw40:nw≤40:=by have h1:=haw.1;have h2:=hlw.len;rw [List.length_map,HN.out] at h2;omega
   clear hrw hiw haw hlw hx5 HRA hnw HITO HXO
   go_wp2_with fail
   obtain ⟨V0,hV0⟩:∃ V0,V0=w5.alloc (.cells #[.slice AW nw cW] 55):=⟨_,rfl⟩
   have x50:Ext w5 V0:=by rw [hV0];exact (Ext.refl _).alloc _
   have g8:V0.heap[w5.heap.size]? = some (.cells #[.slice AW nw cW] 55 (0,0)):=by rw [hV0];exact heap_alloc_new w5 _
   have hz0:V0.heap.size=w5.heap.size+1:=by rw [hV0];simp
   obtain ⟨wt0,hwt0⟩:∃ W,W=V0.alloc (.cells #[.int .i64 0] 3):=⟨_,rfl⟩
   have g90:wt0.heap[w5.heap.size+1]? = some (.cells #[.int .i64 0] 3 (0,0)):=by rw [hwt0,← hz0];exact heap_alloc_new V0 _
   have x0t:Ext V0 wt0:=by rw [hwt0];exact (Ext.refl _).alloc _
   rw [← hV0,← hwt0]
   obtain ⟨b8,hb8⟩:∃ b,b=w5.heap.size:=⟨_,rfl⟩
   obtain ⟨B90,hB90⟩:∃ B,B=w5.heap.size+1:=⟨_,rfl⟩
   rw [← hB90] at g90 ⊢
   rw [← hb8] at g8 ⊢
   have HX50:=Lib.hid (HX5.out.trans x50)
   have J3:=Lib.hid (HX50.out.heap G3.out);have J4:=Lib.hid (HX50.out.heap G4.out);have J8:=Lib.hid g8
   have HIT0:=Lib.hid (HIT5.out.ext x50)
   have HRW:=Lib.hid (HRW.out.ext x50);have HIW:=Lib.hid (fun m hm=>VV.In.ext (HIW.out m hm) x50)
   have HML:=Lib.hid (show ms.length≤1000 by have:=HLE.out;omega)
   have HMC:=Lib.hid HAI.out.2.2
   have hBV:V0.heap.size≤B90:=by omega
   have HBV:=Lib.hid hBV
   clear hV0 hwt0 hz0 hb8 hB90 g8 x50 HX5 HIT5
   refine wp_loop_rounds 3 ?_
   rw [rounds_succ]
   have k90:=(row1 g90).1
   go_upto_block 4 with fail
   obtain ⟨V,hV⟩:∃ V,V=wt0.alloc (.cells #[.int .i64 0] 3):=⟨_,rfl⟩
   have xtV:Ext wt0 V:=by rw [hV];exact (Ext.refl _).alloc _
   have g10:V.heap[wt0.heap.size]? = some (.cells #[.int .i64 0] 3 (0,0)):=by rw [hV];exact heap_alloc_new wt0 _
   rw [← hV]
   obtain ⟨b10,hb10⟩:∃ b,b=wt0.heap.size:=⟨_,rfl⟩
   rw [← hb10] at g10 ⊢
   have hIV:AIV V0 B90 b10 0 ((([]:List VV).length:Nat):Int) V:=⟨x0t.trans xtV,xtV.heap g90,g10⟩
   have hV0V:V0.heap.size≤V.heap.size:=hIV.1.size
   have hb9:B90<wt0.heap.size:=(Array.getElem?_eq_some_iff.1 g90).1
   have HD:=Lib.hid (show B90≠b10∧V0.heap.size≤b10 by have:=x0t.size;exact ⟨by omega,by omega⟩)
   clear hV xtV g10 hb10 k90 g90 x0t hb9
   refine wp_cut_def (R:=fun D W=>V0.heap.size≤D∧∃ k:Int,AIV V0 B90 b10 0 k W∧W.heap[D]? = some (.deferred (some []))) ?_ ?_
   ·intro K' hK'
    go_wp2_with fail
    refine wpIn_wide.1 (wp_range (gf:=76) (lb:=#[.pointer (some ⟨gI,0,none⟩)]) rfl (Go.Proofs.enters_of Tryz.func76 (by kernel_rfl) rfl)
     (acts_iter gI A2 c2 ms HML.out HMC.out) (fun _=>rfl) (fun _ h=>h.elim) (HIT0.out.ext hIV.1) (AcIt.stab _ _ _ _ _)
     (fun pre W=>AIV V0 B90 b10 0 (pre.length:Int) W)
     (fun cd pre W=>cd=.exit 4∧AIV V0 B90 b10 0 (pre.length:Int) W)
     (fun pre=>(AIV.stab (V0:=V0) (B:=V.heap.size) _ _ _ _ hV0V)) (fun cd pre=>(Stab.pure _).and (AIV.stab (V0:=V0) (B:=V.heap.size) _ _ _ _ hV0V))
     (fun pre X Z r hr hg h=>(AIV.stab (V0:=V0) (B:=V.heap.size) _ _ _ _ hV0V).later (grown_of_ext (by cases r with | none=>exact hg | some k=>exact (hr k rfl).elim)) h)
     (fun cd pre X Z r hr hg h=>⟨h.1,(AIV.stab (V0:=V0) (B:=V.heap.size) _ _ _ _ hV0V).later (grown_of_ext (by cases r with | none=>exact hg | some k=>exact (hr k rfl).elim)) h.2⟩)
     hIV ?_ ?_ ?_)
    focus
     intro L pre x W hL hnL hzW hIW hitW hGW
     obtain ⟨hlt,hxin,hx1000,hxis⟩:=hGW
     have hltw:pre.length<mw.length:=by rw [HNW.out,← HLE.out];exact hlt
     obtain ⟨act,hxa,hwa⟩:=same_acts HAI.out HAW.out hlt hltw hxis
     have zB:=heap_alloc_new W (.cells #[.slice none 0 0,.string ⟨#[]⟩,.int .i64 0,.int .i64 0,.int .i64 0,.int .i64 0,.int .i64 0,.int .i64 0] 58)
     have xz:=(Ext.refl W).alloc (.cells #[.slice none 0 0,.string ⟨#[]⟩,.int .i64 0,.int .i64 0,.int .i64 0,.int .i64 0,.int .i64 0,.int .i64 0] 58)
     obtain ⟨WB,eB⟩:∃ W',W.alloc (.cells #[.slice none 0 0,.string ⟨#[]⟩,.int .i64 0,.int .i64 0,.int .i64 0,.int .i64 0,.int .i64 0,.int .i64 0] 58)=W':=⟨_,rfl⟩
     rw [eB] at zB xz
     dsimp only [VV.val]
     gi_wp2_with (first | (refine wpListIn_store_var WB rfl (.tmp 11) (.tmp 45) 58 rfl W.heap.size 58 #[.slice none 0 0,.string ⟨#[]⟩,.int .i64 0,.int .i64 0,.int .i64 0,.int .i64 0,.int .i64 0,.int .i64 0] #[.slice x.CA x.cp.length x.cc,.string x.cr,.int .i64 x.rq,.int .i64 x.su,.int .i64 x.pl,.int .i64 x.ad,.int .i64 x.f,.int .i64 x.l] rfl rfl (Tryz.sizeOf58 WB) zB rfl (one8 rfl) ?_;intro W1 b1 hg1) | fail)
     have x1:Ext W W1:=Below.grown xz hg1 xz.size (fun j hj=>by cases hj;exact Nat.le_refl _)
     refine ⟨x1.keepsOthers.from _,fun W2 hg2 hn2 hz2=>?_⟩
     have hI2:=((AIV.stab (V0:=V0) (B:=V.heap.size) B90 b10 0 (pre.length:Int) hV0V)) W1 W2 L hL hn2 hg2 (AIV.ext hIW x1)
     have hb2:V8 W2 W.heap.size x:=heap_nc hn2 hg2 b1
     have hxin2:x.In W2:=(Stab.rs (B:=0) _ _) W1 W2 L (Nat.zero_le _) hn2 hg2 (RS.ext hxin x1)
     have HI2:=Lib.hid hI2;have HB2:=Lib.hid hb2
     obtain ⟨pw,hAW,h8⟩:=(HRW.out.ext hI2.1).act_at pre.length hltw
     have hpin:=(HIW.out _ (List.getElem_mem hltw)).ext hI2.1
     have hp1000:=HAW.out.2.2 _ (List.getElem_mem hltw)
     obtain ⟨q,hq⟩:∃ q,mw[pre.length]'hltw=q:=⟨_,rfl⟩
     rw [hq] at h8 hpin hp1000 hwa
     have HSM:=Lib.hid (fun W' (hx:Ext W2 W')=>show Calls Tryz.prog 21 #[.agg #[.slice x.CA x.cp.length x.cc,.string x.cr,.int .i64 x.rq,.int .i64 x.su,.int .i64 x.pl,.int .i64 x.ad,.int .i64 x.f,.int .i64 x.l],.agg #[.slice q.CA q.cp.length q.cc,.string q.cr,.int .i64 q.rq,.int .i64 q.su,.int .i64 q.pl,.int .i64 q.ad,.int .i64 q.f,.int .i64 q.l]] W' fun e w'=>e=.returned (.bool true)∧Ext W' w' from by
      have k:=SameV_at x q W' (hxin2.ext hx) (VV.In.ext hpin hx) hx1000 hp1000
      rw [sameV_is hxa hwa] at k
      exact k)
     have hkn40:(pre.length:Int)≤40:=by have:=HNW.out;omega
     have hlt2:(pre.length:Int)<(nw:Int):=by have:=HNW.out;omega
     have HPL:=Lib.hid (show ((pre++[x]).length:Int)=(pre.length:Int)+1 by rw [List.length_append,List.length_singleton];omega)
     have HLI:=Lib.hid hlt2
     have K10:=Lib.hid (row1 hI2.2.2).1
     have K8:=Lib.hid ((row1 (hI2.1.heap J8.out)).1)
     have HW8:=Lib.hid h8
     obtain ⟨kn,hkn⟩:∃ kn:Nat,pre.length=kn:=⟨_,rfl⟩
     rw [hkn] at hkn40 hlt2 HLI HPL HI2 K10 HW8
     have HKN:=Lib.hid hkn
     have hq49:decide ((nw:Int)≤(kn:Int))=false:=decide_eq_false (by omega)
     have hq50:decide (nw≤kn)=false:=decide_eq_false (by omega)
     have HHB:=Lib.hid hb2
     clear hIW hitW hg2 hn2 hnL hI2 hb2 hxin2 x1 b1 hg1 zB xz eB h8 hpin hp1000 hxa hwa hq hkn hxin hx1000 hxis hlt hltw hzW hz2
     subst hAW
     gi_wp2_with fail
     refine wp_round_ext (fun i v' w'=>match i with | 10=>v'=.bool true | _=>False) (by kernel_rfl) (by kernel_rfl) ?_
     refine wpE_op rfl rfl (fun w' hw' K' hK'=>?_)
     have hE:=hw'.1
     have u0:=((Ext.drew W2).trans hE).cell K10.out
     go_step
     refine hK' _ ⟨_,rfl⟩ ?_
     clear hK' K' u0 hE hw' w'
     refine wpE_op rfl rfl (fun w' hw' K' hK'=>?_)
     have hE:=hw'.1
     have u0:=((Ext.drew W2).trans hE).cell K8.out
     go_step
     refine hK' _ ⟨_,rfl⟩ ?_
     clear hK' K' u0 hE hw' w'
     refine wpE_op rfl rfl (fun w' hw' K' hK'=>?_)
     have hE:=hw'.1
     go_step
     refine hK' _ ⟨_,rfl⟩ ?_
     clear hK' K' hE hw' w'
     refine wpE_op rfl rfl (fun w' hw' K' hK'=>?_)
     have hE:=hw'.1
     have hl1:=HLI.out
     go_step
     refine hK' _ ⟨_,rfl⟩ ?_
     clear hK' K' hl1 hE hw' w'
     refine wpE_op rfl rfl (fun w' hw' K' hK'=>?_)
     have hE:=hw'.1
     go_step
     refine hK' _ ⟨_,rfl⟩ ?_
     clear hK' K' hE hw' w'
     refine wpE_op (by kernel_rfl) rfl (fun w' hw' K' hK'=>?_)
     have hE:=hw'.1
     obtain ⟨a0,a1,a2,a3,a4,a5,a6,a7⟩:=(HB2.out.ext ((Ext.drew W2).trans hE)).cells
     go_step
     refine hK' _ ⟨_,rfl⟩ ?_
     clear hK' K' a0 a1 a2 a3 a4 a5 a6 a7 hE hw' w'
     refine wpE_op (by kernel_rfl) rfl (fun w' hw' K' hK'=>?_)
     have hE:=hw'.1
     have u0:=((Ext.drew W2).trans hE).cell K8.out
     go_step
     refine hK' _ ⟨_,rfl⟩ ?_
     clear hK' K' u0 hE hw' w'
     refine wpE_op (by kernel_rfl) rfl (fun w' hw' K' hK'=>?_)
     have hE:=hw'.1
     have u0:=((Ext.drew W2).trans hE).cell K10.out
     go_step
     refine hK' _ ⟨_,rfl⟩ ?_
     clear hK' K' u0 hE hw' w'
     refine wpE_op (by kernel_rfl) rfl (fun w' hw' K' hK'=>?_)
     have hE:=hw'.1
     have hl1:=HLI.out
     go_step
     refine hK' _ ⟨_,rfl⟩ ?_
     clear hK' K' hl1 hE hw' w'
     refine wpE_op (by kernel_rfl) rfl (fun w' hw' K' hK'=>?_)
     have hE:=hw'.1
     obtain ⟨a0,a1,a2,a3,a4,a5,a6,a7⟩:=(HW8.out.ext ((Ext.drew W2).trans hE)).cells
     go_step
     refine hK' _ ⟨_,rfl⟩ ?_
     clear hK' K' a0 a1 a2 a3 a4 a5 a6 a7 hE hw' w'
     refine wpE_call 56 rfl (by simp) (by kernel_rfl) (fun w' hw' K' hK'=>?_) ?_
     ·have hE:=hw'.1
      go_step
      refine (HSM.out w' ((Ext.drew W2).trans hE)).mono ?_
      rintro _ w2 ⟨rfl,hx⟩
      exact hK' _ _ ⟨_,rfl,rfl⟩ hx
     rintro _ w6 _ rfl
     simp only [Act.put,sT1,sT2,sT3]
     refine wpE_op (by kernel_rfl) rfl (fun w' hw' K' hK'=>?_)
     have hE:=hw'.1
     go_step
     refine hK' _ ⟨_,rfl⟩ ?_
     clear hK' K' hE hw' w'
     refine wpE_op rfl rfl (fun w' hw' K' hK'=>?_)
     have hE:=hw'.1
     go_step
     refine hK' _ ⟨_,rfl⟩ ?_
     clear hK' K' hE hw' w'
     refine wpE_nil (fun W3 hW3=>?_)
     have x3:Ext W2 W3:=(Ext.drew W2).trans hW3.1
     have HI3:=Lib.hid (HI2.out.ext x3)
     have hI4:=HI3.out.set HD.out.1 HD.out.2 ((kn:Int)+1)
     have hk4:KeepsFrom V.heap.size W2 (W3.setCell ⟨b10,0,none⟩ (.int .i64 ((kn:Int)+1))):=(x3.keepsOthers.trans (KeepsOthers.setCell _ _ _)).from _
     have hfin:KeepsFrom V.heap.size W2 (W3.setCell ⟨b10,0,none⟩ (.int .i64 ((kn:Int)+1)))∧AcIt gI A2 c2 ms (W3.setCell ⟨b10,0,none⟩ (.int .i64 ((kn:Int)+1)))∧AIV V0 B90 b10 0 (((pre++[x]).length:Nat):Int) (W3.setCell ⟨b10,0,none⟩ (.int .i64 ((kn:Int)+1))):=⟨hk4,HIT0.out.ext hI4.1,(by rw [HPL.out];exact hI4)⟩
     have HF:=Lib.hid hfin
     obtain ⟨j10,l10⟩:=row1 HI3.out.2.2
     obtain ⟨m10,_⟩:=row1 hI4.2.2
     obtain ⟨m9,_⟩:=row1 hI4.2.1
     have m3:=(row1 (hI4.1.heap J3.out)).1
     clear hfin hk4 hI4 x3 hW3
     by_cases hbr:many≤(kn:Int)+1
     ·have hbd:decide (many≤(kn:Int)+1)=true:=decide_eq_true hbr
      gi_wp2_with fail
      exact ⟨HF.out.1,rfl,HF.out.2.2⟩
     ·have hbd:decide (many≤(kn:Int)+1)=false:=decide_eq_false hbr
      gi_wp2_with fail
      exact HF.out
    focus
     intro D ys W hDw hS hIW hitW hDr
     have hR:V0.heap.size≤D∧∃ k:Int,AIV V0 B90 b10 0 k W∧W.heap[D]? = some (.deferred (some [])):=⟨by omega,_,hIW,hDr⟩
     have HR:=Lib.hid hR
     clear hR hS hIW hitW hDr hIV
     first | exact hK' D W HR.out | (go_wp2_with fail;exact hK' D W HR.out)
    focus
     rintro D cd ys W hDw hSp ⟨rfl,hIW⟩ hDr
     refine wpIn_wide.2 ?_
     have HR:=Lib.hid (show V0.heap.size≤D∧∃ k:Int,AIV V0 B90 b10 0 k W∧W.heap[D]? = some (.deferred (some [])) from ⟨by omega,_,hIW,hDr⟩)
     clear hSp hIW hDr hIV
     go_wp2_with fail
     first | exact HR.out | exact hK' D W HR.out
   intro D0 W6 hR6
   obtain ⟨hD0V,k6,hI6,hD06⟩:=hR6
   have HI6:=Lib.hid hI6;have HD06:=Lib.hid hD06
   have i9:=(row1 hI6.2.1).1
   clear hI6 hD06 hIV hV0V HD
   go_wp2_with fail
   obtain ⟨wt1,hwt1⟩:∃ W,W=W6.alloc (.cells #[.int .i64 1] 3):=⟨_,rfl⟩
   have x61:Ext W6 wt1:=by rw [hwt1];exact (Ext.refl _).alloc _
   have g91:wt1.heap[W6.heap.size]? = some (.cells #[.int .i64 1] 3 (0,0)):=by rw [hwt1];exact heap_alloc_new W6 _
   rw [← hwt1]
   obtain ⟨B91,hB91⟩:∃ b,b=W6.heap.size:=⟨_,rfl⟩
   rw [← hB91] at g91 ⊢
   have hBV1:V0.heap.size≤B91:=by rw [hB91];exact HI6.out.1.size
   have x0t1:Ext V0 wt1:=HI6.out.1.trans x61
   have hD01:=x61.heap HD06.out
   clear hwt1 hB91 x61 i9
   rw [rounds_succ]
   have k91:=(row1 g91).1
   go_upto_block 4 with fail
   obtain ⟨Y,hY⟩:∃ Y,Y=wt1.alloc (.cells #[.int .i64 0] 3):=⟨_,rfl⟩
   have xtY:Ext wt1 Y:=by rw [hY];exact (Ext.refl _).alloc _
   have g11:Y.heap[wt1.heap.size]? = some (.cells #[.int .i64 0] 3 (0,0)):=by rw [hY];exact heap_alloc_new wt1 _
   rw [← hY]
   obtain ⟨b11,hb11⟩:∃ b,b=wt1.heap.size:=⟨_,rfl⟩
   rw [← hb11] at g11 ⊢
   have hIY:AIV V0 B91 b11 1 ((([]:List VV).length:Nat):Int) Y:=⟨x0t1.trans xtY,xtY.heap g91,g11⟩
   have hV0Y:V0.heap.size≤Y.heap.size:=hIY.1.size
   have hb91:B91<wt1.heap.size:=(Array.getElem?_eq_some_iff.1 g91).1
   have hD0Y:=xtY.heap hD01
   have hD0lt:D0<Y.heap.size:=(Array.getElem?_eq_some_iff.1 hD0Y).1
   have HDY:=Lib.hid (show B91≠b11∧V0.heap.size≤b11 by have:=x0t1.size;exact ⟨by omega,by omega⟩)
   clear hY xtY g11 hb11 k91 g91 x0t1 hb91 hD01 HI6 HD06
   go_wp2_with fail
   refine wpIn_wide.1 (wp_range (gf:=76) (lb:=#[.pointer (some ⟨gI,0,none⟩)]) rfl (Go.Proofs.enters_of Tryz.func76 (by kernel_rfl) rfl)
    (acts_iter gI A2 c2 ms HML.out HMC.out) (fun _=>rfl) (fun _ h=>h.elim) (HIT0.out.ext hIY.1) (AcIt.stab _ _ _ _ _)
    (fun pre W=>AIV V0 B91 b11 1 (pre.length:Int) W∧W.heap[D0]? = some (.deferred (some [])))
    (fun _ _ _=>False)
    (fun pre=>((AIV.stab (V0:=V0) (B:=Y.heap.size) _ _ _ _ hV0Y).and (Stab.obj _ _ hD0lt))) (fun _ _=>Stab.pure _)
    (fun pre X Z r hr hg h=>((AIV.stab (V0:=V0) (B:=Y.heap.size) _ _ _ _ hV0Y).and (Stab.obj _ _ hD0lt)).later (grown_of_ext (by cases r with | none=>exact hg | some k=>exact (hr k rfl).elim)) h)
    (fun _ _ _ _ _ _ _ h=>h)
    ⟨hIY,hD0Y⟩ ?_ ?_ ?_)
   focus
    intro L pre x W hL hnL hzW hIW hitW hGW
    obtain ⟨hlt,hxin,hx1000,hxis⟩:=hGW
    have hltw:pre.length<mw.length:=by rw [HNW.out,← HLE.out];exact hlt
    obtain ⟨act,hxa,hwa⟩:=same_acts HAI.out HAW.out hlt hltw hxis
    have zB:=heap_alloc_new W (.cells #[.slice none 0 0,.string ⟨#[]⟩,.int .i64 0,.int .i64 0,.int .i64 0,.int .i64 0,.int .i64 0,.int .i64 0] 58)
    have xz:=(Ext.refl W).alloc (.cells #[.slice none 0 0,.string ⟨#[]⟩,.int .i64 0,.int .i64 0,.int .i64 0,.int .i64 0,.int .i64 0,.int .i64 0] 58)
    obtain ⟨WB,eB⟩:∃ W',W.alloc (.cells #[.slice none 0 0,.string ⟨#[]⟩,.int .i64 0,.int .i64 0,.int .i64 0,.int .i64 0,.int .i64 0,.int .i64 0] 58)=W':=⟨_,rfl⟩
    rw [eB] at zB xz
    dsimp only [VV.val]
    gi_wp2_with (first | (refine wpListIn_store_var WB rfl (.tmp 11) (.tmp 45) 58 rfl W.heap.size 58 #[.slice none 0 0,.string ⟨#[]⟩,.int .i64 0,.int .i64 0,.int .i64 0,.int .i64 0,.int .i64 0,.int .i64 0] #[.slice x.CA x.cp.length x.cc,.string x.cr,.int .i64 x.rq,.int .i64 x.su,.int .i64 x.pl,.int .i64 x.ad,.int .i64 x.f,.int .i64 x.l] rfl rfl (Tryz.sizeOf58 WB) zB rfl (one8 rfl) ?_;intro W1 b1 hg1) | fail)
    have x1:Ext W W1:=Below.grown xz hg1 xz.size (fun j hj=>by cases hj;exact Nat.le_refl _)
    refine ⟨x1.keepsOthers.from _,fun W2 hg2 hn2 hz2=>?_⟩
    have hI2:=((AIV.stab (V0:=V0) (B:=Y.heap.size) B91 b11 1 (pre.length:Int) hV0Y).and (Stab.obj D0 _ hD0lt)) W1 W2 L hL hn2 hg2 ⟨hIW.1.ext x1,x1.heap hIW.2⟩
    have hb2:V8 W2 W.heap.size x:=heap_nc hn2 hg2 b1
    have hxin2:x.In W2:=(Stab.rs (B:=0) _ _) W1 W2 L (Nat.zero_le _) hn2 hg2 (RS.ext hxin x1)
    obtain ⟨hI2,hDW2⟩:=hI2
    have HDW2:=Lib.hid hDW2
    have HI2:=Lib.hid hI2;have HB2:=Lib.hid hb2
    obtain ⟨pw,hAW,h8⟩:=(HRW.out.ext hI2.1).act_at pre.length hltw
    have hpin:=(HIW.out _ (List.getElem_mem hltw)).ext hI2.1
    have hp1000:=HAW.out.2.2 _ (List.getElem_mem hltw)
    obtain ⟨q,hq⟩:∃ q,mw[pre.length]'hltw=q:=⟨_,rfl⟩
    rw [hq] at h8 hpin hp1000 hwa
    have HSM:=Lib.hid (fun W' (hx:Ext W2 W')=>show Calls Tryz.prog 21 #[.agg #[.slice x.CA x.cp.length x.cc,.string x.cr,.int .i64 x.rq,.int .i64 x.su,.int .i64 x.pl,.int .i64 x.ad,.int .i64 x.f,.int .i64 x.l],.agg #[.slice q.CA q.cp.length q.cc,.string q.cr,.int .i64 q.rq,.int .i64 q.su,.int .i64 q.pl,.int .i64 q.ad,.int .i64 q.f,.int .i64 q.l]] W' fun e w'=>e=.returned (.bool true)∧Ext W' w' from by
     have k:=SameV_at x q W' (hxin2.ext hx) (VV.In.ext hpin hx) hx1000 hp1000
     rw [sameV_is hxa hwa] at k
     exact k)
    have hkn40:(pre.length:Int)≤40:=by have:=HNW.out;omega
    have hlt2:(pre.length:Int)<(nw:Int):=by have:=HNW.out;omega
    have HPL:=Lib.hid (show ((pre++[x]).length:Int)=(pre.length:Int)+1 by rw [List.length_append,List.length_singleton];omega)
    have HLI:=Lib.hid hlt2
    have K10:=Lib.hid (row1 hI2.2.2).1
    have K8:=Lib.hid ((row1 (hI2.1.heap J8.out)).1)
    have HW8:=Lib.hid h8
    obtain ⟨kn,hkn⟩:∃ kn:Nat,pre.length=kn:=⟨_,rfl⟩
    rw [hkn] at hkn40 hlt2 HLI HPL HI2 K10 HW8
    have HKN:=Lib.hid hkn
    have hq49:decide ((nw:Int)≤(kn:Int))=false:=decide_eq_false (by omega)
    have hq50:decide (nw≤kn)=false:=decide_eq_false (by omega)
    have HHB:=Lib.hid hb2
    clear hIW hitW hg2 hn2 hnL hI2 hb2 hxin2 x1 b1 hg1 zB xz eB h8 hpin hp1000 hxa hwa hq hkn hxin hx1000 hxis hlt hltw hzW hz2
    subst hAW
    gi_wp2_with fail
    refine wp_round_ext (fun i v' w'=>match i with | 10=>v'=.bool true | _=>False) (by kernel_rfl) (by kernel_rfl) ?_
    refine wpE_op rfl rfl (fun w' hw' K' hK'=>?_)
    have hE:=hw'.1
    have u0:=((Ext.drew W2).trans hE).cell K10.out
    go_step
    refine hK' _ ⟨_,rfl⟩ ?_
    clear hK' K' u0 hE hw' w'
    refine wpE_op rfl rfl (fun w' hw' K' hK'=>?_)
    have hE:=hw'.1
    have u0:=((Ext.drew W2).trans hE).cell K8.out
    go_step
    refine hK' _ ⟨_,rfl⟩ ?_
    clear hK' K' u0 hE hw' w'
    refine wpE_op rfl rfl (fun w' hw' K' hK'=>?_)
    have hE:=hw'.1
    go_step
    refine hK' _ ⟨_,rfl⟩ ?_
    clear hK' K' hE hw' w'
    refine wpE_op rfl rfl (fun w' hw' K' hK'=>?_)
    have hE:=hw'.1
    have hl1:=HLI.out
    go_step
    refine hK' _ ⟨_,rfl⟩ ?_
    clear hK' K' hl1 hE hw' w'
    refine wpE_op rfl rfl (fun w' hw' K' hK'=>?_)
    have hE:=hw'.1
    go_step
    refine hK' _ ⟨_,rfl⟩ ?_
    clear hK' K' hE hw' w'
    refine wpE_op (by kernel_rfl) rfl (fun w' hw' K' hK'=>?_)
    have hE:=hw'.1
    obtain ⟨a0,a1,a2,a3,a4,a5,a6,a7⟩:=(HB2.out.ext ((Ext.drew W2).trans hE)).cells
    go_step
    refine hK' _ ⟨_,rfl⟩ ?_
    clear hK' K' a0 a1 a2 a3 a4 a5 a6 a7 hE hw' w'
    refine wpE_op (by kernel_rfl) rfl (fun w' hw' K' hK'=>?_)
    have hE:=hw'.1
    have u0:=((Ext.drew W2).trans hE).cell K8.out
    go_step
    refine hK' _ ⟨_,rfl⟩ ?_
    clear hK' K' u0 hE hw' w'
    refine wpE_op (by kernel_rfl) rfl (fun w' hw' K' hK'=>?_)
    have hE:=hw'.1
    have u0:=((Ext.drew W2).trans hE).cell K10.out
    go_step
    refine hK' _ ⟨_,rfl⟩ ?_
    clear hK' K' u0 hE hw' w'
    refine wpE_op (by kernel_rfl) rfl (fun w' hw' K' hK'=>?_)
    have hE:=hw'.1
    have hl1:=HLI.out
    go_step
    refine hK' _ ⟨_,rfl⟩ ?_
    clear hK' K' hl1 hE hw' w'
    refine wpE_op (by kernel_rfl) rfl (fun w' hw' K' hK'=>?_)
    have hE:=hw'.1
    obtain ⟨a0,a1,a2,a3,a4,a5,a6,a7⟩:=(HW8.out.ext ((Ext.drew W2).trans hE)).cells
    go_step
    refine hK' _ ⟨_,rfl⟩ ?_
    clear hK' K' a0 a1 a2 a3 a4 a5 a6 a7 hE hw' w'
    refine wpE_call 56 rfl (by simp) (by kernel_rfl) (fun w' hw' K' hK'=>?_) ?_
    ·have hE:=hw'.1
     go_step
     refine (HSM.out w' ((Ext.drew W2).trans hE)).mono ?_
     rintro _ w2 ⟨rfl,hx⟩
     exact hK' _ _ ⟨_,rfl,rfl⟩ hx
    rintro _ w6 _ rfl
    simp only [Act.put,sT1,sT2,sT3]
    refine wpE_op (by kernel_rfl) rfl (fun w' hw' K' hK'=>?_)
    have hE:=hw'.1
    go_step
    refine hK' _ ⟨_,rfl⟩ ?_
    clear hK' K' hE hw' w'
    refine wpE_op rfl rfl (fun w' hw' K' hK'=>?_)
    have hE:=hw'.1
    go_step
    refine hK' _ ⟨_,rfl⟩ ?_
    clear hK' K' hE hw' w'
    refine wpE_nil (fun W3 hW3=>?_)
    have x3:Ext W2 W3:=(Ext.drew W2).trans hW3.1
    have HI3:=Lib.hid (HI2.out.ext x3)
    have hI4:=HI3.out.set HDY.out.1 HDY.out.2 ((kn:Int)+1)
    have hk4:KeepsFrom Y.heap.size W2 (W3.setCell ⟨b11,0,none⟩ (.int .i64 ((kn:Int)+1))):=(x3.keepsOthers.trans (KeepsOthers.setCell _ _ _)).from _
    have hd4:(W3.setCell ⟨b11,0,none⟩ (.int .i64 ((kn:Int)+1))).heap[D0]? = some (.deferred (some [])):=(KeepsOthers.setCell _ _ _).same _ _ (x3.heap HDW2.out) rfl
    have hfin:KeepsFrom Y.heap.size W2 (W3.setCell ⟨b11,0,none⟩ (.int .i64 ((kn:Int)+1)))∧AcIt gI A2 c2 ms (W3.setCell ⟨b11,0,none⟩ (.int .i64 ((kn:Int)+1)))∧AIV V0 B91 b11 1 (((pre++[x]).length:Nat):Int) (W3.setCell ⟨b11,0,none⟩ (.int .i64 ((kn:Int)+1)))∧(W3.setCell ⟨b11,0,none⟩ (.int .i64 ((kn:Int)+1))).heap[D0]? = some (.deferred (some [])):=⟨hk4,HIT0.out.ext hI4.1,(by rw [HPL.out];exact hI4),hd4⟩
    have HF:=Lib.hid hfin
    obtain ⟨j10,l10⟩:=row1 HI3.out.2.2
    obtain ⟨m10,_⟩:=row1 hI4.2.2
    obtain ⟨m9,_⟩:=row1 hI4.2.1
    have m3:=(row1 (hI4.1.heap J3.out)).1
    clear hfin hk4 hI4 x3 hW3 hd4
    gi_wp2_with fail
    exact HF.out
   focus
    intro D1 ys W hDw hS hIW hitW hDr
    obtain ⟨hI,hD0W⟩:=hIW
    have hyn:(ys.length:Int)=(nw:Int):=by rw [hS,HLE.out]
    rw [hyn] at hI
    have k9:=(row1 hI.2.1).1;have k10:=(row1 hI.2.2).1
    have k8:=(row1 (hI.1.heap J8.out)).1
    have hD01:D0<D1:=by omega
    have HI:=Lib.hid hI;have HD0:=Lib.hid hD0W;have HD1:=Lib.hid hDr;have HD01:=Lib.hid hD01
    have HV1:=Lib.hid (show V0.heap.size≤D1 by omega)
    clear hI hD0W hDr hS hitW hyn hIY hD0Y hDw hD01
    go_wp2_with fail
    obtain ⟨wt2,hwt2⟩:∃ W',W'=W.alloc (.cells #[.int .i64 2] 3):=⟨_,rfl⟩
    have x62:Ext W wt2:=by rw [hwt2];exact (Ext.refl _).alloc _
    have g92:wt2.heap[W.heap.size]? = some (.cells #[.int .i64 2] 3 (0,0)):=by rw [hwt2];exact heap_alloc_new W _
    rw [← hwt2]
    obtain ⟨B92,hB92⟩:∃ b,b=W.heap.size:=⟨_,rfl⟩
    rw [← hB92] at g92 ⊢
    have HXT:=Lib.hid x62
    have k92:=(row1 g92).1
    have HX2T:=Lib.hid (show Ext wb wt2 from (HX50.out.trans HI.out.1).trans x62)
    have HCO:=Lib.hid (Codes_at A c xs wt2 (by rw [HN.out];exact HFX.out wt2 (HXB.out.trans HX2T.out)) (by rw [HN.out];omega) (fun f hf=>(HWF.out f hf).co))
    rw [HN.out] at HCO
    clear hwt2 hB92 x62 g92 k9 k10 k8
    rw [rounds_succ]
    go_wp2_with fail
    refine HCO.out.mono ?_
    rintro _ w7 ⟨⟨D,rfl,hcm,hcd⟩,hx7⟩
    have hown:w7.ownsMap Tryz.prog 3 (plainElem Tryz.prog 3) wt2.heap.size n D:=hcm
    have HCD:=Lib.hid hcd
    have HX7:=Lib.hid hx7
    have HX27:=Lib.hid (HX2T.out.trans hx7)
    have HD07:=Lib.hid (hx7.heap (HXT.out.heap HD0.out));have HD17:=Lib.hid (hx7.heap (HXT.out.heap HD1.out))
    obtain ⟨bM,hbM⟩:∃ b,b=wt2.heap.size:=⟨_,rfl⟩
    rw [← hbM] at hown ⊢
    clear hcm hcd hx7 hbM HCO k92
    go_wp2_with (first | (at_range;refine wpList_range_own _ rfl _ 60 rfl 3 3 lawInt Tryz.underlying60 _ bM n D rfl hown ?_;intro w0 hrg0 hg0 hs0) | fail)
    go_frame
    have hx0:Ext w7 w0:=Below.grown (Below.refl _ _) hg0 (Nat.le_refl _) (fun j hj=>by cases hj)
    have HX0:=Lib.hid hx0
    have HC0:=Lib.hid (CDI.start HCD.out)
    clear hown hg0 hs0 hx0
    go_loopw [13] (fun v wr=>∃ (left:Lit→Bool) (cnt:Nat) (ks:List Int),v=.int .i64 ((ks.map (codF (xs.map FV.fct))).sum:Nat)∧wr.ranges Tryz.prog 3 (plainElem Tryz.prog 3) bM w7.heap.size n D left cnt∧Hid (CDI D left (xs.map FV.fct) ks)∧Hid (LFT D left)∧Hid (Ext w7 wr)) (fun _ wr=>wr.rangeLeft bM w7.heap.size)
    case atStart=>exact ⟨_,_,[],rfl,hrg0,HC0,Lib.hid (LFT.start D),HX0⟩
    case round=>
     obtain ⟨left,cnt,ks,rfl,hrg,HCDI,HLF,HXR⟩:=hrel
     have HSB:=Lib.hid (show ((ks.map (codF (xs.map FV.fct))).sum:Nat)≤40 by have:=HCDI.out.le;rw [List.length_map,HN.out] at this;omega)
     have HRG:=Lib.hid hrg
     obtain ⟨sm,hsm⟩:∃ sm:Nat,(ks.map (codF (xs.map FV.fct))).sum=sm:=⟨_,rfl⟩
     rw [hsm] at HSB ⊢
     have HSM:=Lib.hid hsm
     clear hsm
     go_wp2_with (first | (at_next;refine wpList_next_ranges_ii _ rfl _ rfl 3 3 .i64 .i64 lawInt Tryz.underlying3 Tryz.underlying3 bM w7.heap.size n _ _ _ rfl hrg ?_ ?_) | fail)
     ·intro hc0 hl0
      have hsum:=HCDI.out.sum hl0
      rw [List.length_map,HN.out] at hsum
      rw [HSM.out] at hsum
      rw [hsum]
      have hnn:((n:Int)==(n:Int))=true:=beq_self_eq_true _
      clear hsum hrg
      go_wp2_with fail
      refine (LKnown_at _ (HE.out.ext (HXB.out.trans (HX27.out.trans HXR.out)))).mono ?_
      rintro _ wk ⟨rfl,hxk⟩
      have hx7k:Ext w7 wk:=HXR.out.trans hxk
      have hx0k:Ext wb wk:=HX27.out.trans hx7k
      have e4:wk.heap[w.heap.size+1]? = some (.cells #[.bool false] 4 (0,0)):=hx0k.heap G4.out
      obtain ⟨k4,f4⟩:=row1 e4
      have hD1s:=(KeepsOthers.setCell wk ⟨w.heap.size+1,0,none⟩ (.bool true)).same _ _ (hx7k.heap HD17.out) rfl
      have hD0s:=(KeepsOthers.setCell wk ⟨w.heap.size+1,0,none⟩ (.bool true)).same _ _ (hx7k.heap HD07.out) rfl
      have h4s:=row1_set (.bool true) e4
      have hxs:=(HXB.out.trans hx0k).setCell (p:=⟨w.heap.size+1,0,none⟩) (show w.heap.size≤w.heap.size+1 by omega) (.bool true)
      obtain ⟨Ws,hWs⟩:∃ Ws,wk.setCell ⟨w.heap.size+1,0,none⟩ (.bool true)=Ws:=⟨_,rfl⟩
      rw [hWs] at hD1s hD0s h4s hxs
      have h4l:w.heap.size+1<V0.heap.size:=(Array.getElem?_eq_some_iff.1 J4.out).1
      have hV1:=HV1.out;have hd01:=HD01.out
      have hD0p:(Ws.putObj D1 (.deferred none)).heap[D0]? = some (.deferred (some [])):=(World.putObj_heap_other (by omega)).trans hD0s
      have h4p:((Ws.putObj D1 (.deferred none)).putObj D0 (.deferred none)).heap[w.heap.size+1]? = some (.cells #[.bool true] 4 (0,0)):=(World.putObj_heap_other (by omega)).trans ((World.putObj_heap_other (by omega)).trans h4s)
      have hxp:Ext w ((Ws.putObj D1 (.deferred none)).putObj D0 (.deferred none)):=Ext.of_grown (Ext.of_grown hxs (grown_put hD1s) (by omega)) (grown_put hD0p) (by omega)
      have hcp:=(row1 h4p).1
      have HD1S:=Lib.hid hD1s;have HD0P:=Lib.hid hD0p;have HXPP:=Lib.hid hxp
      clear hD1s hD0s hD0p h4p hxp hxs h4s hx0k hx7k hxk e4
      go_wp2_with fail
      refine ⟨by simp,.inl ⟨_,_,rfl,run_takeDeferred HD1S.out,?_⟩⟩
      refine ⟨by simp,.inl ⟨_,_,rfl,run_takeDeferred HD0P.out,?_⟩⟩
      exact ⟨.bool true,by simp [results,Tryz.results4,go_sem,hcp],rfl,HXPP.out⟩
     ·intro x cx w9 cnt1 hwx hwc hlx hat hrg1 hlt1 hg1 hs1 hen
      have hcx:((codF (xs.map FV.fct) x:Nat):Int)=cx:=by
       have h1:=HCD.out.at_ x
       rw [hat] at h1
       injection h1 with h1
       injection h1 with _ h1
       exact h1.symm
      have hpos:=(HCD.out.has x).1 (HLF.out _ hlx)
      have HCX:=Lib.hid hcx
      have HCP:=Lib.hid (show 0<cx by rw [← hcx];omega)
      have HCDI1:=Lib.hid (HCDI.out.step hpos hlx)
      have HLF1:=Lib.hid (HLF.out.step (.int .i64 x))
      have hx9:Ext w7 w9:=HXR.out.grown hg1 (fun j hj=>by cases hj;exact Nat.le_refl _)
      have HX9:=Lib.hid hx9
      have HF9:=Lib.hid (HFX.out w9 (HXB.out.trans (HX27.out.trans hx9)))
      have HRG1:=Lib.hid hrg1;have HLT:=Lib.hid hlt1
      clear hrg hrg1 hlt1 hg1 hs1 hat hlx hwx hwc hcx hpos hx9
      go_wp2_with fail
      go_loopw [16,17] (fun v16 v17 wr=>∃ k:Nat,k≤n∧v17=.int .i64 k∧v16=.int .i64 (codF ((xs.map FV.fct).take k) x:Nat)∧wr=w9) (fun _ v17 _=>n-(intOf v17).toNat)
      case atStart=>exact ⟨0,Nat.zero_le _,rfl,rfl,rfl⟩
      case round=>
       obtain ⟨k,hk,rfl,rfl,hww⟩:=hrel
       subst hww
       by_cases hlt:k<n
       ·have hkx:k<xs.length:=by rw [HN.out];exact hlt
        obtain ⟨hinx,ad,hadr,hq⟩:=(HF9.out.f12 k hkx)
        clear hinx
        have HC1:=Lib.hid (cod_take xs k hkx x)
        obtain ⟨p,hp⟩:∃ p,xs[k]=p:=⟨_,rfl⟩
        rw [hp] at hq HC1
        obtain ⟨cc,hcc⟩:∃ cc,codF ((xs.map FV.fct).take k) x=cc:=⟨_,rfl⟩
        have hcc40:(cc:Int)≤40:=by
         have h1:=codF_le ((xs.map FV.fct).take k) x
         rw [List.length_take] at h1
         omega
        rw [hcc] at HC1 ⊢
        have hc0:(0:Int)≤(cc:Int):=by omega
        subst hadr
        obtain ⟨u0,u1,u2,u3,u4,u5,u6,u7,u8,u9,u10,u11⟩:=hq.cells
        clear hq hp hcc hkx
        by_cases hco:p.co=x
        ·have q1:(p.co==x)=true:=by rw [hco];exact beq_self_eq_true _
         have HC2:=Lib.hid (show codF ((xs.map FV.fct).take (k+1)) x=cc+1 by rw [HC1.out,if_pos hco])
         clear hco
         go_wp2_with fail
         go_roundw
         case rel=>exact ⟨k+1,by omega,by go_num,by rw [HC2.out];go_num,by first | rfl | trivial⟩
         case measure=>simp [intOf];omega
        ·have q1:(p.co==x)=false:=by rw [beq_eq_false_iff_ne];exact hco
         have HC2:=Lib.hid (show codF ((xs.map FV.fct).take (k+1)) x=cc by rw [HC1.out,if_neg hco];rfl)
         clear hco
         go_wp2_with fail
         go_roundw
         case rel=>exact ⟨k+1,by omega,by go_num,by rw [HC2.out],by first | rfl | trivial⟩
         case measure=>simp [intOf];omega
       ·obtain rfl:n=k:=by omega
        have hnn:¬ ((n:Int)<(n:Int)):=by omega
        have hct:codF ((xs.map FV.fct).take n) x=codF (xs.map FV.fct) x:=by rw [List.take_of_length_le (by rw [List.length_map,HN.out];exact Nat.le_refl _)]
        rw [hct]
        have e1:((codF (xs.map FV.fct) x:Nat):Int)=cx:=HCX.out
        rw [e1]
        have h0c:=HCP.out
        have hs40:=HSB.out
        have q2:(cx != cx)=false:=by simp
        have q3:(cx==0)=false:=by rw [beq_eq_false_iff_ne];omega
        have hcx40:cx≤40:=by rw [← HCX.out];have:=codF_le (xs.map FV.fct) x;rw [List.length_map,HN.out] at this;omega
        have hsm40:(sm:Int)≤40:=by omega
        have hsm0:(0:Int)≤(sm:Int):=by omega
        clear hct e1
        go_wp2_with fail
        go_roundw
        case rel=>exact ⟨_,cnt1,ks++[x],by
         rw [List.map_append,List.sum_append,HSM.out,Int.natCast_add,show (List.map (codF (xs.map FV.fct)) [x]).sum=codF (xs.map FV.fct) x from by simp,HCX.out],HRG1.out,HCDI1,HLF1,HX9⟩
        case measure=>rw [HRG1.out.left_eq,HRG.out.left_eq];have:=HLT.out;omega
   focus
    exact fun _ _ _ _ _ _ h _=>h.elim
end Go.Proofs.YtnjmndofcpnmeaaGreatDoor
