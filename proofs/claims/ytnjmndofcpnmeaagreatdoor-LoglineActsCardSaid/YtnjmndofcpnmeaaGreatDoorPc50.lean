/- Pc50. -/
import Derived.Test.YtnjmndofcpnmeaaGreatDoorPc0
import Derived.Test.YtnjmndofcpnmeaaGreatDoorPc48
import Derived.Test.YtnjmndofcpnmeaaGreatDoorPc49
namespace Go.Proofs.YtnjmndofcpnmeaaGreatDoor
open Go Go.RowKit
set_option linter.unusedVariables false
attribute [local irreducible] wpE
set_option maxRecDepth 100000 in
set_option maxHeartbeats 4000000 in
theorem RActivities_at (A:Option Addr) (c:Nat) (xs:List FV) (w:World) (hF:FS w (.slice A xs.length c) xs) (hn:xs.length≤1000) (hz:∀ x∈xs,x.Sz):
  Calls Tryz.prog 20 #[.slice A xs.length c] w fun e w'=>RAS (xs.map FV.fct) e w'∧Ext w w':=by
 obtain ⟨i0,hi,iz0,iz1,iz2⟩:=act_info
 obtain ⟨j0,ji,jz0,jz1,jz2⟩:=info_parts adrinfo
 have HF:=Lib.hid hF;have HZ:=Lib.hid hz
 obtain ⟨_,c',he,hc1,hc2⟩:=hF.shape
 injection he with e1 _ e3
 subst e1;subst e3
 obtain ⟨n,hn'⟩:∃ n,xs.length=n:=⟨_,rfl⟩
 have HN:=Lib.hid hn'
 rw [hn'] at hc1 hn ⊢ HF
 clear hF hz hn'
 go_enter Tryz.func20,Tryz.ntmps20
 go_wp2_with fail
 go_loopw [3,4,5,6,7,8,9,10] (fun o i _ _ _ _ _ _ wr=>∃ (i':Nat) (ms:List VV) (js:List Nat) (A1:Option Addr) (c1:Nat),i'≤n∧i=.int .i64 i'∧o=.slice A1 ms.length c1∧Hid (RDS EV wr (.slice A1 ms.length c1) ms)∧Hid (∀ m∈ms,m.In w)∧Hid (AIs (xs.map FV.fct) ms js)∧Hid (ActL (xs.map FV.fct) i' js)∧Hid (A1=none∧ms=[]∧c1=0∨∃ g,A1=some ⟨g,0,none⟩)∧Hid (Ext w wr)) (fun _ i _ _ _ _ _ _ _=>n-(intOf i).toNat)
 case atStart=>exact ⟨0,[],[],none,0,Nat.zero_le _,rfl,rfl,Lib.hid (RDS.nil _),Lib.hid (fun m hm=>by cases hm),Lib.hid (AIs.nil _),Lib.hid (ActL.nil _),Lib.hid (.inl ⟨rfl,rfl,rfl⟩),Lib.hid (Ext.refl w)⟩
 case round=>
  obtain ⟨i,ms,js,A1,c1,hi',rfl,rfl,HR,HMI,HAI,HAL,HN1,HX⟩:=hrel
  obtain ⟨wo,rfl⟩:∃ wo:World,wo=wr:=⟨_,rfl⟩
  by_cases hlt:i<n
  ·have hkx:i<xs.length:=by rw [HN.out];exact hlt
   obtain ⟨hin,ad,hadr,hq⟩:=HF.out.f12 i hkx
   have hsz:=HZ.out xs[i] (List.getElem_mem hkx)
   have HAK:=Lib.hid (atF_map hkx)
   obtain ⟨f,hf⟩:∃ f,xs[i]=f:=⟨_,rfl⟩
   rw [hf] at hin hsz HAK hq
   subst hadr
   have HINF:=Lib.hid hin;have HSF:=Lib.hid hsz;have HQ:=Lib.hid hq
   obtain ⟨u0,u1,u2,u3,u4,u5,u6,u7,u8,u9,u10,u11⟩:=(hq.ext HX.out).cells
   have HNO:=Lib.hid (RNone_at f.CA f.cp.length f.cc f.cr wo)
   rw [none_dec] at HNO
   obtain ⟨nb,hnb⟩:∃ q,noneN (dat f.cp) f.cr.data.toList=q:=⟨_,rfl⟩
   have HNB:=Lib.hid (show noneN f.fct.cp f.fct.cr=nb from hnb)
   rw [hnb] at HNO
   have HLX:=Lib.hid hlt
   clear hin hsz hf hq hnb hkx
   by_cases hkd:f.kd=0
   ·have q0:(f.kd==0)=true:=by rw [hkd];rfl
    have HA1:=Lib.hid (HAL.out.skip (.inl (by rw [HAK.out];unfold wantB;rw [decide_eq_true (show f.fct.kd=0 from hkd)];rfl)))
    clear hkd
    go_wp2_with fail
    go_roundw
    case rel=>exact ⟨i+1,ms,js,A1,c1,by omega,by go_num,rfl,HR,HMI,HAI,HA1,HN1,Lib.hid (HX.out.trans (Ext.refl _))⟩
    case measure=>simp [intOf];omega
   ·have q0:(f.kd==0)=false:=by rw [beq_eq_false_iff_ne];exact hkd
    have HW:=Lib.hid (show wantB (atF (xs.map FV.fct) i) = !nb by rw [HAK.out];unfold wantB;rw [HNB.out,decide_eq_false (show ¬ f.fct.kd=0 from hkd)];rfl)
    clear hkd
    cases nb with
    | true=>
     have HA1:=Lib.hid (HAL.out.skip (.inl HW.out))
     go_wp2_with fail
     refine HNO.out.mono ?_
     rintro _ w2 ⟨rfl,hx2⟩
     have HX2:=Lib.hid hx2;have HR2:=Lib.hid (HR.out.ext hx2)
     clear hx2
     go_wp2_with fail
     go_roundw
     case rel=>exact ⟨i+1,ms,js,A1,c1,by omega,by go_num,rfl,HR2,HMI,HAI,HA1,HN1,Lib.hid (HX.out.trans HX2.out)⟩
     case measure=>simp [intOf];omega
    | false=>
     go_upto_if 30 with fail
     refine HNO.out.mono ?_
     rintro _ w2 ⟨rfl,hx2⟩
     have HX2:=Lib.hid hx2
     clear u0 u1 u2 u3 u4 u5 u6 u7 u8 u9 u10 u11
     obtain ⟨u0,u1,u2,u3,u4,u5,u6,u7,u8,u9,u10,u11⟩:=(HQ.out.ext (HX.out.trans hx2)).cells
     have zY:=heap_alloc_new w2 (.cells #[.slice none 0 0,.string ⟨#[]⟩,.int .i64 0,.int .i64 0,.int .i64 0,.int .i64 0,.int .i64 0,.int .i64 0] 58)
     have xY:=(Ext.refl w2).alloc (.cells #[.slice none 0 0,.string ⟨#[]⟩,.int .i64 0,.int .i64 0,.int .i64 0,.int .i64 0,.int .i64 0,.int .i64 0] 58)
     obtain ⟨WY,eY⟩:∃ W,w2.alloc (.cells #[.slice none 0 0,.string ⟨#[]⟩,.int .i64 0,.int .i64 0,.int .i64 0,.int .i64 0,.int .i64 0,.int .i64 0] 58)=W:=⟨_,rfl⟩
     rw [eY] at zY xY
     clear hx2
     go_wp2_with (first | (refine wpList_store_var WY rfl (.tmp 5) (.tmp 36) 58 rfl w2.heap.size 58 #[.slice none 0 0,.string ⟨#[]⟩,.int .i64 0,.int .i64 0,.int .i64 0,.int .i64 0,.int .i64 0,.int .i64 0] #[.slice f.CA f.cp.length f.cc,.string f.cr,.int .i64 0,.int .i64 0,.int .i64 0,.int .i64 0,.int .i64 0,.int .i64 0] rfl rfl (Tryz.sizeOf58 WY) zY rfl (one8 rfl) ?_;intro WC b3 hg3) | fail)
     have x3:Ext w2 WC:=Below.grown xY hg3 xY.size (fun j hj=>by cases hj;exact Nat.le_refl _)
     have B3:V8 WC w2.heap.size (⟨f.CA,f.cp,f.cc,f.cr,0,0,0,0,0,0⟩:VV):=b3
     obtain ⟨g5,hg5⟩:∃ g,w2.heap.size=g:=⟨_,rfl⟩
     have HM0:=Lib.hid (show RAM wo WC.heap.size WC w2.heap.size (⟨f.CA,f.cp,f.cc,f.cr,0,0,0,0,0,0⟩:VV) (.slice none 0 0) [] from ⟨B3,HX2.out.trans x3,DOV.nil _ _ _,HX2.out.size,(Array.getElem?_eq_some_iff.1 b3).1,Nat.le_refl _⟩)
     rw [hg5] at HM0 ⊢
     clear b3 B3 x3 hg3 zY xY eY hg5 u0 u1 u2 u3 u4 u5 u6 u7 u8 u9 u10 u11
     go_loopw [6,7,8,9] (fun v6 v7 v8 _ wr=>∃ (k:Nat) (rq su pl fi la:Int) (b:Bool) (az:List (Int × List UInt8)) (DA:Option Addr) (dc:Nat),k≤n∧v6=.bool b∧v7=.slice DA az.length dc∧v8=.int .i64 k∧Hid (RAM wo WC.heap.size wr g5 (⟨f.CA,f.cp,f.cc,f.cr,rq,su,pl,0,fi,la⟩:VV) (.slice DA az.length dc) az)∧Hid (RAI (xs.map FV.fct) i k rq su pl fi la b az)) (fun _ _ v8 _ _=>n-(intOf v8).toNat)
     case atStart=>exact ⟨0,0,0,0,0,0,true,[],none,0,Nat.zero_le _,rfl,rfl,rfl,HM0,Lib.hid (RAI.start _ _)⟩
     case round=>
      obtain ⟨k,rq,su,pl,fi,la,b,az,DA,dc,hk,rfl,rfl,rfl,HM,HRI⟩:=hrel
      obtain ⟨wi,rfl⟩:∃ wi:World,wi=wr:=⟨_,rfl⟩
      by_cases hlk:k<n
      ·have hkx:k<xs.length:=by rw [HN.out];exact hlk
       obtain ⟨hinp,adp,hadp,hqp⟩:=HF.out.f12 k hkx
       injection hadp with hadp
       subst hadp
       have hszp:=HZ.out xs[k] (List.getElem_mem hkx)
       have HAKP:=Lib.hid (atF_map hkx)
       obtain ⟨p,hp⟩:∃ p,xs[k]=p:=⟨_,rfl⟩
       rw [hp] at hinp hszp HAKP hqp
       have HINP:=Lib.hid hinp;have HSZP:=Lib.hid hszp
       obtain ⟨v0,v1,v2,v3,v4,v5,v6,v7,v8,v9,v10,v11⟩:=(hqp.ext (HX.out.trans HM.out.ex)).cells
       have zZ:=heap_alloc_new wi (.cells #[.int .i64 0,.int .i64 0,.int .i64 0,.int .i64 0,.slice none 0 0,.slice none 0 0,.string ⟨#[]⟩,.slice none 0 0,.string ⟨#[]⟩,.int .i64 0,.int .i64 0,.int .u32 0] 41)
       have xZ:=(Ext.refl wi).alloc (.cells #[.int .i64 0,.int .i64 0,.int .i64 0,.int .i64 0,.slice none 0 0,.slice none 0 0,.string ⟨#[]⟩,.slice none 0 0,.string ⟨#[]⟩,.int .i64 0,.int .i64 0,.int .u32 0] 41)
       obtain ⟨WZ,eZ⟩:∃ W,wi.alloc (.cells #[.int .i64 0,.int .i64 0,.int .i64 0,.int .i64 0,.slice none 0 0,.slice none 0 0,.string ⟨#[]⟩,.slice none 0 0,.string ⟨#[]⟩,.int .i64 0,.int .i64 0,.int .u32 0] 41)=W:=⟨_,rfl⟩
       rw [eZ] at zZ xZ
       clear hinp hszp hp hqp hkx
       go_upto_region 13 with (first | (refine wpList_store_var WZ rfl (.tmp 9) (.tmp 46) 41 rfl wi.heap.size 41 #[.int .i64 0,.int .i64 0,.int .i64 0,.int .i64 0,.slice none 0 0,.slice none 0 0,.string ⟨#[]⟩,.slice none 0 0,.string ⟨#[]⟩,.int .i64 0,.int .i64 0,.int .u32 0] #[.int .i64 p.t,.int .i64 p.mi,.int .i64 p.kd,.int .i64 p.fk,.slice p.FA p.fb.length p.fc,.slice p.CA p.cp.length p.cc,.string p.cr,.slice p.SA p.sp.length p.sc,.string p.sr,.int .i64 p.co,.int .i64 p.pr,.int .u32 (p.fl.toNat:Int)] rfl rfl (Tryz.sizeOf41 WZ) zZ rfl (one8 rfl) ?_;intro WP b3 hg3) | fail)
       have x3:Ext wi WP:=Below.grown xZ hg3 xZ.size (fun j hj=>by cases hj;exact Nat.le_refl _)
       have HM3:=Lib.hid (HM.out.ext x3)
       have HB3:=Lib.hid (show FQ WP wi.heap.size p from b3)
       have HLG:=Lib.hid (show g5<wi.heap.size from (Array.getElem?_eq_some_iff.1 HM.out.b5).1)
       clear zZ xZ eZ hg3 b3 x3 v0 v1 v2 v3 v4 v5 v6 v7 v8 v9 v10 v11 HM
       obtain ⟨v0,v1,v2,v3,v4,v5,v6,v7,v8,v9,v10,v11⟩:=HB3.out.cells
       by_cases hkd:p.kd=0
       ·have q0:(p.kd==0)=true:=by rw [hkd];rfl
        have HR1:=Lib.hid (HRI.out.skip (.inl (by rw [HAKP.out];exact hkd)))
        clear hkd
        go_wp2_with fail
        go_roundw
        case rel=>exact ⟨k+1,rq,su,pl,fi,la,b,az,DA,dc,by omega,rfl,rfl,by go_num,HM3,HR1⟩
        case measure=>simp [intOf];omega
       ·have q0:(p.kd==0)=false:=by rw [beq_eq_false_iff_ne];exact hkd
        have HKD:=Lib.hid hkd
        clear hkd
        obtain ⟨a0,a1,a2,a3,a4,a5,a6,a7⟩:=HM3.out.b5.cells
        obtain ⟨sb,hsb⟩:∃ sb,sameP p.cp p.cr f.cp f.cr=sb:=⟨_,rfl⟩
        have HSB:=Lib.hid (show decide (who false p.fct=who false f.fct)=sb by rw [← hsb];exact (who_P p f).symm)
        have HSP:=Lib.hid (SameP_at p.CA p.cc p.cp p.cr f.CA f.cc f.cp f.cr HSZP.out.cp HSF.out.cp WP (HINP.out.cp.ext (HX.out.trans HM3.out.ex)) (HINF.out.cp.ext (HX.out.trans HM3.out.ex)))
        rw [hsb] at HSP
        clear hsb
        cases sb with
        | false=>
         have HR1:=Lib.hid (HRI.out.skip (.inr (by rw [HAKP.out,HAK.out];exact of_decide_eq_false HSB.out)))
         go_wp2_with fail
         refine HSP.out.mono ?_
         rintro _ wp ⟨rfl,hxp⟩
         have HM4:=Lib.hid (HM3.out.ext hxp)
         clear hxp
         go_wp2_with fail
         go_roundw
         case rel=>exact ⟨k+1,rq,su,pl,fi,la,b,az,DA,dc,by omega,rfl,rfl,by go_num,HM4,HR1⟩
         case measure=>simp [intOf];omega
        | true=>
         have HR1:=Lib.hid (show RAI (xs.map FV.fct) i (k+1) (rq+1) (su+if sucB p.fct then 1 else 0) (pl+if plnB p.fct then 1 else 0) (if rq=0 then p.t else fi) p.t (b&&decide (i≤k)) (if hasA az p.fk p.fb=true then az else az++[(p.fk,p.fb)]) from by
          have h:=HRI.out.step (k:=k) (by rw [HAKP.out];exact HKD.out) (by rw [HAKP.out,HAK.out];exact of_decide_eq_true HSB.out)
          rw [HAKP.out] at h
          exact h)
         have HBND:=Lib.hid (show (0≤rq∧rq≤1000)∧(0≤su∧su≤1000)∧(0≤pl∧pl≤1000)∧az.length≤1000 from HRI.out.bnd (by omega))
         go_wp2_with fail
         refine HSP.out.mono ?_
         rintro _ wp ⟨rfl,hxp⟩
         have HM4:=Lib.hid (HM3.out.ext hxp);have HB4:=Lib.hid (HB3.out.ext hxp)
         clear hxp HM3 HB3 a0 a1 a2 a3 a4 a5 a6 a7 v0 v1 v2 v3 v4 v5 v6 v7 v8 v9 v10 v11
         go_upto_if 60 with fail
         go_cut [6] (fun x6 wc=>x6=.bool (b&&decide (i≤k))∧Hid (Ext wp wc))
         case first=>
          by_cases hki:(k:Int)<(i:Int)
          ·have q1:decide ((k:Int)<(i:Int))=true:=decide_eq_true hki
           have q2:decide (i≤k)=false:=decide_eq_false (by omega)
           go_wp2_with fail
           go_meet
           case rel=>exact ⟨by rw [q2,Bool.and_false],Lib.hid (Ext.refl _)⟩
          ·have q1:decide ((k:Int)<(i:Int))=false:=decide_eq_false hki
           have q2:decide (i≤k)=true:=decide_eq_true (by omega)
           go_wp2_with fail
           go_meet
           case rel=>exact ⟨by rw [q2,Bool.and_true],Lib.hid (Ext.refl _)⟩
         case rest=>
         obtain ⟨rfl,HXC⟩:=hcut
         obtain ⟨wq,rfl⟩:∃ wo:World,wo=wc:=⟨_,rfl⟩
         have HM5:=Lib.hid (HM4.out.ext HXC.out);have HB5:=Lib.hid (HB4.out.ext HXC.out)
         obtain ⟨b2,hb2⟩:∃ x,(b&&decide (i≤k))=x:=⟨_,rfl⟩
         obtain ⟨fi2,hfi2⟩:∃ x,(if rq=0 then p.t else fi)=x:=⟨_,rfl⟩
         rw [hb2,hfi2] at HR1
         rw [hb2]
         have HFI:=Lib.hid (show (if rq=0 then p.t else fi)=fi2 from hfi2)
         clear HM4 HB4 HXC hb2 hfi2
         obtain ⟨a0,a1,a2,a3,a4,a5,a6,a7⟩:=HM5.out.b5.cells
         obtain ⟨v0,v1,v2,v3,v4,v5,v6,v7,v8,v9,v10,v11⟩:=HB5.out.cells
         have f6:wq.frozen? ⟨g5,6,none⟩=false:=RW.soft HM5.out.b5 6
         go_upto_if 63 with fail
         go_cut [] (fun wc=>Hid (RAM wo WC.heap.size wc g5 (⟨f.CA,f.cp,f.cc,f.cr,rq,su,pl,0,fi2,la⟩:VV) (.slice DA az.length dc) az)∧Hid (FQ wc wi.heap.size p))
         case first=>
          by_cases hr0:rq=0
          ·have q1:(rq==0)=true:=by rw [hr0];rfl
           have HM6:=Lib.hid (HM5.out.put (m':=(⟨f.CA,f.cp,f.cc,f.cr,rq,su,pl,0,p.t,la⟩:VV)) 6 (.int .i64 p.t) (RW.set HM5.out.b5 6 _))
           have HB6:=Lib.hid (show FQ (wq.setCell ⟨g5,6,none⟩ (.int .i64 p.t)) wi.heap.size p from heap_set_ne HB5.out (show wi.heap.size≠g5 by have:=HLG.out;omega))
           have e2:p.t=fi2:=by rw [← HFI.out,if_pos hr0]
           clear hr0 HFI
           subst e2
           go_wp2_with fail
           go_meet
           case rel=>exact ⟨HM6,HB6⟩
          ·have q1:(rq==0)=false:=by rw [beq_eq_false_iff_ne];exact hr0
           have e2:fi=fi2:=by rw [← HFI.out,if_neg hr0]
           clear hr0 HFI
           subst e2
           go_wp2_with fail
           go_meet
           case rel=>exact ⟨HM5,HB5⟩
         case rest=>
         obtain ⟨HM6,HB6⟩:=hcut
         obtain ⟨ws,rfl⟩:∃ wo:World,wo=wc:=⟨_,rfl⟩
         clear HM5 HB5 HFI a0 a1 a2 a3 a4 a5 a6 a7 f6 v0 v1 v2 v3 v4 v5 v6 v7 v8 v9 v10 v11
         obtain ⟨a0,a1,a2,a3,a4,a5,a6,a7⟩:=HM6.out.b5.cells
         obtain ⟨v0,v1,v2,v3,v4,v5,v6,v7,v8,v9,v10,v11⟩:=HB6.out.cells
         have f2:ws.frozen? ⟨g5,2,none⟩=false:=RW.soft HM6.out.b5 2
         have f7:ws.frozen? ⟨g5,7,none⟩=false:=RW.soft HM6.out.b5 7
         have hwr:wrap64 (rq+1)=rq+1:=IntWalk.wrap64_in _ (by have:=HBND.out;omega)
         have hne:wi.heap.size≠g5:=by have:=HLG.out;omega
         go_upto_region 18 with fail
         go_region
         have hx7:Ext ((ws.setCell ⟨g5,2,none⟩ (.int .i64 (rq+1))).setCell ⟨g5,7,none⟩ (.int .i64 p.t)) ((ws.setCell ⟨g5,2,none⟩ (.int .i64 (rq+1))).setCell ⟨g5,7,none⟩ (.int .i64 p.t)).drew:=Ext.drew _
         have m2:=HM6.out.put (m':=(⟨f.CA,f.cp,f.cc,f.cr,(rq+1),su,pl,0,fi2,la⟩:VV)) 2 (.int .i64 (rq+1)) (RW.set HM6.out.b5 2 _)
         have m7:=(m2.put (m':=(⟨f.CA,f.cp,f.cc,f.cr,(rq+1),su,pl,0,fi2,p.t⟩:VV)) 7 (.int .i64 p.t) (RW.set m2.b5 7 _)).ext hx7
         have n7:FQ ((ws.setCell ⟨g5,2,none⟩ (.int .i64 (rq+1))).setCell ⟨g5,7,none⟩ (.int .i64 p.t)).drew wi.heap.size p:=FQ.ext (show FQ ((ws.setCell ⟨g5,2,none⟩ (.int .i64 (rq+1))).setCell ⟨g5,7,none⟩ (.int .i64 p.t)) wi.heap.size p from heap_set_ne (heap_set_ne HB6.out hne) hne) hx7
         obtain ⟨wt,ewt⟩:∃ W,((ws.setCell ⟨g5,2,none⟩ (.int .i64 (rq+1))).setCell ⟨g5,7,none⟩ (.int .i64 p.t)).drew=W:=⟨_,rfl⟩
         rw [ewt] at m7 n7 ⊢
         have HM7:=Lib.hid m7;have HB7:=Lib.hid n7
         clear m2 m7 n7 hx7 ewt HM6 HB6 f2 f7 hwr a0 a1 a2 a3 a4 a5 a6 a7 v0 v1 v2 v3 v4 v5 v6 v7 v8 v9 v10 v11
         obtain ⟨su2,hsu2⟩:∃ x,(su+if sucB p.fct then 1 else 0)=x:=⟨_,rfl⟩
         obtain ⟨pl2,hpl2⟩:∃ x,(pl+if plnB p.fct then 1 else 0)=x:=⟨_,rfl⟩
         rw [hsu2,hpl2] at HR1
         have HS2:=Lib.hid hsu2;have HP2:=Lib.hid hpl2
         clear hsu2 hpl2
         obtain ⟨a0,a1,a2,a3,a4,a5,a6,a7⟩:=HM7.out.b5.cells
         obtain ⟨v0,v1,v2,v3,v4,v5,v6,v7,v8,v9,v10,v11⟩:=HB7.out.cells
         go_upto_if 76 with fail
         go_cut [] (fun wc=>Hid (RAM wo WC.heap.size wc g5 (⟨f.CA,f.cp,f.cc,f.cr,(rq+1),su2,pl2,0,fi2,p.t⟩:VV) (.slice DA az.length dc) az)∧Hid (FQ wc wi.heap.size p))
         case first=>
          by_cases hco:p.co=0
          ·have q1:(p.co==0)=true:=by rw [hco];rfl
           have hsu:sucB p.fct=true:=decide_eq_true hco
           have hwr:wrap64 (su+1)=su+1:=IntWalk.wrap64_in _ (by have:=HBND.out;omega)
           have f3:wt.frozen? ⟨g5,3,none⟩=false:=RW.soft HM7.out.b5 3
           have m8:=HM7.out.put (m':=(⟨f.CA,f.cp,f.cc,f.cr,(rq+1),(su+1),pl,0,fi2,p.t⟩:VV)) 3 (.int .i64 (su+1)) (RW.set HM7.out.b5 3 _)
           have n8:FQ (wt.setCell ⟨g5,3,none⟩ (.int .i64 (su+1))) wi.heap.size p:=heap_set_ne HB7.out hne
           obtain ⟨w8,e8⟩:∃ W,wt.setCell ⟨g5,3,none⟩ (.int .i64 (su+1))=W:=⟨_,rfl⟩
           rw [e8] at m8 n8
           have HM8:=Lib.hid m8;have HB8:=Lib.hid n8
           have es:su+1=su2:=by rw [← HS2.out,hsu];rfl
           obtain ⟨c0,c1,c2,c3,c4,c5,c6,c7⟩:=m8.b5.cells
           obtain ⟨d0,d1,d2,d3,d4,d5,d6,d7,d8,d9,d10,d11⟩:=n8.cells
           clear m8 n8
           by_cases h10:p.kd=10∧p.pr=0
           ·have q2:(p.kd==10)=true:=by rw [h10.1];rfl
            have q3:(p.pr==0)=true:=by rw [h10.2];rfl
            have hpl:plnB p.fct=true:=by
             unfold plnB
             rw [decide_eq_true (show p.fct.co=0 from hco),decide_eq_true (show p.fct.kd=10 from h10.1),decide_eq_true (show p.fct.pr=0 from h10.2)]
             rfl
            have hwp:wrap64 (pl+1)=pl+1:=IntWalk.wrap64_in _ (by have:=HBND.out;omega)
            have f4:w8.frozen? ⟨g5,4,none⟩=false:=RW.soft HM8.out.b5 4
            have HM9:=Lib.hid (HM8.out.put (m':=(⟨f.CA,f.cp,f.cc,f.cr,(rq+1),(su+1),(pl+1),0,fi2,p.t⟩:VV)) 4 (.int .i64 (pl+1)) (RW.set HM8.out.b5 4 _))
            have HB9:=Lib.hid (show FQ (w8.setCell ⟨g5,4,none⟩ (.int .i64 (pl+1))) wi.heap.size p from heap_set_ne HB8.out hne)
            have ep:pl+1=pl2:=by rw [← HP2.out,hpl];rfl
            rw [es,ep] at HM9
            rw [ep] at HB9 hwp
            rw [es] at e8 hwr
            clear h10 hpl hsu hco
            go_wp2_with fail
            go_meet
            case rel=>exact ⟨HM9,HB9⟩
           ·have hpl:plnB p.fct=false:=by
             unfold plnB
             by_cases h1:p.kd=10
             ·have h2:¬ p.fct.pr=0:=fun e=>h10 ⟨h1,e⟩
              rw [decide_eq_false h2,Bool.and_false]
             ·rw [decide_eq_false (show ¬ p.fct.kd=10 from h1),Bool.and_false,Bool.false_and]
            have ep:pl=pl2:=by rw [← HP2.out,hpl];simp
            rw [es,ep] at HM8
            rw [es] at e8 hwr
            by_cases h1:p.kd=10
            ·have q2:(p.kd==10)=true:=by rw [h1];rfl
             have q3:(p.pr==0)=false:=by rw [beq_eq_false_iff_ne];exact fun e=>h10 ⟨h1,e⟩
             clear h10 hpl h1 hsu hco
             go_wp2_with fail
             go_meet
             case rel=>exact ⟨HM8,HB8⟩
            ·have q2:(p.kd==10)=false:=by rw [beq_eq_false_iff_ne];exact h1
             clear h10 hpl h1 hsu hco
             go_wp2_with fail
             go_meet
             case rel=>exact ⟨HM8,HB8⟩
          ·have q1:(p.co==0)=false:=by rw [beq_eq_false_iff_ne];exact hco
           have es:su=su2:=by rw [← HS2.out,show sucB p.fct=false from decide_eq_false hco];simp
           have ep:pl=pl2:=by rw [← HP2.out,show plnB p.fct=false by unfold plnB;rw [decide_eq_false (show ¬ p.fct.co=0 from hco)];rfl];simp
           rw [es,ep] at HM7
           clear hco
           go_wp2_with fail
           go_meet
           case rel=>exact ⟨HM7,HB7⟩
         case rest=>
         obtain ⟨HM9,HB9⟩:=hcut
         obtain ⟨wv,rfl⟩:∃ wo:World,wo=wc:=⟨_,rfl⟩
         clear HM7 HB7 HS2 HP2 a0 a1 a2 a3 a4 a5 a6 a7 v0 v1 v2 v3 v4 v5 v6 v7 v8 v9 v10 v11
         obtain ⟨v0,v1,v2,v3,v4,v5,v6,v7,v8,v9,v10,v11⟩:=HB9.out.cells
         have HBP:=Lib.hid (HINP.out.fb.ext (HX.out.trans HM9.out.ex))
         have HCO:=Lib.hid (RAContains_at DA dc az p.fk p.fb p.FA p.fc wv HM9.out.dv.ds HBP.out HBND.out.2.2.2)
         obtain ⟨hb,hhb⟩:∃ x,hasA az p.fk p.fb=x:=⟨_,rfl⟩
         rw [hhb] at HCO HR1
         unfold adv at HCO
         clear hhb
         go_wp2_with fail
         refine HCO.out.mono ?_
         rintro _ wu ⟨rfl,hxu⟩
         have HMU:=Lib.hid (HM9.out.ext hxu);have HBU:=Lib.hid (HB9.out.ext hxu)
         clear hxu HCO v0 v1 v2 v3 v4 v5 v6 v7 v8 v9 v10 v11
         cases hb with
         | true=>
          go_wp2_with fail
          go_roundw
          case rel=>exact ⟨k+1,rq+1,su2,pl2,fi2,p.t,b2,az,DA,dc,by omega,rfl,rfl,by go_num,HMU,HR1⟩
          case measure=>simp [intOf];omega
         | false=>
          obtain ⟨v0,v1,v2,v3,v4,v5,v6,v7,v8,v9,v10,v11⟩:=HBU.out.cells
          have hcells:=heap_alloc_new wu (.cells #[.int .i64 p.fk,.slice p.FA p.fb.length p.fc] 34)
          have hx7:=(Ext.refl wu).alloc (.cells #[.int .i64 p.fk,.slice p.FA p.fb.length p.fc] 34)
          obtain ⟨W7,hW7⟩:∃ W,wu.alloc (.cells #[.int .i64 p.fk,.slice p.FA p.fb.length p.fc] 34)=W:=⟨_,rfl⟩
          rw [hW7] at hcells hx7
          have HD0:=Lib.hid (show W7.cell? ((⟨wu.heap.size,0,none⟩:Addr).add 0)=some (.int .i64 p.fk) by rw [show ((⟨wu.heap.size,0,none⟩:Addr).add 0)=⟨wu.heap.size,0,none⟩ from rfl,cell_of_row _ _ 0 _ _ (0,0) hcells];rfl)
          have HD1:=Lib.hid (show W7.cell? ((⟨wu.heap.size,0,none⟩:Addr).add 1)=some (.slice p.FA p.fb.length p.fc) by rw [show ((⟨wu.heap.size,0,none⟩:Addr).add 1)=⟨wu.heap.size,1,none⟩ from rfl,cell_of_row _ _ 1 _ _ (0,0) hcells];rfl)
          have HM7:=Lib.hid (HMU.out.ext hx7)
          have HB7:=Lib.hid (HINP.out.fb.ext (HX.out.trans HM7.out.ex))
          have HAP:=Lib.hid (show p.fb≠[]→∀ b',(Value.slice p.FA p.fb.length p.fc).ownBlock=some b'→(Value.slice DA az.length dc).ownBlock≠some b' from fun hne b' hb' e=>by
           have h1:=HINP.out.fb.blockLt hne b' hb'
           have h2:=(HM7.out.dv.lt b' e).1
           have h3:=HM7.out.hi
           have h4:=HM7.out.lo
           have h5:=HX.out.size
           omega)
          have HUL:=Lib.hid (show (az.length+1)*32≤140737488355328 by have:=HBND.out.2.2.2;omega)
          clear hcells hx7
          go_wp2_with (at_builtin;refine wpList_append_dov _ rfl (.tmp 98) (.tmp 101) 132 rfl WC.heap.size 34 j0 (.agg #[.int .i64 0,.slice none 0 0]) 32 Tryz.underlying132 ji jz0 jz1 jz2 rfl dat_zero' _ az rfl HM7.out.dv ⟨wu.heap.size,0,none⟩ 1 p.fk p.FA p.fb.length p.fc p.fb rfl HD0.out HD1.out HB7.out HAP.out HUL.out (by decide) HM7.out.sz ?_;intro v7 w7 hd7 hg7 ho7;have HM8:=Lib.hid (HM7.out.app hd7 hg7);obtain ⟨VA,vc,rfl⟩:=hd7.shape;clear hd7 hg7 ho7)
          go_roundw
          case rel=>exact ⟨k+1,rq+1,su2,pl2,fi2,p.t,b2,az++[(p.fk,p.fb)],VA,vc,by omega,rfl,by rw [List.length_append];rfl,by go_num,HM8,HR1⟩
          case measure=>simp [intOf];omega
      ·obtain rfl:n=k:=by omega
       have HRE:=Lib.hid (show RAI (xs.map FV.fct) i (xs.map FV.fct).length rq su pl fi la b az by rw [List.length_map,HN.out];exact HRI.out)
       have hnn:¬ ((n:Int)<(n:Int)):=by omega
       obtain ⟨a0,a1,a2,a3,a4,a5,a6,a7⟩:=HM.out.b5.cells
       cases b with
       | false=>
        have HA1:=Lib.hid (HAL.out.skip (.inr (HRE.out.no (by rw [HW.out];rfl))))
        have HR2:=Lib.hid (HR.out.ext HM.out.ex)
        go_wp2_with fail
        go_roundw
        case rel=>exact ⟨i+1,ms,js,A1,c1,by omega,by go_num,rfl,HR2,HMI,HAI,HA1,HN1,Lib.hid (HX.out.trans HM.out.ex)⟩
        case measure=>simp [intOf];omega
       | true=>
        have HMS:=Lib.hid (HRE.out.fin (by rw [HW.out];rfl) (by rw [List.length_map,HN.out];exact HLX.out) f.CA f.cp f.cc f.cr (by rw [HAK.out];rfl) (by rw [HAK.out];rfl))
        have HFS:=Lib.hid (HRE.out.yes (by rw [HW.out];rfl) (by rw [List.length_map,HN.out];exact HLX.out))
        have f5:wi.frozen? ⟨g5,5,none⟩=false:=RW.soft HM.out.b5 5
        have m6:=HM.out.put (m':=(⟨f.CA,f.cp,f.cc,f.cr,rq,su,pl,(az.length:Int),fi,la⟩:VV)) 5 (.int .i64 (az.length:Int)) (RW.set HM.out.b5 5 _)
        obtain ⟨wz,ez⟩:∃ W,wi.setCell ⟨g5,5,none⟩ (.int .i64 (az.length:Int))=W:=⟨_,rfl⟩
        rw [ez] at m6
        have HMZ:=Lib.hid m6
        have HRZ:=Lib.hid (HR.out.ext m6.ex);have HXZ:=Lib.hid (HX.out.trans m6.ex)
        have HML:=Lib.hid (show ms.length≤1000 by have h1:=HAI.out.1;have h2:=HAL.out.len;omega)
        have HNM:=Lib.hid (show nmA (xs.map FV.fct) i=(dat f.cp,f.cr.data.toList) by unfold nmA;rw [HAK.out];rfl)
        clear m6
        go_wp2_with fail
        ·clear a0 a1 a2 a3 a4 a5 a6 a7 f5
         go_loopw [10] (fun x wr=>∃ a:Nat,a≤ms.length∧x=.int .i64 (a:Int)∧Hid (∀ y (h:y<ms.length),a≤y→cmpP (nmA (xs.map FV.fct) i) (ms[y]'h).nm<0)∧Hid (Ext wz wr)) (fun x _=>(intOf x).toNat)
         case atStart=>exact ⟨ms.length,Nat.le_refl _,rfl,Lib.hid (fun y h h2=>by omega),Lib.hid (Ext.refl _)⟩
         case round=>
          obtain ⟨a,ha,rfl,HC,HXA⟩:=hrel
          obtain ⟨wa,rfl⟩:∃ wo:World,wo=wr:=⟨_,rfl⟩
          obtain ⟨z,hz⟩:∃ z:Int,(a:Int)=z:=⟨_,rfl⟩
          rw [hz]
          cases a with
          | zero=>
           have q1:decide (0<z)=false:=decide_eq_false (by simp at hz;omega)
           go_upto_region 28 with fail
           refine wp_region_ext (fun _ _ _=>False) (by kernel_rfl) (by kernel_rfl) ?_
           refine wpE_op rfl rfl (fun w' hw' K' hK'=>?_)
           have hE:=hw'.1
           go_step
           refine hK' _ ⟨_,rfl⟩ ?_
           clear hK' K' hE hw' w'
           refine wpE_op rfl rfl (fun w' hw' K' hK'=>?_)
           have hE:=hw'.1
           go_step
           refine hK' _ ⟨_,rfl⟩ ?_
           clear hK' K' hE hw' w'
           refine wpE_op rfl rfl (fun w' hw' K' hK'=>?_)
           have hE:=hw'.1
           go_step
           refine hK' _ ⟨_,rfl⟩ ?_
           clear hK' K' hE hw' w'
           try simp only [Act.put,sT1,sT2,sT3]
           refine wpE_sym false undef (by kernel_rfl) rfl (fun hc=>by cases hc) ?_
           simp only [cond_false,Act.put,sT1,sT2,sT3]
           refine wpE_sym false undef (by kernel_rfl) rfl (fun hc=>by cases hc) ?_
           simp only [cond_false,Act.put,sT1,sT2,sT3]
           refine wpE_sym false undef (by kernel_rfl) rfl (fun hc=>by cases hc) ?_
           simp only [cond_false,Act.put,sT1,sT2,sT3]
           refine wpE_sym false undef (by kernel_rfl) rfl (fun hc=>by cases hc) ?_
           simp only [cond_false,Act.put,sT1,sT2,sT3]
           refine wpE_sym false undef (by kernel_rfl) rfl (fun hc=>by cases hc) ?_
           simp only [cond_false,Act.put,sT1,sT2,sT3]
           refine wpE_sym false undef (by kernel_rfl) rfl (fun hc=>by cases hc) ?_
           simp only [cond_false,Act.put,sT1,sT2,sT3]
           refine wpE_sym false undef (by kernel_rfl) rfl (fun hc=>by cases hc) ?_
           simp only [cond_false,Act.put,sT1,sT2,sT3]
           refine wpE_sym false undef (by kernel_rfl) rfl (fun hc=>by cases hc) ?_
           simp only [cond_false,Act.put,sT1,sT2,sT3]
           refine wpE_symcall 121 rfl (by simp) false undef (by kernel_rfl) (fun _ _ h=>h.elim) (fun hc=>by cases hc) ?_
           simp only [cond_false,Act.put,sT1,sT2,sT3]
           refine wpE_op rfl rfl (fun w' hw' K' hK'=>?_)
           have hE:=hw'.1
           go_step
           refine hK' _ ⟨_,rfl⟩ ?_
           clear hK' K' hE hw' w'
           refine wpE_nil (fun W hW=>?_)
           have HXW:=Lib.hid (HXA.out.trans ((Ext.drew wa).trans hW.1))
           clear hW
           have hz0:z=0:=by simp at hz;omega
           subst hz0
           have HD:=Lib.hid (show ∀ (r:Nat) (h:r<ms.length),r+1=0→¬ cmpP (nmA (xs.map FV.fct) i) (ms[r]'h).nm<0 from fun r h e=>by omega)
           clear q1 hz
           rcases HN1.out with ⟨rfl,rfl,rfl⟩ | ⟨g1,rfl⟩
           ·have HTK:=Lib.hid (show RDS EV wz (.slice none 0 0) ([]:List VV) from RDS.nil _)
            have HDK:=Lib.hid (show RDS EV wz (.slice none 0 0) ([]:List VV) from RDS.nil _)
            obtain ⟨mm,hmm⟩:∃ m:VV,(⟨f.CA,f.cp,f.cc,f.cr,rq,su,pl,(az.length:Int),fi,la⟩:VV)=m:=⟨_,rfl⟩
            have HMM:=Lib.hid hmm
            obtain ⟨Y9,hY9⟩:∃ Y,mm::([]:List VV)=Y:=⟨_,rfl⟩
            obtain ⟨n9,hn9⟩:∃ n,Y9.length=n:=⟨_,rfl⟩
            obtain ⟨Y10,hY10⟩:∃ Y,([]:List VV)++Y9=Y:=⟨_,rfl⟩
            obtain ⟨n10,hn10⟩:∃ n,Y10.length=n:=⟨_,rfl⟩
            have HY9:=Lib.hid hY9;have HN9:=Lib.hid hn9;have HY10:=Lib.hid hY10;have HN10:=Lib.hid hn10
            clear hmm hY9 hn9 hY10 hn10
            go_upto_region 30 with fail
            refine wp_region_ext (fun i v' w'=>match i with | 5=>∃ b0,v'=.slice (some ⟨b0,0,none⟩) 1 1∧V8 w' b0 mm | 9=>∃ b c,v'=.slice (some ⟨b,0,none⟩) n9 c∧RDS EV w' (.slice (some ⟨b,0,none⟩) n9 c) Y9 | 10=>∃ b c,v'=.slice (some ⟨b,0,none⟩) n10 c∧RDS EV w' (.slice (some ⟨b,0,none⟩) n10 c) Y10 | _=>False) (by kernel_rfl) (by kernel_rfl) ?_
            refine wpE_op rfl rfl (fun w' hw' K' hK'=>?_)
            have hE:=hw'.1
            go_step
            refine hK' _ ⟨_,rfl⟩ ?_
            clear hK' K' hE hw' w'
            refine wpE_op rfl rfl (fun w' hw' K' hK'=>?_)
            have hE:=hw'.1
            go_step
            refine hK' _ ⟨_,rfl⟩ ?_
            clear hK' K' hE hw' w'
            refine wpE_op rfl rfl (fun w' hw' K' hK'=>?_)
            have hE:=hw'.1
            go_step
            refine hK' _ ⟨_,rfl⟩ ?_
            clear hK' K' hE hw' w'
            refine wpE_op rfl rfl (fun w' hw' K' hK'=>?_)
            have hE:=hw'.1
            go_step
            refine hK' _ ⟨_,rfl⟩ ?_
            clear hK' K' hE hw' w'
            refine wpE_op rfl rfl (fun w' hw' K' hK'=>?_)
            have hE:=hw'.1
            obtain ⟨a0,a1,a2,a3,a4,a5,a6,a7⟩:=(HMZ.out.b5.ext (HXW.out.trans ((Ext.drew W).trans hE))).cells
            go_step
            refine hK' _ ⟨_,rfl⟩ ?_
            clear hK' K' a0 a1 a2 a3 a4 a5 a6 a7 hE hw' w'
            refine wpE_call 130 rfl (by simp) rfl (fun w' hw' K' hK'=>?_) ?_
            ·have hE:=hw'.1
             go_step
             exact hK' _ _ ⟨_,rfl,w'.heap.size,rfl,by rw [← HMM.out];exact heap_alloc_new w' _⟩ ((Ext.refl w').alloc _)
            rintro _ wbx hEb ⟨b0,rfl,hrb⟩
            simp only [Act.put,sT1,sT2,sT3]
            refine wpE_op rfl rfl (fun w' hw' K' hK'=>?_)
            have hE:=hw'.1
            go_step
            refine hK' _ ⟨_,rfl⟩ ?_
            clear hK' K' hE hw' w'
            refine wpE_op rfl rfl (fun w' hw' K' hK'=>?_)
            have hE:=hw'.1
            go_step
            refine hK' _ ⟨_,rfl⟩ ?_
            clear hK' K' hE hw' w'
            refine wpE_op rfl rfl (fun w' hw' K' hK'=>?_)
            have hE:=hw'.1
            go_step
            refine hK' _ ⟨_,rfl⟩ ?_
            clear hK' K' hE hw' w'
            try simp only [Act.put,sT1,sT2,sT3]
            refine wpE_call 134 rfl (by simp) rfl (fun w' hw' K' hK'=>?_) ?_
            ·have hM:Ext wbx w':=hw'.2 130 wbx (by simp [adds]) (by decide)
             obtain ⟨g9,c9,w9,hrun,hrds,hx9⟩:=run_app_one w' 55 b0 mm none 0 0 (([]:List VV)) (V8.ext hrb hM) (by rfl) (fun h=>absurd rfl h) (HDK.out.ext (HXW.out.trans ((Ext.drew W).trans hw'.1))) (by omega)
             rw [HY9.out,HN9.out] at hrun hrds
             exact wp_app (.tmp 130) (.tmp 133) 55 rfl _ _ _ rfl rfl hrun (hK' _ _ ⟨_,rfl,g9,c9,rfl,hrds⟩ hx9)
            rintro _ w9x hE9 ⟨g9,c9,rfl,hr9⟩
            simp only [Act.put,sT1,sT2,sT3]
            refine wpE_call 135 rfl (by simp) rfl (fun w' hw' K' hK'=>?_) ?_
            ·have hM:Ext w9x w':=hw'.2 134 w9x (by simp [adds]) (by decide)
             obtain ⟨gA,cA,wA,hrun,hrds,hxA⟩:=run_app_two w' 55 none g9 0 n9 c9 ([]:List VV) Y9 (by rfl) HN9.out (HTK.out.ext (HXW.out.trans ((Ext.drew W).trans hw'.1))) (hr9.ext hM) (by rw [← HY9.out];simp) (by have h1:=HN9.out;rw [← HY9.out] at h1;simp at h1;omega)
             rw [HY10.out,HN10.out] at hrun hrds
             exact wp_app (.tmp 128) (.tmp 134) 55 rfl _ _ _ rfl rfl hrun (hK' _ _ ⟨_,rfl,gA,cA,rfl,hrds⟩ hxA)
            rintro _ wAx hEA ⟨gA,cA,rfl,hrA⟩
            simp only [Act.put,sT1,sT2,sT3]
            refine wpE_op rfl rfl (fun w' hw' K' hK'=>?_)
            have hE:=hw'.1
            go_step
            refine hK' _ ⟨_,rfl⟩ ?_
            clear hK' K' hE hw' w'
            refine wpE_nil (fun WE hWE=>?_)
            have hxE:Ext w WE:=HXZ.out.trans (HXW.out.trans ((Ext.drew W).trans hWE.1))
            have HRE2:=Lib.hid (show RDS EV WE (.slice (some ⟨gA,0,none⟩) n10 cA) Y10 from hrA.ext (hWE.2 135 wAx (by simp [adds])))
            have HXE:=Lib.hid hxE
            clear hWE hxE hrA hr9 hrb hEA hE9 hEb
            go_wp2_with fail
            go_roundw
            case rel=>
             have hY:Y10=([]:List VV).take 0++mm::([]:List VV).drop 0:=by rw [← HY10.out,← HY9.out];rfl
             have hNX:=HN10.out
             subst hNX
             exact ⟨i+1,Y10,js.take 0++i::js.drop 0,some ⟨gA,0,none⟩,cA,by have:=HLX.out;omega,by go_num,rfl,HRE2,Lib.hid (by rw [hY];exact ins_in HMI.out (show mm.In w from by rw [← HMM.out];exact HINF.out.cp)),
              Lib.hid (by rw [hY];exact HAI.out.ins (by rw [← HMM.out];exact HMS.out) (by rw [← HMM.out];exact HSF.out.cp) (by exact Nat.zero_le _)),Lib.hid (act_ins HAI.out HAL.out (by rw [HW.out];rfl) HFS.out (by exact Nat.zero_le _) HC.out HD.out),Lib.hid (.inr ⟨gA,rfl⟩),HXE⟩
            case measure=>simp [intOf];have:=HLX.out;omega
           ·have HCAP:=Lib.hid (show ms.length≤c1∧c1≤maxLen from by
             obtain ⟨_,c',he,h1,h2,_⟩:=HRZ.out
             have e3:=(Value.slice.inj he).2.2
             exact ⟨e3 ▸ h1,e3 ▸ h2⟩)
            have HTK:=Lib.hid (show RDS EV wz (.slice (some ⟨g1,0,none⟩) 0 0) (ms.take 0) from HRZ.out.take 0 (Nat.zero_le _))
            have HDK:=Lib.hid (show RDS EV wz (.slice (some ⟨g1,0,none⟩) ms.length c1) ms from HRZ.out)
            obtain ⟨mm,hmm⟩:∃ m:VV,(⟨f.CA,f.cp,f.cc,f.cr,rq,su,pl,(az.length:Int),fi,la⟩:VV)=m:=⟨_,rfl⟩
            have HMM:=Lib.hid hmm
            obtain ⟨Y9,hY9⟩:∃ Y,mm::ms=Y:=⟨_,rfl⟩
            obtain ⟨n9,hn9⟩:∃ n,Y9.length=n:=⟨_,rfl⟩
            obtain ⟨Y10,hY10⟩:∃ Y,ms.take 0++Y9=Y:=⟨_,rfl⟩
            obtain ⟨n10,hn10⟩:∃ n,Y10.length=n:=⟨_,rfl⟩
            have HY9:=Lib.hid hY9;have HN9:=Lib.hid hn9;have HY10:=Lib.hid hY10;have HN10:=Lib.hid hn10
            clear hmm hY9 hn9 hY10 hn10
            go_upto_region 30 with fail
            refine wp_region_ext (fun i v' w'=>match i with | 5=>∃ b0,v'=.slice (some ⟨b0,0,none⟩) 1 1∧V8 w' b0 mm | 9=>∃ b c,v'=.slice (some ⟨b,0,none⟩) n9 c∧RDS EV w' (.slice (some ⟨b,0,none⟩) n9 c) Y9 | 10=>∃ b c,v'=.slice (some ⟨b,0,none⟩) n10 c∧RDS EV w' (.slice (some ⟨b,0,none⟩) n10 c) Y10 | _=>False) (by kernel_rfl) (by kernel_rfl) ?_
            refine wpE_op rfl rfl (fun w' hw' K' hK'=>?_)
            have hE:=hw'.1
            go_step
            refine hK' _ ⟨_,rfl⟩ ?_
            clear hK' K' hE hw' w'
            refine wpE_op rfl rfl (fun w' hw' K' hK'=>?_)
            have hE:=hw'.1
            go_step
            refine hK' _ ⟨_,rfl⟩ ?_
            clear hK' K' hE hw' w'
            refine wpE_op rfl rfl (fun w' hw' K' hK'=>?_)
            have hE:=hw'.1
            go_step
            refine hK' _ ⟨_,rfl⟩ ?_
            clear hK' K' hE hw' w'
            refine wpE_op rfl rfl (fun w' hw' K' hK'=>?_)
            have hE:=hw'.1
            have hcap:=HCAP.out;have hml:=HML.out
            go_step
            refine hK' _ ⟨_,rfl⟩ ?_
            clear hK' K' hcap hml hE hw' w'
            refine wpE_op rfl rfl (fun w' hw' K' hK'=>?_)
            have hE:=hw'.1
            obtain ⟨a0,a1,a2,a3,a4,a5,a6,a7⟩:=(HMZ.out.b5.ext (HXW.out.trans ((Ext.drew W).trans hE))).cells
            go_step
            refine hK' _ ⟨_,rfl⟩ ?_
            clear hK' K' a0 a1 a2 a3 a4 a5 a6 a7 hE hw' w'
            refine wpE_call 130 rfl (by simp) rfl (fun w' hw' K' hK'=>?_) ?_
            ·have hE:=hw'.1
             go_step
             exact hK' _ _ ⟨_,rfl,w'.heap.size,rfl,by rw [← HMM.out];exact heap_alloc_new w' _⟩ ((Ext.refl w').alloc _)
            rintro _ wbx hEb ⟨b0,rfl,hrb⟩
            simp only [Act.put,sT1,sT2,sT3]
            refine wpE_op rfl rfl (fun w' hw' K' hK'=>?_)
            have hE:=hw'.1
            go_step
            refine hK' _ ⟨_,rfl⟩ ?_
            clear hK' K' hE hw' w'
            refine wpE_op rfl rfl (fun w' hw' K' hK'=>?_)
            have hE:=hw'.1
            go_step
            refine hK' _ ⟨_,rfl⟩ ?_
            clear hK' K' hE hw' w'
            refine wpE_op rfl rfl (fun w' hw' K' hK'=>?_)
            have hE:=hw'.1
            have hcap:=HCAP.out;have hml:=HML.out
            go_step
            refine hK' _ ⟨_,rfl⟩ ?_
            clear hK' K' hcap hml hE hw' w'
            try simp only [Act.put,sT1,sT2,sT3]
            refine wpE_call 134 rfl (by simp) rfl (fun w' hw' K' hK'=>?_) ?_
            ·have hM:Ext wbx w':=hw'.2 130 wbx (by simp [adds]) (by decide)
             obtain ⟨g9,c9,w9,hrun,hrds,hx9⟩:=run_app_one w' 55 b0 mm (some ⟨g1,0,none⟩) ms.length c1 (ms) (V8.ext hrb hM) (by rfl) (fun _=>⟨_,rfl⟩) (HDK.out.ext (HXW.out.trans ((Ext.drew W).trans hw'.1))) (by have:=HML.out;omega)
             rw [HY9.out,HN9.out] at hrun hrds
             exact wp_app (.tmp 130) (.tmp 133) 55 rfl _ _ _ rfl rfl hrun (hK' _ _ ⟨_,rfl,g9,c9,rfl,hrds⟩ hx9)
            rintro _ w9x hE9 ⟨g9,c9,rfl,hr9⟩
            simp only [Act.put,sT1,sT2,sT3]
            refine wpE_call 135 rfl (by simp) rfl (fun w' hw' K' hK'=>?_) ?_
            ·have hM:Ext w9x w':=hw'.2 134 w9x (by simp [adds]) (by decide)
             obtain ⟨gA,cA,wA,hrun,hrds,hxA⟩:=run_app_two w' 55 (some ⟨g1,0,none⟩) g9 0 n9 c9 (ms.take 0) Y9 (by rfl) HN9.out (HTK.out.ext (HXW.out.trans ((Ext.drew W).trans hw'.1))) (hr9.ext hM) (by rw [← HY9.out];simp) (by have h1:=HN9.out;rw [← HY9.out] at h1;simp at h1;have h2:=HML.out;omega)
             rw [HY10.out,HN10.out] at hrun hrds
             exact wp_app (.tmp 128) (.tmp 134) 55 rfl _ _ _ rfl rfl hrun (hK' _ _ ⟨_,rfl,gA,cA,rfl,hrds⟩ hxA)
            rintro _ wAx hEA ⟨gA,cA,rfl,hrA⟩
            simp only [Act.put,sT1,sT2,sT3]
            refine wpE_op rfl rfl (fun w' hw' K' hK'=>?_)
            have hE:=hw'.1
            go_step
            refine hK' _ ⟨_,rfl⟩ ?_
            clear hK' K' hE hw' w'
            refine wpE_nil (fun WE hWE=>?_)
            have hxE:Ext w WE:=HXZ.out.trans (HXW.out.trans ((Ext.drew W).trans hWE.1))
            have HRE2:=Lib.hid (show RDS EV WE (.slice (some ⟨gA,0,none⟩) n10 cA) Y10 from hrA.ext (hWE.2 135 wAx (by simp [adds])))
            have HXE:=Lib.hid hxE
            clear hWE hxE hrA hr9 hrb hEA hE9 hEb
            go_wp2_with fail
            go_roundw
            case rel=>
             have hY:Y10=ms.take 0++mm::ms.drop 0:=by rw [← HY10.out,← HY9.out];rfl
             have hNX:=HN10.out
             subst hNX
             exact ⟨i+1,Y10,js.take 0++i::js.drop 0,some ⟨gA,0,none⟩,cA,by have:=HLX.out;omega,by go_num,rfl,HRE2,Lib.hid (by rw [hY];exact ins_in HMI.out (show mm.In w from by rw [← HMM.out];exact HINF.out.cp)),
              Lib.hid (by rw [hY];exact HAI.out.ins (by rw [← HMM.out];exact HMS.out) (by rw [← HMM.out];exact HSF.out.cp) (by exact Nat.zero_le _)),Lib.hid (act_ins HAI.out HAL.out (by rw [HW.out];rfl) HFS.out (by exact Nat.zero_le _) HC.out HD.out),Lib.hid (.inr ⟨gA,rfl⟩),HXE⟩
            case measure=>simp [intOf];have:=HLX.out;omega
          | succ r=>
           have hz2:z=(r:Int)+1:=by rw [← hz];simp
           have q1:decide (0<z)=true:=decide_eq_true (by omega)
           have hr:r<ms.length:=by omega
           have HSUB:=Lib.hid (show wrap64 (z-1)=(r:Int) by rw [hz2,Int.add_sub_cancel];exact IntWalk.wrap64_in _ (by have:=HML.out;omega))
           have HWR:=Lib.hid (show wrap64 (r:Int)=(r:Int) from IntWalk.wrap64_in _ (by have:=HML.out;omega))
           have HWZ:=Lib.hid (show wrap64 ((r:Int)+1)=(r:Int)+1 from IntWalk.wrap64_in _ (by have:=HML.out;omega))
           have HRN:=Lib.hid (show r≤ms.length by omega)
           have HMR:=Lib.hid (show (intOf (.int .i64 (r:Int))).toNat<(intOf (.int .i64 z)).toNat by simp [intOf];omega)
           have HR2:=Lib.hid (show (0:Int)≤(r:Int)∧(r:Int)<(ms.length:Int) by omega)
           obtain ⟨pa,rfl,h8⟩:=HRZ.out.act_at r hr
           have hin:=HMI.out _ (List.getElem_mem hr)
           have hl8:=HAI.out.2.2 _ (List.getElem_mem hr)
           obtain ⟨q,hq⟩:∃ q,ms[r]=q:=⟨_,rfl⟩
           have HRL:=Lib.hid hr
           rw [hq] at h8 hin hl8
           obtain ⟨bb,hbb⟩:∃ bb,decide (cmpN (dat f.cp) f.cr.data.toList (dat q.cp) q.cr.data.toList<0)=bb:=⟨_,rfl⟩
           have HCB:=Lib.hid (show ∀ (h:r<ms.length),decide (cmpP (nmA (xs.map FV.fct) i) (ms[r]'h).nm<0)=bb from fun h=>by rw [show ms[r]'h=q from hq,HNM.out];exact hbb)
           have HBF:=Lib.hid (fun W (hW:Ext wz W)=>RBefore_at f.CA f.cc f.cp f.cr q.CA q.cc q.cp q.cr HSF.out.cp hl8 W (HINF.out.cp.ext (HXZ.out.trans hW)) (hin.ext (HXZ.out.trans hW)))
           rw [hbb] at HBF
           have HY8:=Lib.hid h8
           clear hbb h8 hin hl8 hq hr
           go_upto_region 28 with fail
           refine wp_region_ext (fun i v' w'=>match i with | 11=>v'=.bool bb | _=>False) (by kernel_rfl) (by kernel_rfl) ?_
           refine wpE_op rfl rfl (fun w' hw' K' hK'=>?_)
           have hE:=hw'.1
           go_step
           refine hK' _ ⟨_,rfl⟩ ?_
           clear hK' K' hE hw' w'
           refine wpE_op rfl rfl (fun w' hw' K' hK'=>?_)
           have hE:=hw'.1
           go_step
           refine hK' _ ⟨_,rfl⟩ ?_
           clear hK' K' hE hw' w'
           refine wpE_op rfl rfl (fun w' hw' K' hK'=>?_)
           have hE:=hw'.1
           go_step
           refine hK' _ ⟨_,rfl⟩ ?_
           clear hK' K' hE hw' w'
           refine wpE_op (by kernel_rfl) rfl (fun w' hw' K' hK'=>?_)
           have hE:=hw'.1
           go_step
           refine hK' _ ⟨_,rfl⟩ ?_
           clear hK' K' hE hw' w'
           refine wpE_op (by kernel_rfl) rfl (fun w' hw' K' hK'=>?_)
           have hE:=hw'.1
           obtain ⟨a0,a1,a2,a3,a4,a5,a6,a7⟩:=(HMZ.out.b5.ext (HXA.out.trans ((Ext.drew wa).trans hE))).cells
           go_step
           refine hK' _ ⟨_,rfl⟩ ?_
           clear hK' K' a0 a1 a2 a3 a4 a5 a6 a7 hE hw' w'
           refine wpE_op (by kernel_rfl) rfl (fun w' hw' K' hK'=>?_)
           have hE:=hw'.1
           go_step
           refine hK' _ ⟨_,rfl⟩ ?_
           clear hK' K' hE hw' w'
           refine wpE_op (by kernel_rfl) rfl (fun w' hw' K' hK'=>?_)
           have hE:=hw'.1
           go_step
           refine hK' _ ⟨_,rfl⟩ ?_
           clear hK' K' hE hw' w'
           refine wpE_op (by kernel_rfl) rfl (fun w' hw' K' hK'=>?_)
           have hE:=hw'.1
           have hsub:=HSUB.out
           go_step
           refine hK' _ ⟨_,rfl⟩ ?_
           clear hK' K' hsub hE hw' w'
           refine wpE_op (by kernel_rfl) rfl (fun w' hw' K' hK'=>?_)
           have hE:=hw'.1
           have hwr:=HWR.out;have hr2:=HR2.out
           go_step
           refine hK' _ ⟨_,rfl⟩ ?_
           clear hK' K' hwr hr2 hE hw' w'
           refine wpE_op (by kernel_rfl) rfl (fun w' hw' K' hK'=>?_)
           have hE:=hw'.1
           go_step
           refine hK' _ ⟨_,rfl⟩ ?_
           clear hK' K' hE hw' w'
           refine wpE_op (by kernel_rfl) rfl (fun w' hw' K' hK'=>?_)
           have hE:=hw'.1
           obtain ⟨y0,y1,y2,y3,y4,y5,y6,y7⟩:=(HY8.out.ext (HXA.out.trans ((Ext.drew wa).trans hE))).cells
           go_step
           refine hK' _ ⟨_,rfl⟩ ?_
           clear hK' K' y0 y1 y2 y3 y4 y5 y6 y7 hE hw' w'
           refine wpE_call 121 rfl (by simp) (by kernel_rfl) (fun w' hw' K' hK'=>?_) ?_
           ·have hE:=hw'.1
            go_step
            refine (HBF.out w' (HXA.out.trans ((Ext.drew wa).trans hE))).mono ?_
            rintro _ w2 ⟨rfl,hx⟩
            exact hK' _ _ ⟨_,rfl,rfl⟩ hx
           rintro _ w6 _ rfl
           simp only [Act.put,sT1,sT2,sT3]
           refine wpE_op rfl rfl (fun w' hw' K' hK'=>?_)
           have hE:=hw'.1
           go_step
           refine hK' _ ⟨_,rfl⟩ ?_
           clear hK' K' hE hw' w'
           refine wpE_nil (fun W hW=>?_)
           have HXW:=Lib.hid (HXA.out.trans ((Ext.drew wa).trans hW.1))
           clear hW
           cases bb with
           | true=>
            have hsub:=HSUB.out;have hwr:=HWR.out
            go_wp2_with fail
            go_roundw
            case rel=>exact ⟨r,HRN.out,by rw [HWR.out],Lib.hid (fun y h h2=>by
             rcases Nat.eq_or_lt_of_le h2 with e | h3
             ·subst e;exact of_decide_eq_true (HCB.out h)
             ·exact HC.out y h h3),HXW⟩
            case measure=>rw [HWR.out];exact HMR.out
           | false=>
            have HD:=Lib.hid (show ∀ (r':Nat) (h:r'<ms.length),r'+1=r+1→¬ cmpP (nmA (xs.map FV.fct) i) (ms[r']'h).nm<0 from fun r' h e=>by
             obtain rfl:r'=r:=by omega
             exact of_decide_eq_false (HCB.out h))
            clear q1 HSUB HBF HY8
            rcases HN1.out with ⟨_,rfl,_⟩ | ⟨g1,hg1⟩
            ·exact absurd HRL.out (Nat.not_lt_zero r)
            injection hg1 with hg1
            subst hg1
            have HZF:=Lib.hid (show wrap64 z=z∧0≤z∧z≤(ms.length:Int)∧z.toNat=r+1 from ⟨by rw [hz2];exact HWZ.out,by omega,by have:=HRL.out;omega,by omega⟩)
            clear hz2 hz
            ·have HCAP:=Lib.hid (show ms.length≤c1∧c1≤maxLen from by
              obtain ⟨_,c',he,h1,h2,_⟩:=HRZ.out
              have e3:=(Value.slice.inj he).2.2
              exact ⟨e3 ▸ h1,e3 ▸ h2⟩)
             have HTK:=Lib.hid (show RDS EV wz (.slice (some ⟨g1,0,none⟩) (r+1) (r+1)) (ms.take (r+1)) from by
              have h:=HRZ.out.take (r+1) HRL.out
              rw [List.length_take_of_le HRL.out] at h
              exact h)
             have HDK:=Lib.hid (show RDS EV wz (.slice (if c1=r+1 then some ⟨g1,0,none⟩ else some ⟨g1,(r+1)*8,none⟩) (ms.length-(r+1)) (c1-(r+1))) (ms.drop (r+1)) from by
              have h:=HRZ.out.drop (r+1) HRL.out
              rw [List.length_drop] at h
              exact h)
             obtain ⟨mm,hmm⟩:∃ m:VV,(⟨f.CA,f.cp,f.cc,f.cr,rq,su,pl,(az.length:Int),fi,la⟩:VV)=m:=⟨_,rfl⟩
             have HMM:=Lib.hid hmm
             obtain ⟨Y9,hY9⟩:∃ Y,mm::ms.drop (r+1)=Y:=⟨_,rfl⟩
             obtain ⟨n9,hn9⟩:∃ n,Y9.length=n:=⟨_,rfl⟩
             obtain ⟨Y10,hY10⟩:∃ Y,ms.take (r+1)++Y9=Y:=⟨_,rfl⟩
             obtain ⟨n10,hn10⟩:∃ n,Y10.length=n:=⟨_,rfl⟩
             have HY9:=Lib.hid hY9;have HN9:=Lib.hid hn9;have HY10:=Lib.hid hY10;have HN10:=Lib.hid hn10
             clear hmm hY9 hn9 hY10 hn10
             go_upto_region 30 with fail
             refine wp_region_ext (fun i v' w'=>match i with | 5=>∃ b0,v'=.slice (some ⟨b0,0,none⟩) 1 1∧V8 w' b0 mm | 9=>∃ b c,v'=.slice (some ⟨b,0,none⟩) n9 c∧RDS EV w' (.slice (some ⟨b,0,none⟩) n9 c) Y9 | 10=>∃ b c,v'=.slice (some ⟨b,0,none⟩) n10 c∧RDS EV w' (.slice (some ⟨b,0,none⟩) n10 c) Y10 | _=>False) (by kernel_rfl) (by kernel_rfl) ?_
             refine wpE_op rfl rfl (fun w' hw' K' hK'=>?_)
             have hE:=hw'.1
             go_step
             refine hK' _ ⟨_,rfl⟩ ?_
             clear hK' K' hE hw' w'
             refine wpE_op rfl rfl (fun w' hw' K' hK'=>?_)
             have hE:=hw'.1
             go_step
             refine hK' _ ⟨_,rfl⟩ ?_
             clear hK' K' hE hw' w'
             refine wpE_op rfl rfl (fun w' hw' K' hK'=>?_)
             have hE:=hw'.1
             go_step
             refine hK' _ ⟨_,rfl⟩ ?_
             clear hK' K' hE hw' w'
             refine wpE_op rfl rfl (fun w' hw' K' hK'=>?_)
             have hE:=hw'.1
             have hcap:=HCAP.out;have hml:=HML.out;obtain ⟨hzw,hz0,hz1,hzt⟩:=HZF.out;have hz2:z≤(c1:Int):=by omega
             go_step
             refine hK' _ ⟨_,rfl⟩ ?_
             clear hK' K' hcap hml hzw hz0 hz1 hzt hz2 hE hw' w'
             refine wpE_op rfl rfl (fun w' hw' K' hK'=>?_)
             have hE:=hw'.1
             obtain ⟨a0,a1,a2,a3,a4,a5,a6,a7⟩:=(HMZ.out.b5.ext (HXW.out.trans ((Ext.drew W).trans hE))).cells
             go_step
             refine hK' _ ⟨_,rfl⟩ ?_
             clear hK' K' a0 a1 a2 a3 a4 a5 a6 a7 hE hw' w'
             refine wpE_call 130 rfl (by simp) rfl (fun w' hw' K' hK'=>?_) ?_
             ·have hE:=hw'.1
              go_step
              exact hK' _ _ ⟨_,rfl,w'.heap.size,rfl,by rw [← HMM.out];exact heap_alloc_new w' _⟩ ((Ext.refl w').alloc _)
             rintro _ wbx hEb ⟨b0,rfl,hrb⟩
             simp only [Act.put,sT1,sT2,sT3]
             refine wpE_op rfl rfl (fun w' hw' K' hK'=>?_)
             have hE:=hw'.1
             go_step
             refine hK' _ ⟨_,rfl⟩ ?_
             clear hK' K' hE hw' w'
             refine wpE_op rfl rfl (fun w' hw' K' hK'=>?_)
             have hE:=hw'.1
             go_step
             refine hK' _ ⟨_,rfl⟩ ?_
             clear hK' K' hE hw' w'
             refine wpE_op rfl rfl (fun w' hw' K' hK'=>?_)
             have hE:=hw'.1
             have hcap:=HCAP.out;have hml:=HML.out;obtain ⟨hzw,hz0,hz1,hzt⟩:=HZF.out;have hz2:z≤(c1:Int):=by omega
             go_step
             refine hK' _ ⟨_,rfl⟩ ?_
             clear hK' K' hcap hml hzw hz0 hz1 hzt hz2 hE hw' w'
             try simp only [Act.put,sT1,sT2,sT3]
             refine wpE_call 134 rfl (by simp) rfl (fun w' hw' K' hK'=>?_) ?_
             ·have hM:Ext wbx w':=hw'.2 130 wbx (by simp [adds]) (by decide)
              obtain ⟨g9,c9,w9,hrun,hrds,hx9⟩:=run_app_one w' 55 b0 mm (if c1=r+1 then some ⟨g1,0,none⟩ else some ⟨g1,(r+1)*8,none⟩) (ms.length-(r+1)) (c1-(r+1)) (ms.drop (r+1)) (V8.ext hrb hM) (by exact List.length_drop) (fun _=>by split<;>exact ⟨_,rfl⟩) (HDK.out.ext (HXW.out.trans ((Ext.drew W).trans hw'.1))) (by have:=HML.out;omega)
              rw [HY9.out,HN9.out] at hrun hrds
              exact wp_app (.tmp 130) (.tmp 133) 55 rfl _ _ _ rfl rfl hrun (hK' _ _ ⟨_,rfl,g9,c9,rfl,hrds⟩ hx9)
             rintro _ w9x hE9 ⟨g9,c9,rfl,hr9⟩
             simp only [Act.put,sT1,sT2,sT3]
             refine wpE_call 135 rfl (by simp) rfl (fun w' hw' K' hK'=>?_) ?_
             ·have hM:Ext w9x w':=hw'.2 134 w9x (by simp [adds]) (by decide)
              obtain ⟨gA,cA,wA,hrun,hrds,hxA⟩:=run_app_two w' 55 (some ⟨g1,0,none⟩) g9 (r+1) n9 c9 (ms.take (r+1)) Y9 (by exact List.length_take_of_le HRL.out) HN9.out (HTK.out.ext (HXW.out.trans ((Ext.drew W).trans hw'.1))) (hr9.ext hM) (by rw [← HY9.out];simp) (by have h1:=HN9.out;rw [← HY9.out] at h1;simp at h1;have h2:=HML.out;have h3:=HRL.out;omega)
              rw [HY10.out,HN10.out] at hrun hrds
              exact wp_app (.tmp 128) (.tmp 134) 55 rfl _ _ _ rfl rfl hrun (hK' _ _ ⟨_,rfl,gA,cA,rfl,hrds⟩ hxA)
             rintro _ wAx hEA ⟨gA,cA,rfl,hrA⟩
             simp only [Act.put,sT1,sT2,sT3]
             refine wpE_op rfl rfl (fun w' hw' K' hK'=>?_)
             have hE:=hw'.1
             go_step
             refine hK' _ ⟨_,rfl⟩ ?_
             clear hK' K' hE hw' w'
             refine wpE_nil (fun WE hWE=>?_)
             have hxE:Ext w WE:=HXZ.out.trans (HXW.out.trans ((Ext.drew W).trans hWE.1))
             have HRE2:=Lib.hid (show RDS EV WE (.slice (some ⟨gA,0,none⟩) n10 cA) Y10 from hrA.ext (hWE.2 135 wAx (by simp [adds])))
             have HXE:=Lib.hid hxE
             clear hWE hxE hrA hr9 hrb hEA hE9 hEb
             go_wp2_with fail
             go_roundw
             case rel=>
              have hY:Y10=ms.take (r+1)++mm::ms.drop (r+1):=by rw [← HY10.out,← HY9.out]
              have hNX:=HN10.out
              subst hNX
              exact ⟨i+1,Y10,js.take (r+1)++i::js.drop (r+1),some ⟨gA,0,none⟩,cA,by have:=HLX.out;omega,by go_num,rfl,HRE2,Lib.hid (by rw [hY];exact ins_in HMI.out (show mm.In w from by rw [← HMM.out];exact HINF.out.cp)),
               Lib.hid (by rw [hY];exact HAI.out.ins (by rw [← HMM.out];exact HMS.out) (by rw [← HMM.out];exact HSF.out.cp) (by exact HRL.out)),Lib.hid (act_ins HAI.out HAL.out (by rw [HW.out];rfl) HFS.out (by exact HRL.out) HC.out HD.out),Lib.hid (.inr ⟨gA,rfl⟩),HXE⟩
             case measure=>simp [intOf];have:=HLX.out;omega
  ·obtain rfl:n=i:=by omega
   have HLN:=Lib.hid (show ActL (xs.map FV.fct) (xs.map FV.fct).length js by rw [List.length_map,HN.out];exact HAL.out)
   have hnn:¬ ((n:Int)<(n:Int)):=by omega
   go_wp2_with fail
   go_ret
   exact ⟨⟨A1,c1,ms,js,rfl,HR.out,fun m hm=>VV.In.ext (HMI.out m hm) HX.out,HAI.out,HLN.out⟩,HX.out⟩
end Go.Proofs.YtnjmndofcpnmeaaGreatDoor
