/- Pq51. -/
import Derived.Test.YtnjmndofcpnmeaaGreatDoorPq0
import Derived.Test.YtnjmndofcpnmeaaGreatDoorPq49
namespace Go.Proofs.YtnjmndofcpnmeaaGreatDoor
open Go Go.RowKit
set_option linter.unusedVariables false
set_option maxRecDepth 100000 in
set_option maxHeartbeats 2000000 in
theorem lawLgLo (A:Option Addr) (c:Nat) (xs:List FV) (s:ByteArray) (w:World) (hF:FS w (.slice A xs.length c) xs) (hwf:∀ f∈xs,f.Wf) (hE:EnvA w):
  Calls Tryz.prog 7 #[.slice A xs.length c,.string s] w fun e w'=>e=.returned (.bool true)∧Ext w w':=by
 have HFW:=Lib.hid (Few_at A c xs w hF)
 have HF:=Lib.hid hF;have HE:=Lib.hid hE
 obtain ⟨fb,hfb⟩:∃ b,fewB xs=b:=⟨_,rfl⟩
 rw [hfb] at HFW
 obtain ⟨n,hn'⟩:∃ n,xs.length=n:=⟨_,rfl⟩
 have HN:=Lib.hid hn'
 rw [hn'] at HF HFW ⊢
 clear hF hE hwf hn'
 cases fb with
 | false=>
  clear hfb
  go_enter Tryz.func7,Tryz.ntmps7
  go_wp2_with fail
  refine HFW.out.mono ?_
  rintro _ w1 ⟨rfl,hx1⟩
  have HX1:=Lib.hid hx1
  clear hx1
  go_wp2_with fail
  refine (LKnown_at _ (HE.out.ext HX1.out)).mono ?_
  rintro _ wk ⟨rfl,hxk⟩
  have HXK:=Lib.hid (HX1.out.trans hxk)
  clear hxk
  go_wp2_with fail
  go_ret
  exact ⟨rfl,HXK.out⟩
 | true=>
 have HSZ:=Lib.hid (fewB_yes hfb).1
 have hn40:n≤40:=by have:=(fewB_yes hfb).2;rw [HN.out] at this;exact this
 clear hfb
 by_cases h2:s.size≤2000
 case neg=>
  have q2:(2000:Int)<(s.size:Int):=by omega
  clear h2
  go_enter Tryz.func7,Tryz.ntmps7
  go_wp2_with fail
  refine HFW.out.mono ?_
  rintro _ w1 ⟨rfl,hx1⟩
  have HX1:=Lib.hid hx1
  clear hx1
  go_wp2_with fail
  refine (LKnown_at _ (HE.out.ext HX1.out)).mono ?_
  rintro _ wk ⟨rfl,hxk⟩
  have HXK:=Lib.hid (HX1.out.trans hxk)
  clear hxk
  go_wp2_with fail
  go_ret
  exact ⟨rfl,HXK.out⟩
 have q2:(s.size:Int)≤2000:=by omega
 have P2:=Lib.hid h2
 clear h2
 have HLG:=Lib.hid (fun W (hx:Ext w W)=>LLog_at A c xs W ((HN.out ▸ HF.out:FS w (.slice A xs.length c) xs).ext hx) (by have:=HN.out;omega) HSZ.out (HE.out.ext hx))
 have HRG:=Lib.hid (fun W (hx:Ext w W)=>RLog_at A c xs W ((HN.out ▸ HF.out:FS w (.slice A xs.length c) xs).ext hx) (by have:=HN.out;omega) HSZ.out)
 have HPS:=Lib.hid (fun W (hx:Ext w W)=>PLogE_at s P2.out W (HE.out.ext hx))
 have HRS:=Lib.hid (fun W (hx:Ext w W)=>RPLogE_at s P2.out W (HE.out.ext hx))
 unfold logR at HLG HRG
 obtain ⟨ok,hok⟩:∃ b,(xs.all fun x=>x.fct.ok)=b:=⟨_,rfl⟩
 rw [hok] at HLG HRG
 obtain ⟨TL,hTL⟩:∃ T:ByteArray,(⟨(bif ok then logT (xs.map FV.fct) else []).toArray⟩:ByteArray)=T:=⟨_,rfl⟩
 obtain ⟨ev,hev⟩:∃ ev:Int,(bif ok then 0 else 2)=ev:=⟨_,rfl⟩
 rw [hTL,hev,HN.out] at HLG HRG
 clear hTL hok hev
 go_enter Tryz.func7,Tryz.ntmps7
 go_wp2_with fail
 refine HFW.out.mono ?_
 rintro _ w1 ⟨rfl,hx1⟩
 have HX1:=Lib.hid hx1
 clear hx1 HFW
 go_wp2_with fail
 refine (HLG.out _ HX1.out).mono ?_
 rintro _ w2 ⟨rfl,hx2⟩
 have HX2:=Lib.hid (HX1.out.trans hx2)
 clear hx2 HX1 HLG
 go_wp2_with fail
 refine (HRG.out _ HX2.out).mono ?_
 rintro _ w3 ⟨rfl,hx3⟩
 have HX3:=Lib.hid (HX2.out.trans hx3)
 clear hx3 HX2 HRG
 go_wp2_with fail
 refine (HPS.out _ HX3.out).mono ?_
 rintro _ w4 ⟨⟨A4,c4,fs,n4,e4,rfl,hf4,hz4,he4⟩,hx4⟩
 have HX4:=Lib.hid (HX3.out.trans hx4);have HF4:=Lib.hid hf4;have HZ4:=Lib.hid hz4;have HE4:=Lib.hid he4
 clear hx4 hf4 hz4 he4 HX3 HPS
 go_wp2_with fail
 refine (HRS.out _ HX4.out).mono ?_
 rintro _ w5 ⟨⟨A5,c5,gs,n5,e5,rfl,hf5,hz5,he5⟩,hx5⟩
 have hall:fs.map FV.fct=gs.map FV.fct∧n4=n5∧e4=e5:=by
  have h1:=HE4.out.trans he5.symm
  injection h1 with h1 h2
  injection h2 with h2 h3
  exact ⟨h1,h2,h3⟩
 obtain ⟨hfg,rfl,rfl⟩:=hall
 have hlen:gs.length=fs.length:=by have:=congrArg List.length hfg;rw [List.length_map,List.length_map] at this;exact this.symm
 obtain ⟨m,hm⟩:∃ m,fs.length=m:=⟨_,rfl⟩
 have HFL:=Lib.hid hm;have HGL:=Lib.hid (hlen.trans hm)
 have hml:(m:Int)≤9223372036854775807:=by
  obtain ⟨_,_,_,h1,h2⟩:=HF4.out.shape
  unfold maxLen at h2
  omega
 have HX5:=Lib.hid (HX4.out.trans hx5);have HFF:=Lib.hid (HF4.out.ext hx5);have HGG:=Lib.hid hf5;have HZ5:=Lib.hid hz5;have HFG:=Lib.hid hfg
 rw [hlen.trans hm,hm]
 clear hx5 hf5 hz5 he5 hfg hlen hm HX4 HRS HF4 HE4
 have hTT:(TL.toList==TL.toList)=true:=beq_self_eq_true _
 have hee:(ev != ev)=false:=by simp
 have hmm:((m:Int) != (m:Int))=false:=by simp
 have hnn:(n4 != n4)=false:=by simp
 have hff:(e4 != e4)=false:=by simp
 go_wp2_with fail
 clear hTT hee hmm hnn hff
 go_loopw [15] (fun i wr=>∃ k:Nat,k≤m∧i=.int .i64 k∧Hid (Ext w5 wr)) (fun i _=>m-(intOf i).toNat)
 case atStart=>exact ⟨0,Nat.zero_le _,rfl,Lib.hid (Ext.refl w5)⟩
 case round=>
  obtain ⟨k,hk,rfl,HX⟩:=hrel
  obtain ⟨wo,rfl⟩:∃ wo:World,wo=wr:=⟨_,rfl⟩
  by_cases hlt:k<m
  ·obtain ⟨hin5,a5,rfl,h5⟩:=(HFF.out.ext HX.out).f12 k (by rw [HFL.out];exact hlt)
   obtain ⟨hin0,a0,rfl,h0⟩:=(HGG.out.ext HX.out).f12 k (by rw [HGL.out];exact hlt)
   have hsm:sameF (fs[k]'(by rw [HFL.out];exact hlt)) (gs[k]'(by rw [HGL.out];exact hlt))=true:=sameF_fct (by
    have e:=congrArg (fun l:List Fct=>l[k]?) HFG.out
    rw [List.getElem?_map,List.getElem?_map,List.getElem?_eq_getElem (by rw [HFL.out];exact hlt),List.getElem?_eq_getElem (by rw [HGL.out];exact hlt)] at e
    simpa using e)
   have hz1:=HZ4.out _ (List.getElem_mem (show k<fs.length by rw [HFL.out];exact hlt))
   have hz0:=HZ5.out _ (List.getElem_mem (show k<gs.length by rw [HGL.out];exact hlt))
   generalize (fs[k]'(by rw [HFL.out];exact hlt))=q at *
   generalize (gs[k]'(by rw [HGL.out];exact hlt))=p at *
   have HSM:=Lib.hid (fun W (hW:Ext wo W)=>(show Calls Tryz.prog 13 #[q.val,p.val] W fun e w'=>e=.returned (.bool true)∧Ext W w' from by
    have k:=SameF_at q p W (hin5.ext hW) (hin0.ext hW) hz1 hz0
    rw [hsm] at k
    exact k))
   unfold FV.val at HSM
   have HQ:=Lib.hid h5;have HP:=Lib.hid h0
   clear hin5 hin0 hsm hz1 hz0 h5 h0
   go_upto_region 12 with fail
   refine wp_region_ext (fun i v' w'=>match i with | 8=>v'=.bool true | _=>False) (by kernel_rfl) (by kernel_rfl) ?_
   refine wpE_op rfl rfl (fun w' hw' K' hK'=>?_)
   have hE:=hw'.1
   go_step
   refine hK' _ ⟨_,rfl⟩ ?_
   clear hK' K' hE hw' w'
   refine wpE_op rfl rfl (fun w' hw' K' hK'=>?_)
   have hE:=hw'.1
   go_step
   refine hK' _ ⟨_,rfl⟩ ?_
   clear hK' K' hE hw' w'
   refine wpE_op rfl rfl (fun w' hw' K' hK'=>?_)
   have hE:=hw'.1
   go_step
   refine hK' _ ⟨_,rfl⟩ ?_
   clear hK' K' hE hw' w'
   refine wpE_op rfl rfl (fun w' hw' K' hK'=>?_)
   have hE:=hw'.1
   obtain ⟨u0,u1,u2,u3,u4,u5,u6,u7,u8,u9,u10,u11⟩:=(HQ.out.ext ((Ext.drew wo).trans hE)).cells
   go_step
   refine hK' _ ⟨_,rfl⟩ ?_
   clear hK' K' u0 u1 u2 u3 u4 u5 u6 u7 u8 u9 u10 u11 hE hw' w'
   refine wpE_op rfl rfl (fun w' hw' K' hK'=>?_)
   have hE:=hw'.1
   go_step
   refine hK' _ ⟨_,rfl⟩ ?_
   clear hK' K' hE hw' w'
   refine wpE_op rfl rfl (fun w' hw' K' hK'=>?_)
   have hE:=hw'.1
   go_step
   refine hK' _ ⟨_,rfl⟩ ?_
   clear hK' K' hE hw' w'
   refine wpE_op rfl rfl (fun w' hw' K' hK'=>?_)
   have hE:=hw'.1
   go_step
   refine hK' _ ⟨_,rfl⟩ ?_
   clear hK' K' hE hw' w'
   refine wpE_op rfl rfl (fun w' hw' K' hK'=>?_)
   have hE:=hw'.1
   obtain ⟨v0,v1,v2,v3,v4,v5,v6,v7,v8,v9,v10,v11⟩:=(HP.out.ext ((Ext.drew wo).trans hE)).cells
   go_step
   refine hK' _ ⟨_,rfl⟩ ?_
   clear hK' K' v0 v1 v2 v3 v4 v5 v6 v7 v8 v9 v10 v11 hE hw' w'
   refine wpE_call 86 rfl (by simp) rfl (fun w' hw' K' hK'=>?_) ?_
   ·have hE:=hw'.1
    go_step
    refine (HSM.out w' ((Ext.drew _).trans hE)).mono ?_
    rintro _ w2 ⟨rfl,hx⟩
    exact hK' _ _ ⟨_,rfl,rfl⟩ hx
   rintro _ w6 _ rfl
   simp only [Act.put,sT1,sT2,sT3]
   refine wpE_op rfl rfl (fun w' hw' K' hK'=>?_)
   have hE:=hw'.1
   go_step
   refine hK' _ ⟨_,rfl⟩ ?_
   clear hK' K' hE hw' w'
   refine wpE_nil (fun W hW=>?_)
   have HXW:=Lib.hid (HX.out.trans ((Ext.drew wo).trans hW.1))
   clear hW
   go_wp2_with fail
   go_roundw
   case rel=>exact ⟨k+1,by omega,by go_num,HXW⟩
   case measure=>simp [intOf];omega
  ·have HX6:=Lib.hid (HX5.out.trans HX.out)
   go_wp2_with fail
   refine (LKnown_at _ (HE.out.ext HX6.out)).mono ?_
   rintro _ wk ⟨rfl,hxk⟩
   have HXK:=Lib.hid (HX6.out.trans hxk)
   clear hxk
   go_wp2_with fail
   go_ret
   exact ⟨rfl,HXK.out⟩
end Go.Proofs.YtnjmndofcpnmeaaGreatDoor
