/- Pa45. -/
import Derived.Test.YtnjmndofcpnmeaaGreatDoorPa0
import Derived.Test.YtnjmndofcpnmeaaGreatDoorPa43
import Derived.Test.YtnjmndofcpnmeaaGreatDoorPa44
import Derived.Test.YtnjmndofcpnmeaaGreatDoorPa39
import Derived.Test.YtnjmndofcpnmeaaGreatDoorPa3
import Derived.Test.YtnjmndofcpnmeaaGreatDoorPa38
namespace Go.Proofs.YtnjmndofcpnmeaaGreatDoor
open Go Go.RowKit
set_option linter.unusedVariables false
attribute [local irreducible] wpE
set_option maxRecDepth 100000 in
set_option maxHeartbeats 8000000 in
theorem RAlarmsA_at (A:Option Addr) (c:Nat) (xs:List FV) (win lim:Int) (w:World) (hF:FS w (.slice A xs.length c) xs) (hn:xs.length≤1000) (hz:∀ x∈xs,x.Sz) (B:Nat) (hBw:B≤w.heap.size) (hB:∀ x∈xs,(x.cp≠[]→∀ ad',x.CA=some ad'→ad'.block<B)∧(x.fb≠[]→∀ ad',x.FA=some ad'→ad'.block<B)):
  Calls Tryz.prog 30 #[.slice A xs.length c,.int .i64 win,.int .i64 lim,.bool true] w fun e w'=>ALO (xs.map FV.fct) win lim true B w e w'∧Ext w w':=by
 obtain ⟨i0,hi,iz0,iz1,iz2⟩:=alm7_info
 have HZ:=Lib.hid hz;have HF:=Lib.hid hF
 have HRO:=Lib.hid (RInOrder_at A c xs w hF hn hz)
 have HB0:=Lib.hid hB;have HBW:=Lib.hid hBw
 obtain ⟨n,hn'⟩:∃ n,xs.length=n:=⟨_,rfl⟩
 have HN:=Lib.hid hn'
 rw [hn'] at hn ⊢ HF HRO
 clear hF hz hn' hB hBw
 go_enter Tryz.func30,Tryz.ntmps30
 go_wp2_with fail
 refine HRO.out.mono ?_
 rintro _ w1 ⟨b,rfl,hb,hx1⟩
 have HX1:=Lib.hid hx1
 clear hx1 HRO
 cases b with
 | false=>
  have HNO:=Lib.hid (show ¬ argB (xs.map FV.fct) win lim from fun h=>Bool.noConfusion (hb.2 h.2.2.2))
  clear hb
  go_wp2_with fail
  go_ret2
  exact ⟨.inl ⟨HNO.out,rfl⟩,HX1.out⟩
 | true=>
 have HOR:=Lib.hid (hb.1 rfl)
 clear hb
 by_cases h1:win<0
 ·have HNO:=Lib.hid (show ¬ argB (xs.map FV.fct) win lim from fun h=>by have:=h.1;omega)
  have d1:decide (win<0)=true:=decide_eq_true h1
  clear h1
  go_wp2_with fail
  go_ret2
  exact ⟨.inl ⟨HNO.out,rfl⟩,HX1.out⟩
 have d1:decide (win<0)=false:=decide_eq_false h1
 by_cases h2:1099511627776<win
 ·have HNO:=Lib.hid (show ¬ argB (xs.map FV.fct) win lim from fun h=>by have:=h.2.1;omega)
  have d2:decide (1099511627776<win)=true:=decide_eq_true h2
  clear h1 h2
  go_wp2_with fail
  go_ret2
  exact ⟨.inl ⟨HNO.out,rfl⟩,HX1.out⟩
 have d2:decide (1099511627776<win)=false:=decide_eq_false h2
 by_cases h3:lim<1
 ·have HNO:=Lib.hid (show ¬ argB (xs.map FV.fct) win lim from fun h=>by have:=h.2.2.1;omega)
  have d3:decide (lim<1)=true:=decide_eq_true h3
  clear h1 h2 h3
  go_wp2_with fail
  go_ret2
  exact ⟨.inl ⟨HNO.out,rfl⟩,HX1.out⟩
 have d3:decide (lim<1)=false:=decide_eq_false h3
 have HA3:=Lib.hid (show 0≤win∧win≤1099511627776∧1≤lim by omega)
 have HARG:=Lib.hid (show argB (xs.map FV.fct) win lim from ⟨HA3.out.1,HA3.out.2.1,HA3.out.2.2,HOR.out⟩)
 have HT:=Lib.hid (ok_times HARG.out)
 clear h1 h2 h3
 go_wp2_with fail
 clear d1 d2 d3
 go_loopw [10,11,12,13,14] (fun o i _ _ _ wr=>∃ (k:Nat) (ms:List MV) (A1:Option Addr) (c1:Nat),k≤n∧i=.int .i64 k∧o=.slice A1 ms.length c1∧Hid (ROW EM 50 wr w.heap.size (.slice A1 ms.length c1) ms)∧Hid (ms.map MV.alm=(fstK k (hitF (xs.map FV.fct) win lim true) (fun i=>who true (atF (xs.map FV.fct) i))).map (almO (xs.map FV.fct) win true))∧Hid (∀ m∈ms,m.cp.length≤1000∧(m.fb≠[]→∀ ad',m.FA=some ad'→ad'.block<B))∧Hid (Ext w wr)) (fun _ i _ _ _ _=>n-(intOf i).toNat)
 case atStart=>exact ⟨0,[],none,0,Nat.zero_le _,rfl,rfl,Lib.hid (ROW.nil _ _ _),Lib.hid rfl,Lib.hid (fun m hm=>by cases hm),HX1⟩
 case round=>
  obtain ⟨k,ms,A1,c1,hk,rfl,rfl,HR,HMS,HOB,HX⟩:=hrel
  obtain ⟨wo,rfl⟩:∃ wo:World,wo=wr:=⟨_,rfl⟩
  have HML:=Lib.hid (show ms.length≤1000 by
   have h1:=congrArg List.length HMS.out
   rw [List.length_map,List.length_map] at h1
   have h2:=List.length_filter_le (fun i=>hitF (xs.map FV.fct) win lim true i&&(List.range i).all fun j=>!(hitF (xs.map FV.fct) win lim true j&&decide (who true (atF (xs.map FV.fct) j)=who true (atF (xs.map FV.fct) i)))) (List.range k)
   rw [List.length_range] at h2
   have h3:(fstK k (hitF (xs.map FV.fct) win lim true) (fun i=>who true (atF (xs.map FV.fct) i))).length≤k:=h2
   omega)
  by_cases hlt:k<n
  ·have hkx:k<xs.length:=by rw [HN.out];exact hlt
   obtain ⟨hin,ad,hadr,hq⟩:=HF.out.f12 k hkx
   have hsz:=HZ.out xs[k] (List.getElem_mem hkx)
   have HAK:=Lib.hid (atF_map hkx)
   obtain ⟨f,hf⟩:∃ f,xs[k]=f:=⟨_,rfl⟩
   have HKX:=Lib.hid hkx
   rw [hf] at hin hsz HAK hq
   subst hadr
   have HF12:=Lib.hid hq;have HINF:=Lib.hid hin;have HSF:=Lib.hid hsz
   obtain ⟨u0,u1,u2,u3,u4,u5,u6,u7,u8,u9,u10,u11⟩:=(hq.ext HX.out).cells
   have HFA:=Lib.hid (RFailure_at f wo (hin.ext HX.out))
   unfold FV.val at HFA
   obtain ⟨pb,hpb⟩:∃ b,failB f.fct=b:=⟨_,rfl⟩
   have HPB:=Lib.hid (show failB (atF (xs.map FV.fct) k)=pb by rw [HAK.out,hpb])
   rw [hpb] at HFA
   clear hin hsz hf hq hpb hkx
   cases pb with
   | false=>
    have HFS:=Lib.hid (show fstK (k+1) (hitF (xs.map FV.fct) win lim true) (fun i=>who true (atF (xs.map FV.fct) i))=fstK k (hitF (xs.map FV.fct) win lim true) (fun i=>who true (atF (xs.map FV.fct) i)) from fstH_no (.inl (by unfold hitF;rw [HPB.out];rfl)))
    go_wp2_with fail
    refine HFA.out.mono ?_
    rintro _ w2 ⟨rfl,hx2⟩
    have HX2:=Lib.hid (HX.out.trans hx2)
    have HR2:=Lib.hid (HR.out.ext hx2)
    clear hx2
    go_wp2_with fail
    go_roundw
    case rel=>exact ⟨k+1,ms,A1,c1,by omega,by go_num,rfl,HR2,Lib.hid (by rw [HFS.out];exact HMS.out),HOB,HX2⟩
    case measure=>simp [intOf];omega
   | true=>
    go_wp2_with fail
    refine HFA.out.mono ?_
    rintro _ w2 ⟨rfl,hx2⟩
    have HX2:=Lib.hid (HX.out.trans hx2)
    have HR2:=Lib.hid (HR.out.ext hx2)
    clear hx2 u0 u1 u2 u3 u4 u5 u6 u7 u8 u9 u10 u11 HX HR
    obtain ⟨nc,hnc⟩:∃ nc,ms.length=nc:=⟨_,rfl⟩
    have HNC:=Lib.hid hnc
    have hncl:nc≤1000:=by rw [← hnc];exact HML.out
    rw [hnc]
    clear hnc
    go_wp2_with fail
    go_loopw [12,13] (fun kn i wr=>∃ (j:Nat) (b:Bool),j≤nc∧i=.int .i64 j∧kn=.bool b∧Hid (((ms.take j).any fun q=>decide (whoM true q=who true f.fct))=b)∧Hid (Ext w2 wr)) (fun _ i _=>nc-(intOf i).toNat)
    case atStart=>exact ⟨0,false,Nat.zero_le _,rfl,rfl,Lib.hid rfl,Lib.hid (Ext.refl w2)⟩
    case round=>
     obtain ⟨j,b,hj,rfl,rfl,HBB,HXJ⟩:=hrel
     obtain ⟨wj,rfl⟩:∃ wo:World,wo=wr:=⟨_,rfl⟩
     by_cases hjl:j<nc
     ·have hjx:j<ms.length:=by rw [HNC.out];exact hjl
      have HTJ:=Lib.hid (show ((ms.take (j+1)).any fun q=>decide (whoM true q=who true f.fct))=(b||decide (whoM true ms[j]=who true f.fct)) by
       rw [List.take_succ_eq_append_getElem hjx,List.any_append,HBB.out];simp)
      have HXJW:=Lib.hid (HX2.out.trans HXJ.out)
      cases b with
      | true=>
       go_upto_region 12 with fail
       refine wp_region_ext (fun _ _ _=>False) (by kernel_rfl) (by kernel_rfl) ?_
       refine wpE_op rfl rfl (fun w' hw' K' hK'=>?_)
       have hE:=hw'.1
       go_step
       refine hK' _ ⟨_,rfl⟩ ?_
       clear hK' K' hE hw' w'
       refine wpE_op rfl rfl (fun w' hw' K' hK'=>?_)
       have hE:=hw'.1
       go_step
       refine hK' _ ⟨_,rfl⟩ ?_
       clear hK' K' hE hw' w'
       try simp only [Act.put,sT1,sT2,sT3]
       refine wpE_sym false undef (by kernel_rfl) rfl (fun hc=>by cases hc) ?_
       simp only [cond_false,Act.put,sT1,sT2,sT3]
       refine wpE_sym false undef (by kernel_rfl) rfl (fun hc=>by cases hc) ?_
       simp only [cond_false,Act.put,sT1,sT2,sT3]
       refine wpE_sym false undef (by kernel_rfl) rfl (fun hc=>by cases hc) ?_
       simp only [cond_false,Act.put,sT1,sT2,sT3]
       refine wpE_sym false undef (by kernel_rfl) rfl (fun hc=>by cases hc) ?_
       simp only [cond_false,Act.put,sT1,sT2,sT3]
       refine wpE_sym false undef (by kernel_rfl) rfl (fun hc=>by cases hc) ?_
       simp only [cond_false,Act.put,sT1,sT2,sT3]
       refine wpE_sym false undef (by kernel_rfl) rfl (fun hc=>by cases hc) ?_
       simp only [cond_false,Act.put,sT1,sT2,sT3]
       refine wpE_sym false undef (by kernel_rfl) rfl (fun hc=>by cases hc) ?_
       simp only [cond_false,Act.put,sT1,sT2,sT3]
       refine wpE_sym false undef (by kernel_rfl) rfl (fun hc=>by cases hc) ?_
       simp only [cond_false,Act.put,sT1,sT2,sT3]
       refine wpE_sym false undef (by kernel_rfl) rfl (fun hc=>by cases hc) ?_
       simp only [cond_false,Act.put,sT1,sT2,sT3]
       refine wpE_sym false undef (by kernel_rfl) rfl (fun hc=>by cases hc) ?_
       simp only [cond_false,Act.put,sT1,sT2,sT3]
       refine wpE_sym false undef (by kernel_rfl) rfl (fun hc=>by cases hc) ?_
       simp only [cond_false,Act.put,sT1,sT2,sT3]
       refine wpE_sym false undef (by kernel_rfl) rfl (fun hc=>by cases hc) ?_
       simp only [cond_false,Act.put,sT1,sT2,sT3]
       refine wpE_symcall 62 rfl (by simp) false undef (by kernel_rfl) (fun _ _ h=>h.elim) (fun hc=>by cases hc) ?_
       simp only [cond_false,Act.put,sT1,sT2,sT3]
       refine wpE_sym false undef (by kernel_rfl) rfl (fun hc=>by cases hc) ?_
       simp only [cond_false,Act.put,sT1,sT2,sT3]
       refine wpE_op rfl rfl (fun w' hw' K' hK'=>?_)
       have hE:=hw'.1
       go_step
       refine hK' _ ⟨_,rfl⟩ ?_
       clear hK' K' hE hw' w'
       refine wpE_op rfl rfl (fun w' hw' K' hK'=>?_)
       have hE:=hw'.1
       go_step
       refine hK' _ ⟨_,rfl⟩ ?_
       clear hK' K' hE hw' w'
       try simp only [Act.put,sT1,sT2,sT3]
       refine wpE_sym false undef (by kernel_rfl) rfl (fun hc=>by cases hc) ?_
       simp only [cond_false,Act.put,sT1,sT2,sT3]
       refine wpE_sym false undef (by kernel_rfl) rfl (fun hc=>by cases hc) ?_
       simp only [cond_false,Act.put,sT1,sT2,sT3]
       refine wpE_sym false undef (by kernel_rfl) rfl (fun hc=>by cases hc) ?_
       simp only [cond_false,Act.put,sT1,sT2,sT3]
       refine wpE_sym false undef (by kernel_rfl) rfl (fun hc=>by cases hc) ?_
       simp only [cond_false,Act.put,sT1,sT2,sT3]
       refine wpE_sym false undef (by kernel_rfl) rfl (fun hc=>by cases hc) ?_
       simp only [cond_false,Act.put,sT1,sT2,sT3]
       refine wpE_sym false undef (by kernel_rfl) rfl (fun hc=>by cases hc) ?_
       simp only [cond_false,Act.put,sT1,sT2,sT3]
       refine wpE_sym false undef (by kernel_rfl) rfl (fun hc=>by cases hc) ?_
       simp only [cond_false,Act.put,sT1,sT2,sT3]
       refine wpE_sym false undef (by kernel_rfl) rfl (fun hc=>by cases hc) ?_
       simp only [cond_false,Act.put,sT1,sT2,sT3]
       refine wpE_sym false undef (by kernel_rfl) rfl (fun hc=>by cases hc) ?_
       simp only [cond_false,Act.put,sT1,sT2,sT3]
       refine wpE_sym false undef (by kernel_rfl) rfl (fun hc=>by cases hc) ?_
       simp only [cond_false,Act.put,sT1,sT2,sT3]
       refine wpE_sym false undef (by kernel_rfl) rfl (fun hc=>by cases hc) ?_
       simp only [cond_false,Act.put,sT1,sT2,sT3]
       refine wpE_sym false undef (by kernel_rfl) rfl (fun hc=>by cases hc) ?_
       simp only [cond_false,Act.put,sT1,sT2,sT3]
       refine wpE_sym false undef (by kernel_rfl) rfl (fun hc=>by cases hc) ?_
       simp only [cond_false,Act.put,sT1,sT2,sT3]
       refine wpE_symcall 79 rfl (by simp) false undef (by kernel_rfl) (fun _ _ h=>h.elim) (fun hc=>by cases hc) ?_
       simp only [cond_false,Act.put,sT1,sT2,sT3]
       refine wpE_sym false undef (by kernel_rfl) rfl (fun hc=>by cases hc) ?_
       simp only [cond_false,Act.put,sT1,sT2,sT3]
       refine wpE_op rfl rfl (fun w' hw' K' hK'=>?_)
       have hE:=hw'.1
       go_step
       refine hK' _ ⟨_,rfl⟩ ?_
       clear hK' K' hE hw' w'
       refine wpE_op rfl rfl (fun w' hw' K' hK'=>?_)
       have hE:=hw'.1
       go_step
       refine hK' _ ⟨_,rfl⟩ ?_
       clear hK' K' hE hw' w'
       refine wpE_nil (fun W hW=>?_)
       have HXW:=Lib.hid (HXJ.out.trans ((Ext.drew wj).trans hW.1))
       clear hW
       go_wp2_with fail
       go_roundw
       case rel=>exact ⟨j+1,true,by omega,by go_num,rfl,Lib.hid (by rw [HTJ.out];rfl),HXW⟩
       case measure=>simp [intOf];omega
      | false=>
       obtain ⟨hinq,adq,hadq,hqq⟩:=(HR2.out.ext HXJ.out).f7 j hjx
       have hqb:=(HOB.out _ (List.getElem_mem hjx)).1
       generalize ms[j]=q at *
       subst hadq
       have HMQ:=Lib.hid hqq
       have HFQ:=Lib.hid (HF12.out.ext HXJW.out)
       obtain ⟨sb,hsb⟩:∃ sb,decide (whoM true q=who true f.fct)=sb:=⟨_,rfl⟩
       have HEQ:=Lib.hid (fun W (hW:Ext wj W)=>(show Calls Tryz.prog 37 #[.agg #[.int .i64 q.fk,.slice q.FA q.fb.length q.fc],.agg #[.int .i64 f.fk,.slice f.FA f.fb.length f.fc]] W fun e w'=>e=.returned (.bool sb)∧Ext W w' from by
        have k1:=RAEqual_at q.fk f.fk q.fb f.fb q.FA f.FA q.fc f.fc W (hinq.fb.ext hW) ((HINF.out.ext HXJW.out).fb.ext hW)
        rw [who_MA,hsb] at k1
        exact k1))
       rw [hsb] at HTJ
       clear hinq hqq hsb hqb
       cases sb with
       | true=>
        go_upto_region 12 with fail
        refine wp_region_ext (fun i v' w'=>match i with | 14=>v'=.bool true | _=>False) (by kernel_rfl) (by kernel_rfl) ?_
        refine wpE_op rfl rfl (fun w' hw' K' hK'=>?_)
        have hE:=hw'.1
        go_step
        refine hK' _ ⟨_,rfl⟩ ?_
        clear hK' K' hE hw' w'
        refine wpE_op rfl rfl (fun w' hw' K' hK'=>?_)
        have hE:=hw'.1
        go_step
        refine hK' _ ⟨_,rfl⟩ ?_
        clear hK' K' hE hw' w'
        refine wpE_op (by kernel_rfl) rfl (fun w' hw' K' hK'=>?_)
        have hE:=hw'.1
        go_step
        refine hK' _ ⟨_,rfl⟩ ?_
        clear hK' K' hE hw' w'
        refine wpE_op (by kernel_rfl) rfl (fun w' hw' K' hK'=>?_)
        have hE:=hw'.1
        go_step
        refine hK' _ ⟨_,rfl⟩ ?_
        clear hK' K' hE hw' w'
        refine wpE_op (by kernel_rfl) rfl (fun w' hw' K' hK'=>?_)
        have hE:=hw'.1
        go_step
        refine hK' _ ⟨_,rfl⟩ ?_
        clear hK' K' hE hw' w'
        refine wpE_op (by kernel_rfl) rfl (fun w' hw' K' hK'=>?_)
        have hE:=hw'.1
        go_step
        refine hK' _ ⟨_,rfl⟩ ?_
        clear hK' K' hE hw' w'
        refine wpE_op (by kernel_rfl) rfl (fun w' hw' K' hK'=>?_)
        have hE:=hw'.1
        go_step
        refine hK' _ ⟨_,rfl⟩ ?_
        clear hK' K' hE hw' w'
        refine wpE_op (by kernel_rfl) rfl (fun w' hw' K' hK'=>?_)
        have hE:=hw'.1
        go_step
        refine hK' _ ⟨_,rfl⟩ ?_
        clear hK' K' hE hw' w'
        refine wpE_op (by kernel_rfl) rfl (fun w' hw' K' hK'=>?_)
        have hE:=hw'.1
        obtain ⟨y0,y1,y2,y3,y4,y5,y6⟩:=(HMQ.out.ext ((Ext.drew wj).trans hE)).cells
        go_step
        refine hK' _ ⟨_,rfl⟩ ?_
        clear hK' K' y0 y1 y2 y3 y4 y5 y6 hE hw' w'
        refine wpE_op (by kernel_rfl) rfl (fun w' hw' K' hK'=>?_)
        have hE:=hw'.1
        go_step
        refine hK' _ ⟨_,rfl⟩ ?_
        clear hK' K' hE hw' w'
        refine wpE_op (by kernel_rfl) rfl (fun w' hw' K' hK'=>?_)
        have hE:=hw'.1
        go_step
        refine hK' _ ⟨_,rfl⟩ ?_
        clear hK' K' hE hw' w'
        refine wpE_op (by kernel_rfl) rfl (fun w' hw' K' hK'=>?_)
        have hE:=hw'.1
        go_step
        refine hK' _ ⟨_,rfl⟩ ?_
        clear hK' K' hE hw' w'
        refine wpE_op (by kernel_rfl) rfl (fun w' hw' K' hK'=>?_)
        have hE:=hw'.1
        go_step
        refine hK' _ ⟨_,rfl⟩ ?_
        clear hK' K' hE hw' w'
        refine wpE_op (by kernel_rfl) rfl (fun w' hw' K' hK'=>?_)
        have hE:=hw'.1
        obtain ⟨u0,u1,u2,u3,u4,u5,u6,u7,u8,u9,u10,u11⟩:=(HFQ.out.ext ((Ext.drew wj).trans hE)).cells
        go_step
        refine hK' _ ⟨_,rfl⟩ ?_
        clear hK' K' u0 u1 u2 u3 u4 u5 u6 u7 u8 u9 u10 u11 hE hw' w'
        refine wpE_call 62 rfl (by simp) (by kernel_rfl) (fun w' hw' K' hK'=>?_) ?_
        ·have hE:=hw'.1
         go_step
         refine (HEQ.out w' ((Ext.drew _).trans hE)).mono ?_
         rintro _ w2 ⟨rfl,hx⟩
         exact hK' _ _ ⟨_,rfl,rfl⟩ hx
        rintro _ w6 _ rfl
        simp only [Act.put,sT1,sT2,sT3]
        refine wpE_op (by kernel_rfl) rfl (fun w' hw' K' hK'=>?_)
        have hE:=hw'.1
        go_step
        refine hK' _ ⟨_,rfl⟩ ?_
        clear hK' K' hE hw' w'
        refine wpE_op rfl rfl (fun w' hw' K' hK'=>?_)
        have hE:=hw'.1
        go_step
        refine hK' _ ⟨_,rfl⟩ ?_
        clear hK' K' hE hw' w'
        refine wpE_op rfl rfl (fun w' hw' K' hK'=>?_)
        have hE:=hw'.1
        go_step
        refine hK' _ ⟨_,rfl⟩ ?_
        clear hK' K' hE hw' w'
        try simp only [Act.put,sT1,sT2,sT3]
        refine wpE_sym false undef (by kernel_rfl) rfl (fun hc=>by cases hc) ?_
        simp only [cond_false,Act.put,sT1,sT2,sT3]
        refine wpE_sym false undef (by kernel_rfl) rfl (fun hc=>by cases hc) ?_
        simp only [cond_false,Act.put,sT1,sT2,sT3]
        refine wpE_sym false undef (by kernel_rfl) rfl (fun hc=>by cases hc) ?_
        simp only [cond_false,Act.put,sT1,sT2,sT3]
        refine wpE_sym false undef (by kernel_rfl) rfl (fun hc=>by cases hc) ?_
        simp only [cond_false,Act.put,sT1,sT2,sT3]
        refine wpE_sym false undef (by kernel_rfl) rfl (fun hc=>by cases hc) ?_
        simp only [cond_false,Act.put,sT1,sT2,sT3]
        refine wpE_sym false undef (by kernel_rfl) rfl (fun hc=>by cases hc) ?_
        simp only [cond_false,Act.put,sT1,sT2,sT3]
        refine wpE_sym false undef (by kernel_rfl) rfl (fun hc=>by cases hc) ?_
        simp only [cond_false,Act.put,sT1,sT2,sT3]
        refine wpE_sym false undef (by kernel_rfl) rfl (fun hc=>by cases hc) ?_
        simp only [cond_false,Act.put,sT1,sT2,sT3]
        refine wpE_sym false undef (by kernel_rfl) rfl (fun hc=>by cases hc) ?_
        simp only [cond_false,Act.put,sT1,sT2,sT3]
        refine wpE_sym false undef (by kernel_rfl) rfl (fun hc=>by cases hc) ?_
        simp only [cond_false,Act.put,sT1,sT2,sT3]
        refine wpE_sym false undef (by kernel_rfl) rfl (fun hc=>by cases hc) ?_
        simp only [cond_false,Act.put,sT1,sT2,sT3]
        refine wpE_sym false undef (by kernel_rfl) rfl (fun hc=>by cases hc) ?_
        simp only [cond_false,Act.put,sT1,sT2,sT3]
        refine wpE_sym false undef (by kernel_rfl) rfl (fun hc=>by cases hc) ?_
        simp only [cond_false,Act.put,sT1,sT2,sT3]
        refine wpE_symcall 79 rfl (by simp) false undef (by kernel_rfl) (fun _ _ h=>h.elim) (fun hc=>by cases hc) ?_
        simp only [cond_false,Act.put,sT1,sT2,sT3]
        refine wpE_sym false undef (by kernel_rfl) rfl (fun hc=>by cases hc) ?_
        simp only [cond_false,Act.put,sT1,sT2,sT3]
        refine wpE_op rfl rfl (fun w' hw' K' hK'=>?_)
        have hE:=hw'.1
        go_step
        refine hK' _ ⟨_,rfl⟩ ?_
        clear hK' K' hE hw' w'
        refine wpE_op rfl rfl (fun w' hw' K' hK'=>?_)
        have hE:=hw'.1
        go_step
        refine hK' _ ⟨_,rfl⟩ ?_
        clear hK' K' hE hw' w'
        refine wpE_nil (fun W hW=>?_)
        have HXW:=Lib.hid (HXJ.out.trans ((Ext.drew wj).trans hW.1))
        clear hW
        go_wp2_with fail
        go_roundw
        case rel=>exact ⟨j+1,true,by omega,by go_num,rfl,Lib.hid (by rw [HTJ.out];rfl),HXW⟩
        case measure=>simp [intOf];omega
       | false=>
        go_upto_region 12 with fail
        refine wp_region_ext (fun i v' w'=>match i with | 14=>v'=.bool false | _=>False) (by kernel_rfl) (by kernel_rfl) ?_
        refine wpE_op rfl rfl (fun w' hw' K' hK'=>?_)
        have hE:=hw'.1
        go_step
        refine hK' _ ⟨_,rfl⟩ ?_
        clear hK' K' hE hw' w'
        refine wpE_op rfl rfl (fun w' hw' K' hK'=>?_)
        have hE:=hw'.1
        go_step
        refine hK' _ ⟨_,rfl⟩ ?_
        clear hK' K' hE hw' w'
        refine wpE_op (by kernel_rfl) rfl (fun w' hw' K' hK'=>?_)
        have hE:=hw'.1
        go_step
        refine hK' _ ⟨_,rfl⟩ ?_
        clear hK' K' hE hw' w'
        refine wpE_op (by kernel_rfl) rfl (fun w' hw' K' hK'=>?_)
        have hE:=hw'.1
        go_step
        refine hK' _ ⟨_,rfl⟩ ?_
        clear hK' K' hE hw' w'
        refine wpE_op (by kernel_rfl) rfl (fun w' hw' K' hK'=>?_)
        have hE:=hw'.1
        go_step
        refine hK' _ ⟨_,rfl⟩ ?_
        clear hK' K' hE hw' w'
        refine wpE_op (by kernel_rfl) rfl (fun w' hw' K' hK'=>?_)
        have hE:=hw'.1
        go_step
        refine hK' _ ⟨_,rfl⟩ ?_
        clear hK' K' hE hw' w'
        refine wpE_op (by kernel_rfl) rfl (fun w' hw' K' hK'=>?_)
        have hE:=hw'.1
        go_step
        refine hK' _ ⟨_,rfl⟩ ?_
        clear hK' K' hE hw' w'
        refine wpE_op (by kernel_rfl) rfl (fun w' hw' K' hK'=>?_)
        have hE:=hw'.1
        go_step
        refine hK' _ ⟨_,rfl⟩ ?_
        clear hK' K' hE hw' w'
        refine wpE_op (by kernel_rfl) rfl (fun w' hw' K' hK'=>?_)
        have hE:=hw'.1
        obtain ⟨y0,y1,y2,y3,y4,y5,y6⟩:=(HMQ.out.ext ((Ext.drew wj).trans hE)).cells
        go_step
        refine hK' _ ⟨_,rfl⟩ ?_
        clear hK' K' y0 y1 y2 y3 y4 y5 y6 hE hw' w'
        refine wpE_op (by kernel_rfl) rfl (fun w' hw' K' hK'=>?_)
        have hE:=hw'.1
        go_step
        refine hK' _ ⟨_,rfl⟩ ?_
        clear hK' K' hE hw' w'
        refine wpE_op (by kernel_rfl) rfl (fun w' hw' K' hK'=>?_)
        have hE:=hw'.1
        go_step
        refine hK' _ ⟨_,rfl⟩ ?_
        clear hK' K' hE hw' w'
        refine wpE_op (by kernel_rfl) rfl (fun w' hw' K' hK'=>?_)
        have hE:=hw'.1
        go_step
        refine hK' _ ⟨_,rfl⟩ ?_
        clear hK' K' hE hw' w'
        refine wpE_op (by kernel_rfl) rfl (fun w' hw' K' hK'=>?_)
        have hE:=hw'.1
        go_step
        refine hK' _ ⟨_,rfl⟩ ?_
        clear hK' K' hE hw' w'
        refine wpE_op (by kernel_rfl) rfl (fun w' hw' K' hK'=>?_)
        have hE:=hw'.1
        obtain ⟨u0,u1,u2,u3,u4,u5,u6,u7,u8,u9,u10,u11⟩:=(HFQ.out.ext ((Ext.drew wj).trans hE)).cells
        go_step
        refine hK' _ ⟨_,rfl⟩ ?_
        clear hK' K' u0 u1 u2 u3 u4 u5 u6 u7 u8 u9 u10 u11 hE hw' w'
        refine wpE_call 62 rfl (by simp) (by kernel_rfl) (fun w' hw' K' hK'=>?_) ?_
        ·have hE:=hw'.1
         go_step
         refine (HEQ.out w' ((Ext.drew _).trans hE)).mono ?_
         rintro _ w2 ⟨rfl,hx⟩
         exact hK' _ _ ⟨_,rfl,rfl⟩ hx
        rintro _ w6 _ rfl
        simp only [Act.put,sT1,sT2,sT3]
        refine wpE_op (by kernel_rfl) rfl (fun w' hw' K' hK'=>?_)
        have hE:=hw'.1
        go_step
        refine hK' _ ⟨_,rfl⟩ ?_
        clear hK' K' hE hw' w'
        refine wpE_op rfl rfl (fun w' hw' K' hK'=>?_)
        have hE:=hw'.1
        go_step
        refine hK' _ ⟨_,rfl⟩ ?_
        clear hK' K' hE hw' w'
        refine wpE_op rfl rfl (fun w' hw' K' hK'=>?_)
        have hE:=hw'.1
        go_step
        refine hK' _ ⟨_,rfl⟩ ?_
        clear hK' K' hE hw' w'
        refine wpE_op (by kernel_rfl) rfl (fun w' hw' K' hK'=>?_)
        have hE:=hw'.1
        go_step
        refine hK' _ ⟨_,rfl⟩ ?_
        clear hK' K' hE hw' w'
        refine wpE_op (by kernel_rfl) rfl (fun w' hw' K' hK'=>?_)
        have hE:=hw'.1
        go_step
        refine hK' _ ⟨_,rfl⟩ ?_
        clear hK' K' hE hw' w'
        refine wpE_op (by kernel_rfl) rfl (fun w' hw' K' hK'=>?_)
        have hE:=hw'.1
        go_step
        refine hK' _ ⟨_,rfl⟩ ?_
        clear hK' K' hE hw' w'
        try simp only [Act.put,sT1,sT2,sT3]
        refine wpE_sym false undef (by kernel_rfl) rfl (fun hc=>by cases hc) ?_
        simp only [cond_false,Act.put,sT1,sT2,sT3]
        refine wpE_sym false undef (by kernel_rfl) rfl (fun hc=>by cases hc) ?_
        simp only [cond_false,Act.put,sT1,sT2,sT3]
        refine wpE_sym false undef (by kernel_rfl) rfl (fun hc=>by cases hc) ?_
        simp only [cond_false,Act.put,sT1,sT2,sT3]
        refine wpE_sym false undef (by kernel_rfl) rfl (fun hc=>by cases hc) ?_
        simp only [cond_false,Act.put,sT1,sT2,sT3]
        refine wpE_sym false undef (by kernel_rfl) rfl (fun hc=>by cases hc) ?_
        simp only [cond_false,Act.put,sT1,sT2,sT3]
        refine wpE_sym false undef (by kernel_rfl) rfl (fun hc=>by cases hc) ?_
        simp only [cond_false,Act.put,sT1,sT2,sT3]
        refine wpE_sym false undef (by kernel_rfl) rfl (fun hc=>by cases hc) ?_
        simp only [cond_false,Act.put,sT1,sT2,sT3]
        refine wpE_sym false undef (by kernel_rfl) rfl (fun hc=>by cases hc) ?_
        simp only [cond_false,Act.put,sT1,sT2,sT3]
        refine wpE_sym false undef (by kernel_rfl) rfl (fun hc=>by cases hc) ?_
        simp only [cond_false,Act.put,sT1,sT2,sT3]
        refine wpE_sym false undef (by kernel_rfl) rfl (fun hc=>by cases hc) ?_
        simp only [cond_false,Act.put,sT1,sT2,sT3]
        refine wpE_symcall 79 rfl (by simp) false undef (by kernel_rfl) (fun _ _ h=>h.elim) (fun hc=>by cases hc) ?_
        simp only [cond_false,Act.put,sT1,sT2,sT3]
        refine wpE_op (by kernel_rfl) rfl (fun w' hw' K' hK'=>?_)
        have hE:=hw'.1
        go_step
        refine hK' _ ⟨_,rfl⟩ ?_
        clear hK' K' hE hw' w'
        refine wpE_op rfl rfl (fun w' hw' K' hK'=>?_)
        have hE:=hw'.1
        go_step
        refine hK' _ ⟨_,rfl⟩ ?_
        clear hK' K' hE hw' w'
        refine wpE_op rfl rfl (fun w' hw' K' hK'=>?_)
        have hE:=hw'.1
        go_step
        refine hK' _ ⟨_,rfl⟩ ?_
        clear hK' K' hE hw' w'
        refine wpE_nil (fun W hW=>?_)
        have HXW:=Lib.hid (HXJ.out.trans ((Ext.drew wj).trans hW.1))
        clear hW
        go_wp2_with fail
        go_roundw
        case rel=>exact ⟨j+1,false,by omega,by go_num,rfl,Lib.hid (by rw [HTJ.out];rfl),HXW⟩
        case measure=>simp [intOf];omega
     ·have HALL:=Lib.hid (show (ms.any fun q=>decide (whoM true q=who true f.fct))=b by
       have h:=HBB.out
       rwa [List.take_of_length_le (by rw [HNC.out];omega)] at h)
      obtain rfl:j=nc:=by omega
      have hjn:¬ ((j:Int)<(j:Int)):=by omega
      have HX3:=Lib.hid (HX2.out.trans HXJ.out)
      have HR3:=Lib.hid (HR2.out.ext HXJ.out)
      have HCN:=Lib.hid ((HN.out ▸ RCountA_at (some ad) c xs k win wj ((HN.out.symm ▸ HF.out:FS w (.slice (some ad) xs.length c) xs).ext HX3.out) (by rw [HN.out];exact hn) HZ.out HT.out HKX.out HPB.out HA3.out.1 HA3.out.2.1 B HB0.out:Calls Tryz.prog 97 #[.slice (some ad) n c,.int .i64 (k:Int),.int .i64 win,.bool true] wj fun e w'=>CNP (xs.map FV.fct) win true k B e w'∧Ext wj w'))
      go_wp2_with fail
      refine HCN.out.mono ?_
      rintro _ w4 ⟨⟨m,rfl,hin4,halm4,hblk4,hlen4,hfa4⟩,hx4⟩
      have HX4:=Lib.hid (HX3.out.trans hx4);have HR4:=Lib.hid (HR3.out.ext hx4)
      have HI4:=Lib.hid hin4;have HAM:=Lib.hid halm4;have HBL:=Lib.hid hblk4;have HLN:=Lib.hid (And.intro hlen4 hfa4)
      have hmn:=alm_n halm4
      have HMN:=Lib.hid hmn
      have zZ:=heap_alloc_new w4 (.cells #[.slice none 0 0,.string ⟨#[]⟩,.int .i64 0,.slice none 0 0,.int .i64 0,.int .i64 0,.int .i64 0] 50)
      have xZ:=(Ext.refl w4).alloc (.cells #[.slice none 0 0,.string ⟨#[]⟩,.int .i64 0,.slice none 0 0,.int .i64 0,.int .i64 0,.int .i64 0] 50)
      obtain ⟨WZ,eZ⟩:∃ W,w4.alloc (.cells #[.slice none 0 0,.string ⟨#[]⟩,.int .i64 0,.slice none 0 0,.int .i64 0,.int .i64 0,.int .i64 0] 50)=W:=⟨_,rfl⟩
      rw [eZ] at zZ xZ
      clear hin4 halm4 hblk4 hlen4 hfa4 hx4 hmn HCN HXJ HX2 HR2
      have hj2:ms.length=j:=HNC.out
      subst hj2
      go_upto_region 14 with (first
       | (refine wpList_store_var WZ rfl (.tmp 14) (.tmp 86) 50 rfl w4.heap.size 50 #[.slice none 0 0,.string ⟨#[]⟩,.int .i64 0,.slice none 0 0,.int .i64 0,.int .i64 0,.int .i64 0] #[.slice m.CA m.cp.length m.cc,.string m.cr,.int .i64 m.fk,.slice m.FA m.fb.length m.fc,.int .i64 m.n,.int .i64 m.b,.int .i64 m.t] rfl rfl (Tryz.sizeOf50 WZ) zZ rfl (one8 rfl) ?_;intro WC b3 hg3)
       | fail)
      have x3:Ext w4 WC:=Below.grown xZ hg3 xZ.size (fun j hj=>by cases hj;exact Nat.le_refl _)
      have HXC:=Lib.hid (HX4.out.trans x3);have HRC:=Lib.hid (HR4.out.ext x3);have HIC:=Lib.hid (HI4.out.ext x3)
      have HM7:=Lib.hid (show RW WC w4.heap.size 50 #[.slice m.CA m.cp.length m.cc,.string m.cr,.int .i64 m.fk,.slice m.FA m.fb.length m.fc,.int .i64 m.n,.int .i64 m.b,.int .i64 m.t] from b3)
      obtain ⟨⟨m0,m1,m2,m3,m4,m5,m6⟩,_⟩:=rw7 HM7.out
      clear eZ zZ xZ hg3 b3 x3
      cases b with
      | true=>
       have HFS:=Lib.hid (show fstK (k+1) (hitF (xs.map FV.fct) win lim true) (fun i=>who true (atF (xs.map FV.fct) i))=fstK k (hitF (xs.map FV.fct) win lim true) (fun i=>who true (atF (xs.map FV.fct) i)) from fstH_no (.inr (by
        obtain ⟨i,hi,e⟩:=(any_js HMS.out (who true f.fct)).1 HALL.out
        exact ⟨i,hi,by rw [e,HAK.out]⟩)))
       go_wp2_with fail
       go_roundw
       case rel=>exact ⟨k+1,ms,A1,c1,by omega,by go_num,rfl,HRC,Lib.hid (by rw [HFS.out];exact HMS.out),HOB,HXC⟩
       case measure=>simp [intOf];omega
      | false=>
       have HNB:=Lib.hid (show ¬ ∃ i∈fstK k (hitF (xs.map FV.fct) win lim true) (fun i=>who true (atF (xs.map FV.fct) i)),who true (atF (xs.map FV.fct) i)=who true (atF (xs.map FV.fct) k) from fun ⟨i,hi,e⟩=>by
        have:=(any_js HMS.out (who true f.fct)).2 ⟨i,hi,by rw [e,HAK.out]⟩
        rw [HALL.out] at this
        cases this)
       by_cases hlm:lim≤m.n
       ·have ql:decide (lim≤m.n)=true:=decide_eq_true hlm
        have HFS:=Lib.hid (show fstK (k+1) (hitF (xs.map FV.fct) win lim true) (fun i=>who true (atF (xs.map FV.fct) i))=fstK k (hitF (xs.map FV.fct) win lim true) (fun i=>who true (atF (xs.map FV.fct) i))++[k] from fstH_yes (by unfold hitF;rw [HPB.out,Bool.true_and,decide_eq_true_eq,← HMN.out];exact hlm) HNB.out)
        have hb5:M7 (WC.alloc (.cells #[.slice m.CA m.cp.length m.cc,.string m.cr,.int .i64 m.fk,.slice m.FA m.fb.length m.fc,.int .i64 m.n,.int .i64 m.b,.int .i64 m.t] 50)) WC.heap.size m:=heap_alloc_new WC _
        have hx5:=(Ext.refl WC).alloc (.cells #[.slice m.CA m.cp.length m.cc,.string m.cr,.int .i64 m.fk,.slice m.FA m.fb.length m.fc,.int .i64 m.n,.int .i64 m.b,.int .i64 m.t] 50)
        obtain ⟨W5,e5⟩:∃ W5,WC.alloc (.cells #[.slice m.CA m.cp.length m.cc,.string m.cr,.int .i64 m.fk,.slice m.FA m.fb.length m.fc,.int .i64 m.n,.int .i64 m.b,.int .i64 m.t] 50)=W5:=⟨_,rfl⟩
        rw [e5] at hb5 hx5
        have HB5:=Lib.hid hb5;have HR5:=Lib.hid (HRC.out.ext hx5);have HX5:=Lib.hid (HXC.out.trans hx5)
        have HYS:=Lib.hid (show ∀ y∈[m],EM.In W5 y∧∀ b,(Value.slice A1 ms.length c1).ownBlock=some b→¬ EM.Blk y b from fun y hy=>by
         rw [List.mem_singleton] at hy
         subst hy
         refine ⟨HIC.out.ext hx5,fun b hb hB=>?_⟩
         obtain ⟨hne,ad',hA,e⟩:=hB
         have h1:=HBL.out hne ad' hA
         have h2:=(HR5.out.lt b hb).1
         have h3:=HBW.out
         omega)
        have HBY:=Lib.hid (show (ms.length + [m].length)*96≤140737488355328 by have:=HML.out;simp;omega)
        have HBS:=Lib.hid (show w.heap.size≤W5.heap.size from HX5.out.size)
        clear hb5 hx5
        go_wp2_with (at_builtin;refine wpList_append_row (E:=EM) W5 rfl (.tmp 95) (.tmp 97) 45 rfl w.heap.size 50 i0 almZ7 96 Tryz.underlying45 hi iz0 iz1 iz2 alm7_zs alm7_zn _ ms rfl HR5.out ⟨WC.heap.size,0,none⟩ 1 [m] rfl (by show 0<1;decide) HB5.out.news HYS.out HBY.out (by decide) HBS.out ?_;intro v6 w6 hown6 hg6 ho6;obtain ⟨A6,cc6,rfl⟩:=hown6.shape;have HX6:=Lib.hid (show Ext w w6 from Below.grown HX5.out hg6 HX5.out.size (fun j hj=>(HR5.out.lt j hj).1));have HO6:=Lib.hid hown6;clear hown6 hg6 ho6)
        go_roundw
        case rel=>exact ⟨k+1,ms++[m],A6,cc6,by omega,by go_num,by rw [List.length_append];rfl,HO6,Lib.hid (by rw [HFS.out,List.map_append,List.map_append,HMS.out,List.map_cons,List.map_nil,List.map_cons,List.map_nil,HAM.out]),Lib.hid (fun x hx=>by rcases List.mem_append.1 hx with hx | hx;exact HOB.out x hx;rw [List.mem_singleton] at hx;subst hx;exact HLN.out),HX6⟩
        case measure=>simp [intOf];omega
       ·have ql:decide (lim≤m.n)=false:=decide_eq_false hlm
        have HFS:=Lib.hid (show fstK (k+1) (hitF (xs.map FV.fct) win lim true) (fun i=>who true (atF (xs.map FV.fct) i))=fstK k (hitF (xs.map FV.fct) win lim true) (fun i=>who true (atF (xs.map FV.fct) i)) from fstH_no (.inl (by unfold hitF;rw [HPB.out,Bool.true_and,decide_eq_false_iff_not,← HMN.out];exact hlm)))
        go_wp2_with fail
        go_roundw
        case rel=>exact ⟨k+1,ms,A1,c1,by omega,by go_num,rfl,HRC,Lib.hid (by rw [HFS.out];exact HMS.out),HOB,HXC⟩
        case measure=>simp [intOf];omega
  ·obtain rfl:k=n:=by omega
   have HAF:=Lib.hid (show ms.map MV.alm=(almF (xs.map FV.fct) win lim true).map (almO (xs.map FV.fct) win true) by
    rw [HMS.out]
    unfold almF
    rw [List.length_map,HN.out])
   go_wp2_with fail
   go_ret2
   exact ⟨.inr ⟨HARG.out,_,ms,rfl,HR.out,HAF.out,HOB.out⟩,HX.out⟩
end Go.Proofs.YtnjmndofcpnmeaaGreatDoor
namespace Go.Proofs.YtnjmndofcpnmeaaGreatDoor
open Go Go.RowKit Go.Maps
set_option linter.unusedVariables false
def ownA (m:MV):Value:=.slice m.FA m.fb.length m.fc
def ADF (w:World)(B:Nat)(ms:List MV):Prop:=(∀ m∈ms,OB 5 w B (ownA m) m.fb)∧ms.Pairwise fun a b=>∀ g,(ownA a).ownBlock=some g→(ownA b).ownBlock≠some g
theorem ADF.nil (w:World)(B:Nat):ADF w B []:=⟨fun m hm=>(by cases hm),List.Pairwise.nil⟩
theorem ADF.ext {w w':World}{B:Nat}{ms:List MV}(h:ADF w B ms)(hx:Ext w w'):ADF w' B ms:=⟨fun m hm=>(h.1 m hm).ext hx,h.2⟩
theorem OB.kept8 {e:TypeId}{w w':World}{B:Nat}{v:Value}{l:List UInt8}{r:Option Nat}(h:OB e w B v l)(hg:w.grownBy w' r)(hne:v.ownBlock=none∨v.ownBlock≠r):OB e w' B v l:=World.ownsRow.kept h hg hne
theorem OB.cells {e:TypeId}{w:World}{B:Nat}{v:Value}{l:List UInt8}(h:OB e w B v l){g:Nat}(hg:v.ownBlock=some g):∃ cs,w.heap[g]? = some (.cells cs e (0,0)):=by
 rcases h.2 with ⟨h0,_⟩ | ⟨g',cap,cur,hv,_,hh,_⟩
 ·rw [h0] at hg;cases hg
 ·rw [hv] at hg
  injection hg with hg
  subst hg
  exact ⟨cur,hh⟩
theorem ROW.typ {w:World}{B:Nat}{v:Value}{ms:List MV}(h:ROW EM 50 w B v ms){g:Nat}(hg:v.ownBlock=some g):∃ cs,w.heap[g]? = some (.cells cs 50 (0,0)):=by
 rcases h.2.1.2 with ⟨h0,_⟩ | ⟨g',cap,cur,hv,_,hh,_⟩
 ·rw [h0] at hg;cases hg
 ·rw [hv] at hg
  injection hg with hg
  subst hg
  exact ⟨cur,hh⟩
theorem own_ne {w:World}{B B':Nat}{v u:Value}{ms:List MV}{l:List UInt8}(h:ROW EM 50 w B v ms)(k:OB 5 w B' u l):u.ownBlock=none∨u.ownBlock≠v.ownBlock:=by
 cases hu:u.ownBlock with
 | none=>exact .inl rfl
 | some g=>
  refine .inr fun e=>?_
  obtain ⟨cs,h1⟩:=k.cells hu
  obtain ⟨cs',h2⟩:=h.typ e.symm
  rw [h1] at h2
  injection h2 with h2
  injection h2 with _ h2 _
  exact absurd h2 (by decide)
theorem ADF.row {w w':World}{B B':Nat}{v:Value}{ms ns:List MV}(h:ADF w B ms)(hr:ROW EM 50 w B' v ns)(hg:w.grownBy w' v.ownBlock):ADF w' B ms:=⟨fun m hm=>(h.1 m hm).kept8 hg (own_ne hr (h.1 m hm)),h.2⟩
theorem ADF.snoc {w:World}{B n:Nat}{ms:List MV}{m:MV}(h:ADF w B ms)(hm:OB 5 w n (ownA m) m.fb)(hB:B≤n)(hl:∀ a∈ms,∀ g,(ownA a).ownBlock=some g→g<n):ADF w B (ms++[m]):=by
 refine ⟨fun a ha=>?_,?_⟩
 ·rcases List.mem_append.1 ha with ha | ha
  ·exact h.1 a ha
  ·rw [List.mem_singleton] at ha
   subst ha
   exact hm.mono hB
 ·rw [List.pairwise_append]
  refine ⟨h.2,List.pairwise_singleton _ _,fun a ha b hb g hg e=>?_⟩
  rw [List.mem_singleton] at hb
  subst hb
  have h1:=hl a ha g hg
  have h2:=hm.lt g e
  omega
theorem ADF.down {w:World}{B B':Nat}{ms:List MV}(h:ADF w B ms)(hB:B'≤B):ADF w B' ms:=⟨fun m hm=>(h.1 m hm).mono hB,h.2⟩
def ALF (l:List Fct)(win lim:Int)(w:World)(e:Ending)(w':World):Prop:=
 (¬ argB l win lim∧e=.returned (.tuple #[.slice none 0 0,.int .i64 2])) ∨
 (argB l win lim∧∃ v ms,e=.returned (.tuple #[v,.int .i64 0])∧ROW EM 50 w' w.heap.size v ms∧ms.map MV.alm=(almF l win lim true).map (almO l win true)∧ADF w' w.heap.size ms)
set_option maxRecDepth 100000 in
set_option maxHeartbeats 800000 in
theorem Addresses2_at (A:Option Addr) (c:Nat) (xs:List FV) (win lim:Int) (w:World) (hF:FS w (.slice A xs.length c) xs) (hn:xs.length≤1000) (hz:∀ f∈xs,f.Sz) (hwf:∀ f∈xs,i64B f.fk) (hE:EnvA w) (hl:i64B lim):
  Calls Tryz.prog 18 #[.slice A xs.length c,.int .i64 win,.int .i64 lim] w fun e w'=>ALF (xs.map FV.fct) win lim w e w'∧Ext w w':=by
 have HV:=Lib.hid (Lvalid_at A c xs win lim w hF hn hz hE)
 have HA:=Lib.hid (fun (W:World) (hx:Ext w W) (hb:argB (xs.map FV.fct) win lim)=>alarms_at true 66 67 A c xs win lim W (hF.ext hx) hn hz (ok_times hb) (hE.ext hx).env.pow (ordTo_T hb.2.2.2) hb.1 hb.2.1 hl
  (enters_of Tryz.func66 (by kernel_rfl) rfl) (enters_of Tryz.func67 (by kernel_rfl) rfl)
  (fun f hf W' hM hx'=>keyFrom_at f W' hM (hz f hf) (hwf f hf) ((hE.ext hx).env.pow.ext hx'))
  (fun f hf=>keyA_len (hwf f hf) (hz f hf).fb)
  (fun W' B b m D js h=>different_at W' B b m D js _ h))
 have HF:=Lib.hid hF;have HZ:=Lib.hid hz
 obtain ⟨_,c',he,hc1,hc2⟩:=hF.shape
 injection he with e1 _ e3
 subst e1;subst e3
 obtain ⟨i0,hi,iz0,iz1,iz2⟩:=alm7_info
 obtain ⟨n,hn'⟩:∃ n,xs.length=n:=⟨_,rfl⟩
 have HN:=Lib.hid hn'
 clear hF hz hE hl hwf
 rw [hn'] at hc1 hn ⊢ HA HV
 clear hn'
 go_enter Tryz.func18,Tryz.ntmps18
 go_wp2_with fail
 refine HV.out.mono ?_
 rintro _ w1 ⟨b,rfl,hb,hx1⟩
 have HX1:=Lib.hid hx1
 cases b with
 | false=>
  have hno:¬ argB (xs.map FV.fct) win lim:=fun h=>Bool.noConfusion (hb.2 h)
  have HNO:=Lib.hid hno
  clear hno hb hx1
  go_wp2_with fail
  go_ret2
  exact ⟨.inl ⟨HNO.out,rfl⟩,HX1.out⟩
 | true=>
  have hyes:=hb.1 rfl
  have HYES:=Lib.hid hyes
  have HA1:=Lib.hid (HA.out w1 hx1 hyes)
  clear hyes hb hx1
  go_wp2_with fail
  refine HA1.out.mono ?_
  rintro _ w2 ⟨⟨v,rfl,hrd⟩,hx2⟩
  have HX2:=Lib.hid (HX1.out.trans hx2)
  obtain ⟨AA,ac,rfl,ha1,ha2⟩:=hrd.shape
  unfold maxLen at ha2
  have HRD:=Lib.hid hrd
  have hal:(almF (xs.map FV.fct) win lim true).length≤1000:=by
   have h1:=List.length_filter_le (fun i=>hitF (xs.map FV.fct) win lim true i&&(List.range i).all fun j=>!(hitF (xs.map FV.fct) win lim true j&&decide (who true (atF (xs.map FV.fct) j)=who true (atF (xs.map FV.fct) i)))) (List.range (xs.map FV.fct).length)
   rw [List.length_range] at h1
   have h2:(almF (xs.map FV.fct) win lim true).length≤(xs.map FV.fct).length:=h1
   have:=HN.out
   rw [List.length_map] at h2
   omega
  have HLT:=Lib.hid (fun i (hi:i∈almF (xs.map FV.fct) win lim true)=>alm_lt hi)
  clear hx2 hrd
  generalize hALF:almF (xs.map FV.fct) win lim true=al at *
  have HALF:=Lib.hid hALF
  clear hALF
  obtain ⟨N,hN⟩:∃ N,al.length=N:=⟨_,rfl⟩
  have HNA:=Lib.hid hN
  rw [hN] at ha1 hal ⊢ HRD
  clear hN
  go_wp2_with fail
  go_loopw [8,10,11,22] (fun v8 _ _ v21 wr=>∃ (k:Nat) (ms:List MV) (oA:Option Addr) (oc:Nat),v21=.int .i64 (k:Int)∧k≤N∧v8=.slice oA ms.length oc∧Hid (ms.length=k)∧Hid (ROW EM 50 wr w2.heap.size (.slice oA ms.length oc) ms)∧Hid (ms.map MV.alm=(al.take k).map (almO (xs.map FV.fct) win true))∧Hid (ADF wr w2.heap.size ms)∧Hid (Ext w2 wr)) (fun _ _ _ v _=>N-(intOf v).toNat)
  case atStart=>exact ⟨0,[],none,0,rfl,by omega,rfl,Lib.hid rfl,Lib.hid (ROW.nil _ _ _),Lib.hid rfl,Lib.hid (ADF.nil _ _),Lib.hid (Ext.refl _)⟩
  case round=>
   obtain ⟨k,ms,oA,oc,rfl,hk,rfl,HML,HR,HMS,HAF,HX⟩:=hrel
   by_cases hlt:k<N
   ·have hka:k<al.length:=by rw [HNA.out];exact hlt
    obtain ⟨p,rfl,y0,y1,y2,y3,y4,y5,y6,y7⟩:=(HRD.out.ext HX.out).alm_at k hka
    have hix:=HLT.out _ (List.getElem_mem hka)
    rw [List.length_map] at hix
    have HTK:=Lib.hid (show (al.take (k+1)).map (almO (xs.map FV.fct) win true)=(al.take k).map (almO (xs.map FV.fct) win true)++[almO (xs.map FV.fct) win true al[k]] by rw [List.take_succ_eq_append_getElem hka,List.map_append,List.map_cons,List.map_nil])
    generalize al[k]=i at *
    have hin:i<n:=by rw [← HN.out];exact hix
    obtain ⟨hIn,lad,rfl,u0,u1,u2,u3,u4,u5,u6,u7,u8,u9,u10,u11⟩:=(HF.out.ext (HX2.out.trans HX.out)).at_ i hix
    have hsz:=HZ.out _ (List.getElem_mem hix)
    have HATX:=Lib.hid (show (atF (xs.map FV.fct) i).fk=xs[i].fk∧(atF (xs.map FV.fct) i).fb=xs[i].fb by rw [atF_xs hix];exact ⟨rfl,rfl⟩)
    generalize xs[i]=f at *
    have b4:RW (wr.alloc (.cells #[.slice none 0 0,.string ⟨#[]⟩,.int .i64 0,.slice none 0 0,.int .i64 (cntF (xs.map FV.fct) win true i:Int),.int .i64 (begF (xs.map FV.fct) win true i),.int .i64 (atF (xs.map FV.fct) i).t,.int .i64 (i:Int)] 120)) wr.heap.size 120 #[.slice none 0 0,.string ⟨#[]⟩,.int .i64 0,.slice none 0 0,.int .i64 (cntF (xs.map FV.fct) win true i:Int),.int .i64 (begF (xs.map FV.fct) win true i),.int .i64 (atF (xs.map FV.fct) i).t,.int .i64 (i:Int)]:=heap_alloc_new wr _
    have x4:=(Ext.refl wr).alloc (.cells #[.slice none 0 0,.string ⟨#[]⟩,.int .i64 0,.slice none 0 0,.int .i64 (cntF (xs.map FV.fct) win true i:Int),.int .i64 (begF (xs.map FV.fct) win true i),.int .i64 (atF (xs.map FV.fct) i).t,.int .i64 (i:Int)] 120)
    obtain ⟨W4,e4⟩:∃ W,wr.alloc (.cells #[.slice none 0 0,.string ⟨#[]⟩,.int .i64 0,.slice none 0 0,.int .i64 (cntF (xs.map FV.fct) win true i:Int),.int .i64 (begF (xs.map FV.fct) win true i),.int .i64 (atF (xs.map FV.fct) i).t,.int .i64 (i:Int)] 120)=W:=⟨_,rfl⟩
    have s4:W4.heap.size=wr.heap.size+1:=by rw [← e4,World.size_alloc]
    rw [e4] at b4 x4
    obtain ⟨⟨q0,q1,q2,q3,q4,q5,q6,q7⟩,_⟩:=rw8 b4
    have u3':=x4.cell u3
    have u4':=x4.cell u4
    have b5:=AB.new W4 f.fk f.FA f.fb.length f.fc
    have x5:=(Ext.refl W4).alloc (.cells #[.int .i64 f.fk,.slice f.FA f.fb.length f.fc] 34)
    obtain ⟨W5,e5⟩:∃ W,W4.alloc (.cells #[.int .i64 f.fk,.slice f.FA f.fb.length f.fc] 34)=W:=⟨_,rfl⟩
    rw [e5] at b5 x5
    have HS5:=Lib.hid (show wr.heap.size<W5.heap.size from Nat.lt_of_lt_of_le (by rw [s4];exact Nat.lt_succ_self _) x5.size)
    have HB5:=Lib.hid (show AB W5 W4.heap.size f.fk f.FA f.fb.length f.fc from b5)
    have HCL:=Lib.hid (fun W' (hw:Ext W5 W')=>Clone_at f.FA f.fc f.fb W' (hIn.fb.ext ((x4.trans x5).trans hw)) (by have:=hsz.fb;omega))
    have HB4:=Lib.hid (b4.ext x5);have HX4:=Lib.hid (x4.trans x5)
    clear b4 x4 s4 b5 x5 u0 u1 u2 u3 u4 u5 u6 u7 u8 u9 u10 u11 hIn hsz hix hka
    go_wp2_with fail
    refine wp_region_ext_tail 8 (fun i v' w'=>match i with | 4=>∃ A2 c2,v'=.slice A2 f.fb.length c2∧OB 5 w' W5.heap.size (.slice A2 f.fb.length c2) f.fb | _=>False) (by kernel_rfl) (by kernel_rfl) ?_
    refine wpE_val (.pointer (some ⟨W4.heap.size,0,none⟩)) rfl rfl (fun w' hw' K' hK'=>?_) ?_
    ·have hE:=hw'.1
     go_step
     exact hK'
    simp only [Act.put,sT1,sT2,sT3]
    refine wpE_val (.int .i64 f.fk) rfl rfl (fun w' hw' K' hK'=>?_) ?_
    ·have hE:=hw'.1
     obtain ⟨u0,u1⟩:=(HB5.out.ext ((Ext.drew W5).trans hE)).cells
     go_step
     exact hK'
    simp only [Act.put,sT1,sT2,sT3]
    refine wpE_val (.pointer (some ⟨W4.heap.size,1,none⟩)) rfl rfl (fun w' hw' K' hK'=>?_) ?_
    ·have hE:=hw'.1
     go_step
     exact hK'
    simp only [Act.put,sT1,sT2,sT3]
    refine wpE_val (.slice f.FA f.fb.length f.fc) rfl rfl (fun w' hw' K' hK'=>?_) ?_
    ·have hE:=hw'.1
     obtain ⟨u0,u1⟩:=(HB5.out.ext ((Ext.drew W5).trans hE)).cells
     go_step
     exact hK'
    simp only [Act.put,sT1,sT2,sT3]
    refine wpE_call 36 rfl (by simp) rfl (fun w' hw' K' hK'=>?_) ?_
    ·have hE:=hw'.1
     go_step
     refine (HCL.out w' ((Ext.drew _).trans hE)).mono ?_
     rintro e w2' ⟨A2,c2,rfl,hb,hx⟩
     exact hK' _ _ ⟨_,rfl,A2,c2,rfl,OB.mono hb ((Ext.drew W5).trans hE).size⟩ hx
    rintro _ w9x hE9 ⟨A2,c2,rfl,hbs⟩
    simp only [Act.put,sT1,sT2,sT3]
    refine wpE_val (.agg #[.int .i64 f.fk,.slice A2 f.fb.length c2]) rfl rfl (fun w' hw' K' hK'=>?_) ?_
    ·go_step
     exact hK'
    simp only [Act.put,sT1,sT2,sT3]
    refine wpE_val (.pointer (some ⟨wr.heap.size,0,none⟩)) rfl rfl (fun w' hw' K' hK'=>?_) ?_
    ·go_step
     exact hK'
    simp only [Act.put,sT1,sT2,sT3]
    refine wpE_val (.pointer (some ⟨wr.heap.size,2,none⟩)) rfl rfl (fun w' hw' K' hK'=>?_) ?_
    ·go_step
     exact hK'
    simp only [Act.put,sT1,sT2,sT3]
    refine wpE_nil (fun w5 hW=>?_)
    have hx5:=(Ext.drew W5).trans hW.1
    have hob5:OB 5 w5 W5.heap.size (.slice A2 f.fb.length c2) f.fb:=hbs.ext (hW.2 36 w9x (by simp [adds]))
    have hbs5:=hob5.bs
    have b5:=HB4.out.ext hx5
    obtain ⟨⟨d0,d1,d2,d3,d4,d5,d6,d7⟩,_,_,g2,g3⟩:=rw8 b5
    have b6:=(b5.set 2 (.int .i64 f.fk)).set 3 (.slice A2 f.fb.length c2)
    have hbs6:BS ((w5.setCell ⟨wr.heap.size,2,none⟩ (.int .i64 f.fk)).setCell ⟨wr.heap.size,3,none⟩ (.slice A2 f.fb.length c2)) (.slice A2 f.fb.length c2) f.fb:=hbs5.but (NoU8.of b5 (fun x hx m e=>by subst e;simp at hx)) (grown_set (grown_set (grown_refl _ _) 2 _) 3 _)
    have hob6:=hob5.kept8 (grown_set (grown_set (grown_refl w5 (some wr.heap.size)) 2 (.int .i64 f.fk)) 3 (.slice A2 f.fb.length c2)) (by
     cases hv:(Value.slice A2 f.fb.length c2).ownBlock with
     | none=>exact .inl rfl
     | some b=>exact .inr fun e=>by injection e with e;have:=hob5.lt b hv;have:=HS5.out;omega)
    obtain ⟨W6,e6⟩:∃ W,(w5.setCell ⟨wr.heap.size,2,none⟩ (.int .i64 f.fk)).setCell ⟨wr.heap.size,3,none⟩ (.slice A2 f.fb.length c2)=W:=⟨_,rfl⟩
    rw [e6] at b6 hbs6 hob6
    change RW W6 wr.heap.size 120 #[.slice none 0 0,.string ⟨#[]⟩,.int .i64 f.fk,.slice A2 f.fb.length c2,.int .i64 (cntF (xs.map FV.fct) win true i:Int),.int .i64 (begF (xs.map FV.fct) win true i),.int .i64 (atF (xs.map FV.fct) i).t,.int .i64 (i:Int)] at b6
    obtain ⟨⟨h0,h1,h2,h3,h4,h5,h6,h7⟩,_⟩:=rw8 b6
    have x6:Ext wr W6:=by rw [← e6];exact ((HX4.out.trans hx5).setCell (p:=⟨wr.heap.size,2,none⟩) (Nat.le_refl _) _).setCell (p:=⟨wr.heap.size,3,none⟩) (Nat.le_refl _) _
    have m7:M7 (W6.alloc (.cells #[.slice none 0 0,.string ⟨#[]⟩,.int .i64 f.fk,.slice A2 f.fb.length c2,.int .i64 (cntF (xs.map FV.fct) win true i:Int),.int .i64 (begF (xs.map FV.fct) win true i),.int .i64 (atF (xs.map FV.fct) i).t] 50)) W6.heap.size ⟨none,[],0,⟨#[]⟩,f.fk,A2,f.fb,c2,(cntF (xs.map FV.fct) win true i:Int),begF (xs.map FV.fct) win true i,(atF (xs.map FV.fct) i).t⟩:=heap_alloc_new W6 _
    have x7:=(Ext.refl W6).alloc (.cells #[.slice none 0 0,.string ⟨#[]⟩,.int .i64 f.fk,.slice A2 f.fb.length c2,.int .i64 (cntF (xs.map FV.fct) win true i:Int),.int .i64 (begF (xs.map FV.fct) win true i),.int .i64 (atF (xs.map FV.fct) i).t] 50)
    obtain ⟨W7,e7⟩:∃ W,W6.alloc (.cells #[.slice none 0 0,.string ⟨#[]⟩,.int .i64 f.fk,.slice A2 f.fb.length c2,.int .i64 (cntF (xs.map FV.fct) win true i:Int),.int .i64 (begF (xs.map FV.fct) win true i),.int .i64 (atF (xs.map FV.fct) i).t] 50)=W:=⟨_,rfl⟩
    rw [e7] at m7 x7
    have HAF7:=Lib.hid (show ADF W7 w2.heap.size (ms++[(⟨none,[],0,⟨#[]⟩,f.fk,A2,f.fb,c2,(cntF (xs.map FV.fct) win true i:Int),begF (xs.map FV.fct) win true i,(atF (xs.map FV.fct) i).t⟩:MV)]) from ADF.snoc (n:=W5.heap.size) (HAF.out.ext (x6.trans x7)) (hob6.ext x7) (Nat.le_trans HX.out.size (Nat.le_of_lt HS5.out)) (fun a ha g hg=>by have:=(World.ownsRow.lt (HAF.out.1 a ha) g hg).2;have:=HS5.out;omega))
    have HM7:=Lib.hid m7
    have HR7:=Lib.hid (HR.out.ext (x6.trans x7))
    have HX7:=Lib.hid (HX.out.trans (x6.trans x7))
    have HS7:=Lib.hid (show w2.heap.size≤W7.heap.size from HX7.out.size)
    have HIN:=Lib.hid (show ∀ y∈[(⟨none,[],0,⟨#[]⟩,f.fk,A2,f.fb,c2,(cntF (xs.map FV.fct) win true i:Int),begF (xs.map FV.fct) win true i,(atF (xs.map FV.fct) i).t⟩:MV)],EM.In W7 y∧∀ b,(Value.slice oA ms.length oc).ownBlock=some b→¬ EM.Blk y b from fun y hy=>by
     rw [List.mem_singleton] at hy
     subst hy
     exact ⟨⟨RS.nil W7,hbs6.ext x7⟩,fun b hb hB=>hB.1 rfl⟩)
    have HBY:=Lib.hid (show (ms.length + [(⟨none,[],0,⟨#[]⟩,f.fk,A2,f.fb,c2,(cntF (xs.map FV.fct) win true i:Int),begF (xs.map FV.fct) win true i,(atF (xs.map FV.fct) i).t⟩:MV)].length)*96≤140737488355328 by have:=HML.out;simp only [List.length_singleton];omega)
    have HMS2:=Lib.hid (show (ms++[(⟨none,[],0,⟨#[]⟩,f.fk,A2,f.fb,c2,(cntF (xs.map FV.fct) win true i:Int),begF (xs.map FV.fct) win true i,(atF (xs.map FV.fct) i).t⟩:MV)]).map MV.alm=(al.take (k+1)).map (almO (xs.map FV.fct) win true) by
     rw [List.map_append,HMS.out,HTK.out]
     congr 1
     show [(_:Alm)]=[almO (xs.map FV.fct) win true i]
     unfold almO
     rw [if_pos rfl,HATX.out.1,HATX.out.2]
     rfl)
    have HML2:=Lib.hid (show (ms++[(⟨none,[],0,⟨#[]⟩,f.fk,A2,f.fb,c2,(cntF (xs.map FV.fct) win true i:Int),begF (xs.map FV.fct) win true i,(atF (xs.map FV.fct) i).t⟩:MV)]).length=k+1 by rw [List.length_append,HML.out];rfl)
    clear b5 b6 m7 x6 x7 hx5 hbs5 hbs6 hbs hob5 hob6
    dsimp only [List.drop]
    go_wp2_with (first
     | (at_builtin;refine wpList_append_row (E:=EM) W7 rfl (.tmp 40) (.tmp 43) 45 rfl w2.heap.size 50 i0 almZ7 96 Tryz.underlying45 hi iz0 iz1 iz2 alm7_zs alm7_zn _ ms rfl HR7.out ⟨W6.heap.size,0,none⟩ 1 [⟨none,[],0,⟨#[]⟩,f.fk,A2,f.fb,c2,(cntF (xs.map FV.fct) win true i:Int),begF (xs.map FV.fct) win true i,(atF (xs.map FV.fct) i).t⟩] rfl (by show 0<1;decide) HM7.out.news HIN.out HBY.out (by decide) HS7.out ?_;intro v8 w8 hown8 hg8 ho8;obtain ⟨A8,c8,rfl⟩:=hown8.shape)
     | fail)
    have HX8:=Lib.hid (show Ext w2 w8 from Below.grown HX7.out hg8 HX7.out.size (fun j hj=>(HR7.out.lt j hj).1))
    have HR8:=Lib.hid hown8
    have HAF8:=Lib.hid (HAF7.out.row HR7.out hg8)
    clear hown8 hg8 ho8
    go_roundw
    case rel=>exact ⟨k+1,_,A8,c8,by go_num,by omega,by rw [List.length_append];rfl,HML2,HR8,HMS2,HAF8,HX8⟩
    case measure=>simp [intOf];omega
   ·obtain rfl:k=N:=by omega
    have hms:=HMS.out
    rw [List.take_of_length_le (by rw [HNA.out];exact Nat.le_refl _)] at hms
    have HMF:=Lib.hid hms
    clear hms
    go_wp2_with fail
    go_ret2
    exact ⟨.inr ⟨HYES.out,_,ms,rfl,HR.out.down HX2.out.size,by rw [HALF.out];exact HMF.out,HAF.out.down HX2.out.size⟩,HX2.out.trans HX.out⟩
end Go.Proofs.YtnjmndofcpnmeaaGreatDoor
