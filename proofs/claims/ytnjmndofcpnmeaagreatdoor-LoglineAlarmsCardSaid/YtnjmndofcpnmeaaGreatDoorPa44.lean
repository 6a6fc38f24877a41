/- Pa44. -/
import Derived.Test.YtnjmndofcpnmeaaGreatDoorPa0
import Derived.Test.YtnjmndofcpnmeaaGreatDoorPa43
import Derived.Test.YtnjmndofcpnmeaaGreatDoorPa42
namespace Go.Proofs.YtnjmndofcpnmeaaGreatDoor
open Go Go.RowKit
set_option linter.unusedVariables false
attribute [local irreducible] wpE
set_option maxRecDepth 100000 in
set_option maxHeartbeats 8000000 in
theorem RAlarmsP_at (A:Option Addr) (c:Nat) (xs:List FV) (win lim:Int) (w:World) (hF:FS w (.slice A xs.length c) xs) (hn:xs.length≤1000) (hz:∀ x∈xs,x.Sz) (B:Nat) (hBw:B≤w.heap.size) (hB:∀ x∈xs,(x.cp≠[]→∀ ad',x.CA=some ad'→ad'.block<B)∧(x.fb≠[]→∀ ad',x.FA=some ad'→ad'.block<B)):
  Calls Tryz.prog 30 #[.slice A xs.length c,.int .i64 win,.int .i64 lim,.bool false] w fun e w'=>ALO (xs.map FV.fct) win lim false B w e w'∧Ext w w':=by
 obtain ⟨i0,hi,iz0,iz1,iz2⟩:=alm7_info
 have HZ:=Lib.hid hz;have HF:=Lib.hid hF
 have HRO:=Lib.hid (RInOrder_at A c xs w hF hn hz)
 have HB0:=Lib.hid hB;have HBW:=Lib.hid hBw
 obtain ⟨n,hn'⟩:∃ n,xs.length=n:=⟨_,rfl⟩
 have HN:=Lib.hid hn'
 rw [hn'] at hn ⊢ HF HRO
 clear hF hz hn' hB hBw
 go_enter Tryz.func30,Tryz.ntmps30
 go_wp2_with fail
 refine HRO.out.mono ?_
 rintro _ w1 ⟨b,rfl,hb,hx1⟩
 have HX1:=Lib.hid hx1
 clear hx1 HRO
 cases b with
 | false=>
  have HNO:=Lib.hid (show ¬ argB (xs.map FV.fct) win lim from fun h=>Bool.noConfusion (hb.2 h.2.2.2))
  clear hb
  go_wp2_with fail
  go_ret2
  exact ⟨.inl ⟨HNO.out,rfl⟩,HX1.out⟩
 | true=>
 have HOR:=Lib.hid (hb.1 rfl)
 clear hb
 by_cases h1:win<0
 ·have HNO:=Lib.hid (show ¬ argB (xs.map FV.fct) win lim from fun h=>by have:=h.1;omega)
  have d1:decide (win<0)=true:=decide_eq_true h1
  clear h1
  go_wp2_with fail
  go_ret2
  exact ⟨.inl ⟨HNO.out,rfl⟩,HX1.out⟩
 have d1:decide (win<0)=false:=decide_eq_false h1
 by_cases h2:1099511627776<win
 ·have HNO:=Lib.hid (show ¬ argB (xs.map FV.fct) win lim from fun h=>by have:=h.2.1;omega)
  have d2:decide (1099511627776<win)=true:=decide_eq_true h2
  clear h1 h2
  go_wp2_with fail
  go_ret2
  exact ⟨.inl ⟨HNO.out,rfl⟩,HX1.out⟩
 have d2:decide (1099511627776<win)=false:=decide_eq_false h2
 by_cases h3:lim<1
 ·have HNO:=Lib.hid (show ¬ argB (xs.map FV.fct) win lim from fun h=>by have:=h.2.2.1;omega)
  have d3:decide (lim<1)=true:=decide_eq_true h3
  clear h1 h2 h3
  go_wp2_with fail
  go_ret2
  exact ⟨.inl ⟨HNO.out,rfl⟩,HX1.out⟩
 have d3:decide (lim<1)=false:=decide_eq_false h3
 have HA3:=Lib.hid (show 0≤win∧win≤1099511627776∧1≤lim by omega)
 have HARG:=Lib.hid (show argB (xs.map FV.fct) win lim from ⟨HA3.out.1,HA3.out.2.1,HA3.out.2.2,HOR.out⟩)
 have HT:=Lib.hid (ok_times HARG.out)
 clear h1 h2 h3
 go_wp2_with fail
 clear d1 d2 d3
 go_loopw [10,11,12,13,14] (fun o i _ _ _ wr=>∃ (k:Nat) (ms:List MV) (A1:Option Addr) (c1:Nat),k≤n∧i=.int .i64 k∧o=.slice A1 ms.length c1∧Hid (ROW EM 50 wr w.heap.size (.slice A1 ms.length c1) ms)∧Hid (ms.map MV.alm=(fstK k (hitF (xs.map FV.fct) win lim false) (fun i=>who false (atF (xs.map FV.fct) i))).map (almO (xs.map FV.fct) win false))∧Hid (∀ m∈ms,m.cp.length≤1000∧(m.fb≠[]→∀ ad',m.FA=some ad'→ad'.block<B))∧Hid (Ext w wr)) (fun _ i _ _ _ _=>n-(intOf i).toNat)
 case atStart=>exact ⟨0,[],none,0,Nat.zero_le _,rfl,rfl,Lib.hid (ROW.nil _ _ _),Lib.hid rfl,Lib.hid (fun m hm=>by cases hm),HX1⟩
 case round=>
  obtain ⟨k,ms,A1,c1,hk,rfl,rfl,HR,HMS,HOB,HX⟩:=hrel
  obtain ⟨wo,rfl⟩:∃ wo:World,wo=wr:=⟨_,rfl⟩
  have HML:=Lib.hid (show ms.length≤1000 by
   have h1:=congrArg List.length HMS.out
   rw [List.length_map,List.length_map] at h1
   have h2:=List.length_filter_le (fun i=>hitF (xs.map FV.fct) win lim false i&&(List.range i).all fun j=>!(hitF (xs.map FV.fct) win lim false j&&decide (who false (atF (xs.map FV.fct) j)=who false (atF (xs.map FV.fct) i)))) (List.range k)
   rw [List.length_range] at h2
   have h3:(fstK k (hitF (xs.map FV.fct) win lim false) (fun i=>who false (atF (xs.map FV.fct) i))).length≤k:=h2
   omega)
  by_cases hlt:k<n
  ·have hkx:k<xs.length:=by rw [HN.out];exact hlt
   obtain ⟨hin,ad,hadr,hq⟩:=HF.out.f12 k hkx
   have hsz:=HZ.out xs[k] (List.getElem_mem hkx)
   have HAK:=Lib.hid (atF_map hkx)
   obtain ⟨f,hf⟩:∃ f,xs[k]=f:=⟨_,rfl⟩
   have HKX:=Lib.hid hkx
   rw [hf] at hin hsz HAK hq
   subst hadr
   have HF12:=Lib.hid hq;have HINF:=Lib.hid hin;have HSF:=Lib.hid hsz
   obtain ⟨u0,u1,u2,u3,u4,u5,u6,u7,u8,u9,u10,u11⟩:=(hq.ext HX.out).cells
   have HFA:=Lib.hid (RFailure_at f wo (hin.ext HX.out))
   unfold FV.val at HFA
   obtain ⟨pb,hpb⟩:∃ b,failB f.fct=b:=⟨_,rfl⟩
   have HPB:=Lib.hid (show failB (atF (xs.map FV.fct) k)=pb by rw [HAK.out,hpb])
   rw [hpb] at HFA
   clear hin hsz hf hq hpb hkx
   cases pb with
   | false=>
    have HFS:=Lib.hid (show fstK (k+1) (hitF (xs.map FV.fct) win lim false) (fun i=>who false (atF (xs.map FV.fct) i))=fstK k (hitF (xs.map FV.fct) win lim false) (fun i=>who false (atF (xs.map FV.fct) i)) from fstH_no (.inl (by unfold hitF;rw [HPB.out];rfl)))
    go_wp2_with fail
    refine HFA.out.mono ?_
    rintro _ w2 ⟨rfl,hx2⟩
    have HX2:=Lib.hid (HX.out.trans hx2)
    have HR2:=Lib.hid (HR.out.ext hx2)
    clear hx2
    go_wp2_with fail
    go_roundw
    case rel=>exact ⟨k+1,ms,A1,c1,by omega,by go_num,rfl,HR2,Lib.hid (by rw [HFS.out];exact HMS.out),HOB,HX2⟩
    case measure=>simp [intOf];omega
   | true=>
    go_wp2_with fail
    refine HFA.out.mono ?_
    rintro _ w2 ⟨rfl,hx2⟩
    have HX2:=Lib.hid (HX.out.trans hx2)
    have HR2:=Lib.hid (HR.out.ext hx2)
    clear hx2 u0 u1 u2 u3 u4 u5 u6 u7 u8 u9 u10 u11 HX HR
    obtain ⟨nc,hnc⟩:∃ nc,ms.length=nc:=⟨_,rfl⟩
    have HNC:=Lib.hid hnc
    have hncl:nc≤1000:=by rw [← hnc];exact HML.out
    rw [hnc]
    clear hnc
    go_wp2_with fail
    go_loopw [12,13] (fun kn i wr=>∃ (j:Nat) (b:Bool),j≤nc∧i=.int .i64 j∧kn=.bool b∧Hid (((ms.take j).any fun q=>decide (whoM false q=who false f.fct))=b)∧Hid (Ext w2 wr)) (fun _ i _=>nc-(intOf i).toNat)
    case atStart=>exact ⟨0,false,Nat.zero_le _,rfl,rfl,Lib.hid rfl,Lib.hid (Ext.refl w2)⟩
    case round=>
     obtain ⟨j,b,hj,rfl,rfl,HBB,HXJ⟩:=hrel
     obtain ⟨wj,rfl⟩:∃ wo:World,wo=wr:=⟨_,rfl⟩
     by_cases hjl:j<nc
     ·have hjx:j<ms.length:=by rw [HNC.out];exact hjl
      have HTJ:=Lib.hid (show ((ms.take (j+1)).any fun q=>decide (whoM false q=who false f.fct))=(b||decide (whoM false ms[j]=who false f.fct)) by
       rw [List.take_succ_eq_append_getElem hjx,List.any_append,HBB.out];simp)
      have HXJW:=Lib.hid (HX2.out.trans HXJ.out)
      cases b with
      | true=>
       go_upto_region 12 with fail
       refine wp_region_ext (fun _ _ _=>False) (by kernel_rfl) (by kernel_rfl) ?_
       refine wpE_op rfl rfl (fun w' hw' K' hK'=>?_)
       have hE:=hw'.1
       go_step
       refine hK' _ ⟨_,rfl⟩ ?_
       clear hK' K' hE hw' w'
       refine wpE_op rfl rfl (fun w' hw' K' hK'=>?_)
       have hE:=hw'.1
       go_step
       refine hK' _ ⟨_,rfl⟩ ?_
       clear hK' K' hE hw' w'
       try simp only [Act.put,sT1,sT2,sT3]
       refine wpE_sym false undef (by kernel_rfl) rfl (fun hc=>by cases hc) ?_
       simp only [cond_false,Act.put,sT1,sT2,sT3]
       refine wpE_sym false undef (by kernel_rfl) rfl (fun hc=>by cases hc) ?_
       simp only [cond_false,Act.put,sT1,sT2,sT3]
       refine wpE_sym false undef (by kernel_rfl) rfl (fun hc=>by cases hc) ?_
       simp only [cond_false,Act.put,sT1,sT2,sT3]
       refine wpE_sym false undef (by kernel_rfl) rfl (fun hc=>by cases hc) ?_
       simp only [cond_false,Act.put,sT1,sT2,sT3]
       refine wpE_sym false undef (by kernel_rfl) rfl (fun hc=>by cases hc) ?_
       simp only [cond_false,Act.put,sT1,sT2,sT3]
       refine wpE_sym false undef (by kernel_rfl) rfl (fun hc=>by cases hc) ?_
       simp only [cond_false,Act.put,sT1,sT2,sT3]
       refine wpE_sym false undef (by kernel_rfl) rfl (fun hc=>by cases hc) ?_
       simp only [cond_false,Act.put,sT1,sT2,sT3]
       refine wpE_sym false undef (by kernel_rfl) rfl (fun hc=>by cases hc) ?_
       simp only [cond_false,Act.put,sT1,sT2,sT3]
       refine wpE_sym false undef (by kernel_rfl) rfl (fun hc=>by cases hc) ?_
       simp only [cond_false,Act.put,sT1,sT2,sT3]
       refine wpE_sym false undef (by kernel_rfl) rfl (fun hc=>by cases hc) ?_
       simp only [cond_false,Act.put,sT1,sT2,sT3]
       refine wpE_sym false undef (by kernel_rfl) rfl (fun hc=>by cases hc) ?_
       simp only [cond_false,Act.put,sT1,sT2,sT3]
       refine wpE_sym false undef (by kernel_rfl) rfl (fun hc=>by cases hc) ?_
       simp only [cond_false,Act.put,sT1,sT2,sT3]
       refine wpE_symcall 62 rfl (by simp) false undef (by kernel_rfl) (fun _ _ h=>h.elim) (fun hc=>by cases hc) ?_
       simp only [cond_false,Act.put,sT1,sT2,sT3]
       refine wpE_sym false undef (by kernel_rfl) rfl (fun hc=>by cases hc) ?_
       simp only [cond_false,Act.put,sT1,sT2,sT3]
       refine wpE_op rfl rfl (fun w' hw' K' hK'=>?_)
       have hE:=hw'.1
       go_step
       refine hK' _ ⟨_,rfl⟩ ?_
       clear hK' K' hE hw' w'
       refine wpE_op rfl rfl (fun w' hw' K' hK'=>?_)
       have hE:=hw'.1
       go_step
       refine hK' _ ⟨_,rfl⟩ ?_
       clear hK' K' hE hw' w'
       try simp only [Act.put,sT1,sT2,sT3]
       refine wpE_sym false undef (by kernel_rfl) rfl (fun hc=>by cases hc) ?_
       simp only [cond_false,Act.put,sT1,sT2,sT3]
       refine wpE_sym false undef (by kernel_rfl) rfl (fun hc=>by cases hc) ?_
       simp only [cond_false,Act.put,sT1,sT2,sT3]
       refine wpE_sym false undef (by kernel_rfl) rfl (fun hc=>by cases hc) ?_
       simp only [cond_false,Act.put,sT1,sT2,sT3]
       refine wpE_sym false undef (by kernel_rfl) rfl (fun hc=>by cases hc) ?_
       simp only [cond_false,Act.put,sT1,sT2,sT3]
       refine wpE_sym false undef (by kernel_rfl) rfl (fun hc=>by cases hc) ?_
       simp only [cond_false,Act.put,sT1,sT2,sT3]
       refine wpE_sym false undef (by kernel_rfl) rfl (fun hc=>by cases hc) ?_
       simp only [cond_false,Act.put,sT1,sT2,sT3]
       refine wpE_sym false undef (by kernel_rfl) rfl (fun hc=>by cases hc) ?_
       simp only [cond_false,Act.put,sT1,sT2,sT3]
       refine wpE_sym false undef (by kernel_rfl) rfl (fun hc=>by cases hc) ?_
       simp only [cond_false,Act.put,sT1,sT2,sT3]
       refine wpE_sym false undef (by kernel_rfl) rfl (fun hc=>by cases hc) ?_
       simp only [cond_false,Act.put,sT1,sT2,sT3]
       refine wpE_sym false undef (by kernel_rfl) rfl (fun hc=>by cases hc) ?_
       simp only [cond_false,Act.put,sT1,sT2,sT3]
       refine wpE_sym false undef (by kernel_rfl) rfl (fun hc=>by cases hc) ?_
       simp only [cond_false,Act.put,sT1,sT2,sT3]
       refine wpE_sym false undef (by kernel_rfl) rfl (fun hc=>by cases hc) ?_
       simp only [cond_false,Act.put,sT1,sT2,sT3]
       refine wpE_sym false undef (by kernel_rfl) rfl (fun hc=>by cases hc) ?_
       simp only [cond_false,Act.put,sT1,sT2,sT3]
       refine wpE_symcall 79 rfl (by simp) false undef (by kernel_rfl) (fun _ _ h=>h.elim) (fun hc=>by cases hc) ?_
       simp only [cond_false,Act.put,sT1,sT2,sT3]
       refine wpE_sym false undef (by kernel_rfl) rfl (fun hc=>by cases hc) ?_
       simp only [cond_false,Act.put,sT1,sT2,sT3]
       refine wpE_op rfl rfl (fun w' hw' K' hK'=>?_)
       have hE:=hw'.1
       go_step
       refine hK' _ ⟨_,rfl⟩ ?_
       clear hK' K' hE hw' w'
       refine wpE_op rfl rfl (fun w' hw' K' hK'=>?_)
       have hE:=hw'.1
       go_step
       refine hK' _ ⟨_,rfl⟩ ?_
       clear hK' K' hE hw' w'
       refine wpE_nil (fun W hW=>?_)
       have HXW:=Lib.hid (HXJ.out.trans ((Ext.drew wj).trans hW.1))
       clear hW
       go_wp2_with fail
       go_roundw
       case rel=>exact ⟨j+1,true,by omega,by go_num,rfl,Lib.hid (by rw [HTJ.out];rfl),HXW⟩
       case measure=>simp [intOf];omega
      | false=>
       obtain ⟨hinq,adq,hadq,hqq⟩:=(HR2.out.ext HXJ.out).f7 j hjx
       have hqb:=(HOB.out _ (List.getElem_mem hjx)).1
       generalize ms[j]=q at *
       subst hadq
       have HMQ:=Lib.hid hqq
       have HFQ:=Lib.hid (HF12.out.ext HXJW.out)
       obtain ⟨sb,hsb⟩:∃ sb,decide (whoM false q=who false f.fct)=sb:=⟨_,rfl⟩
       have HEQ:=Lib.hid (fun W (hW:Ext wj W)=>(show Calls Tryz.prog 38 #[.agg #[.slice q.CA q.cp.length q.cc,.string q.cr],.agg #[.slice f.CA f.cp.length f.cc,.string f.cr]] W fun e w'=>e=.returned (.bool sb)∧Ext W w' from by
        have k1:=SameP_at q.CA q.cc q.cp q.cr f.CA f.cc f.cp f.cr hqb HSF.out.cp W (hinq.cp.ext hW) ((HINF.out.ext HXJW.out).cp.ext hW)
        rw [who_MP,hsb] at k1
        exact k1))
       rw [hsb] at HTJ
       clear hinq hqq hsb hqb
       go_upto_region 12 with fail
       refine wp_region_ext (fun i v' w'=>match i with | 31=>v'=.bool sb | _=>False) (by kernel_rfl) (by kernel_rfl) ?_
       refine wpE_op rfl rfl (fun w' hw' K' hK'=>?_)
       have hE:=hw'.1
       go_step
       refine hK' _ ⟨_,rfl⟩ ?_
       clear hK' K' hE hw' w'
       refine wpE_op rfl rfl (fun w' hw' K' hK'=>?_)
       have hE:=hw'.1
       go_step
       refine hK' _ ⟨_,rfl⟩ ?_
       clear hK' K' hE hw' w'
       refine wpE_op (by kernel_rfl) rfl (fun w' hw' K' hK'=>?_)
       have hE:=hw'.1
       go_step
       refine hK' _ ⟨_,rfl⟩ ?_
       clear hK' K' hE hw' w'
       refine wpE_op (by kernel_rfl) rfl (fun w' hw' K' hK'=>?_)
       have hE:=hw'.1
       go_step
       refine hK' _ ⟨_,rfl⟩ ?_
       clear hK' K' hE hw' w'
       try simp only [Act.put,sT1,sT2,sT3]
       refine wpE_sym false undef (by kernel_rfl) rfl (fun hc=>by cases hc) ?_
       simp only [cond_false,Act.put,sT1,sT2,sT3]
       refine wpE_sym false undef (by kernel_rfl) rfl (fun hc=>by cases hc) ?_
       simp only [cond_false,Act.put,sT1,sT2,sT3]
       refine wpE_sym false undef (by kernel_rfl) rfl (fun hc=>by cases hc) ?_
       simp only [cond_false,Act.put,sT1,sT2,sT3]
       refine wpE_sym false undef (by kernel_rfl) rfl (fun hc=>by cases hc) ?_
       simp only [cond_false,Act.put,sT1,sT2,sT3]
       refine wpE_sym false undef (by kernel_rfl) rfl (fun hc=>by cases hc) ?_
       simp only [cond_false,Act.put,sT1,sT2,sT3]
       refine wpE_sym false undef (by kernel_rfl) rfl (fun hc=>by cases hc) ?_
       simp only [cond_false,Act.put,sT1,sT2,sT3]
       refine wpE_sym false undef (by kernel_rfl) rfl (fun hc=>by cases hc) ?_
       simp only [cond_false,Act.put,sT1,sT2,sT3]
       refine wpE_sym false undef (by kernel_rfl) rfl (fun hc=>by cases hc) ?_
       simp only [cond_false,Act.put,sT1,sT2,sT3]
       refine wpE_sym false undef (by kernel_rfl) rfl (fun hc=>by cases hc) ?_
       simp only [cond_false,Act.put,sT1,sT2,sT3]
       refine wpE_sym false undef (by kernel_rfl) rfl (fun hc=>by cases hc) ?_
       simp only [cond_false,Act.put,sT1,sT2,sT3]
       refine wpE_symcall 62 rfl (by simp) false undef (by kernel_rfl) (fun _ _ h=>h.elim) (fun hc=>by cases hc) ?_
       simp only [cond_false,Act.put,sT1,sT2,sT3]
       refine wpE_op (by kernel_rfl) rfl (fun w' hw' K' hK'=>?_)
       have hE:=hw'.1
       go_step
       refine hK' _ ⟨_,rfl⟩ ?_
       clear hK' K' hE hw' w'
       refine wpE_op rfl rfl (fun w' hw' K' hK'=>?_)
       have hE:=hw'.1
       go_step
       refine hK' _ ⟨_,rfl⟩ ?_
       clear hK' K' hE hw' w'
       refine wpE_op rfl rfl (fun w' hw' K' hK'=>?_)
       have hE:=hw'.1
       go_step
       refine hK' _ ⟨_,rfl⟩ ?_
       clear hK' K' hE hw' w'
       refine wpE_op (by kernel_rfl) rfl (fun w' hw' K' hK'=>?_)
       have hE:=hw'.1
       go_step
       refine hK' _ ⟨_,rfl⟩ ?_
       clear hK' K' hE hw' w'
       refine wpE_op (by kernel_rfl) rfl (fun w' hw' K' hK'=>?_)
       have hE:=hw'.1
       go_step
       refine hK' _ ⟨_,rfl⟩ ?_
       clear hK' K' hE hw' w'
       refine wpE_op (by kernel_rfl) rfl (fun w' hw' K' hK'=>?_)
       have hE:=hw'.1
       go_step
       refine hK' _ ⟨_,rfl⟩ ?_
       clear hK' K' hE hw' w'
       refine wpE_op (by kernel_rfl) rfl (fun w' hw' K' hK'=>?_)
       have hE:=hw'.1
       go_step
       refine hK' _ ⟨_,rfl⟩ ?_
       clear hK' K' hE hw' w'
       refine wpE_op (by kernel_rfl) rfl (fun w' hw' K' hK'=>?_)
       have hE:=hw'.1
       go_step
       refine hK' _ ⟨_,rfl⟩ ?_
       clear hK' K' hE hw' w'
       refine wpE_op (by kernel_rfl) rfl (fun w' hw' K' hK'=>?_)
       have hE:=hw'.1
       go_step
       refine hK' _ ⟨_,rfl⟩ ?_
       clear hK' K' hE hw' w'
       refine wpE_op (by kernel_rfl) rfl (fun w' hw' K' hK'=>?_)
       have hE:=hw'.1
       go_step
       refine hK' _ ⟨_,rfl⟩ ?_
       clear hK' K' hE hw' w'
       refine wpE_op (by kernel_rfl) rfl (fun w' hw' K' hK'=>?_)
       have hE:=hw'.1
       obtain ⟨y0,y1,y2,y3,y4,y5,y6⟩:=(HMQ.out.ext ((Ext.drew wj).trans hE)).cells
       go_step
       refine hK' _ ⟨_,rfl⟩ ?_
       clear hK' K' y0 y1 y2 y3 y4 y5 y6 hE hw' w'
       refine wpE_op (by kernel_rfl) rfl (fun w' hw' K' hK'=>?_)
       have hE:=hw'.1
       go_step
       refine hK' _ ⟨_,rfl⟩ ?_
       clear hK' K' hE hw' w'
       refine wpE_op (by kernel_rfl) rfl (fun w' hw' K' hK'=>?_)
       have hE:=hw'.1
       go_step
       refine hK' _ ⟨_,rfl⟩ ?_
       clear hK' K' hE hw' w'
       refine wpE_op (by kernel_rfl) rfl (fun w' hw' K' hK'=>?_)
       have hE:=hw'.1
       go_step
       refine hK' _ ⟨_,rfl⟩ ?_
       clear hK' K' hE hw' w'
       refine wpE_op (by kernel_rfl) rfl (fun w' hw' K' hK'=>?_)
       have hE:=hw'.1
       go_step
       refine hK' _ ⟨_,rfl⟩ ?_
       clear hK' K' hE hw' w'
       refine wpE_op (by kernel_rfl) rfl (fun w' hw' K' hK'=>?_)
       have hE:=hw'.1
       obtain ⟨u0,u1,u2,u3,u4,u5,u6,u7,u8,u9,u10,u11⟩:=(HFQ.out.ext ((Ext.drew wj).trans hE)).cells
       go_step
       refine hK' _ ⟨_,rfl⟩ ?_
       clear hK' K' u0 u1 u2 u3 u4 u5 u6 u7 u8 u9 u10 u11 hE hw' w'
       refine wpE_call 79 rfl (by simp) (by kernel_rfl) (fun w' hw' K' hK'=>?_) ?_
       ·have hE:=hw'.1
        go_step
        refine (HEQ.out w' ((Ext.drew _).trans hE)).mono ?_
        rintro _ w2 ⟨rfl,hx⟩
        exact hK' _ _ ⟨_,rfl,rfl⟩ hx
       rintro _ w6 _ rfl
       simp only [Act.put,sT1,sT2,sT3]
       refine wpE_op (by kernel_rfl) rfl (fun w' hw' K' hK'=>?_)
       have hE:=hw'.1
       go_step
       refine hK' _ ⟨_,rfl⟩ ?_
       clear hK' K' hE hw' w'
       refine wpE_op rfl rfl (fun w' hw' K' hK'=>?_)
       have hE:=hw'.1
       go_step
       refine hK' _ ⟨_,rfl⟩ ?_
       clear hK' K' hE hw' w'
       refine wpE_op rfl rfl (fun w' hw' K' hK'=>?_)
       have hE:=hw'.1
       go_step
       refine hK' _ ⟨_,rfl⟩ ?_
       clear hK' K' hE hw' w'
       refine wpE_nil (fun W hW=>?_)
       have HXW:=Lib.hid (HXJ.out.trans ((Ext.drew wj).trans hW.1))
       clear hW
       go_wp2_with fail
       go_roundw
       case rel=>exact ⟨j+1,sb,by omega,by go_num,rfl,Lib.hid (by rw [HTJ.out];rfl),HXW⟩
       case measure=>simp [intOf];omega
     ·have HALL:=Lib.hid (show (ms.any fun q=>decide (whoM false q=who false f.fct))=b by
       have h:=HBB.out
       rwa [List.take_of_length_le (by rw [HNC.out];omega)] at h)
      obtain rfl:j=nc:=by omega
      have hjn:¬ ((j:Int)<(j:Int)):=by omega
      have HX3:=Lib.hid (HX2.out.trans HXJ.out)
      have HR3:=Lib.hid (HR2.out.ext HXJ.out)
      have HCN:=Lib.hid ((HN.out ▸ RCountP_at (some ad) c xs k win wj ((HN.out.symm ▸ HF.out:FS w (.slice (some ad) xs.length c) xs).ext HX3.out) (by rw [HN.out];exact hn) HZ.out HT.out HKX.out HPB.out HA3.out.1 HA3.out.2.1 B HB0.out:Calls Tryz.prog 97 #[.slice (some ad) n c,.int .i64 (k:Int),.int .i64 win,.bool false] wj fun e w'=>CNP (xs.map FV.fct) win false k B e w'∧Ext wj w'))
      go_wp2_with fail
      refine HCN.out.mono ?_
      rintro _ w4 ⟨⟨m,rfl,hin4,halm4,hblk4,hlen4,hfa4⟩,hx4⟩
      have HX4:=Lib.hid (HX3.out.trans hx4);have HR4:=Lib.hid (HR3.out.ext hx4)
      have HI4:=Lib.hid hin4;have HAM:=Lib.hid halm4;have HBL:=Lib.hid hblk4;have HLN:=Lib.hid (And.intro hlen4 hfa4)
      have hmn:=alm_n halm4
      have HMN:=Lib.hid hmn
      have zZ:=heap_alloc_new w4 (.cells #[.slice none 0 0,.string ⟨#[]⟩,.int .i64 0,.slice none 0 0,.int .i64 0,.int .i64 0,.int .i64 0] 50)
      have xZ:=(Ext.refl w4).alloc (.cells #[.slice none 0 0,.string ⟨#[]⟩,.int .i64 0,.slice none 0 0,.int .i64 0,.int .i64 0,.int .i64 0] 50)
      obtain ⟨WZ,eZ⟩:∃ W,w4.alloc (.cells #[.slice none 0 0,.string ⟨#[]⟩,.int .i64 0,.slice none 0 0,.int .i64 0,.int .i64 0,.int .i64 0] 50)=W:=⟨_,rfl⟩
      rw [eZ] at zZ xZ
      clear hin4 halm4 hblk4 hlen4 hfa4 hx4 hmn HCN HXJ HX2 HR2
      have hj2:ms.length=j:=HNC.out
      subst hj2
      go_upto_region 14 with (first
       | (refine wpList_store_var WZ rfl (.tmp 14) (.tmp 86) 50 rfl w4.heap.size 50 #[.slice none 0 0,.string ⟨#[]⟩,.int .i64 0,.slice none 0 0,.int .i64 0,.int .i64 0,.int .i64 0] #[.slice m.CA m.cp.length m.cc,.string m.cr,.int .i64 m.fk,.slice m.FA m.fb.length m.fc,.int .i64 m.n,.int .i64 m.b,.int .i64 m.t] rfl rfl (Tryz.sizeOf50 WZ) zZ rfl (one8 rfl) ?_;intro WC b3 hg3)
       | fail)
      have x3:Ext w4 WC:=Below.grown xZ hg3 xZ.size (fun j hj=>by cases hj;exact Nat.le_refl _)
      have HXC:=Lib.hid (HX4.out.trans x3);have HRC:=Lib.hid (HR4.out.ext x3);have HIC:=Lib.hid (HI4.out.ext x3)
      have HM7:=Lib.hid (show RW WC w4.heap.size 50 #[.slice m.CA m.cp.length m.cc,.string m.cr,.int .i64 m.fk,.slice m.FA m.fb.length m.fc,.int .i64 m.n,.int .i64 m.b,.int .i64 m.t] from b3)
      obtain ⟨⟨m0,m1,m2,m3,m4,m5,m6⟩,_⟩:=rw7 HM7.out
      clear eZ zZ xZ hg3 b3 x3
      cases b with
      | true=>
       have HFS:=Lib.hid (show fstK (k+1) (hitF (xs.map FV.fct) win lim false) (fun i=>who false (atF (xs.map FV.fct) i))=fstK k (hitF (xs.map FV.fct) win lim false) (fun i=>who false (atF (xs.map FV.fct) i)) from fstH_no (.inr (by
        obtain ⟨i,hi,e⟩:=(any_js HMS.out (who false f.fct)).1 HALL.out
        exact ⟨i,hi,by rw [e,HAK.out]⟩)))
       go_wp2_with fail
       go_roundw
       case rel=>exact ⟨k+1,ms,A1,c1,by omega,by go_num,rfl,HRC,Lib.hid (by rw [HFS.out];exact HMS.out),HOB,HXC⟩
       case measure=>simp [intOf];omega
      | false=>
       have HNB:=Lib.hid (show ¬ ∃ i∈fstK k (hitF (xs.map FV.fct) win lim false) (fun i=>who false (atF (xs.map FV.fct) i)),who false (atF (xs.map FV.fct) i)=who false (atF (xs.map FV.fct) k) from fun ⟨i,hi,e⟩=>by
        have:=(any_js HMS.out (who false f.fct)).2 ⟨i,hi,by rw [e,HAK.out]⟩
        rw [HALL.out] at this
        cases this)
       by_cases hlm:lim≤m.n
       ·have ql:decide (lim≤m.n)=true:=decide_eq_true hlm
        have HFS:=Lib.hid (show fstK (k+1) (hitF (xs.map FV.fct) win lim false) (fun i=>who false (atF (xs.map FV.fct) i))=fstK k (hitF (xs.map FV.fct) win lim false) (fun i=>who false (atF (xs.map FV.fct) i))++[k] from fstH_yes (by unfold hitF;rw [HPB.out,Bool.true_and,decide_eq_true_eq,← HMN.out];exact hlm) HNB.out)
        have hb5:M7 (WC.alloc (.cells #[.slice m.CA m.cp.length m.cc,.string m.cr,.int .i64 m.fk,.slice m.FA m.fb.length m.fc,.int .i64 m.n,.int .i64 m.b,.int .i64 m.t] 50)) WC.heap.size m:=heap_alloc_new WC _
        have hx5:=(Ext.refl WC).alloc (.cells #[.slice m.CA m.cp.length m.cc,.string m.cr,.int .i64 m.fk,.slice m.FA m.fb.length m.fc,.int .i64 m.n,.int .i64 m.b,.int .i64 m.t] 50)
        obtain ⟨W5,e5⟩:∃ W5,WC.alloc (.cells #[.slice m.CA m.cp.length m.cc,.string m.cr,.int .i64 m.fk,.slice m.FA m.fb.length m.fc,.int .i64 m.n,.int .i64 m.b,.int .i64 m.t] 50)=W5:=⟨_,rfl⟩
        rw [e5] at hb5 hx5
        have HB5:=Lib.hid hb5;have HR5:=Lib.hid (HRC.out.ext hx5);have HX5:=Lib.hid (HXC.out.trans hx5)
        have HYS:=Lib.hid (show ∀ y∈[m],EM.In W5 y∧∀ b,(Value.slice A1 ms.length c1).ownBlock=some b→¬ EM.Blk y b from fun y hy=>by
         rw [List.mem_singleton] at hy
         subst hy
         refine ⟨HIC.out.ext hx5,fun b hb hB=>?_⟩
         obtain ⟨hne,ad',hA,e⟩:=hB
         have h1:=HBL.out hne ad' hA
         have h2:=(HR5.out.lt b hb).1
         have h3:=HBW.out
         omega)
        have HBY:=Lib.hid (show (ms.length + [m].length)*96≤140737488355328 by have:=HML.out;simp;omega)
        have HBS:=Lib.hid (show w.heap.size≤W5.heap.size from HX5.out.size)
        clear hb5 hx5
        go_wp2_with (at_builtin;refine wpList_append_row (E:=EM) W5 rfl (.tmp 95) (.tmp 97) 45 rfl w.heap.size 50 i0 almZ7 96 Tryz.underlying45 hi iz0 iz1 iz2 alm7_zs alm7_zn _ ms rfl HR5.out ⟨WC.heap.size,0,none⟩ 1 [m] rfl (by show 0<1;decide) HB5.out.news HYS.out HBY.out (by decide) HBS.out ?_;intro v6 w6 hown6 hg6 ho6;obtain ⟨A6,cc6,rfl⟩:=hown6.shape;have HX6:=Lib.hid (show Ext w w6 from Below.grown HX5.out hg6 HX5.out.size (fun j hj=>(HR5.out.lt j hj).1));have HO6:=Lib.hid hown6;clear hown6 hg6 ho6)
        go_roundw
        case rel=>exact ⟨k+1,ms++[m],A6,cc6,by omega,by go_num,by rw [List.length_append];rfl,HO6,Lib.hid (by rw [HFS.out,List.map_append,List.map_append,HMS.out,List.map_cons,List.map_nil,List.map_cons,List.map_nil,HAM.out]),Lib.hid (fun x hx=>by rcases List.mem_append.1 hx with hx | hx;exact HOB.out x hx;rw [List.mem_singleton] at hx;subst hx;exact HLN.out),HX6⟩
        case measure=>simp [intOf];omega
       ·have ql:decide (lim≤m.n)=false:=decide_eq_false hlm
        have HFS:=Lib.hid (show fstK (k+1) (hitF (xs.map FV.fct) win lim false) (fun i=>who false (atF (xs.map FV.fct) i))=fstK k (hitF (xs.map FV.fct) win lim false) (fun i=>who false (atF (xs.map FV.fct) i)) from fstH_no (.inl (by unfold hitF;rw [HPB.out,Bool.true_and,decide_eq_false_iff_not,← HMN.out];exact hlm)))
        go_wp2_with fail
        go_roundw
        case rel=>exact ⟨k+1,ms,A1,c1,by omega,by go_num,rfl,HRC,Lib.hid (by rw [HFS.out];exact HMS.out),HOB,HXC⟩
        case measure=>simp [intOf];omega
  ·obtain rfl:k=n:=by omega
   have HAF:=Lib.hid (show ms.map MV.alm=(almF (xs.map FV.fct) win lim false).map (almO (xs.map FV.fct) win false) by
    rw [HMS.out]
    unfold almF
    rw [List.length_map,HN.out])
   go_wp2_with fail
   go_ret2
   exact ⟨.inr ⟨HARG.out,_,ms,rfl,HR.out,HAF.out,HOB.out⟩,HX.out⟩
end Go.Proofs.YtnjmndofcpnmeaaGreatDoor
namespace Go.Proofs.YtnjmndofcpnmeaaGreatDoor
open Go Go.RowKit
set_option linter.unusedVariables false
attribute [local irreducible] wpE
set_option maxRecDepth 100000 in
set_option maxHeartbeats 8000000 in
theorem RCountA_at (A:Option Addr) (c:Nat) (xs:List FV) (a:Nat) (win:Int) (w:World) (hF:FS w (.slice A xs.length c) xs) (hn:xs.length≤1000) (hz:∀ x∈xs,x.Sz) (ht:∀ f∈xs,0≤f.t∧f.t≤1099511627776) (ha:a<xs.length) (hfa:failB (atF (xs.map FV.fct) a)=true) (hw0:0≤win) (hw1:win≤1099511627776) (B:Nat) (hB:∀ x∈xs,(x.cp≠[]→∀ ad',x.CA=some ad'→ad'.block<B)∧(x.fb≠[]→∀ ad',x.FA=some ad'→ad'.block<B)):
  Calls Tryz.prog 97 #[.slice A xs.length c,.int .i64 (a:Int),.int .i64 win,.bool true] w fun e w'=>CNP (xs.map FV.fct) win true a B e w'∧Ext w w':=by
 obtain ⟨i0,hi,iz0,iz1,iz2⟩:=prn_info
 have HZ:=Lib.hid hz;have HT:=Lib.hid ht
 have HAG:=Lib.hid (atF_map ha)
 obtain ⟨hing,ad,rfl,hqg⟩:=hF.f12 a ha
 have hgm:=List.getElem_mem ha
 obtain ⟨g,hg⟩:∃ g,xs[a]=g:=⟨_,rfl⟩
 rw [hg] at hing hqg HAG hgm
 have HBG:=Lib.hid (hB g hgm);have HSG:=Lib.hid (hz g hgm);have HTG:=Lib.hid (ht g hgm)
 have HF:=Lib.hid hF;have HING:=Lib.hid hing;have HG0:=Lib.hid hqg;have HFA0:=Lib.hid hfa;have HW0:=Lib.hid hw0
 have hgt:=(ht g hgm).1;have hgt2:=(ht g hgm).2
 obtain ⟨n,hn'⟩:∃ n,xs.length=n:=⟨_,rfl⟩
 have HN:=Lib.hid hn'
 rw [hn'] at hn ha ⊢ HF
 have z0:RW (w.alloc (.cells #[.slice none 0 0,.string ⟨#[]⟩,.int .i64 0,.slice none 0 0,.int .i64 0,.int .i64 0,.int .i64 0] 50)) w.heap.size 50 #[.slice none 0 0,.string ⟨#[]⟩,.int .i64 0,.slice none 0 0,.int .i64 0,.int .i64 0,.int .i64 0]:=heap_alloc_new w _
 have x0:=(Ext.refl w).alloc (.cells #[.slice none 0 0,.string ⟨#[]⟩,.int .i64 0,.slice none 0 0,.int .i64 0,.int .i64 0,.int .i64 0] 50)
 obtain ⟨W0,e0⟩:∃ W,w.alloc (.cells #[.slice none 0 0,.string ⟨#[]⟩,.int .i64 0,.slice none 0 0,.int .i64 0,.int .i64 0,.int .i64 0] 50)=W:=⟨_,rfl⟩
 have s0:W0.heap.size=w.heap.size+1:=by rw [← e0,World.size_alloc]
 rw [e0] at z0 x0
 have z1:RW (W0.alloc (.cells #[.slice none 0 0,.string ⟨#[]⟩,.int .i64 0,.slice none 0 0,.int .i64 0,.int .i64 0,.int .i64 0] 50)) W0.heap.size 50 #[.slice none 0 0,.string ⟨#[]⟩,.int .i64 0,.slice none 0 0,.int .i64 0,.int .i64 0,.int .i64 0]:=heap_alloc_new W0 _
 have x1:=(Ext.refl W0).alloc (.cells #[.slice none 0 0,.string ⟨#[]⟩,.int .i64 0,.slice none 0 0,.int .i64 0,.int .i64 0,.int .i64 0] 50)
 obtain ⟨W1,e1⟩:∃ W,W0.alloc (.cells #[.slice none 0 0,.string ⟨#[]⟩,.int .i64 0,.slice none 0 0,.int .i64 0,.int .i64 0,.int .i64 0] 50)=W:=⟨_,rfl⟩
 rw [e1] at z1 x1
 rw [s0] at z1
 have HZ0:=Lib.hid (RW.ext z0 x1);have HZ1:=Lib.hid z1;have HX1:=Lib.hid (x0.trans x1)
 obtain ⟨u0,u1,u2,u3,u4,u5,u6,u7,u8,u9,u10,u11⟩:=(F12.ext hqg x0).cells
 have hsub:wrap64 (g.t-win)=g.t-win:=IntWalk.wrap64_in _ (by omega)
 clear hF hz ht hing hqg hfa hn' hg hgm hB z0 x0 z1 x1
 go_enter Tryz.func97,Tryz.ntmps97
 go_upto_region 2 with (first | (refine wpList_store_var W1 rfl (.tmp 9) (.tmp 19) 50 rfl (w.heap.size+1) 50 #[.slice none 0 0,.string ⟨#[]⟩,.int .i64 0,.slice none 0 0,.int .i64 0,.int .i64 0,.int .i64 0] #[.slice none 0 0,.string ⟨#[]⟩,.int .i64 0,.slice none 0 0,.int .i64 0,.int .i64 (-1),.int .i64 g.t] rfl rfl (Tryz.sizeOf50 W1) HZ1.out rfl (one8 rfl) ?_;intro WC b3 hg3) | fail)
 have HI0:=Lib.hid (show CNI w WC (-1) g.t (.slice none 0 0) [] from ⟨(hg3.block w.heap.size (Array.getElem?_eq_some_iff.1 HZ0.out).1 (fun e=>by injection e with e;omega)).trans HZ0.out,b3,ROW.nil _ _ _,fun p hp=>(by cases hp),fun p hp=>(by cases hp),HX1.out.grown hg3 (fun j hj=>by cases hj;exact Nat.le_succ _)⟩)
 clear e0 e1 s0 b3 hg3 u0 u1 u2 u3 u4 u5 u6 u7 u8 u9 u10 u11
 go_wp2_with fail
 go_loopw [10,11,12,13] (fun cl i _ _ wr=>∃ (k:Nat) (cs:List PV) (CA:Option Addr) (cc:Nat),k≤a+1∧i=.int .i64 k∧cl=.slice CA cs.length cc∧Hid (CNI w wr (firT (xs.map FV.fct) (winTo (xs.map FV.fct) win true a k)) g.t (.slice CA cs.length cc) cs)∧Hid (CLS (xs.map FV.fct) true (winTo (xs.map FV.fct) win true a k) (cs.map PV.pr))) (fun _ i _ _ _=>a+1-(intOf i).toNat)
 case atStart=>exact ⟨0,[],none,0,Nat.zero_le _,rfl,rfl,HI0,Lib.hid (CLS.nil _ _)⟩
 case round=>
  obtain ⟨k,cs,CA,cc,hk,rfl,rfl,HI,HCL⟩:=hrel
  obtain ⟨wo,rfl⟩:∃ wo:World,wo=wr:=⟨_,rfl⟩
  have HCLE:=Lib.hid (show cs.length≤1000 by have h1:=HCL.out.le;have h2:=winTo_len (xs.map FV.fct) win true a k;rw [List.length_map] at h1;omega)
  by_cases hlt:k≤a
  ·have hkn:k<n:=by omega
   have hkx:k<xs.length:=by rw [HN.out];exact hkn
   obtain ⟨hin,ad',hadr,hq⟩:=HF.out.f12 k hkx
   injection hadr with hadr
   subst hadr
   have hsz:=HZ.out xs[k] (List.getElem_mem hkx)
   have HAK:=Lib.hid (atF_map hkx)
   have HTF:=Lib.hid (HT.out xs[k] (List.getElem_mem hkx))
   obtain ⟨f,hf⟩:∃ f,xs[k]=f:=⟨_,rfl⟩
   rw [hf] at hin hsz HAK hq HTF
   have HBF:=Lib.hid (show f.cp≠[]→∀ ad',f.CA=some ad'→ad'.block<w.heap.size from fun hne ad' hA=>(RS.lt hin.cp (sv_ne hne) hA).1)
   have HF12:=Lib.hid hq;have HINF:=Lib.hid hin;have HSF:=Lib.hid hsz
   have HQ:=Lib.hid (hq.ext HI.out.ex)
   have HG:=Lib.hid (HG0.out.ext HI.out.ex)
   have HFA:=Lib.hid (fun W (hW:Ext wo W)=>RFailure_at f W (HINF.out.ext (HI.out.ex.trans hW)))
   have HAL:=Lib.hid (fun W (hW:Ext wo W)=>AlikeA_at f g W (HINF.out.ext (HI.out.ex.trans hW)) (HING.out.ext (HI.out.ex.trans hW)) HSF.out.cp HSG.out.cp)
   unfold FV.val at HFA HAL
   obtain ⟨pb,hpb⟩:∃ b,failB f.fct=b:=⟨_,rfl⟩
   obtain ⟨lb,hlb⟩:∃ b,decide (who true f.fct=who true g.fct)=b:=⟨_,rfl⟩
   have HPB:=Lib.hid (show failB (atF (xs.map FV.fct) k)=pb by rw [HAK.out,hpb])
   have HLB:=Lib.hid (show decide (who true (atF (xs.map FV.fct) k)=who true (atF (xs.map FV.fct) a))=lb by rw [HAK.out,HAG.out,hlb])
   rw [hpb] at HFA
   rw [hlb] at HAL
   clear hin hsz hf hq hpb hlb hkx
   have HKT:=Lib.hid (show k<n∧a<n from ⟨hkn,ha⟩)
   have HSUB:=Lib.hid hsub
   obtain ⟨q1,hq1⟩:∃ q1:Bool,(!pb)=q1:=⟨_,rfl⟩
   have Hq1:=Lib.hid hq1;clear hq1
   obtain ⟨c2,hc2⟩:∃ c2:Bool,(!q1)=c2:=⟨_,rfl⟩
   have Hc2:=Lib.hid hc2;clear hc2
   obtain ⟨q3,hq3⟩:∃ q3:Bool,(!lb)=q3:=⟨_,rfl⟩
   have Hq3:=Lib.hid hq3;clear hq3
   obtain ⟨p4,hp4⟩:∃ p4:Bool,(q1||q3)=p4:=⟨_,rfl⟩
   have Hp4:=Lib.hid hp4;clear hp4
   obtain ⟨c5,hc5⟩:∃ c5:Bool,(!p4)=c5:=⟨_,rfl⟩
   have Hc5:=Lib.hid hc5;clear hc5
   obtain ⟨q6,hq6⟩:∃ q6:Bool,(decide (f.t<g.t-win))=q6:=⟨_,rfl⟩
   have Hq6:=Lib.hid hq6;clear hq6
   obtain ⟨p7,hp7⟩:∃ p7:Bool,(p4||q6)=p7:=⟨_,rfl⟩
   have Hp7:=Lib.hid hp7;clear hp7
   have HLS:=Lib.hid (show (!pb || !lb||decide (f.t<g.t-win))=p7 by
    have h:=Hp7.out;subst h
    have h:=Hq6.out;subst h
    have h:=Hc5.out;subst h
    have h:=Hp4.out;subst h
    have h:=Hq3.out;subst h
    have h:=Hc2.out;subst h
    have h:=Hq1.out;subst h
    rfl)
   go_upto_region 6 with fail
   refine wp_region_ext (fun i v' w'=>match i with | 4=>v'=.bool pb | 16=>v'=.bool lb | _=>False) (by kernel_rfl) (by kernel_rfl) ?_
   refine wpE_val (.slice (some ad) n c) rfl rfl (fun w' hw' K' hK'=>?_) ?_
   ·have hE:=hw'.1
    go_step
    exact hK'
   simp only [Act.put,sT1,sT2,sT3]
   refine wpE_val (.int .i64 (k:Int)) rfl rfl (fun w' hw' K' hK'=>?_) ?_
   ·have hE:=hw'.1
    go_step
    exact hK'
   simp only [Act.put,sT1,sT2,sT3]
   refine wpE_val (.pointer (some (ad.add (k*12)))) rfl rfl (fun w' hw' K' hK'=>?_) ?_
   ·have hE:=hw'.1
    have hkn:=HKT.out.1
    go_step
    exact hK'
   simp only [Act.put,sT1,sT2,sT3]
   refine wpE_val (.agg #[.int .i64 f.t,.int .i64 f.mi,.int .i64 f.kd,.int .i64 f.fk,.slice f.FA f.fb.length f.fc,.slice f.CA f.cp.length f.cc,.string f.cr,.slice f.SA f.sp.length f.sc,.string f.sr,.int .i64 f.co,.int .i64 f.pr,.int .u32 (f.fl.toNat:Int)]) rfl rfl (fun w' hw' K' hK'=>?_) ?_
   ·have hE:=hw'.1
    obtain ⟨u0,u1,u2,u3,u4,u5,u6,u7,u8,u9,u10,u11⟩:=(HQ.out.ext ((Ext.drew wo).trans hE)).cells
    go_step
    exact hK'
   simp only [Act.put,sT1,sT2,sT3]
   refine wpE_symcall 29 rfl (by simp) true (.bool pb) (rfl) (fun _ _ h=>h) (fun hc w' hw' K' hK'=>?_) ?_
   ·have hE:=hw'.1
    try simp only [cond_true]
    go_step
    refine (HFA.out w' ((Ext.drew _).trans hE)).mono ?_
    rintro _ w2 ⟨rfl,hx⟩
    exact hK' _ _ rfl hx
   simp only [cond_true,Act.put,sT1,sT2,sT3]
   refine wpE_val (.bool q1) rfl rfl (fun w' hw' K' hK'=>?_) ?_
   ·have hE:=hw'.1
    have hq:=Hq1.out
    subst hq
    go_step
    exact hK'
   simp only [Act.put,sT1,sT2,sT3]
   refine wpE_val (.bool q1) rfl rfl (fun w' hw' K' hK'=>?_) ?_
   ·have hE:=hw'.1
    go_step
    exact hK'
   simp only [Act.put,sT1,sT2,sT3]
   refine wpE_sym c2 (.slice (some ad) n c) (by rw [← Hc2.out];cases q1<;>kernel_rfl) rfl (fun hc w' hw' K' hK'=>?_) ?_
   ·have hE:=hw'.1
    subst hc
    try simp only [cond_true]
    go_step
    exact hK'
   simp only [Act.put,sT1,sT2,sT3]
   refine wpE_sym c2 (.int .i64 (k:Int)) (by rw [← Hc2.out];cases q1<;>kernel_rfl) rfl (fun hc w' hw' K' hK'=>?_) ?_
   ·have hE:=hw'.1
    subst hc
    try simp only [cond_true]
    go_step
    exact hK'
   simp only [Act.put,sT1,sT2,sT3]
   refine wpE_sym c2 (.pointer (some (ad.add (k*12)))) (by rw [← Hc2.out];cases q1<;>kernel_rfl) rfl (fun hc w' hw' K' hK'=>?_) ?_
   ·have hE:=hw'.1
    subst hc
    try simp only [cond_true]
    have hkn:=HKT.out.1
    go_step
    exact hK'
   simp only [Act.put,sT1,sT2,sT3]
   refine wpE_sym c2 (.agg #[.int .i64 f.t,.int .i64 f.mi,.int .i64 f.kd,.int .i64 f.fk,.slice f.FA f.fb.length f.fc,.slice f.CA f.cp.length f.cc,.string f.cr,.slice f.SA f.sp.length f.sc,.string f.sr,.int .i64 f.co,.int .i64 f.pr,.int .u32 (f.fl.toNat:Int)]) (by rw [← Hc2.out];cases q1<;>kernel_rfl) rfl (fun hc w' hw' K' hK'=>?_) ?_
   ·have hE:=hw'.1
    subst hc
    try simp only [cond_true]
    obtain ⟨u0,u1,u2,u3,u4,u5,u6,u7,u8,u9,u10,u11⟩:=(HQ.out.ext ((Ext.drew wo).trans hE)).cells
    go_step
    exact hK'
   simp only [Act.put,sT1,sT2,sT3]
   refine wpE_sym c2 (.slice (some ad) n c) (by rw [← Hc2.out];cases q1<;>kernel_rfl) rfl (fun hc w' hw' K' hK'=>?_) ?_
   ·have hE:=hw'.1
    subst hc
    try simp only [cond_true]
    go_step
    exact hK'
   simp only [Act.put,sT1,sT2,sT3]
   refine wpE_sym c2 (.int .i64 (a:Int)) (by rw [← Hc2.out];cases q1<;>kernel_rfl) rfl (fun hc w' hw' K' hK'=>?_) ?_
   ·have hE:=hw'.1
    subst hc
    try simp only [cond_true]
    go_step
    exact hK'
   simp only [Act.put,sT1,sT2,sT3]
   refine wpE_sym c2 (.pointer (some (ad.add (a*12)))) (by rw [← Hc2.out];cases q1<;>kernel_rfl) rfl (fun hc w' hw' K' hK'=>?_) ?_
   ·have hE:=hw'.1
    subst hc
    try simp only [cond_true]
    have han:=HKT.out.2
    go_step
    exact hK'
   simp only [Act.put,sT1,sT2,sT3]
   refine wpE_sym c2 (.agg #[.int .i64 g.t,.int .i64 g.mi,.int .i64 g.kd,.int .i64 g.fk,.slice g.FA g.fb.length g.fc,.slice g.CA g.cp.length g.cc,.string g.cr,.slice g.SA g.sp.length g.sc,.string g.sr,.int .i64 g.co,.int .i64 g.pr,.int .u32 (g.fl.toNat:Int)]) (by rw [← Hc2.out];cases q1<;>kernel_rfl) rfl (fun hc w' hw' K' hK'=>?_) ?_
   ·have hE:=hw'.1
    subst hc
    try simp only [cond_true]
    obtain ⟨u0,u1,u2,u3,u4,u5,u6,u7,u8,u9,u10,u11⟩:=(HG.out.ext ((Ext.drew wo).trans hE)).cells
    go_step
    exact hK'
   simp only [Act.put,sT1,sT2,sT3]
   refine wpE_sym c2 (.bool true) (by rw [← Hc2.out];cases q1<;>kernel_rfl) rfl (fun hc w' hw' K' hK'=>?_) ?_
   ·have hE:=hw'.1
    subst hc
    try simp only [cond_true]
    go_step
    exact hK'
   simp only [Act.put,sT1,sT2,sT3]
   refine wpE_symcall 41 rfl (by simp) c2 (.bool lb) (by rw [← Hc2.out];cases q1<;>kernel_rfl) (fun _ _ h=>h) (fun hc w' hw' K' hK'=>?_) ?_
   ·have hE:=hw'.1
    subst hc
    try simp only [cond_true]
    go_step
    refine (HAL.out w' ((Ext.drew _).trans hE)).mono ?_
    rintro _ w2 ⟨rfl,hx⟩
    exact hK' _ _ rfl hx
   simp only [Act.put,sT1,sT2,sT3]
   refine wpE_sym c2 (.bool q3) (by rw [← Hc2.out];cases q1<;>kernel_rfl) rfl (fun hc w' hw' K' hK'=>?_) ?_
   ·have hE:=hw'.1
    subst hc
    try simp only [cond_true]
    have hq:=Hq3.out
    subst hq
    go_step
    exact hK'
   simp only [Act.put,sT1,sT2,sT3]
   refine wpE_val (.bool p4) rfl rfl (fun w' hw' K' hK'=>?_) ?_
   ·have hE:=hw'.1
    have hp:=Hp4.out
    subst hp
    have hg:=Hc2.out
    subst hg
    cases q1
    ·go_step
     exact hK'
    ·go_step
     exact hK'
   simp only [Act.put,sT1,sT2,sT3]
   refine wpE_val (.bool p4) rfl rfl (fun w' hw' K' hK'=>?_) ?_
   ·have hE:=hw'.1
    go_step
    exact hK'
   simp only [Act.put,sT1,sT2,sT3]
   refine wpE_sym c5 (.slice (some ad) n c) (by rw [← Hc5.out];cases p4<;>kernel_rfl) rfl (fun hc w' hw' K' hK'=>?_) ?_
   ·have hE:=hw'.1
    subst hc
    try simp only [cond_true]
    go_step
    exact hK'
   simp only [Act.put,sT1,sT2,sT3]
   refine wpE_sym c5 (.int .i64 (k:Int)) (by rw [← Hc5.out];cases p4<;>kernel_rfl) rfl (fun hc w' hw' K' hK'=>?_) ?_
   ·have hE:=hw'.1
    subst hc
    try simp only [cond_true]
    go_step
    exact hK'
   simp only [Act.put,sT1,sT2,sT3]
   refine wpE_sym c5 (.pointer (some (ad.add (k*12)))) (by rw [← Hc5.out];cases p4<;>kernel_rfl) rfl (fun hc w' hw' K' hK'=>?_) ?_
   ·have hE:=hw'.1
    subst hc
    try simp only [cond_true]
    have hkn:=HKT.out.1
    go_step
    exact hK'
   simp only [Act.put,sT1,sT2,sT3]
   refine wpE_sym c5 (.pointer (some (ad.add (k*12)))) (by rw [← Hc5.out];cases p4<;>kernel_rfl) rfl (fun hc w' hw' K' hK'=>?_) ?_
   ·have hE:=hw'.1
    subst hc
    try simp only [cond_true]
    go_step
    exact hK'
   simp only [Act.put,sT1,sT2,sT3]
   refine wpE_sym c5 (.int .i64 f.t) (by rw [← Hc5.out];cases p4<;>kernel_rfl) rfl (fun hc w' hw' K' hK'=>?_) ?_
   ·have hE:=hw'.1
    subst hc
    try simp only [cond_true]
    obtain ⟨u0,u1,u2,u3,u4,u5,u6,u7,u8,u9,u10,u11⟩:=(HQ.out.ext ((Ext.drew wo).trans hE)).cells
    go_step
    exact hK'
   simp only [Act.put,sT1,sT2,sT3]
   refine wpE_sym c5 (.slice (some ad) n c) (by rw [← Hc5.out];cases p4<;>kernel_rfl) rfl (fun hc w' hw' K' hK'=>?_) ?_
   ·have hE:=hw'.1
    subst hc
    try simp only [cond_true]
    go_step
    exact hK'
   simp only [Act.put,sT1,sT2,sT3]
   refine wpE_sym c5 (.int .i64 (a:Int)) (by rw [← Hc5.out];cases p4<;>kernel_rfl) rfl (fun hc w' hw' K' hK'=>?_) ?_
   ·have hE:=hw'.1
    subst hc
    try simp only [cond_true]
    go_step
    exact hK'
   simp only [Act.put,sT1,sT2,sT3]
   refine wpE_sym c5 (.pointer (some (ad.add (a*12)))) (by rw [← Hc5.out];cases p4<;>kernel_rfl) rfl (fun hc w' hw' K' hK'=>?_) ?_
   ·have hE:=hw'.1
    subst hc
    try simp only [cond_true]
    have han:=HKT.out.2
    go_step
    exact hK'
   simp only [Act.put,sT1,sT2,sT3]
   refine wpE_sym c5 (.pointer (some (ad.add (a*12)))) (by rw [← Hc5.out];cases p4<;>kernel_rfl) rfl (fun hc w' hw' K' hK'=>?_) ?_
   ·have hE:=hw'.1
    subst hc
    try simp only [cond_true]
    go_step
    exact hK'
   simp only [Act.put,sT1,sT2,sT3]
   refine wpE_sym c5 (.int .i64 g.t) (by rw [← Hc5.out];cases p4<;>kernel_rfl) rfl (fun hc w' hw' K' hK'=>?_) ?_
   ·have hE:=hw'.1
    subst hc
    try simp only [cond_true]
    obtain ⟨u0,u1,u2,u3,u4,u5,u6,u7,u8,u9,u10,u11⟩:=(HG.out.ext ((Ext.drew wo).trans hE)).cells
    go_step
    exact hK'
   simp only [Act.put,sT1,sT2,sT3]
   refine wpE_sym c5 (.int .i64 win) (by rw [← Hc5.out];cases p4<;>kernel_rfl) rfl (fun hc w' hw' K' hK'=>?_) ?_
   ·have hE:=hw'.1
    subst hc
    try simp only [cond_true]
    go_step
    exact hK'
   simp only [Act.put,sT1,sT2,sT3]
   refine wpE_sym c5 (.int .i64 (g.t-win)) (by rw [← Hc5.out];cases p4<;>kernel_rfl) rfl (fun hc w' hw' K' hK'=>?_) ?_
   ·have hE:=hw'.1
    subst hc
    try simp only [cond_true]
    have hsub:=HSUB.out
    go_step
    exact hK'
   simp only [Act.put,sT1,sT2,sT3]
   refine wpE_sym c5 (.bool q6) (by rw [← Hc5.out];cases p4<;>kernel_rfl) rfl (fun hc w' hw' K' hK'=>?_) ?_
   ·have hE:=hw'.1
    subst hc
    try simp only [cond_true]
    have hq:=Hq6.out
    subst hq
    go_step
    exact hK'
   simp only [Act.put,sT1,sT2,sT3]
   refine wpE_val (.bool p7) rfl rfl (fun w' hw' K' hK'=>?_) ?_
   ·have hE:=hw'.1
    have hp:=Hp7.out
    subst hp
    have hg:=Hc5.out
    subst hg
    cases p4
    ·go_step
     exact hK'
    ·go_step
     exact hK'
   simp only [Act.put,sT1,sT2,sT3]
   refine wpE_nil (fun W hW=>?_)
   have HXW:=Lib.hid ((Ext.drew wo).trans hW.1)
   clear hW
   cases p7 with
   | true=>
    have HWN:=Lib.hid (winTo_no (l:=(xs.map FV.fct)) (w:=win) (ad:=true) (a:=a) (i:=k) (by
     have h:=HLS.out
     rw [Bool.or_eq_true,Bool.or_eq_true,Bool.not_eq_true',Bool.not_eq_true',decide_eq_true_eq] at h
     rw [HPB.out,HLB.out,HAK.out,HAG.out]
     rcases h with (h | h) | h
     ·exact .inl h
     ·exact .inr (.inl h)
     ·exact .inr (.inr h)))
    go_wp2_with fail
    go_roundw
    case rel=>exact ⟨k+1,cs,CA,cc,by omega,by go_num,rfl,Lib.hid (by rw [HWN.out];exact HI.out.ext HXW.out),Lib.hid (by rw [HWN.out];exact HCL.out)⟩
    case measure=>simp [intOf];omega
   | false=>
      have HCO:=Lib.hid (show (pb=true∧lb=true)∧g.t-win≤f.t from by
       have h:=HLS.out
       rw [Bool.or_eq_false_iff,Bool.or_eq_false_iff,decide_eq_false_iff_not] at h
       refine ⟨⟨by cases pb<;>simp_all,by cases lb<;>simp_all⟩,by omega⟩)
      have HWN:=Lib.hid (winTo_yes (l:=(xs.map FV.fct)) (w:=win) (ad:=true) (a:=a) (i:=k) (HPB.out.trans HCO.out.1.1) (HLB.out.trans HCO.out.1.2) (by rw [HAK.out,HAG.out];exact HCO.out.2))
      have HFN:=Lib.hid (show firT (xs.map FV.fct) (winTo (xs.map FV.fct) win true a (k+1))=if winTo (xs.map FV.fct) win true a k=[] then f.t else firT (xs.map FV.fct) (winTo (xs.map FV.fct) win true a k) by rw [HWN.out,firT_snoc,HAK.out];rfl)
      have HFP:=Lib.hid (show winTo (xs.map FV.fct) win true a k≠[]→0≤firT (xs.map FV.fct) (winTo (xs.map FV.fct) win true a k) from fun h=>firT_pos h fun j hj=>by
       have h1:=winTo_lt hj
       have hjx:j<xs.length:=by rw [HN.out];omega
       rw [atF_map hjx]
       exact (HT.out _ (List.getElem_mem hjx)).1)
      have HIW:=Lib.hid (HI.out.ext HXW.out)
      obtain ⟨fk,hfk⟩:∃ fk,firT (xs.map FV.fct) (winTo (xs.map FV.fct) win true a k)=fk:=⟨_,rfl⟩
      rw [hfk] at HIW
      have HFK:=Lib.hid hfk
      have c5:W.cell? ⟨w.heap.size+1,5,none⟩=some (.int .i64 fk):=(rw7 HIW.out.r1).1.2.2.2.2.2.1
      have g5:W.frozen? ⟨w.heap.size+1,5,none⟩=false:=(rw7 HIW.out.r1).2.2.2.2.2.2.1
      clear hfk
      go_upto_if 61 with fail
      go_cut [] (fun wc=>Hid (CNI w wc (firT (xs.map FV.fct) (winTo (xs.map FV.fct) win true a (k+1))) g.t (.slice CA cs.length cc) cs))
      case first=>
       obtain ⟨u0,u1,u2,u3,u4,u5,u6,u7,u8,u9,u10,u11⟩:=(HQ.out.ext HXW.out).cells
       by_cases hwe:winTo (xs.map FV.fct) win true a k=[]
       ·have HFE:=Lib.hid (show firT (xs.map FV.fct) (winTo (xs.map FV.fct) win true a (k+1))=f.t by rw [HFN.out,if_pos hwe])
        have hf1:fk<0:=by
         have h:=HFK.out
         rw [hwe] at h
         have h2:(-1:Int)=fk:=h
         omega
        have q2:decide (fk<0)=true:=decide_eq_true hf1
        clear hwe
        go_wp2_with fail
        go_meet
        case rel=>exact Lib.hid (by rw [HFE.out];exact HIW.out.setF f.t)
       ·have HFE:=Lib.hid (show firT (xs.map FV.fct) (winTo (xs.map FV.fct) win true a (k+1))=fk by rw [HFN.out,if_neg hwe,HFK.out])
        have hfp:=HFP.out hwe
        rw [HFK.out] at hfp
        have q2:decide (fk<0)=false:=by rw [decide_eq_false_iff_not];omega
        clear hwe
        go_wp2_with fail
        go_meet
        case rel=>exact Lib.hid (by rw [HFE.out];exact HIW.out)
      case rest=>
      obtain ⟨W2,rfl⟩:∃ wo:World,wo=wc:=⟨_,rfl⟩
      have HI2:=hcut
      clear HI HIW HXW hcut HQ HG HFA HAL c5 g5
      obtain ⟨nc,hnc⟩:∃ nc,cs.length=nc:=⟨_,rfl⟩
      have HNC:=Lib.hid hnc
      have hncl:nc≤1000:=by rw [← hnc];exact HCLE.out
      rw [hnc]
      clear hnc
      go_wp2_with fail
      go_loopw [12,13] (fun kn i wr=>∃ (j:Nat) (b:Bool),j≤nc∧i=.int .i64 j∧kn=.bool b∧Hid (((cs.take j).any fun q=>decide (whoC q.pr=who false f.fct))=b)∧Hid (Ext W2 wr)) (fun _ i _=>nc-(intOf i).toNat)
      case atStart=>exact ⟨0,false,Nat.zero_le _,rfl,rfl,Lib.hid rfl,Lib.hid (Ext.refl W2)⟩
      case round=>
       obtain ⟨j,b,hj,rfl,rfl,HBB,HXJ⟩:=hrel
       obtain ⟨wj,rfl⟩:∃ wo:World,wo=wr:=⟨_,rfl⟩
       have HIJ:=Lib.hid (HI2.out.ext HXJ.out)
       by_cases hjl:j<nc
       ·have hjx:j<cs.length:=by rw [HNC.out];exact hjl
        have HTJ:=Lib.hid (show ((cs.take (j+1)).any fun q=>decide (whoC q.pr=who false f.fct))=(b||decide (whoC cs[j].pr=who false f.fct)) by
         rw [List.take_succ_eq_append_getElem hjx,List.any_append,HBB.out];simp)
        cases b with
        | true=>
         go_upto_region 13 with fail
         refine wp_region_ext (fun _ _ _=>False) (by kernel_rfl) (by kernel_rfl) ?_
         refine wpE_op rfl rfl (fun w' hw' K' hK'=>?_)
         have hE:=hw'.1
         go_step
         refine hK' _ ⟨_,rfl⟩ ?_
         clear hK' K' hE hw' w'
         refine wpE_op rfl rfl (fun w' hw' K' hK'=>?_)
         have hE:=hw'.1
         go_step
         refine hK' _ ⟨_,rfl⟩ ?_
         clear hK' K' hE hw' w'
         try simp only [Act.put,sT1,sT2,sT3]
         refine wpE_sym false undef (by kernel_rfl) rfl (fun hc=>by cases hc) ?_
         simp only [cond_false,Act.put,sT1,sT2,sT3]
         refine wpE_sym false undef (by kernel_rfl) rfl (fun hc=>by cases hc) ?_
         simp only [cond_false,Act.put,sT1,sT2,sT3]
         refine wpE_sym false undef (by kernel_rfl) rfl (fun hc=>by cases hc) ?_
         simp only [cond_false,Act.put,sT1,sT2,sT3]
         refine wpE_sym false undef (by kernel_rfl) rfl (fun hc=>by cases hc) ?_
         simp only [cond_false,Act.put,sT1,sT2,sT3]
         refine wpE_sym false undef (by kernel_rfl) rfl (fun hc=>by cases hc) ?_
         simp only [cond_false,Act.put,sT1,sT2,sT3]
         refine wpE_sym false undef (by kernel_rfl) rfl (fun hc=>by cases hc) ?_
         simp only [cond_false,Act.put,sT1,sT2,sT3]
         refine wpE_sym false undef (by kernel_rfl) rfl (fun hc=>by cases hc) ?_
         simp only [cond_false,Act.put,sT1,sT2,sT3]
         refine wpE_sym false undef (by kernel_rfl) rfl (fun hc=>by cases hc) ?_
         simp only [cond_false,Act.put,sT1,sT2,sT3]
         refine wpE_sym false undef (by kernel_rfl) rfl (fun hc=>by cases hc) ?_
         simp only [cond_false,Act.put,sT1,sT2,sT3]
         refine wpE_symcall 88 rfl (by simp) false undef (by kernel_rfl) (fun _ _ h=>h.elim) (fun hc=>by cases hc) ?_
         simp only [cond_false,Act.put,sT1,sT2,sT3]
         refine wpE_op rfl rfl (fun w' hw' K' hK'=>?_)
         have hE:=hw'.1
         go_step
         refine hK' _ ⟨_,rfl⟩ ?_
         clear hK' K' hE hw' w'
         refine wpE_op rfl rfl (fun w' hw' K' hK'=>?_)
         have hE:=hw'.1
         go_step
         refine hK' _ ⟨_,rfl⟩ ?_
         clear hK' K' hE hw' w'
         refine wpE_nil (fun W hW=>?_)
         have HXW:=Lib.hid (HXJ.out.trans ((Ext.drew wj).trans hW.1))
         clear hW
         go_wp2_with fail
         go_roundw
         case rel=>exact ⟨j+1,true,by omega,by go_num,rfl,Lib.hid (by rw [HTJ.out];rfl),HXW⟩
         case measure=>simp [intOf];omega
        | false=>
         obtain ⟨hinq,adq,hadq,hqq⟩:=HIJ.out.ro.p2 j hjx
         have hqb:=HIJ.out.pl _ (List.getElem_mem hjx)
         have HFQ:=Lib.hid (HF12.out.ext HIJ.out.ex)
         generalize cs[j]=q at *
         subst hadq
         have HQQ:=Lib.hid hqq
         obtain ⟨sb,hsb⟩:∃ sb,decide (whoC q.pr=who false f.fct)=sb:=⟨_,rfl⟩
         have HSP:=Lib.hid (fun W (hW:Ext wj W)=>(show Calls Tryz.prog 38 #[.agg #[.slice q.CA q.cp.length q.cc,.string q.cr],.agg #[.slice f.CA f.cp.length f.cc,.string f.cr]] W fun e w'=>e=.returned (.bool sb)∧Ext W w' from by
          have k1:=SameP_at q.CA q.cc q.cp q.cr f.CA f.cc f.cp f.cr hqb HSF.out.cp W (hinq.ext hW) ((HINF.out.cp.ext HIJ.out.ex).ext hW)
          rw [who_Q,hsb] at k1
          exact k1))
         rw [hsb] at HTJ
         clear hinq hqq hsb hqb
         go_upto_region 13 with fail
         refine wp_region_ext (fun i v' w'=>match i with | 11=>v'=.bool sb | _=>False) (by kernel_rfl) (by kernel_rfl) ?_
         refine wpE_op rfl rfl (fun w' hw' K' hK'=>?_)
         have hE:=hw'.1
         go_step
         refine hK' _ ⟨_,rfl⟩ ?_
         clear hK' K' hE hw' w'
         refine wpE_op rfl rfl (fun w' hw' K' hK'=>?_)
         have hE:=hw'.1
         go_step
         refine hK' _ ⟨_,rfl⟩ ?_
         clear hK' K' hE hw' w'
         refine wpE_op (by kernel_rfl) rfl (fun w' hw' K' hK'=>?_)
         have hE:=hw'.1
         go_step
         refine hK' _ ⟨_,rfl⟩ ?_
         clear hK' K' hE hw' w'
         refine wpE_op (by kernel_rfl) rfl (fun w' hw' K' hK'=>?_)
         have hE:=hw'.1
         go_step
         refine hK' _ ⟨_,rfl⟩ ?_
         clear hK' K' hE hw' w'
         refine wpE_op (by kernel_rfl) rfl (fun w' hw' K' hK'=>?_)
         have hE:=hw'.1
         go_step
         refine hK' _ ⟨_,rfl⟩ ?_
         clear hK' K' hE hw' w'
         refine wpE_op (by kernel_rfl) rfl (fun w' hw' K' hK'=>?_)
         have hE:=hw'.1
         obtain ⟨y0,y1⟩:=(HQQ.out.ext ((Ext.drew wj).trans hE)).cells
         go_step
         refine hK' _ ⟨_,rfl⟩ ?_
         clear hK' K' y0 y1 hE hw' w'
         refine wpE_op (by kernel_rfl) rfl (fun w' hw' K' hK'=>?_)
         have hE:=hw'.1
         go_step
         refine hK' _ ⟨_,rfl⟩ ?_
         clear hK' K' hE hw' w'
         refine wpE_op (by kernel_rfl) rfl (fun w' hw' K' hK'=>?_)
         have hE:=hw'.1
         go_step
         refine hK' _ ⟨_,rfl⟩ ?_
         clear hK' K' hE hw' w'
         refine wpE_op (by kernel_rfl) rfl (fun w' hw' K' hK'=>?_)
         have hE:=hw'.1
         go_step
         refine hK' _ ⟨_,rfl⟩ ?_
         clear hK' K' hE hw' w'
         refine wpE_op (by kernel_rfl) rfl (fun w' hw' K' hK'=>?_)
         have hE:=hw'.1
         go_step
         refine hK' _ ⟨_,rfl⟩ ?_
         clear hK' K' hE hw' w'
         refine wpE_op (by kernel_rfl) rfl (fun w' hw' K' hK'=>?_)
         have hE:=hw'.1
         obtain ⟨u0,u1,u2,u3,u4,u5,u6,u7,u8,u9,u10,u11⟩:=(HFQ.out.ext ((Ext.drew wj).trans hE)).cells
         go_step
         refine hK' _ ⟨_,rfl⟩ ?_
         clear hK' K' u0 u1 u2 u3 u4 u5 u6 u7 u8 u9 u10 u11 hE hw' w'
         refine wpE_call 88 rfl (by simp) (by kernel_rfl) (fun w' hw' K' hK'=>?_) ?_
         ·have hE:=hw'.1
          go_step
          refine (HSP.out w' ((Ext.drew _).trans hE)).mono ?_
          rintro _ w2 ⟨rfl,hx⟩
          exact hK' _ _ ⟨_,rfl,rfl⟩ hx
         rintro _ w6 _ rfl
         simp only [Act.put,sT1,sT2,sT3]
         refine wpE_op rfl rfl (fun w' hw' K' hK'=>?_)
         have hE:=hw'.1
         go_step
         refine hK' _ ⟨_,rfl⟩ ?_
         clear hK' K' hE hw' w'
         refine wpE_op rfl rfl (fun w' hw' K' hK'=>?_)
         have hE:=hw'.1
         go_step
         refine hK' _ ⟨_,rfl⟩ ?_
         clear hK' K' hE hw' w'
         refine wpE_nil (fun W hW=>?_)
         have HXW:=Lib.hid (HXJ.out.trans ((Ext.drew wj).trans hW.1))
         clear hW
         go_wp2_with fail
         go_roundw
         case rel=>exact ⟨j+1,sb,by omega,by go_num,rfl,Lib.hid (by rw [HTJ.out];rfl),HXW⟩
         case measure=>simp [intOf];omega
       ·have HALL:=Lib.hid (show (cs.any fun q=>decide (whoC q.pr=who false f.fct))=b by
         have h:=HBB.out
         rwa [List.take_of_length_le (by rw [HNC.out];omega)] at h)
        obtain rfl:j=nc:=by omega
        have hjn:¬ ((j:Int)<(j:Int)):=by omega
        cases b with
        | true=>
         have HCN:=Lib.hid (HCL.out.old (i:=k) (by
          rw [HAK.out]
          obtain ⟨q,hq,e⟩:=List.any_eq_true.1 HALL.out
          rw [decide_eq_true_eq] at e
          rw [← e,List.map_map]
          exact List.mem_map.2 ⟨q,hq,rfl⟩))
         go_wp2_with fail
         go_roundw
         case rel=>exact ⟨k+1,cs,CA,cc,by omega,by go_num,by rw [HNC.out],HIJ,Lib.hid (by rw [HWN.out];exact HCN.out)⟩
         case measure=>simp [intOf];omega
        | false=>
         have HCN:=Lib.hid (HCL.out.new (i:=k) (c:=f.pv.pr) (by rw [HAK.out];rfl) (by
          rw [HAK.out,List.map_map]
          intro hm
          obtain ⟨q,hq,e⟩:=List.mem_map.1 hm
          have:=List.any_eq_false.1 HALL.out q hq
          rw [decide_eq_true_eq] at this
          exact this e))
         have hnc2:cs.length=j:=HNC.out
         subst hnc2
         have hb4:RW (wj.alloc (.cells #[.slice f.CA f.cp.length f.cc,.string f.cr] 37)) wj.heap.size 37 #[.slice f.CA f.cp.length f.cc,.string f.cr]:=heap_alloc_new wj _
         have hx4:=(Ext.refl wj).alloc (.cells #[.slice f.CA f.cp.length f.cc,.string f.cr] 37)
         obtain ⟨W4,e4⟩:∃ W,wj.alloc (.cells #[.slice f.CA f.cp.length f.cc,.string f.cr] 37)=W:=⟨_,rfl⟩
         rw [e4] at hb4 hx4
         obtain ⟨u0,u1,u2,u3,u4,u5,u6,u7,u8,u9,u10,u11⟩:=(HF12.out.ext HIJ.out.ex).cells
         have HI4:=Lib.hid (HIJ.out.ext hx4)
         have HB4:=Lib.hid (PV.news (p:=f.pv) hb4)
         have HYS:=Lib.hid (show ∀ y∈[f.pv],EP.In W4 y∧∀ b,(Value.slice CA cs.length cc).ownBlock=some b→¬ EP.Blk y b from fun y hy=>by
          rw [List.mem_singleton] at hy
          subst hy
          refine ⟨HINF.out.cp.ext HI4.out.ex,fun b hb hB=>?_⟩
          obtain ⟨hne,ad',hA,e⟩:=hB
          have h1:=HBF.out hne ad' hA
          have h2:=(HI4.out.ro.lt b hb).1
          omega)
         have HBY:=Lib.hid (show (cs.length + [f.pv].length)*40≤140737488355328 by have:=HCLE.out;simp;omega)
         have HBS:=Lib.hid (show w.heap.size+2≤W4.heap.size from HI4.out.sz)
         clear hb4 hx4
         go_wp2_with (at_builtin;refine wpList_append_row (E:=EP) W4 rfl (.tmp 92) (.tmp 98) 189 rfl (w.heap.size+2) 37 i0 prnZ 40 Tryz.underlying189 hi iz0 iz1 iz2 rfl prn_zn _ cs rfl HI4.out.ro ⟨wj.heap.size,0,none⟩ 1 [f.pv] rfl (by show 0<1;decide) HB4.out HYS.out HBY.out (by decide) HBS.out ?_;intro v8 w8 hown8 hg8 ho8;have HI8:=Lib.hid (HI4.out.app hown8 hg8 HBF.out HSF.out.cp);obtain ⟨A8,c8,rfl⟩:=hown8.shape;clear hown8 hg8 ho8)
         go_roundw
         case rel=>exact ⟨k+1,cs++[f.pv],A8,c8,by omega,by go_num,by rw [List.length_append];rfl,HI8,Lib.hid (by rw [HWN.out,List.map_append];exact HCN.out)⟩
         case measure=>simp [intOf];omega
  ·obtain rfl:k=a+1:=by omega
   have HCNT:=Lib.hid (show ((cs.length:Nat):Int)=(cntF (xs.map FV.fct) win true a:Int) by
    have h:=CLS.len (show CLS (xs.map FV.fct) true (winF (xs.map FV.fct) win true a) (cs.map PV.pr) from HCL.out)
    rw [List.length_map] at h
    rw [h])
   have HBEG:=Lib.hid (show firT (xs.map FV.fct) (winTo (xs.map FV.fct) win true a (a+1))=begF (xs.map FV.fct) win true a from firT_beg (List.ne_nil_of_mem (win_self HW0.out HFA0.out)))
   generalize firT (xs.map FV.fct) (winTo (xs.map FV.fct) win true a (a+1))=fi at *
   obtain ⟨⟨c0,c1,c2,c3,c4,c5,c6⟩,⟨g0,g1,g2,g3,g4,g5,g6⟩⟩:=rw7 HI.out.r1
   have b4:=HI.out.r1.set 4 (.int .i64 (cs.length:Int))
   have x4:Ext w (wo.setCell ⟨w.heap.size+1,4,none⟩ (.int .i64 (cs.length:Int))):=HI.out.ex.setCell (p:=⟨w.heap.size+1,4,none⟩) (Nat.le_succ _) _
   have z4:=heap_set_ne (a:=⟨w.heap.size+1,4,none⟩) (x:=.int .i64 (cs.length:Int)) HI.out.r0 (show w.heap.size≠w.heap.size+1 by omega)
   obtain ⟨W4,e4⟩:∃ W,wo.setCell ⟨w.heap.size+1,4,none⟩ (.int .i64 (cs.length:Int))=W:=⟨_,rfl⟩
   rw [e4] at b4 x4 z4
   change RW W4 (w.heap.size+1) 50 #[.slice none 0 0,.string ⟨#[]⟩,.int .i64 0,.slice none 0 0,.int .i64 (cs.length:Int),.int .i64 fi,.int .i64 g.t] at b4
   obtain ⟨u0,u1,u2,u3,u4,u5,u6,u7,u8,u9,u10,u11⟩:=(HG0.out.ext x4).cells
   obtain ⟨⟨k0,k1,k2,k3,k4,k5,k6⟩,⟨l0,l1,l2,l3,l4,l5,l6⟩⟩:=rw7 b4
   have b5:=(b4.set 2 (.int .i64 g.fk)).set 3 (.slice g.FA g.fb.length g.fc)
   have x5:Ext w ((W4.setCell ⟨w.heap.size+1,2,none⟩ (.int .i64 g.fk)).setCell ⟨w.heap.size+1,3,none⟩ (.slice g.FA g.fb.length g.fc)):=(x4.setCell (p:=⟨w.heap.size+1,2,none⟩) (Nat.le_succ _) _).setCell (p:=⟨w.heap.size+1,3,none⟩) (Nat.le_succ _) _
   have z5:=heap_set_ne (a:=⟨w.heap.size+1,3,none⟩) (x:=(.slice g.FA g.fb.length g.fc)) (heap_set_ne (a:=⟨w.heap.size+1,2,none⟩) (x:=(.int .i64 g.fk)) z4 (show w.heap.size≠w.heap.size+1 by omega)) (show w.heap.size≠w.heap.size+1 by omega)
   obtain ⟨W5,e5⟩:∃ W,(W4.setCell ⟨w.heap.size+1,2,none⟩ (.int .i64 g.fk)).setCell ⟨w.heap.size+1,3,none⟩ (.slice g.FA g.fb.length g.fc)=W:=⟨_,rfl⟩
   rw [e5] at b5 x5 z5
   change RW W5 (w.heap.size+1) 50 #[.slice none 0 0,.string ⟨#[]⟩,.int .i64 g.fk,.slice g.FA g.fb.length g.fc,.int .i64 (cs.length:Int),.int .i64 fi,.int .i64 g.t] at b5
   obtain ⟨⟨m0,m1,m2,m3,m4,m5,m6⟩,_⟩:=rw7 b5
   have HX5:=Lib.hid x5;have HZ5:=Lib.hid (show RW W5 w.heap.size 50 #[.slice none 0 0,.string ⟨#[]⟩,.int .i64 0,.slice none 0 0,.int .i64 0,.int .i64 0,.int .i64 0] from z5)
   clear b4 x4 z4 b5 x5 z5
   go_wp2_with (first | (refine wpList_store_var _ rfl (.tmp 8) (.tmp 116) 50 rfl w.heap.size 50 #[.slice none 0 0,.string ⟨#[]⟩,.int .i64 0,.slice none 0 0,.int .i64 0,.int .i64 0,.int .i64 0] #[.slice none 0 0,.string ⟨#[]⟩,.int .i64 g.fk,.slice g.FA g.fb.length g.fc,.int .i64 (cs.length:Int),.int .i64 fi,.int .i64 g.t] rfl rfl (Tryz.sizeOf50 _) HZ5.out rfl (one8 rfl) ?_;intro W9 b9 hg9;obtain ⟨⟨d0,d1,d2,d3,d4,d5,d6⟩,_⟩:=rw7 (show RW W9 w.heap.size 50 #[.slice none 0 0,.string ⟨#[]⟩,.int .i64 g.fk,.slice g.FA g.fb.length g.fc,.int .i64 (cs.length:Int),.int .i64 fi,.int .i64 g.t] from b9)) | fail)
   refine bodyPost_ret (v:=.agg #[.slice none 0 0,.string ⟨#[]⟩,.int .i64 g.fk,.slice g.FA g.fb.length g.fc,.int .i64 (cs.length:Int),.int .i64 fi,.int .i64 g.t]) (by simp [results,Tryz.results97,go_sem,d0,d1,d2,d3,d4,d5,d6];try rfl) rfl ?_
   have hx9:Ext w W9:=HX5.out.grown hg9 (fun j hj=>by cases hj;exact Nat.le_refl _)
   refine ⟨⟨⟨none,[],0,⟨#[]⟩,g.fk,g.FA,g.fb,g.fc,(cs.length:Int),fi,g.t⟩,rfl,⟨RS.nil _,HING.out.fb.ext hx9⟩,?_,fun h=>absurd rfl h,Nat.zero_le _,HBG.out.2⟩,hx9⟩
   unfold almO
   rw [if_pos rfl,HAG.out,← HCNT.out,← HBEG.out]
   rfl
end Go.Proofs.YtnjmndofcpnmeaaGreatDoor
