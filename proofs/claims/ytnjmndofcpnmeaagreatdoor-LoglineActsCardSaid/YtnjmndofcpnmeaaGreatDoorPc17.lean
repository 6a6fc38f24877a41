/- Pc17. -/
import Derived.Test.YtnjmndofcpnmeaaGreatDoorPc0
import Derived.Test.YtnjmndofcpnmeaaGreatDoorPc10
import Derived.Test.YtnjmndofcpnmeaaGreatDoorPc16
import Derived.Test.YtnjmndofcpnmeaaGreatDoorPc5
namespace Go.Proofs.YtnjmndofcpnmeaaGreatDoor
open Go Go.RowKit
set_option linter.unusedVariables false
set_option maxRecDepth 100000 in
theorem LText_no (f:FV) (w:World) (hM:f.In w) (hz:f.Sz) (hE:EnvA w) (hv:f.fct.ok=false):
  Calls Tryz.prog 15 #[f.val] w fun e w'=>e=.returned (.tuple #[.string ⟨#[]⟩,.int .i64 2])∧Ext w w':=by
 obtain ⟨t,mi,kd,fk,FA,fb,fc,CA,cp,cc,cr,SA,sp,sc,sr,co,pr,fl⟩:=f
 have hb0:=FBx.new w ⟨t,mi,kd,fk,FA,fb,fc,CA,cp,cc,cr,SA,sp,sc,sr,co,pr,fl⟩
 have hx0:=(Ext.refl w).alloc (.cells #[.int .i64 t,.int .i64 mi,.int .i64 kd,.int .i64 fk,.slice FA fb.length fc,.slice CA cp.length cc,.string cr,.slice SA sp.length sc,.string sr,.int .i64 co,.int .i64 pr,.int .u32 (fl.toNat:Int)] 41)
 obtain ⟨W1,e1⟩:∃ W,w.alloc (.cells #[.int .i64 t,.int .i64 mi,.int .i64 kd,.int .i64 fk,.slice FA fb.length fc,.slice CA cp.length cc,.string cr,.slice SA sp.length sc,.string sr,.int .i64 co,.int .i64 pr,.int .u32 (fl.toNat:Int)] 41)=W:=⟨_,rfl⟩
 rw [e1] at hx0
 have hv0:=LValid_at ⟨t,mi,kd,fk,FA,fb,fc,CA,cp,cc,cr,SA,sp,sc,sr,co,pr,fl⟩ W1 (hM.ext hx0) hz (hE.ext hx0)
 rw [hv] at hv0
 dsimp only [FV.val] at hb0 hv0
 rw [e1] at hb0
 have HV:=Lib.hid hv0;have HB:=Lib.hid hb0;have HX:=Lib.hid hx0
 dsimp only [FV.val]
 clear hb0 hv0 hM hz hE hv hx0
 obtain ⟨u0,u1,u2,u3,u4,u5,u6,u7,u8,u9,u10,u11⟩:=HB.out.cells
 go_enter Tryz.func15,Tryz.ntmps15
 go_wp2_with fail
 refine HV.out.mono ?_
 rintro _ w2 ⟨rfl,hx2⟩
 have HX2:=Lib.hid (HX.out.trans hx2)
 clear hx2
 go_wp2_with fail
 go_ret2
 exact ⟨rfl,HX2.out⟩
set_option maxRecDepth 100000 in
set_option maxHeartbeats 4000000 in
theorem LText_yes (f:FV) (w:World) (hM:f.In w) (hz:f.Sz) (hE:EnvA w) (hv:f.fct.ok=true):
  Calls Tryz.prog 15 #[f.val] w fun e w'=>e=.returned (.tuple #[.string ⟨f.fct.txt.toArray⟩,.int .i64 0])∧Ext w w':=by
 have hok:=(Fct.ok_iff _).1 hv
 have htl:=txt_len hok
 obtain ⟨t,mi,kd,fk,FA,fb,fc,CA,cp,cc,cr,SA,sp,sc,sr,co,pr,fl⟩:=f
 have hb0:=FBx.new w ⟨t,mi,kd,fk,FA,fb,fc,CA,cp,cc,cr,SA,sp,sc,sr,co,pr,fl⟩
 have hx0:=(Ext.refl w).alloc (.cells #[.int .i64 t,.int .i64 mi,.int .i64 kd,.int .i64 fk,.slice FA fb.length fc,.slice CA cp.length cc,.string cr,.slice SA sp.length sc,.string sr,.int .i64 co,.int .i64 pr,.int .u32 (fl.toNat:Int)] 41)
 obtain ⟨W1,e1⟩:∃ W,w.alloc (.cells #[.int .i64 t,.int .i64 mi,.int .i64 kd,.int .i64 fk,.slice FA fb.length fc,.slice CA cp.length cc,.string cr,.slice SA sp.length sc,.string sr,.int .i64 co,.int .i64 pr,.int .u32 (fl.toNat:Int)] 41)=W:=⟨_,rfl⟩
 rw [e1] at hx0
 have hv0:=LValid_at ⟨t,mi,kd,fk,FA,fb,fc,CA,cp,cc,cr,SA,sp,sc,sr,co,pr,fl⟩ W1 (hM.ext hx0) hz (hE.ext hx0)
 rw [hv] at hv0
 dsimp only [FV.val] at hb0 hv0
 rw [e1] at hb0
 have HV:=Lib.hid hv0;have HB:=Lib.hid hb0;have HX:=Lib.hid hx0
 obtain ⟨k1,k2,k3,k4,k5,k6,k7,k8,k9⟩:=hok
 dsimp only [FV.fct] at k1 k2 k3 k4 k5 k6 k7 k8 k9
 obtain ⟨m1,m2,m3⟩:=hM
 obtain ⟨z1,z2,z3,z4,z5,z6,z7⟩:=hz
 dsimp only at m1 m2 m3 z1 z2 z3 z4 z5 z6 z7
 have l1:=itoa_len13 k1.1 k1.2
 have l2:=itoa_len6 k2.1 k2.2
 obtain ⟨K,hK⟩:∃ K,6-(Lib.itoa mi).length=K:=⟨_,rfl⟩
 have htx:(FV.fct ⟨t,mi,kd,fk,FA,fb,fc,CA,cp,cc,cr,SA,sp,sc,sr,co,pr,fl⟩).txt=Lib.join [Lib.itoa t++[46]++List.replicate K 48++Lib.itoa mi,kindW kd,prsW (dat cp) cr.data.toList,prsW (dat sp) sr.data.toList,txtA fk fb,Lib.itoa co,Lib.itoa pr,textF fl] [32]:=by
  unfold Fct.txt Fct.wrd
  dsimp only [FV.fct]
  unfold timW
  rw [hK]
  simp
 rw [htx] at htl ⊢
 have HMI:=Lib.hid (fun W (hx:Ext W1 W)=>ItoaZ_at mi (by omega) (by omega) W (hE.ext (hx0.trans hx)).env.pow)
 have HTI:=Lib.hid (fun W (hx:Ext W1 W)=>ItoaZ_at t (by omega) (by omega) W (hE.ext (hx0.trans hx)).env.pow)
 have HCO:=Lib.hid (fun W (hx:Ext W1 W)=>ItoaZ_at co (by omega) (by omega) W (hE.ext (hx0.trans hx)).env.pow)
 have HPR:=Lib.hid (fun W (hx:Ext W1 W)=>ItoaZ_at pr (by omega) (by omega) W (hE.ext (hx0.trans hx)).env.pow)
 have HAW:=Lib.hid (fun W (hx:Ext W1 W)=>AText_at fk fb FA fc W (m1.ext (hx0.trans hx)) (hE.ext (hx0.trans hx)) true k4)
 have HFW:=Lib.hid (fun W (hx:Ext W1 W)=>Text_ok fl (tk_nm k9) W)
 have HKW:=Lib.hid (fun W (hx:Ext W1 W)=>(textKind_at kd W).mono fun e w' (h:e=.returned (.string ⟨(kindW kd).toArray⟩)∧w'=W)=>(⟨h.1,h.2 ▸ Ext.refl _⟩:e=.returned (.string ⟨(kindW kd).toArray⟩)∧Ext W w'))
 have HCW:=Lib.hid (fun W (hx:Ext W1 W)=>textName_at CA cc cp cr z2 W (m2.ext (hx0.trans hx)) k5)
 have HSW:=Lib.hid (fun W (hx:Ext W1 W)=>textName_at SA sc sp sr z5 W (m3.ext (hx0.trans hx)) k6)
 have HRP:=Lib.hid (fun W (hx:Ext W1 W)=>Repeat0_at K K (by omega) W rfl)
 simp only [if_true] at HAW
 unfold adv at HAW
 generalize Lib.itoa t=TI at *
 generalize Lib.itoa mi=MI at *
 generalize Lib.itoa co=CO at *
 generalize Lib.itoa pr=PR at *
 generalize kindW kd=KW at *
 generalize txtA fk fb=AW at *
 generalize textF fl=FW at *
 generalize prsW (dat cp) cr.data.toList=CW at *
 generalize prsW (dat sp) sr.data.toList=SW at *
 obtain ⟨TW,hTW⟩:∃ L,TI++[46]++List.replicate K 48++MI=L:=⟨_,rfl⟩
 rw [hTW] at htl ⊢
 have HTW:=Lib.hid hTW;clear hTW
 have HLL:=Lib.hid (show TI.length≤13∧MI.length≤6∧K≤6 from ⟨l1,l2,by omega⟩)
 have HMK:=Lib.hid (show MI.length+K=6 by omega)
 have HLEN:=Lib.hid (show (Lib.join [TW,KW,CW,SW,AW,CO,PR,FW] [32]).length≤100000 by omega)
 dsimp only [FV.val]
 clear hb0 hv0 hv hx0 k1 k2 k3 k4 k5 k6 k7 k8 k9 m1 m2 m3 z1 z2 z3 z4 z5 z6 z7 hE l1 l2 hK htx htl
 obtain ⟨u0,u1,u2,u3,u4,u5,u6,u7,u8,u9,u10,u11⟩:=HB.out.cells
 go_enter Tryz.func15,Tryz.ntmps15
 go_wp2_with fail
 refine HV.out.mono ?_
 rintro _ w2 ⟨rfl,hx2⟩
 have HX2:=Lib.hid hx2
 clear hx2 u0 u1 u2 u3 u4 u5 u6 u7 u8 u9 u10 u11
 obtain ⟨u0,u1,u2,u3,u4,u5,u6,u7,u8,u9,u10,u11⟩:=(HB.out.ext HX2.out).cells
 go_wp2_with fail
 refine (HMI.out _ HX2.out).mono ?_
 rintro _ w3 ⟨rfl,hx3⟩
 have HX3:=Lib.hid (HX2.out.trans hx3)
 clear hx3 u0 u1 u2 u3 u4 u5 u6 u7 u8 u9 u10 u11
 obtain ⟨u0,u1,u2,u3,u4,u5,u6,u7,u8,u9,u10,u11⟩:=(HB.out.ext HX3.out).cells
 go_wp2_with fail
 refine (HAW.out _ HX3.out).mono ?_
 rintro _ w4 ⟨rfl,hx4⟩
 have HX4:=Lib.hid (HX3.out.trans hx4)
 clear hx4 u0 u1 u2 u3 u4 u5 u6 u7 u8 u9 u10 u11
 obtain ⟨u0,u1,u2,u3,u4,u5,u6,u7,u8,u9,u10,u11⟩:=(HB.out.ext HX4.out).cells
 go_wp2_with fail
 refine (HFW.out _ HX4.out).mono ?_
 rintro _ wr ⟨rfl,hx5⟩
 have HX5:=Lib.hid (HX4.out.trans hx5)
 clear hx5 u0 u1 u2 u3 u4 u5 u6 u7 u8 u9 u10 u11
 have HB0:=HB
 clear HB
 have HB:=Lib.hid (HB0.out.ext HX5.out)
 clear HB0
 go_upto_region 6 with fail
 refine wp_region_ext (fun i v' w'=>match i with | 2=>v'=.string ⟨(TI).toArray⟩ | 7=>v'=.string ⟨(List.replicate K 48).toArray⟩ | 13=>v'=.string ⟨(KW).toArray⟩ | 16=>v'=.string ⟨(CW).toArray⟩ | 19=>v'=.string ⟨(SW).toArray⟩ | 23=>v'=.string ⟨(CO).toArray⟩ | 26=>v'=.string ⟨(PR).toArray⟩ | 28=>∃ g,v'=.slice (some ⟨g,0,none⟩) 8 8∧w'.heap[g]? = some (.cells #[.string ⟨TW.toArray⟩,.string ⟨KW.toArray⟩,.string ⟨CW.toArray⟩,.string ⟨SW.toArray⟩,.string ⟨AW.toArray⟩,.string ⟨CO.toArray⟩,.string ⟨PR.toArray⟩,.string ⟨FW.toArray⟩] 9 (0,0)) | 29=>v'=.string ⟨(Lib.join [TW,KW,CW,SW,AW,CO,PR,FW] [32]).toArray⟩ | _=>False) (by kernel_rfl) (by kernel_rfl) ?_
 refine wpE_val (.pointer (some ⟨w.heap.size,0,none⟩)) rfl rfl (fun w' hw' K' hK'=>?_) ?_
 ·have hE:=hw'.1
  go_step
  exact hK'
 simp only [Act.put,sT1,sT2,sT3]
 refine wpE_val (.int .i64 t) rfl rfl (fun w' hw' K' hK'=>?_) ?_
 ·have hE:=hw'.1
  obtain ⟨u0,u1,u2,u3,u4,u5,u6,u7,u8,u9,u10,u11⟩:=(HB.out.ext ((Ext.drew wr).trans hE)).cells
  go_step
  exact hK'
 simp only [Act.put,sT1,sT2,sT3]
 refine wpE_symcall 29 rfl (by simp) true (.string ⟨(TI).toArray⟩) (rfl) (fun _ _ h=>h) (fun hc w' hw' K' hK'=>?_) ?_
 ·have hE:=hw'.1
  try simp only [cond_true]
  go_step
  refine (HTI.out w' (HX5.out.trans ((Ext.drew _).trans hE))).mono ?_
  rintro _ w2 ⟨rfl,hx⟩
  exact hK' _ _ rfl hx
 simp only [cond_true,Act.put,sT1,sT2,sT3]
 refine wpE_cat (TI) ([46]) rfl rfl rfl rfl (by have:=HLL.out;simp;omega) ?_
 simp only [Act.put,sT1,sT2,sT3]
 refine wpE_val (.string ⟨(MI).toArray⟩) rfl rfl (fun w' hw' K' hK'=>?_) ?_
 ·have hE:=hw'.1
  go_step
  exact hK'
 simp only [Act.put,sT1,sT2,sT3]
 refine wpE_val (.int .i64 (MI.length:Int)) rfl rfl (fun w' hw' K' hK'=>?_) ?_
 ·have hE:=hw'.1
  go_step
  first | exact hK' | simpa [ByteArray.size] using hK'
 simp only [Act.put,sT1,sT2,sT3]
 refine wpE_val (.int .i64 (K:Int)) rfl rfl (fun w' hw' K' hK'=>?_) ?_
 ·have hE:=hw'.1
  have hmk:=HMK.out
  have e:(6:Int)-(MI.length:Int)=(K:Int):=by omega
  have hl6:(MI.length:Int)≤6:=by omega
  go_step
  first | exact hK' | (rw [e];exact hK') | simpa [e] using hK'
 simp only [Act.put,sT1,sT2,sT3]
 refine wpE_symcall 34 rfl (by simp) true (.string ⟨(List.replicate K 48).toArray⟩) (rfl) (fun _ _ h=>h) (fun hc w' hw' K' hK'=>?_) ?_
 ·have hE:=hw'.1
  try simp only [cond_true]
  go_step
  refine (HRP.out w' (HX5.out.trans ((Ext.drew _).trans hE))).mono ?_
  rintro _ w2 ⟨rfl,hx⟩
  exact hK' _ _ rfl hx
 simp only [cond_true,Act.put,sT1,sT2,sT3]
 refine wpE_cat ((TI++[46])) (List.replicate K 48) rfl rfl rfl rfl (by have:=HLL.out;simp;omega) ?_
 simp only [Act.put,sT1,sT2,sT3]
 refine wpE_val (.string ⟨(MI).toArray⟩) rfl rfl (fun w' hw' K' hK'=>?_) ?_
 ·have hE:=hw'.1
  go_step
  exact hK'
 simp only [Act.put,sT1,sT2,sT3]
 refine wpE_cat (((TI++[46])++List.replicate K 48)) (MI) rfl rfl rfl rfl (by have:=HLL.out;simp;omega) ?_
 simp only [Act.put,sT1,sT2,sT3]
 rw [HTW.out]
 refine wpE_val (.pointer (some ⟨w.heap.size,2,none⟩)) rfl rfl (fun w' hw' K' hK'=>?_) ?_
 ·have hE:=hw'.1
  go_step
  exact hK'
 simp only [Act.put,sT1,sT2,sT3]
 refine wpE_val (.int .i64 kd) rfl rfl (fun w' hw' K' hK'=>?_) ?_
 ·have hE:=hw'.1
  obtain ⟨u0,u1,u2,u3,u4,u5,u6,u7,u8,u9,u10,u11⟩:=(HB.out.ext ((Ext.drew wr).trans hE)).cells
  go_step
  exact hK'
 simp only [Act.put,sT1,sT2,sT3]
 refine wpE_symcall 40 rfl (by simp) true (.string ⟨(KW).toArray⟩) (rfl) (fun _ _ h=>h) (fun hc w' hw' K' hK'=>?_) ?_
 ·have hE:=hw'.1
  try simp only [cond_true]
  go_step
  refine (HKW.out w' (HX5.out.trans ((Ext.drew _).trans hE))).mono ?_
  rintro _ w2 ⟨rfl,hx⟩
  exact hK' _ _ rfl hx
 simp only [cond_true,Act.put,sT1,sT2,sT3]
 refine wpE_val (.pointer (some ⟨w.heap.size,5,none⟩)) rfl rfl (fun w' hw' K' hK'=>?_) ?_
 ·have hE:=hw'.1
  go_step
  exact hK'
 simp only [Act.put,sT1,sT2,sT3]
 refine wpE_val (.agg #[.slice CA cp.length cc,.string cr]) rfl rfl (fun w' hw' K' hK'=>?_) ?_
 ·have hE:=hw'.1
  obtain ⟨u0,u1,u2,u3,u4,u5,u6,u7,u8,u9,u10,u11⟩:=(HB.out.ext ((Ext.drew wr).trans hE)).cells
  go_step
  exact hK'
 simp only [Act.put,sT1,sT2,sT3]
 refine wpE_symcall 43 rfl (by simp) true (.string ⟨(CW).toArray⟩) (rfl) (fun _ _ h=>h) (fun hc w' hw' K' hK'=>?_) ?_
 ·have hE:=hw'.1
  try simp only [cond_true]
  go_step
  refine (HCW.out w' (HX5.out.trans ((Ext.drew _).trans hE))).mono ?_
  rintro _ w2 ⟨rfl,hx⟩
  exact hK' _ _ rfl hx
 simp only [cond_true,Act.put,sT1,sT2,sT3]
 refine wpE_val (.pointer (some ⟨w.heap.size,7,none⟩)) rfl rfl (fun w' hw' K' hK'=>?_) ?_
 ·have hE:=hw'.1
  go_step
  exact hK'
 simp only [Act.put,sT1,sT2,sT3]
 refine wpE_val (.agg #[.slice SA sp.length sc,.string sr]) rfl rfl (fun w' hw' K' hK'=>?_) ?_
 ·have hE:=hw'.1
  obtain ⟨u0,u1,u2,u3,u4,u5,u6,u7,u8,u9,u10,u11⟩:=(HB.out.ext ((Ext.drew wr).trans hE)).cells
  go_step
  exact hK'
 simp only [Act.put,sT1,sT2,sT3]
 refine wpE_symcall 46 rfl (by simp) true (.string ⟨(SW).toArray⟩) (rfl) (fun _ _ h=>h) (fun hc w' hw' K' hK'=>?_) ?_
 ·have hE:=hw'.1
  try simp only [cond_true]
  go_step
  refine (HSW.out w' (HX5.out.trans ((Ext.drew _).trans hE))).mono ?_
  rintro _ w2 ⟨rfl,hx⟩
  exact hK' _ _ rfl hx
 simp only [cond_true,Act.put,sT1,sT2,sT3]
 refine wpE_val (.string ⟨(AW).toArray⟩) rfl rfl (fun w' hw' K' hK'=>?_) ?_
 ·have hE:=hw'.1
  go_step
  exact hK'
 simp only [Act.put,sT1,sT2,sT3]
 refine wpE_val (.pointer (some ⟨w.heap.size,9,none⟩)) rfl rfl (fun w' hw' K' hK'=>?_) ?_
 ·have hE:=hw'.1
  go_step
  exact hK'
 simp only [Act.put,sT1,sT2,sT3]
 refine wpE_val (.int .i64 co) rfl rfl (fun w' hw' K' hK'=>?_) ?_
 ·have hE:=hw'.1
  obtain ⟨u0,u1,u2,u3,u4,u5,u6,u7,u8,u9,u10,u11⟩:=(HB.out.ext ((Ext.drew wr).trans hE)).cells
  go_step
  exact hK'
 simp only [Act.put,sT1,sT2,sT3]
 refine wpE_symcall 50 rfl (by simp) true (.string ⟨(CO).toArray⟩) (rfl) (fun _ _ h=>h) (fun hc w' hw' K' hK'=>?_) ?_
 ·have hE:=hw'.1
  try simp only [cond_true]
  go_step
  refine (HCO.out w' (HX5.out.trans ((Ext.drew _).trans hE))).mono ?_
  rintro _ w2 ⟨rfl,hx⟩
  exact hK' _ _ rfl hx
 simp only [cond_true,Act.put,sT1,sT2,sT3]
 refine wpE_val (.pointer (some ⟨w.heap.size,10,none⟩)) rfl rfl (fun w' hw' K' hK'=>?_) ?_
 ·have hE:=hw'.1
  go_step
  exact hK'
 simp only [Act.put,sT1,sT2,sT3]
 refine wpE_val (.int .i64 pr) rfl rfl (fun w' hw' K' hK'=>?_) ?_
 ·have hE:=hw'.1
  obtain ⟨u0,u1,u2,u3,u4,u5,u6,u7,u8,u9,u10,u11⟩:=(HB.out.ext ((Ext.drew wr).trans hE)).cells
  go_step
  exact hK'
 simp only [Act.put,sT1,sT2,sT3]
 refine wpE_symcall 53 rfl (by simp) true (.string ⟨(PR).toArray⟩) (rfl) (fun _ _ h=>h) (fun hc w' hw' K' hK'=>?_) ?_
 ·have hE:=hw'.1
  try simp only [cond_true]
  go_step
  refine (HPR.out w' (HX5.out.trans ((Ext.drew _).trans hE))).mono ?_
  rintro _ w2 ⟨rfl,hx⟩
  exact hK' _ _ rfl hx
 simp only [cond_true,Act.put,sT1,sT2,sT3]
 refine wpE_val (.string ⟨(FW).toArray⟩) rfl rfl (fun w' hw' K' hK'=>?_) ?_
 ·have hE:=hw'.1
  go_step
  exact hK'
 simp only [Act.put,sT1,sT2,sT3]
 refine wpE_call 55 rfl (by simp) rfl (fun w' hw' K' hK'=>?_) ?_
 ·have hE:=hw'.1
  have HROW:=Lib.hid (heap_alloc_new w' (.cells #[.string ⟨TW.toArray⟩,.string ⟨KW.toArray⟩,.string ⟨CW.toArray⟩,.string ⟨SW.toArray⟩,.string ⟨AW.toArray⟩,.string ⟨CO.toArray⟩,.string ⟨PR.toArray⟩,.string ⟨FW.toArray⟩] 9))
  have hxa:=(Ext.refl w').alloc (.cells #[.string ⟨TW.toArray⟩,.string ⟨KW.toArray⟩,.string ⟨CW.toArray⟩,.string ⟨SW.toArray⟩,.string ⟨AW.toArray⟩,.string ⟨CO.toArray⟩,.string ⟨PR.toArray⟩,.string ⟨FW.toArray⟩] 9)
  go_step
  exact hK' _ _ ⟨_,rfl,_,rfl,HROW.out⟩ hxa
 rintro _ w55x hE55 ⟨g,rfl,hrow⟩
 have HROW:=Lib.hid hrow
 clear hrow hE55
 simp only [Act.put,sT1,sT2,sT3]
 refine wpE_call 56 rfl (by simp) rfl (fun w' hw' K' hK'=>?_) ?_
 ·have hE:=hw'.1
  have hM:Ext w55x w':=hw'.2 55 w55x (by simp [adds]) (by decide)
  go_step
  refine (JoinS_at [TW,KW,CW,SW,AW,CO,PR,FW] _ g 8 w' (hM.heap HROW.out) rfl rfl HLEN.out (by omega)).mono ?_
  rintro _ w2 ⟨rfl,hx⟩
  exact hK' _ _ ⟨_,rfl,rfl⟩ hx
 rintro _ w56x hE56 rfl
 simp only [Act.put,sT1,sT2,sT3]
 refine wpE_val (.string ⟨(Lib.join [TW,KW,CW,SW,AW,CO,PR,FW] [32]).toArray⟩) rfl rfl (fun w' hw' K' hK'=>?_) ?_
 ·have hE:=hw'.1
  go_step
  exact hK'
 simp only [Act.put,sT1,sT2,sT3]
 refine wpE_op rfl rfl (fun w' hw' K' hK'=>?_)
 go_step
 refine hK' _ ⟨_,rfl⟩ ?_
 clear hK' K' hw' w'
 refine wpE_nil (fun W hW=>?_)
 have HXW:=Lib.hid ((HX.out.trans HX5.out).trans ((Ext.drew _).trans hW.1))
 clear hW
 go_wp2_with fail
 go_ret2
 exact ⟨rfl,HXW.out⟩
end Go.Proofs.YtnjmndofcpnmeaaGreatDoor
