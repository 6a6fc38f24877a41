/- Pa41. -/
import Derived.Test.YtnjmndofcpnmeaaGreatDoorPa0
import Derived.Test.YtnjmndofcpnmeaaGreatDoorPa32
import Derived.Test.YtnjmndofcpnmeaaGreatDoorPa40
import Derived.Test.YtnjmndofcpnmeaaGreatDoorPa39
namespace Go.Proofs.YtnjmndofcpnmeaaGreatDoor
open Go Go.RowKit
set_option linter.unusedVariables false
theorem tk_4096 (f:W32):tkB f=decide ((f.toNat:Int)<4096):=by
 have e:(andW tkM f).toNat=f.toNat % 4096:=by
  unfold andW tkM
  rw [BitVec.toNat_and,Nat.and_comm]
  exact Nat.and_two_pow_sub_one_eq_mod f.toNat 12
 unfold tkB hasB
 rw [Bool.eq_iff_iff,beq_iff_eq,decide_eq_true_iff]
 constructor
 ·intro h
  have:=congrArg BitVec.toNat h
  rw [e] at this;omega
 ·intro h
  exact BitVec.eq_of_toNat_eq (by rw [e];omega)
theorem ok_ref (m:FV):m.fct.ok=(!((((decide (m.t<0)||decide ((1099511627776:Int)<m.t))||decide (m.mi<0))||decide ((999999:Int)<m.mi))||(((m.kd != 0)&&(m.kd != 10))&&(m.kd != 12)))&&(((((((okA m.fk m.fb&&prsB (dat m.cp) m.cr.data.toList)&&prsB (dat m.sp) m.sr.data.toList)&&decide ((0:Int)≤m.co))&&decide (m.co≤127))&&decide ((0:Int)≤m.pr))&&decide (m.pr≤999))&&decide ((m.fl.toNat:Int)<4096))):=by
 rw [Bool.eq_iff_iff,Fct.ok_iff]
 simp only [Bool.and_eq_true,Bool.not_eq_true',Bool.or_eq_false_iff,Bool.and_eq_false_iff,decide_eq_true_eq,decide_eq_false_iff_not,bne_eq_false_iff_eq,Int.not_lt]
 constructor
 ·rintro ⟨h1,h2,h3,h4,h5,h6,h7,h8,h9⟩
  dsimp only [FV.fct] at h1 h2 h3 h4 h5 h6 h7 h8 h9
  rw [tk_4096,decide_eq_true_eq] at h9
  refine ⟨⟨⟨⟨⟨h1.1,h1.2⟩,h2.1⟩,h2.2⟩,?_⟩,⟨⟨⟨⟨⟨⟨⟨h4,h5⟩,h6⟩,h7.1⟩,h7.2⟩,h8.1⟩,h8.2⟩,h9⟩⟩
  omega
 ·rintro ⟨⟨⟨⟨⟨a1,a2⟩,a3⟩,a4⟩,a5⟩,⟨⟨⟨⟨⟨⟨⟨h4,h5⟩,h6⟩,b1⟩,b2⟩,b3⟩,b4⟩,h9⟩⟩
  refine ⟨⟨a1,a2⟩,⟨a3,a4⟩,?_,h4,h5,h6,⟨b1,b2⟩,⟨b3,b4⟩,?_⟩
  ·dsimp only [FV.fct];omega
  ·dsimp only [FV.fct]
   rw [tk_4096,decide_eq_true_eq]
   exact h9
set_option maxRecDepth 100000 in
set_option maxHeartbeats 2000000 in
theorem RFValid_at2 (m:FV) (w:World) (hm:m.In w) (hcr:m.cr.size≤4294967280) (hsr:m.sr.size≤4294967280):
  Calls Tryz.prog 25 #[m.val] w fun e w'=>e=.returned (.bool m.fct.ok)∧Ext w w':=by
 have h0:FQ (w.alloc (.cells #[.int .i64 m.t,.int .i64 m.mi,.int .i64 m.kd,.int .i64 m.fk,.slice m.FA m.fb.length m.fc,.slice m.CA m.cp.length m.cc,.string m.cr,.slice m.SA m.sp.length m.sc,.string m.sr,.int .i64 m.co,.int .i64 m.pr,.int .u32 (m.fl.toNat:Int)] 41)) w.heap.size m:=heap_alloc_new w _
 have hx:=(Ext.refl w).alloc (.cells #[.int .i64 m.t,.int .i64 m.mi,.int .i64 m.kd,.int .i64 m.fk,.slice m.FA m.fb.length m.fc,.slice m.CA m.cp.length m.cc,.string m.cr,.slice m.SA m.sp.length m.sc,.string m.sr,.int .i64 m.co,.int .i64 m.pr,.int .u32 (m.fl.toNat:Int)] 41)
 obtain ⟨W2,e2⟩:∃ W,w.alloc (.cells #[.int .i64 m.t,.int .i64 m.mi,.int .i64 m.kd,.int .i64 m.fk,.slice m.FA m.fb.length m.fc,.slice m.CA m.cp.length m.cc,.string m.cr,.slice m.SA m.sp.length m.sc,.string m.sr,.int .i64 m.co,.int .i64 m.pr,.int .u32 (m.fl.toNat:Int)] 41)=W:=⟨_,rfl⟩
 rw [e2] at h0 hx
 have HM:=Lib.hid h0;have HX:=Lib.hid hx
 have HC0:=Lib.hid (fun W (hw:Ext W2 W)=>RAValid_at m.fk m.fb m.FA m.fc W (hm.fb.ext (hx.trans hw)))
 have HC1:=Lib.hid (fun W (hw:Ext W2 W)=>Person_at m.CA m.cc m.cp m.cr hcr W (hm.cp.ext (hx.trans hw)))
 have HC2:=Lib.hid (fun W (hw:Ext W2 W)=>Person_at m.SA m.sc m.sp m.sr hsr W (hm.sp.ext (hx.trans hw)))
 unfold adv at HC0
 rw [ok_ref]
 unfold FV.val
 obtain ⟨ac,hac⟩:∃ b,okA m.fk m.fb=b:=⟨_,rfl⟩
 obtain ⟨pc,hpc⟩:∃ b,prsB (dat m.cp) m.cr.data.toList=b:=⟨_,rfl⟩
 obtain ⟨sc,hsc⟩:∃ b,prsB (dat m.sp) m.sr.data.toList=b:=⟨_,rfl⟩
 rw [hac] at HC0 ⊢
 rw [hpc] at HC1 ⊢
 rw [hsc] at HC2 ⊢
 clear hpc hac hsc h0 hx hm hcr hsr
 obtain ⟨q1,hq1⟩:∃ q1:Bool,(decide (m.t<0))=q1:=⟨_,rfl⟩
 have Hq1:=Lib.hid hq1;clear hq1
 obtain ⟨c2,hc2⟩:∃ c2:Bool,(!q1)=c2:=⟨_,rfl⟩
 have Hc2:=Lib.hid hc2;clear hc2
 obtain ⟨q3,hq3⟩:∃ q3:Bool,(decide ((1099511627776:Int)<m.t))=q3:=⟨_,rfl⟩
 have Hq3:=Lib.hid hq3;clear hq3
 obtain ⟨p4,hp4⟩:∃ p4:Bool,(q1||q3)=p4:=⟨_,rfl⟩
 have Hp4:=Lib.hid hp4;clear hp4
 obtain ⟨c5,hc5⟩:∃ c5:Bool,(!p4)=c5:=⟨_,rfl⟩
 have Hc5:=Lib.hid hc5;clear hc5
 obtain ⟨q6,hq6⟩:∃ q6:Bool,(decide (m.mi<0))=q6:=⟨_,rfl⟩
 have Hq6:=Lib.hid hq6;clear hq6
 obtain ⟨p7,hp7⟩:∃ p7:Bool,(p4||q6)=p7:=⟨_,rfl⟩
 have Hp7:=Lib.hid hp7;clear hp7
 obtain ⟨c8,hc8⟩:∃ c8:Bool,(!p7)=c8:=⟨_,rfl⟩
 have Hc8:=Lib.hid hc8;clear hc8
 obtain ⟨q9,hq9⟩:∃ q9:Bool,(decide ((999999:Int)<m.mi))=q9:=⟨_,rfl⟩
 have Hq9:=Lib.hid hq9;clear hq9
 obtain ⟨p10,hp10⟩:∃ p10:Bool,(p7||q9)=p10:=⟨_,rfl⟩
 have Hp10:=Lib.hid hp10;clear hp10
 obtain ⟨c11,hc11⟩:∃ c11:Bool,(!p10)=c11:=⟨_,rfl⟩
 have Hc11:=Lib.hid hc11;clear hc11
 obtain ⟨q12,hq12⟩:∃ q12:Bool,((m.kd != 0))=q12:=⟨_,rfl⟩
 have Hq12:=Lib.hid hq12;clear hq12
 obtain ⟨c13,hc13⟩:∃ c13:Bool,(c11&&q12)=c13:=⟨_,rfl⟩
 have Hc13:=Lib.hid hc13;clear hc13
 obtain ⟨q14,hq14⟩:∃ q14:Bool,((m.kd != 10))=q14:=⟨_,rfl⟩
 have Hq14:=Lib.hid hq14;clear hq14
 obtain ⟨p15,hp15⟩:∃ p15:Bool,(q12&&q14)=p15:=⟨_,rfl⟩
 have Hp15:=Lib.hid hp15;clear hp15
 obtain ⟨c16,hc16⟩:∃ c16:Bool,(c11&&p15)=c16:=⟨_,rfl⟩
 have Hc16:=Lib.hid hc16;clear hc16
 obtain ⟨q17,hq17⟩:∃ q17:Bool,((m.kd != 12))=q17:=⟨_,rfl⟩
 have Hq17:=Lib.hid hq17;clear hq17
 obtain ⟨p18,hp18⟩:∃ p18:Bool,(p15&&q17)=p18:=⟨_,rfl⟩
 have Hp18:=Lib.hid hp18;clear hp18
 obtain ⟨p19,hp19⟩:∃ p19:Bool,(p10||p18)=p19:=⟨_,rfl⟩
 have Hp19:=Lib.hid hp19;clear hp19
 have HX0:=Lib.hid (Ext.refl W2)
 go_enter Tryz.func25,Tryz.ntmps25
 go_upto_region 1 with fail
 refine wp_region_lit ?_
 refine wpL_val (.pointer (some ⟨w.heap.size,0,none⟩)) rfl (fun K' hK'=>?_) ?_
 ·go_step
  exact hK'
 simp only [Act.put,sT1,sT2,sT3]
 refine wpL_val (.int .i64 m.t) rfl (fun K' hK'=>?_) ?_
 ·obtain ⟨u0,u1,u2,u3,u4,u5,u6,u7,u8,u9,u10,u11⟩:=(HM.out.ext HX0.out).cells
  go_step
  exact hK'
 simp only [Act.put,sT1,sT2,sT3]
 refine wpL_val (.bool q1) rfl (fun K' hK'=>?_) ?_
 ·have hq:=Hq1.out
  subst hq
  go_step
  exact hK'
 simp only [Act.put,sT1,sT2,sT3]
 refine wpL_val (.bool q1) rfl (fun K' hK'=>?_) ?_
 ·go_step
  exact hK'
 simp only [Act.put,sT1,sT2,sT3]
 refine wpL_sym c2 (.pointer (some ⟨w.heap.size,0,none⟩)) (by rw [← Hc2.out];cases q1<;>kernel_rfl) (fun hc K' hK'=>?_) ?_
 ·subst hc
  try simp only [cond_true]
  go_step
  exact hK'
 simp only [Act.put,sT1,sT2,sT3]
 refine wpL_sym c2 (.int .i64 m.t) (by rw [← Hc2.out];cases q1<;>kernel_rfl) (fun hc K' hK'=>?_) ?_
 ·subst hc
  try simp only [cond_true]
  obtain ⟨u0,u1,u2,u3,u4,u5,u6,u7,u8,u9,u10,u11⟩:=(HM.out.ext HX0.out).cells
  go_step
  exact hK'
 simp only [Act.put,sT1,sT2,sT3]
 refine wpL_sym c2 (.bool q3) (by rw [← Hc2.out];cases q1<;>kernel_rfl) (fun hc K' hK'=>?_) ?_
 ·subst hc
  try simp only [cond_true]
  have hq:=Hq3.out
  subst hq
  go_step
  exact hK'
 simp only [Act.put,sT1,sT2,sT3]
 refine wpL_val (.bool p4) rfl (fun K' hK'=>?_) ?_
 ·have hp:=Hp4.out
  subst hp
  have hg:=Hc2.out
  subst hg
  cases q1
  ·go_step
   exact hK'
  ·go_step
   exact hK'
 simp only [Act.put,sT1,sT2,sT3]
 refine wpL_val (.bool p4) rfl (fun K' hK'=>?_) ?_
 ·go_step
  exact hK'
 simp only [Act.put,sT1,sT2,sT3]
 refine wpL_sym c5 (.pointer (some ⟨w.heap.size,1,none⟩)) (by rw [← Hc5.out];cases p4<;>kernel_rfl) (fun hc K' hK'=>?_) ?_
 ·subst hc
  try simp only [cond_true]
  go_step
  exact hK'
 simp only [Act.put,sT1,sT2,sT3]
 refine wpL_sym c5 (.int .i64 m.mi) (by rw [← Hc5.out];cases p4<;>kernel_rfl) (fun hc K' hK'=>?_) ?_
 ·subst hc
  try simp only [cond_true]
  obtain ⟨u0,u1,u2,u3,u4,u5,u6,u7,u8,u9,u10,u11⟩:=(HM.out.ext HX0.out).cells
  go_step
  exact hK'
 simp only [Act.put,sT1,sT2,sT3]
 refine wpL_sym c5 (.bool q6) (by rw [← Hc5.out];cases p4<;>kernel_rfl) (fun hc K' hK'=>?_) ?_
 ·subst hc
  try simp only [cond_true]
  have hq:=Hq6.out
  subst hq
  go_step
  exact hK'
 simp only [Act.put,sT1,sT2,sT3]
 refine wpL_val (.bool p7) rfl (fun K' hK'=>?_) ?_
 ·have hp:=Hp7.out
  subst hp
  have hg:=Hc5.out
  subst hg
  cases p4
  ·go_step
   exact hK'
  ·go_step
   exact hK'
 simp only [Act.put,sT1,sT2,sT3]
 refine wpL_val (.bool p7) rfl (fun K' hK'=>?_) ?_
 ·go_step
  exact hK'
 simp only [Act.put,sT1,sT2,sT3]
 refine wpL_sym c8 (.pointer (some ⟨w.heap.size,1,none⟩)) (by rw [← Hc8.out];cases p7<;>kernel_rfl) (fun hc K' hK'=>?_) ?_
 ·subst hc
  try simp only [cond_true]
  go_step
  exact hK'
 simp only [Act.put,sT1,sT2,sT3]
 refine wpL_sym c8 (.int .i64 m.mi) (by rw [← Hc8.out];cases p7<;>kernel_rfl) (fun hc K' hK'=>?_) ?_
 ·subst hc
  try simp only [cond_true]
  obtain ⟨u0,u1,u2,u3,u4,u5,u6,u7,u8,u9,u10,u11⟩:=(HM.out.ext HX0.out).cells
  go_step
  exact hK'
 simp only [Act.put,sT1,sT2,sT3]
 refine wpL_sym c8 (.bool q9) (by rw [← Hc8.out];cases p7<;>kernel_rfl) (fun hc K' hK'=>?_) ?_
 ·subst hc
  try simp only [cond_true]
  have hq:=Hq9.out
  subst hq
  go_step
  exact hK'
 simp only [Act.put,sT1,sT2,sT3]
 refine wpL_val (.bool p10) rfl (fun K' hK'=>?_) ?_
 ·have hp:=Hp10.out
  subst hp
  have hg:=Hc8.out
  subst hg
  cases p7
  ·go_step
   exact hK'
  ·go_step
   exact hK'
 simp only [Act.put,sT1,sT2,sT3]
 refine wpL_val (.bool p10) rfl (fun K' hK'=>?_) ?_
 ·go_step
  exact hK'
 simp only [Act.put,sT1,sT2,sT3]
 refine wpL_sym c11 (.pointer (some ⟨w.heap.size,2,none⟩)) (by rw [← Hc11.out];cases p10<;>kernel_rfl) (fun hc K' hK'=>?_) ?_
 ·subst hc
  try simp only [cond_true]
  go_step
  exact hK'
 simp only [Act.put,sT1,sT2,sT3]
 refine wpL_sym c11 (.int .i64 m.kd) (by rw [← Hc11.out];cases p10<;>kernel_rfl) (fun hc K' hK'=>?_) ?_
 ·subst hc
  try simp only [cond_true]
  obtain ⟨u0,u1,u2,u3,u4,u5,u6,u7,u8,u9,u10,u11⟩:=(HM.out.ext HX0.out).cells
  go_step
  exact hK'
 simp only [Act.put,sT1,sT2,sT3]
 refine wpL_sym c11 (.bool q12) (by rw [← Hc11.out];cases p10<;>kernel_rfl) (fun hc K' hK'=>?_) ?_
 ·subst hc
  try simp only [cond_true]
  have hq:=Hq12.out
  subst hq
  go_step
  exact hK'
 simp only [Act.put,sT1,sT2,sT3]
 refine wpL_sym c11 (.bool q12) (by rw [← Hc11.out];cases p10<;>kernel_rfl) (fun hc K' hK'=>?_) ?_
 ·subst hc
  try simp only [cond_true]
  go_step
  exact hK'
 simp only [Act.put,sT1,sT2,sT3]
 refine wpL_sym c13 (.pointer (some ⟨w.heap.size,2,none⟩)) (by rw [← Hc13.out];cases c11<;>cases q12<;>kernel_rfl) (fun hc K' hK'=>?_) ?_
 ·subst hc
  try simp only [cond_true]
  go_step
  exact hK'
 simp only [Act.put,sT1,sT2,sT3]
 refine wpL_sym c13 (.int .i64 m.kd) (by rw [← Hc13.out];cases c11<;>cases q12<;>kernel_rfl) (fun hc K' hK'=>?_) ?_
 ·subst hc
  try simp only [cond_true]
  obtain ⟨u0,u1,u2,u3,u4,u5,u6,u7,u8,u9,u10,u11⟩:=(HM.out.ext HX0.out).cells
  go_step
  exact hK'
 simp only [Act.put,sT1,sT2,sT3]
 refine wpL_sym c13 (.bool q14) (by rw [← Hc13.out];cases c11<;>cases q12<;>kernel_rfl) (fun hc K' hK'=>?_) ?_
 ·subst hc
  try simp only [cond_true]
  have hq:=Hq14.out
  subst hq
  go_step
  exact hK'
 simp only [Act.put,sT1,sT2,sT3]
 refine wpL_sym c11 (.bool p15) (by rw [← Hc11.out];cases p10<;>kernel_rfl) (fun hc K' hK'=>?_) ?_
 ·subst hc
  try simp only [cond_true]
  have hp:=Hp15.out
  subst hp
  have hg:=Hc13.out
  subst hg
  cases q12
  ·go_step
   exact hK'
  ·go_step
   exact hK'
 simp only [Act.put,sT1,sT2,sT3]
 refine wpL_sym c11 (.bool p15) (by rw [← Hc11.out];cases p10<;>kernel_rfl) (fun hc K' hK'=>?_) ?_
 ·subst hc
  try simp only [cond_true]
  go_step
  exact hK'
 simp only [Act.put,sT1,sT2,sT3]
 refine wpL_sym c16 (.pointer (some ⟨w.heap.size,2,none⟩)) (by rw [← Hc16.out];cases c11<;>cases p15<;>kernel_rfl) (fun hc K' hK'=>?_) ?_
 ·subst hc
  try simp only [cond_true]
  go_step
  exact hK'
 simp only [Act.put,sT1,sT2,sT3]
 refine wpL_sym c16 (.int .i64 m.kd) (by rw [← Hc16.out];cases c11<;>cases p15<;>kernel_rfl) (fun hc K' hK'=>?_) ?_
 ·subst hc
  try simp only [cond_true]
  obtain ⟨u0,u1,u2,u3,u4,u5,u6,u7,u8,u9,u10,u11⟩:=(HM.out.ext HX0.out).cells
  go_step
  exact hK'
 simp only [Act.put,sT1,sT2,sT3]
 refine wpL_sym c16 (.bool q17) (by rw [← Hc16.out];cases c11<;>cases p15<;>kernel_rfl) (fun hc K' hK'=>?_) ?_
 ·subst hc
  try simp only [cond_true]
  have hq:=Hq17.out
  subst hq
  go_step
  exact hK'
 simp only [Act.put,sT1,sT2,sT3]
 refine wpL_sym c11 (.bool p18) (by rw [← Hc11.out];cases p10<;>kernel_rfl) (fun hc K' hK'=>?_) ?_
 ·subst hc
  try simp only [cond_true]
  have hp:=Hp18.out
  subst hp
  have hg:=Hc16.out
  subst hg
  cases p15
  ·go_step
   exact hK'
  ·go_step
   exact hK'
 simp only [Act.put,sT1,sT2,sT3]
 refine wpL_val (.bool p19) rfl (fun K' hK'=>?_) ?_
 ·have hp:=Hp19.out
  subst hp
  have hg:=Hc11.out
  subst hg
  cases p10
  ·go_step
   exact hK'
  ·go_step
   exact hK'
 simp only [Act.put,sT1,sT2,sT3]
 cases p19 with
 | true=>
  go_wp2_with fail
  go_ret
  refine ⟨?_,HX.out⟩
  have HL:=Hp19.out
  have h:=Hp18.out;subst h
  have h:=Hq17.out;subst h
  have h:=Hc16.out;subst h
  have h:=Hp15.out;subst h
  have h:=Hq14.out;subst h
  have h:=Hc13.out;subst h
  have h:=Hq12.out;subst h
  have h:=Hc11.out;subst h
  have h:=Hp10.out;subst h
  have h:=Hq9.out;subst h
  have h:=Hc8.out;subst h
  have h:=Hp7.out;subst h
  have h:=Hq6.out;subst h
  have h:=Hc5.out;subst h
  have h:=Hp4.out;subst h
  have h:=Hq3.out;subst h
  have h:=Hc2.out;subst h
  have h:=Hq1.out;subst h
  rw [show ((((decide (m.t<0)||decide ((1099511627776:Int)<m.t))||decide (m.mi<0))||decide ((999999:Int)<m.mi))||(((m.kd != 0)&&(m.kd != 10))&&(m.kd != 12)))=true from HL];rfl
 | false=>
  obtain ⟨p101,hp101⟩:∃ p101:Bool,(ac&&pc)=p101:=⟨_,rfl⟩
  have Hp101:=Lib.hid hp101;clear hp101
  obtain ⟨p102,hp102⟩:∃ p102:Bool,(p101&&sc)=p102:=⟨_,rfl⟩
  have Hp102:=Lib.hid hp102;clear hp102
  obtain ⟨q103,hq103⟩:∃ q103:Bool,(decide ((0:Int)≤m.co))=q103:=⟨_,rfl⟩
  have Hq103:=Lib.hid hq103;clear hq103
  obtain ⟨p104,hp104⟩:∃ p104:Bool,(p102&&q103)=p104:=⟨_,rfl⟩
  have Hp104:=Lib.hid hp104;clear hp104
  obtain ⟨q105,hq105⟩:∃ q105:Bool,(decide (m.co≤127))=q105:=⟨_,rfl⟩
  have Hq105:=Lib.hid hq105;clear hq105
  obtain ⟨p106,hp106⟩:∃ p106:Bool,(p104&&q105)=p106:=⟨_,rfl⟩
  have Hp106:=Lib.hid hp106;clear hp106
  obtain ⟨q107,hq107⟩:∃ q107:Bool,(decide ((0:Int)≤m.pr))=q107:=⟨_,rfl⟩
  have Hq107:=Lib.hid hq107;clear hq107
  obtain ⟨p108,hp108⟩:∃ p108:Bool,(p106&&q107)=p108:=⟨_,rfl⟩
  have Hp108:=Lib.hid hp108;clear hp108
  obtain ⟨q109,hq109⟩:∃ q109:Bool,(decide (m.pr≤999))=q109:=⟨_,rfl⟩
  have Hq109:=Lib.hid hq109;clear hq109
  obtain ⟨p110,hp110⟩:∃ p110:Bool,(p108&&q109)=p110:=⟨_,rfl⟩
  have Hp110:=Lib.hid hp110;clear hp110
  obtain ⟨q111,hq111⟩:∃ q111:Bool,(decide ((m.fl.toNat:Int)<4096))=q111:=⟨_,rfl⟩
  have Hq111:=Lib.hid hq111;clear hq111
  obtain ⟨p112,hp112⟩:∃ p112:Bool,(p110&&q111)=p112:=⟨_,rfl⟩
  have Hp112:=Lib.hid hp112;clear hp112
  go_upto_region 3 with fail
  refine wp_region_lit ?_
  refine wpL_val (.pointer (some ⟨w.heap.size,3,none⟩)) rfl (fun K' hK'=>?_) ?_
  ·go_step
   exact hK'
  simp only [Act.put,sT1,sT2,sT3]
  refine wpL_val (.agg #[.int .i64 m.fk,.slice m.FA m.fb.length m.fc]) rfl (fun K' hK'=>?_) ?_
  ·obtain ⟨u0,u1,u2,u3,u4,u5,u6,u7,u8,u9,u10,u11⟩:=(HM.out.ext HX0.out).cells
   go_step
   exact hK'
  simp only [Act.put,sT1,sT2,sT3]
  refine wpL_symcall true (.bool ac) (rfl) (fun hc K' hK'=>?_) (fun wc38 hx=>?_)
  ·skip
   try simp only [cond_true]
   go_step
   refine (HC0.out W2 HX0.out).mono ?_
   rintro _ w2 ⟨rfl,hx⟩
   exact hK' _ hx
  have HX38:=Lib.hid (HX0.out.trans hx);clear hx
  simp only [cond_true,Act.put,sT1,sT2,sT3]
  refine wpL_val (.bool ac) rfl (fun K' hK'=>?_) ?_
  ·go_step
   exact hK'
  simp only [Act.put,sT1,sT2,sT3]
  refine wpL_sym ac (.pointer (some ⟨w.heap.size,5,none⟩)) (by cases ac<;>kernel_rfl) (fun hc K' hK'=>?_) ?_
  ·subst hc
   try simp only [cond_true]
   go_step
   exact hK'
  simp only [Act.put,sT1,sT2,sT3]
  refine wpL_sym ac (.agg #[.slice m.CA m.cp.length m.cc,.string m.cr]) (by cases ac<;>kernel_rfl) (fun hc K' hK'=>?_) ?_
  ·subst hc
   try simp only [cond_true]
   obtain ⟨u0,u1,u2,u3,u4,u5,u6,u7,u8,u9,u10,u11⟩:=(HM.out.ext HX38.out).cells
   go_step
   exact hK'
  simp only [Act.put,sT1,sT2,sT3]
  refine wpL_symcall ac (.bool pc) (by cases ac<;>kernel_rfl) (fun hc K' hK'=>?_) (fun wc42 hx=>?_)
  ·subst hc
   try simp only [cond_true]
   go_step
   refine (HC1.out wc38 HX38.out).mono ?_
   rintro _ w2 ⟨rfl,hx⟩
   exact hK' _ hx
  have HX42:=Lib.hid (HX38.out.trans hx);clear hx
  simp only [Act.put,sT1,sT2,sT3]
  refine wpL_val (.bool p101) rfl (fun K' hK'=>?_) ?_
  ·have hp:=Hp101.out
   subst hp
   cases ac
   ·go_step
    exact hK'
   ·go_step
    exact hK'
  simp only [Act.put,sT1,sT2,sT3]
  refine wpL_val (.bool p101) rfl (fun K' hK'=>?_) ?_
  ·go_step
   exact hK'
  simp only [Act.put,sT1,sT2,sT3]
  refine wpL_sym p101 (.pointer (some ⟨w.heap.size,7,none⟩)) (by cases p101<;>kernel_rfl) (fun hc K' hK'=>?_) ?_
  ·subst hc
   try simp only [cond_true]
   go_step
   exact hK'
  simp only [Act.put,sT1,sT2,sT3]
  refine wpL_sym p101 (.agg #[.slice m.SA m.sp.length m.sc,.string m.sr]) (by cases p101<;>kernel_rfl) (fun hc K' hK'=>?_) ?_
  ·subst hc
   try simp only [cond_true]
   obtain ⟨u0,u1,u2,u3,u4,u5,u6,u7,u8,u9,u10,u11⟩:=(HM.out.ext HX42.out).cells
   go_step
   exact hK'
  simp only [Act.put,sT1,sT2,sT3]
  refine wpL_symcall p101 (.bool sc) (by cases p101<;>kernel_rfl) (fun hc K' hK'=>?_) (fun wc47 hx=>?_)
  ·subst hc
   try simp only [cond_true]
   go_step
   refine (HC2.out wc42 HX42.out).mono ?_
   rintro _ w2 ⟨rfl,hx⟩
   exact hK' _ hx
  have HX47:=Lib.hid (HX42.out.trans hx);clear hx
  simp only [Act.put,sT1,sT2,sT3]
  refine wpL_val (.bool p102) rfl (fun K' hK'=>?_) ?_
  ·have hp:=Hp102.out
   subst hp
   cases p101
   ·go_step
    exact hK'
   ·go_step
    exact hK'
  simp only [Act.put,sT1,sT2,sT3]
  refine wpL_val (.bool p102) rfl (fun K' hK'=>?_) ?_
  ·go_step
   exact hK'
  simp only [Act.put,sT1,sT2,sT3]
  refine wpL_sym p102 (.pointer (some ⟨w.heap.size,9,none⟩)) (by cases p102<;>kernel_rfl) (fun hc K' hK'=>?_) ?_
  ·subst hc
   try simp only [cond_true]
   go_step
   exact hK'
  simp only [Act.put,sT1,sT2,sT3]
  refine wpL_sym p102 (.int .i64 m.co) (by cases p102<;>kernel_rfl) (fun hc K' hK'=>?_) ?_
  ·subst hc
   try simp only [cond_true]
   obtain ⟨u0,u1,u2,u3,u4,u5,u6,u7,u8,u9,u10,u11⟩:=(HM.out.ext HX47.out).cells
   go_step
   exact hK'
  simp only [Act.put,sT1,sT2,sT3]
  refine wpL_sym p102 (.bool q103) (by cases p102<;>kernel_rfl) (fun hc K' hK'=>?_) ?_
  ·subst hc
   try simp only [cond_true]
   have hq:=Hq103.out
   subst hq
   go_step
   exact hK'
  simp only [Act.put,sT1,sT2,sT3]
  refine wpL_val (.bool p104) rfl (fun K' hK'=>?_) ?_
  ·have hp:=Hp104.out
   subst hp
   cases p102
   ·go_step
    exact hK'
   ·go_step
    exact hK'
  simp only [Act.put,sT1,sT2,sT3]
  refine wpL_val (.bool p104) rfl (fun K' hK'=>?_) ?_
  ·go_step
   exact hK'
  simp only [Act.put,sT1,sT2,sT3]
  refine wpL_sym p104 (.pointer (some ⟨w.heap.size,9,none⟩)) (by cases p104<;>kernel_rfl) (fun hc K' hK'=>?_) ?_
  ·subst hc
   try simp only [cond_true]
   go_step
   exact hK'
  simp only [Act.put,sT1,sT2,sT3]
  refine wpL_sym p104 (.int .i64 m.co) (by cases p104<;>kernel_rfl) (fun hc K' hK'=>?_) ?_
  ·subst hc
   try simp only [cond_true]
   obtain ⟨u0,u1,u2,u3,u4,u5,u6,u7,u8,u9,u10,u11⟩:=(HM.out.ext HX47.out).cells
   go_step
   exact hK'
  simp only [Act.put,sT1,sT2,sT3]
  refine wpL_sym p104 (.bool q105) (by cases p104<;>kernel_rfl) (fun hc K' hK'=>?_) ?_
  ·subst hc
   try simp only [cond_true]
   have hq:=Hq105.out
   subst hq
   go_step
   exact hK'
  simp only [Act.put,sT1,sT2,sT3]
  refine wpL_val (.bool p106) rfl (fun K' hK'=>?_) ?_
  ·have hp:=Hp106.out
   subst hp
   cases p104
   ·go_step
    exact hK'
   ·go_step
    exact hK'
  simp only [Act.put,sT1,sT2,sT3]
  refine wpL_val (.bool p106) rfl (fun K' hK'=>?_) ?_
  ·go_step
   exact hK'
  simp only [Act.put,sT1,sT2,sT3]
  refine wpL_sym p106 (.pointer (some ⟨w.heap.size,10,none⟩)) (by cases p106<;>kernel_rfl) (fun hc K' hK'=>?_) ?_
  ·subst hc
   try simp only [cond_true]
   go_step
   exact hK'
  simp only [Act.put,sT1,sT2,sT3]
  refine wpL_sym p106 (.int .i64 m.pr) (by cases p106<;>kernel_rfl) (fun hc K' hK'=>?_) ?_
  ·subst hc
   try simp only [cond_true]
   obtain ⟨u0,u1,u2,u3,u4,u5,u6,u7,u8,u9,u10,u11⟩:=(HM.out.ext HX47.out).cells
   go_step
   exact hK'
  simp only [Act.put,sT1,sT2,sT3]
  refine wpL_sym p106 (.bool q107) (by cases p106<;>kernel_rfl) (fun hc K' hK'=>?_) ?_
  ·subst hc
   try simp only [cond_true]
   have hq:=Hq107.out
   subst hq
   go_step
   exact hK'
  simp only [Act.put,sT1,sT2,sT3]
  refine wpL_val (.bool p108) rfl (fun K' hK'=>?_) ?_
  ·have hp:=Hp108.out
   subst hp
   cases p106
   ·go_step
    exact hK'
   ·go_step
    exact hK'
  simp only [Act.put,sT1,sT2,sT3]
  refine wpL_val (.bool p108) rfl (fun K' hK'=>?_) ?_
  ·go_step
   exact hK'
  simp only [Act.put,sT1,sT2,sT3]
  refine wpL_sym p108 (.pointer (some ⟨w.heap.size,10,none⟩)) (by cases p108<;>kernel_rfl) (fun hc K' hK'=>?_) ?_
  ·subst hc
   try simp only [cond_true]
   go_step
   exact hK'
  simp only [Act.put,sT1,sT2,sT3]
  refine wpL_sym p108 (.int .i64 m.pr) (by cases p108<;>kernel_rfl) (fun hc K' hK'=>?_) ?_
  ·subst hc
   try simp only [cond_true]
   obtain ⟨u0,u1,u2,u3,u4,u5,u6,u7,u8,u9,u10,u11⟩:=(HM.out.ext HX47.out).cells
   go_step
   exact hK'
  simp only [Act.put,sT1,sT2,sT3]
  refine wpL_sym p108 (.bool q109) (by cases p108<;>kernel_rfl) (fun hc K' hK'=>?_) ?_
  ·subst hc
   try simp only [cond_true]
   have hq:=Hq109.out
   subst hq
   go_step
   exact hK'
  simp only [Act.put,sT1,sT2,sT3]
  refine wpL_val (.bool p110) rfl (fun K' hK'=>?_) ?_
  ·have hp:=Hp110.out
   subst hp
   cases p108
   ·go_step
    exact hK'
   ·go_step
    exact hK'
  simp only [Act.put,sT1,sT2,sT3]
  refine wpL_val (.bool p110) rfl (fun K' hK'=>?_) ?_
  ·go_step
   exact hK'
  simp only [Act.put,sT1,sT2,sT3]
  refine wpL_sym p110 (.pointer (some ⟨w.heap.size,11,none⟩)) (by cases p110<;>kernel_rfl) (fun hc K' hK'=>?_) ?_
  ·subst hc
   try simp only [cond_true]
   go_step
   exact hK'
  simp only [Act.put,sT1,sT2,sT3]
  refine wpL_sym p110 (.int .u32 (m.fl.toNat:Int)) (by cases p110<;>kernel_rfl) (fun hc K' hK'=>?_) ?_
  ·subst hc
   try simp only [cond_true]
   obtain ⟨u0,u1,u2,u3,u4,u5,u6,u7,u8,u9,u10,u11⟩:=(HM.out.ext HX47.out).cells
   go_step
   exact hK'
  simp only [Act.put,sT1,sT2,sT3]
  refine wpL_sym p110 (.bool q111) (by cases p110<;>kernel_rfl) (fun hc K' hK'=>?_) ?_
  ·subst hc
   try simp only [cond_true]
   have hq:=Hq111.out
   subst hq
   go_step
   exact hK'
  simp only [Act.put,sT1,sT2,sT3]
  refine wpL_val (.bool p112) rfl (fun K' hK'=>?_) ?_
  ·have hp:=Hp112.out
   subst hp
   cases p110
   ·go_step
    exact hK'
   ·go_step
    exact hK'
  simp only [Act.put,sT1,sT2,sT3]
  go_wp2_with fail
  go_ret
  refine ⟨?_,HX.out.trans HX47.out⟩
  have HL:=Hp19.out
  have h:=Hp112.out;subst h
  have h:=Hq111.out;subst h
  have h:=Hp110.out;subst h
  have h:=Hq109.out;subst h
  have h:=Hp108.out;subst h
  have h:=Hq107.out;subst h
  have h:=Hp106.out;subst h
  have h:=Hq105.out;subst h
  have h:=Hp104.out;subst h
  have h:=Hq103.out;subst h
  have h:=Hp102.out;subst h
  have h:=Hp101.out;subst h
  have h:=Hp18.out;subst h
  have h:=Hq17.out;subst h
  have h:=Hc16.out;subst h
  have h:=Hp15.out;subst h
  have h:=Hq14.out;subst h
  have h:=Hc13.out;subst h
  have h:=Hq12.out;subst h
  have h:=Hc11.out;subst h
  have h:=Hp10.out;subst h
  have h:=Hq9.out;subst h
  have h:=Hc8.out;subst h
  have h:=Hp7.out;subst h
  have h:=Hq6.out;subst h
  have h:=Hc5.out;subst h
  have h:=Hp4.out;subst h
  have h:=Hq3.out;subst h
  have h:=Hc2.out;subst h
  have h:=Hq1.out;subst h
  rw [show ((((decide (m.t<0)||decide ((1099511627776:Int)<m.t))||decide (m.mi<0))||decide ((999999:Int)<m.mi))||(((m.kd != 0)&&(m.kd != 10))&&(m.kd != 12)))=false from HL];rfl
theorem RFValid_at (m:FV) (w:World) (hm:m.In w) (hz:m.Sz):
  Calls Tryz.prog 25 #[m.val] w fun e w'=>e=.returned (.bool m.fct.ok)∧Ext w w':=RFValid_at2 m w hm (by have:=hz.cr;omega) (by have:=hz.sr;omega)
set_option maxRecDepth 100000 in
set_option maxHeartbeats 1000000 in
theorem RFailure_at (m:FV) (w:World) (hm:m.In w):
  Calls Tryz.prog 96 #[m.val] w fun e w'=>e=.returned (.bool (failB m.fct))∧Ext w w':=by
 have hfb:failB m.fct=((m.kd==10&&m.co==24) && !noneN m.fct.cp m.fct.cr):=by
  unfold failB
  rw [show decide (m.fct.kd=10)=(m.kd==10) from rfl,show decide (m.fct.co=24)=(m.co==24) from rfl]
 rw [hfb]
 clear hfb
 have h0:FQ (w.alloc (.cells #[.int .i64 m.t,.int .i64 m.mi,.int .i64 m.kd,.int .i64 m.fk,.slice m.FA m.fb.length m.fc,.slice m.CA m.cp.length m.cc,.string m.cr,.slice m.SA m.sp.length m.sc,.string m.sr,.int .i64 m.co,.int .i64 m.pr,.int .u32 (m.fl.toNat:Int)] 41)) w.heap.size m:=heap_alloc_new w _
 have hx:=(Ext.refl w).alloc (.cells #[.int .i64 m.t,.int .i64 m.mi,.int .i64 m.kd,.int .i64 m.fk,.slice m.FA m.fb.length m.fc,.slice m.CA m.cp.length m.cc,.string m.cr,.slice m.SA m.sp.length m.sc,.string m.sr,.int .i64 m.co,.int .i64 m.pr,.int .u32 (m.fl.toNat:Int)] 41)
 obtain ⟨W1,e1⟩:∃ W,w.alloc (.cells #[.int .i64 m.t,.int .i64 m.mi,.int .i64 m.kd,.int .i64 m.fk,.slice m.FA m.fb.length m.fc,.slice m.CA m.cp.length m.cc,.string m.cr,.slice m.SA m.sp.length m.sc,.string m.sr,.int .i64 m.co,.int .i64 m.pr,.int .u32 (m.fl.toNat:Int)] 41)=W:=⟨_,rfl⟩
 rw [e1] at h0 hx
 have HM:=Lib.hid h0;have HX:=Lib.hid hx
 have HC0:=Lib.hid (fun W (hw:Ext W1 W)=>RNone_at m.CA m.cp.length m.cc m.cr W)
 rw [none_dec] at HC0
 obtain ⟨bc,hbc⟩:∃ q,noneN (dat m.cp) m.cr.data.toList=q:=⟨_,rfl⟩
 rw [show noneN m.fct.cp m.fct.cr=noneN (dat m.cp) m.cr.data.toList from rfl]
 rw [hbc] at HC0 ⊢
 unfold FV.val
 clear h0 hx hm hbc
 obtain ⟨q1,hq1⟩:∃ q1:Bool,(m.kd==10)=q1:=⟨_,rfl⟩
 have Hq1:=Lib.hid hq1;clear hq1
 obtain ⟨q2,hq2⟩:∃ q2:Bool,(m.co==24)=q2:=⟨_,rfl⟩
 have Hq2:=Lib.hid hq2;clear hq2
 obtain ⟨p3,hp3⟩:∃ p3:Bool,(q1&&q2)=p3:=⟨_,rfl⟩
 have Hp3:=Lib.hid hp3;clear hp3
 obtain ⟨q4,hq4⟩:∃ q4:Bool,(!bc)=q4:=⟨_,rfl⟩
 have Hq4:=Lib.hid hq4;clear hq4
 obtain ⟨p5,hp5⟩:∃ p5:Bool,(p3&&q4)=p5:=⟨_,rfl⟩
 have Hp5:=Lib.hid hp5;clear hp5
 have HX0:=Lib.hid (Ext.refl W1)
 go_enter Tryz.func96,Tryz.ntmps96
 go_upto_region 1 with fail
 refine wp_region_lit ?_
 refine wpL_val (.pointer (some ⟨w.heap.size,2,none⟩)) rfl (fun K' hK'=>?_) ?_
 ·go_step
  exact hK'
 simp only [Act.put,sT1,sT2,sT3]
 refine wpL_val (.int .i64 m.kd) rfl (fun K' hK'=>?_) ?_
 ·obtain ⟨u0,u1,u2,u3,u4,u5,u6,u7,u8,u9,u10,u11⟩:=(HM.out.ext HX0.out).cells
  go_step
  exact hK'
 simp only [Act.put,sT1,sT2,sT3]
 refine wpL_val (.bool q1) rfl (fun K' hK'=>?_) ?_
 ·have hq:=Hq1.out
  subst hq
  go_step
  exact hK'
 simp only [Act.put,sT1,sT2,sT3]
 refine wpL_val (.bool q1) rfl (fun K' hK'=>?_) ?_
 ·go_step
  exact hK'
 simp only [Act.put,sT1,sT2,sT3]
 refine wpL_sym q1 (.pointer (some ⟨w.heap.size,9,none⟩)) (by cases q1<;>kernel_rfl) (fun hc K' hK'=>?_) ?_
 ·subst hc
  try simp only [cond_true]
  go_step
  exact hK'
 simp only [Act.put,sT1,sT2,sT3]
 refine wpL_sym q1 (.int .i64 m.co) (by cases q1<;>kernel_rfl) (fun hc K' hK'=>?_) ?_
 ·subst hc
  try simp only [cond_true]
  obtain ⟨u0,u1,u2,u3,u4,u5,u6,u7,u8,u9,u10,u11⟩:=(HM.out.ext HX0.out).cells
  go_step
  exact hK'
 simp only [Act.put,sT1,sT2,sT3]
 refine wpL_sym q1 (.bool q2) (by cases q1<;>kernel_rfl) (fun hc K' hK'=>?_) ?_
 ·subst hc
  try simp only [cond_true]
  have hq:=Hq2.out
  subst hq
  go_step
  exact hK'
 simp only [Act.put,sT1,sT2,sT3]
 refine wpL_val (.bool p3) rfl (fun K' hK'=>?_) ?_
 ·have hp:=Hp3.out
  subst hp
  cases q1
  ·go_step
   exact hK'
  ·go_step
   exact hK'
 simp only [Act.put,sT1,sT2,sT3]
 refine wpL_val (.bool p3) rfl (fun K' hK'=>?_) ?_
 ·go_step
  exact hK'
 simp only [Act.put,sT1,sT2,sT3]
 refine wpL_sym p3 (.pointer (some ⟨w.heap.size,5,none⟩)) (by cases p3<;>kernel_rfl) (fun hc K' hK'=>?_) ?_
 ·subst hc
  try simp only [cond_true]
  go_step
  exact hK'
 simp only [Act.put,sT1,sT2,sT3]
 refine wpL_sym p3 (.agg #[.slice m.CA m.cp.length m.cc,.string m.cr]) (by cases p3<;>kernel_rfl) (fun hc K' hK'=>?_) ?_
 ·subst hc
  try simp only [cond_true]
  obtain ⟨u0,u1,u2,u3,u4,u5,u6,u7,u8,u9,u10,u11⟩:=(HM.out.ext HX0.out).cells
  go_step
  exact hK'
 simp only [Act.put,sT1,sT2,sT3]
 refine wpL_symcall p3 (.bool bc) (by cases p3<;>kernel_rfl) (fun hc K' hK'=>?_) (fun wc14 hx=>?_)
 ·subst hc
  try simp only [cond_true]
  go_step
  refine (HC0.out W1 HX0.out).mono ?_
  rintro _ w2 ⟨rfl,hx⟩
  exact hK' _ hx
 have HX14:=Lib.hid (HX0.out.trans hx);clear hx
 simp only [Act.put,sT1,sT2,sT3]
 refine wpL_sym p3 (.bool q4) (by cases p3<;>kernel_rfl) (fun hc K' hK'=>?_) ?_
 ·subst hc
  try simp only [cond_true]
  have hq:=Hq4.out
  subst hq
  go_step
  exact hK'
 simp only [Act.put,sT1,sT2,sT3]
 refine wpL_val (.bool p5) rfl (fun K' hK'=>?_) ?_
 ·have hp:=Hp5.out
  subst hp
  cases p3
  ·go_step
   exact hK'
  ·go_step
   exact hK'
 simp only [Act.put,sT1,sT2,sT3]
 go_wp2_with fail
 go_ret
 refine ⟨?_,HX.out.trans HX14.out⟩
 have h:=Hp5.out;subst h
 have h:=Hq4.out;subst h
 have h:=Hp3.out;subst h
 have h:=Hq2.out;subst h
 have h:=Hq1.out;subst h
 rfl
theorem who_P (m q:FV):sameP m.cp m.cr q.cp q.cr=decide (who false m.fct=who false q.fct):=by
 rw [sameP_eq]
 show _=decide (Who.client (dat m.cp) m.cr.data.toList=Who.client (dat q.cp) q.cr.data.toList)
 rw [← Bool.decide_and]
 exact decide_eq_decide.2 ⟨fun h=>by rw [h.1,h.2],fun h=>by injection h with h1 h2;exact ⟨h1,h2⟩⟩
theorem who_A (m q:FV):(m.fk==q.fk&&m.fb==q.fb)=decide (who true m.fct=who true q.fct):=by
 show _=decide (Who.from m.fk m.fb=Who.from q.fk q.fb)
 rw [Bool.eq_iff_iff,Bool.and_eq_true,beq_iff_eq,beq_iff_eq,decide_eq_true_eq]
 exact ⟨fun h=>by rw [h.1,h.2],fun h=>by injection h with h1 h2;exact ⟨h1,h2⟩⟩
set_option maxRecDepth 100000 in
set_option maxHeartbeats 1000000 in
theorem AlikeA_at (m q:FV) (w:World) (hm:m.In w) (hq:q.In w) (hmz:m.cp.length≤1000) (hqz:q.cp.length≤1000):
  Calls Tryz.prog 143 #[m.val,q.val,.bool true] w fun e w'=>e=.returned (.bool (decide (who true m.fct=who true q.fct)))∧Ext w w':=by
 obtain ⟨W2,e2,h0,h1,hx⟩:=boxesF w m q
 have HX:=Lib.hid hx
 have HC0:=Lib.hid (RAEqual_at m.fk q.fk m.fb q.fb m.FA q.FA m.fc q.fc W2 (hm.fb.ext hx) (hq.fb.ext hx))
 unfold adv at HC0
 rw [who_A] at HC0
 obtain ⟨c0,c1,c2,c3,c4,c5,c6,c7,c8,c9,c10,c11⟩:=h0.cells
 obtain ⟨d0,d1,d2,d3,d4,d5,d6,d7,d8,d9,d10,d11⟩:=h1.cells
 generalize decide (who true m.fct=who true q.fct)=r at *
 unfold FV.val
 clear h0 h1 hx hm hq hmz hqz
 go_enter Tryz.func143,Tryz.ntmps143
 go_wp2_with fail
 refine HC0.out.mono ?_
 rintro _ w3 ⟨rfl,hx3⟩
 have HX3:=Lib.hid (HX.out.trans hx3)
 clear hx3
 go_wp2_with fail
 go_ret
 exact ⟨rfl,HX3.out⟩
set_option maxRecDepth 100000 in
set_option maxHeartbeats 1000000 in
theorem AlikeP_at (m q:FV) (w:World) (hm:m.In w) (hq:q.In w) (hmz:m.cp.length≤1000) (hqz:q.cp.length≤1000):
  Calls Tryz.prog 143 #[m.val,q.val,.bool false] w fun e w'=>e=.returned (.bool (decide (who false m.fct=who false q.fct)))∧Ext w w':=by
 obtain ⟨W2,e2,h0,h1,hx⟩:=boxesF w m q
 have HX:=Lib.hid hx
 have HC0:=Lib.hid (SameP_at m.CA m.cc m.cp m.cr q.CA q.cc q.cp q.cr hmz hqz W2 (hm.cp.ext hx) (hq.cp.ext hx))
 rw [who_P] at HC0
 obtain ⟨c0,c1,c2,c3,c4,c5,c6,c7,c8,c9,c10,c11⟩:=h0.cells
 obtain ⟨d0,d1,d2,d3,d4,d5,d6,d7,d8,d9,d10,d11⟩:=h1.cells
 generalize decide (who false m.fct=who false q.fct)=r at *
 unfold FV.val
 clear h0 h1 hx hm hq hmz hqz
 go_enter Tryz.func143,Tryz.ntmps143
 go_wp2_with fail
 refine HC0.out.mono ?_
 rintro _ w3 ⟨rfl,hx3⟩
 have HX3:=Lib.hid (HX.out.trans hx3)
 clear hx3
 go_wp2_with fail
 go_ret
 exact ⟨rfl,HX3.out⟩
def ROP (l:List Fct)(w:World)(e:Ending)(w':World):Prop:=∃ b:Bool,e=.returned (.bool b)∧(b=true ↔ ordTo l l.length)∧Ext w w'
set_option maxRecDepth 100000 in
set_option maxHeartbeats 4000000 in
theorem RInOrder_at (A:Option Addr) (c:Nat) (xs:List FV) (w:World) (hF:FS w (.slice A xs.length c) xs) (hn:xs.length≤1000) (hz:∀ x∈xs,x.Sz):
  Calls Tryz.prog 95 #[.slice A xs.length c] w (ROP (xs.map FV.fct) w):=by
 have HF:=Lib.hid hF;have HZ:=Lib.hid hz
 obtain ⟨n,hn'⟩:∃ n,xs.length=n:=⟨_,rfl⟩
 have HN:=Lib.hid hn'
 rw [hn'] at hn ⊢ HF
 clear hF hz hn'
 go_enter Tryz.func95,Tryz.ntmps95
 go_wp2_with fail
 go_loopw [3] (fun i wr=>∃ k:Nat,i=.int .i64 (k:Int)∧k≤n∧Hid (ordTo (xs.map FV.fct) k)∧Hid (Ext w wr)) (fun i _=>n-(intOf i).toNat)
 case atStart=>exact ⟨0,rfl,by omega,Lib.hid (ordTo_zero _),Lib.hid (Ext.refl _)⟩
 case round=>
  obtain ⟨k,rfl,hk,HO,HX⟩:=hrel
  obtain ⟨wo,rfl⟩:∃ wo:World,wo=wr:=⟨_,rfl⟩
  by_cases hlt:k<n
  ·have hlx:k<xs.length:=by rw [HN.out];exact hlt
   obtain ⟨hin,ad,rfl,hq⟩:=(HF.out.ext HX.out).f12 k hlx
   have hsz:=HZ.out xs[k] (List.getElem_mem hlx)
   have HAK:=Lib.hid (atF_map hlx)
   have HKN:=Lib.hid (show k<(xs.map FV.fct).length by rw [List.length_map];exact hlx)
   obtain ⟨f,hf⟩:∃ f,xs[k]=f:=⟨_,rfl⟩
   rw [hf] at hin hsz HAK hq
   have HV:=Lib.hid (RFValid_at f wo hin hsz)
   unfold FV.val at HV
   obtain ⟨b,hb⟩:∃ b,f.fct.ok=b:=⟨_,rfl⟩
   rw [hb] at HV
   have HBK:=Lib.hid hb
   have HQ0:=Lib.hid hq
   obtain ⟨u0,u1,u2,u3,u4,u5,u6,u7,u8,u9,u10,u11⟩:=hq.cells
   clear hin hsz hb hf hq
   cases b with
   | false=>
    go_wp2_with fail
    refine HV.out.mono ?_
    rintro _ w2 ⟨rfl,hx2⟩
    have HX2:=Lib.hid (HX.out.trans hx2)
    clear hx2
    go_wp2_with fail
    go_ret
    exact ⟨false,rfl,⟨fun h=>absurd h (by decide),fun h=>by
     have:=(h k HKN.out).1
     rw [HAK.out,HBK.out] at this
     exact this⟩,HX2.out⟩
   | true=>
    have HAO:=Lib.hid (show (atF (xs.map FV.fct) k).ok=true by rw [HAK.out];exact HBK.out)
    go_wp2_with fail
    refine HV.out.mono ?_
    rintro _ w2 ⟨rfl,hx2⟩
    have HX2:=Lib.hid (HX.out.trans hx2)
    have HQ:=Lib.hid (HQ0.out.ext hx2)
    have HX02:=Lib.hid hx2
    clear hx2 u0 u1 u2 u3 u4 u5 u6 u7 u8 u9 u10 u11
    obtain ⟨j,hj⟩:∃ j,j=k-1:=⟨_,rfl⟩
    have hjn:j<n:=by omega
    have hjx:j<xs.length:=by rw [HN.out];exact hjn
    have HAJ:=Lib.hid (atF_map hjx)
    obtain ⟨hjin,ad',hadr,jj⟩:=(HF.out.ext HX2.out).f12 j hjx
    injection hadr with hadr
    subst hadr
    obtain ⟨g,hg⟩:∃ g,xs[j]=g:=⟨_,rfl⟩
    rw [hg] at jj HAJ
    clear hjin
    have HJ:=Lib.hid jj
    have HGF:=Lib.hid (show atF (xs.map FV.fct) k=f.fct∧atF (xs.map FV.fct) (k-1)=g.fct from ⟨HAK.out,by rw [← hj];exact HAJ.out⟩)
    have HKT:=Lib.hid (show k<n∧j<n from ⟨hlt,hjn⟩)
    have HBT:=Lib.hid (show (decide (0<k)&&(decide (f.t<g.t)||((f.t==g.t)&&decide (f.mi<g.mi))))=true ↔ (0<k∧backB (atF (xs.map FV.fct) (k-1)) (atF (xs.map FV.fct) k)=true) by
     rw [HGF.out.1,HGF.out.2,Bool.and_eq_true,decide_eq_true_eq]
     exact Iff.rfl)
    obtain ⟨q1,hq1⟩:∃ q1:Bool,(decide (0<k))=q1:=⟨_,rfl⟩
    have Hq1:=Lib.hid hq1;clear hq1
    obtain ⟨q2,hq2⟩:∃ q2:Bool,(decide (f.t<g.t))=q2:=⟨_,rfl⟩
    have Hq2:=Lib.hid hq2;clear hq2
    obtain ⟨c3,hc3⟩:∃ c3:Bool,(q1 && !q2)=c3:=⟨_,rfl⟩
    have Hc3:=Lib.hid hc3;clear hc3
    obtain ⟨q4,hq4⟩:∃ q4:Bool,(f.t==g.t)=q4:=⟨_,rfl⟩
    have Hq4:=Lib.hid hq4;clear hq4
    obtain ⟨c5,hc5⟩:∃ c5:Bool,(c3&&q4)=c5:=⟨_,rfl⟩
    have Hc5:=Lib.hid hc5;clear hc5
    obtain ⟨q6,hq6⟩:∃ q6:Bool,(decide (f.mi<g.mi))=q6:=⟨_,rfl⟩
    have Hq6:=Lib.hid hq6;clear hq6
    obtain ⟨p7,hp7⟩:∃ p7:Bool,(q4&&q6)=p7:=⟨_,rfl⟩
    have Hp7:=Lib.hid hp7;clear hp7
    obtain ⟨p8,hp8⟩:∃ p8:Bool,(q2||p7)=p8:=⟨_,rfl⟩
    have Hp8:=Lib.hid hp8;clear hp8
    obtain ⟨p9,hp9⟩:∃ p9:Bool,(q1&&p8)=p9:=⟨_,rfl⟩
    have Hp9:=Lib.hid hp9;clear hp9
    have HEW:=Lib.hid (show q1=true→(wrap64 ((k:Int)-1)=(j:Int)∧(k:Int)-1=(j:Int)) from fun h=>by
     rw [← Hq1.out,decide_eq_true_eq] at h
     refine ⟨?_,by omega⟩
     rw [IntWalk.wrap64_in _ (by omega)]
     omega)
    have HLS:=Lib.hid (show (decide (0<k)&&(decide (f.t<g.t)||((f.t==g.t)&&decide (f.mi<g.mi))))=p9 by
     have h:=Hp9.out;subst h
     have h:=Hp8.out;subst h
     have h:=Hp7.out;subst h
     have h:=Hq6.out;subst h
     have h:=Hc5.out;subst h
     have h:=Hq4.out;subst h
     have h:=Hc3.out;subst h
     have h:=Hq2.out;subst h
     have h:=Hq1.out;subst h
     rfl)
    rw [HLS.out] at HBT
    clear hj hjx jj hg HAJ
    go_upto_region 6 with fail
    refine wp_region_ext (fun i v' w'=>match i with  | _=>False) (by kernel_rfl) (by kernel_rfl) ?_
    refine wpE_val (.int .i64 (k:Int)) rfl rfl (fun w' hw' K' hK'=>?_) ?_
    ·have hE:=hw'.1
     go_step
     exact hK'
    simp only [Act.put,sT1,sT2,sT3]
    refine wpE_val (.bool q1) rfl rfl (fun w' hw' K' hK'=>?_) ?_
    ·have hE:=hw'.1
     have hq:=Hq1.out
     subst hq
     go_step
     exact hK'
    simp only [Act.put,sT1,sT2,sT3]
    refine wpE_val (.bool q1) rfl rfl (fun w' hw' K' hK'=>?_) ?_
    ·have hE:=hw'.1
     go_step
     exact hK'
    simp only [Act.put,sT1,sT2,sT3]
    refine wpE_sym q1 (.slice (some ad) n c) (by cases q1<;>kernel_rfl) rfl (fun hc w' hw' K' hK'=>?_) ?_
    ·have hE:=hw'.1
     subst hc
     try simp only [cond_true]
     go_step
     exact hK'
    simp only [Act.put,sT1,sT2,sT3]
    refine wpE_sym q1 (.int .i64 (k:Int)) (by cases q1<;>kernel_rfl) rfl (fun hc w' hw' K' hK'=>?_) ?_
    ·have hE:=hw'.1
     subst hc
     try simp only [cond_true]
     go_step
     exact hK'
    simp only [Act.put,sT1,sT2,sT3]
    refine wpE_sym q1 (.pointer (some (ad.add (k*12)))) (by cases q1<;>kernel_rfl) rfl (fun hc w' hw' K' hK'=>?_) ?_
    ·have hE:=hw'.1
     subst hc
     try simp only [cond_true]
     have hlt:=HKT.out.1
     go_step
     exact hK'
    simp only [Act.put,sT1,sT2,sT3]
    refine wpE_sym q1 (.pointer (some (ad.add (k*12)))) (by cases q1<;>kernel_rfl) rfl (fun hc w' hw' K' hK'=>?_) ?_
    ·have hE:=hw'.1
     subst hc
     try simp only [cond_true]
     go_step
     exact hK'
    simp only [Act.put,sT1,sT2,sT3]
    refine wpE_sym q1 (.int .i64 f.t) (by cases q1<;>kernel_rfl) rfl (fun hc w' hw' K' hK'=>?_) ?_
    ·have hE:=hw'.1
     subst hc
     try simp only [cond_true]
     obtain ⟨u0,u1,u2,u3,u4,u5,u6,u7,u8,u9,u10,u11⟩:=(HQ.out.ext ((Ext.drew w2).trans hE)).cells
     go_step
     exact hK'
    simp only [Act.put,sT1,sT2,sT3]
    refine wpE_sym q1 (.slice (some ad) n c) (by cases q1<;>kernel_rfl) rfl (fun hc w' hw' K' hK'=>?_) ?_
    ·have hE:=hw'.1
     subst hc
     try simp only [cond_true]
     go_step
     exact hK'
    simp only [Act.put,sT1,sT2,sT3]
    refine wpE_sym q1 (.int .i64 (k:Int)) (by cases q1<;>kernel_rfl) rfl (fun hc w' hw' K' hK'=>?_) ?_
    ·have hE:=hw'.1
     subst hc
     try simp only [cond_true]
     go_step
     exact hK'
    simp only [Act.put,sT1,sT2,sT3]
    refine wpE_sym q1 (.int .i64 (j:Int)) (by cases q1<;>kernel_rfl) rfl (fun hc w' hw' K' hK'=>?_) ?_
    ·have hE:=hw'.1
     subst hc
     try simp only [cond_true]
     obtain ⟨ew,ej⟩:=HEW.out (rfl)
     go_step
     exact hK'
    simp only [Act.put,sT1,sT2,sT3]
    refine wpE_sym q1 (.pointer (some (ad.add (j*12)))) (by cases q1<;>kernel_rfl) rfl (fun hc w' hw' K' hK'=>?_) ?_
    ·have hE:=hw'.1
     subst hc
     try simp only [cond_true]
     have hjn:=HKT.out.2
     go_step
     exact hK'
    simp only [Act.put,sT1,sT2,sT3]
    refine wpE_sym q1 (.pointer (some (ad.add (j*12)))) (by cases q1<;>kernel_rfl) rfl (fun hc w' hw' K' hK'=>?_) ?_
    ·have hE:=hw'.1
     subst hc
     try simp only [cond_true]
     go_step
     exact hK'
    simp only [Act.put,sT1,sT2,sT3]
    refine wpE_sym q1 (.int .i64 g.t) (by cases q1<;>kernel_rfl) rfl (fun hc w' hw' K' hK'=>?_) ?_
    ·have hE:=hw'.1
     subst hc
     try simp only [cond_true]
     obtain ⟨u0,u1,u2,u3,u4,u5,u6,u7,u8,u9,u10,u11⟩:=(HJ.out.ext ((Ext.drew w2).trans hE)).cells
     go_step
     exact hK'
    simp only [Act.put,sT1,sT2,sT3]
    refine wpE_sym q1 (.bool q2) (by cases q1<;>kernel_rfl) rfl (fun hc w' hw' K' hK'=>?_) ?_
    ·have hE:=hw'.1
     subst hc
     try simp only [cond_true]
     have hq:=Hq2.out
     subst hq
     go_step
     exact hK'
    simp only [Act.put,sT1,sT2,sT3]
    refine wpE_sym q1 (.bool q2) (by cases q1<;>kernel_rfl) rfl (fun hc w' hw' K' hK'=>?_) ?_
    ·have hE:=hw'.1
     subst hc
     try simp only [cond_true]
     go_step
     exact hK'
    simp only [Act.put,sT1,sT2,sT3]
    refine wpE_sym c3 (.slice (some ad) n c) (by rw [← Hc3.out];cases q1<;>cases q2<;>kernel_rfl) rfl (fun hc w' hw' K' hK'=>?_) ?_
    ·have hE:=hw'.1
     subst hc
     try simp only [cond_true]
     go_step
     exact hK'
    simp only [Act.put,sT1,sT2,sT3]
    refine wpE_sym c3 (.int .i64 (k:Int)) (by rw [← Hc3.out];cases q1<;>cases q2<;>kernel_rfl) rfl (fun hc w' hw' K' hK'=>?_) ?_
    ·have hE:=hw'.1
     subst hc
     try simp only [cond_true]
     go_step
     exact hK'
    simp only [Act.put,sT1,sT2,sT3]
    refine wpE_sym c3 (.pointer (some (ad.add (k*12)))) (by rw [← Hc3.out];cases q1<;>cases q2<;>kernel_rfl) rfl (fun hc w' hw' K' hK'=>?_) ?_
    ·have hE:=hw'.1
     subst hc
     try simp only [cond_true]
     have hlt:=HKT.out.1
     go_step
     exact hK'
    simp only [Act.put,sT1,sT2,sT3]
    refine wpE_sym c3 (.pointer (some (ad.add (k*12)))) (by rw [← Hc3.out];cases q1<;>cases q2<;>kernel_rfl) rfl (fun hc w' hw' K' hK'=>?_) ?_
    ·have hE:=hw'.1
     subst hc
     try simp only [cond_true]
     go_step
     exact hK'
    simp only [Act.put,sT1,sT2,sT3]
    refine wpE_sym c3 (.int .i64 f.t) (by rw [← Hc3.out];cases q1<;>cases q2<;>kernel_rfl) rfl (fun hc w' hw' K' hK'=>?_) ?_
    ·have hE:=hw'.1
     subst hc
     try simp only [cond_true]
     obtain ⟨u0,u1,u2,u3,u4,u5,u6,u7,u8,u9,u10,u11⟩:=(HQ.out.ext ((Ext.drew w2).trans hE)).cells
     go_step
     exact hK'
    simp only [Act.put,sT1,sT2,sT3]
    refine wpE_sym c3 (.slice (some ad) n c) (by rw [← Hc3.out];cases q1<;>cases q2<;>kernel_rfl) rfl (fun hc w' hw' K' hK'=>?_) ?_
    ·have hE:=hw'.1
     subst hc
     try simp only [cond_true]
     go_step
     exact hK'
    simp only [Act.put,sT1,sT2,sT3]
    refine wpE_sym c3 (.int .i64 (k:Int)) (by rw [← Hc3.out];cases q1<;>cases q2<;>kernel_rfl) rfl (fun hc w' hw' K' hK'=>?_) ?_
    ·have hE:=hw'.1
     subst hc
     try simp only [cond_true]
     go_step
     exact hK'
    simp only [Act.put,sT1,sT2,sT3]
    refine wpE_sym c3 (.int .i64 (j:Int)) (by rw [← Hc3.out];cases q1<;>cases q2<;>kernel_rfl) rfl (fun hc w' hw' K' hK'=>?_) ?_
    ·have hE:=hw'.1
     subst hc
     try simp only [cond_true]
     obtain ⟨ew,ej⟩:=HEW.out (by have h:=Hc3.out;revert h;cases q1<;>simp)
     go_step
     exact hK'
    simp only [Act.put,sT1,sT2,sT3]
    refine wpE_sym c3 (.pointer (some (ad.add (j*12)))) (by rw [← Hc3.out];cases q1<;>cases q2<;>kernel_rfl) rfl (fun hc w' hw' K' hK'=>?_) ?_
    ·have hE:=hw'.1
     subst hc
     try simp only [cond_true]
     have hjn:=HKT.out.2
     go_step
     exact hK'
    simp only [Act.put,sT1,sT2,sT3]
    refine wpE_sym c3 (.pointer (some (ad.add (j*12)))) (by rw [← Hc3.out];cases q1<;>cases q2<;>kernel_rfl) rfl (fun hc w' hw' K' hK'=>?_) ?_
    ·have hE:=hw'.1
     subst hc
     try simp only [cond_true]
     go_step
     exact hK'
    simp only [Act.put,sT1,sT2,sT3]
    refine wpE_sym c3 (.int .i64 g.t) (by rw [← Hc3.out];cases q1<;>cases q2<;>kernel_rfl) rfl (fun hc w' hw' K' hK'=>?_) ?_
    ·have hE:=hw'.1
     subst hc
     try simp only [cond_true]
     obtain ⟨u0,u1,u2,u3,u4,u5,u6,u7,u8,u9,u10,u11⟩:=(HJ.out.ext ((Ext.drew w2).trans hE)).cells
     go_step
     exact hK'
    simp only [Act.put,sT1,sT2,sT3]
    refine wpE_sym c3 (.bool q4) (by rw [← Hc3.out];cases q1<;>cases q2<;>kernel_rfl) rfl (fun hc w' hw' K' hK'=>?_) ?_
    ·have hE:=hw'.1
     subst hc
     try simp only [cond_true]
     have hq:=Hq4.out
     subst hq
     go_step
     exact hK'
    simp only [Act.put,sT1,sT2,sT3]
    refine wpE_sym c3 (.bool q4) (by rw [← Hc3.out];cases q1<;>cases q2<;>kernel_rfl) rfl (fun hc w' hw' K' hK'=>?_) ?_
    ·have hE:=hw'.1
     subst hc
     try simp only [cond_true]
     go_step
     exact hK'
    simp only [Act.put,sT1,sT2,sT3]
    refine wpE_sym c5 (.slice (some ad) n c) (by rw [← Hc5.out];cases c3<;>cases q4<;>kernel_rfl) rfl (fun hc w' hw' K' hK'=>?_) ?_
    ·have hE:=hw'.1
     subst hc
     try simp only [cond_true]
     go_step
     exact hK'
    simp only [Act.put,sT1,sT2,sT3]
    refine wpE_sym c5 (.int .i64 (k:Int)) (by rw [← Hc5.out];cases c3<;>cases q4<;>kernel_rfl) rfl (fun hc w' hw' K' hK'=>?_) ?_
    ·have hE:=hw'.1
     subst hc
     try simp only [cond_true]
     go_step
     exact hK'
    simp only [Act.put,sT1,sT2,sT3]
    refine wpE_sym c5 (.pointer (some (ad.add (k*12)))) (by rw [← Hc5.out];cases c3<;>cases q4<;>kernel_rfl) rfl (fun hc w' hw' K' hK'=>?_) ?_
    ·have hE:=hw'.1
     subst hc
     try simp only [cond_true]
     have hlt:=HKT.out.1
     go_step
     exact hK'
    simp only [Act.put,sT1,sT2,sT3]
    refine wpE_sym c5 (.pointer (some ⟨((ad.add (k*12))).block,((ad.add (k*12))).off+1,none⟩)) (by rw [← Hc5.out];cases c3<;>cases q4<;>kernel_rfl) rfl (fun hc w' hw' K' hK'=>?_) ?_
    ·have hE:=hw'.1
     subst hc
     try simp only [cond_true]
     go_step
     exact hK'
    simp only [Act.put,sT1,sT2,sT3]
    refine wpE_sym c5 (.int .i64 f.mi) (by rw [← Hc5.out];cases c3<;>cases q4<;>kernel_rfl) rfl (fun hc w' hw' K' hK'=>?_) ?_
    ·have hE:=hw'.1
     subst hc
     try simp only [cond_true]
     obtain ⟨u0,u1,u2,u3,u4,u5,u6,u7,u8,u9,u10,u11⟩:=(HQ.out.ext ((Ext.drew w2).trans hE)).cells
     go_step
     exact hK'
    simp only [Act.put,sT1,sT2,sT3]
    refine wpE_sym c5 (.slice (some ad) n c) (by rw [← Hc5.out];cases c3<;>cases q4<;>kernel_rfl) rfl (fun hc w' hw' K' hK'=>?_) ?_
    ·have hE:=hw'.1
     subst hc
     try simp only [cond_true]
     go_step
     exact hK'
    simp only [Act.put,sT1,sT2,sT3]
    refine wpE_sym c5 (.int .i64 (k:Int)) (by rw [← Hc5.out];cases c3<;>cases q4<;>kernel_rfl) rfl (fun hc w' hw' K' hK'=>?_) ?_
    ·have hE:=hw'.1
     subst hc
     try simp only [cond_true]
     go_step
     exact hK'
    simp only [Act.put,sT1,sT2,sT3]
    refine wpE_sym c5 (.int .i64 (j:Int)) (by rw [← Hc5.out];cases c3<;>cases q4<;>kernel_rfl) rfl (fun hc w' hw' K' hK'=>?_) ?_
    ·have hE:=hw'.1
     subst hc
     try simp only [cond_true]
     obtain ⟨ew,ej⟩:=HEW.out (by have h:=Hc5.out;have h2:=Hc3.out;revert h h2;cases q1<;>cases c3<;>simp)
     go_step
     exact hK'
    simp only [Act.put,sT1,sT2,sT3]
    refine wpE_sym c5 (.pointer (some (ad.add (j*12)))) (by rw [← Hc5.out];cases c3<;>cases q4<;>kernel_rfl) rfl (fun hc w' hw' K' hK'=>?_) ?_
    ·have hE:=hw'.1
     subst hc
     try simp only [cond_true]
     have hjn:=HKT.out.2
     go_step
     exact hK'
    simp only [Act.put,sT1,sT2,sT3]
    refine wpE_sym c5 (.pointer (some ⟨((ad.add (j*12))).block,((ad.add (j*12))).off+1,none⟩)) (by rw [← Hc5.out];cases c3<;>cases q4<;>kernel_rfl) rfl (fun hc w' hw' K' hK'=>?_) ?_
    ·have hE:=hw'.1
     subst hc
     try simp only [cond_true]
     go_step
     exact hK'
    simp only [Act.put,sT1,sT2,sT3]
    refine wpE_sym c5 (.int .i64 g.mi) (by rw [← Hc5.out];cases c3<;>cases q4<;>kernel_rfl) rfl (fun hc w' hw' K' hK'=>?_) ?_
    ·have hE:=hw'.1
     subst hc
     try simp only [cond_true]
     obtain ⟨u0,u1,u2,u3,u4,u5,u6,u7,u8,u9,u10,u11⟩:=(HJ.out.ext ((Ext.drew w2).trans hE)).cells
     go_step
     exact hK'
    simp only [Act.put,sT1,sT2,sT3]
    refine wpE_sym c5 (.bool q6) (by rw [← Hc5.out];cases c3<;>cases q4<;>kernel_rfl) rfl (fun hc w' hw' K' hK'=>?_) ?_
    ·have hE:=hw'.1
     subst hc
     try simp only [cond_true]
     have hq:=Hq6.out
     subst hq
     go_step
     exact hK'
    simp only [Act.put,sT1,sT2,sT3]
    refine wpE_sym c3 (.bool p7) (by rw [← Hc3.out];cases q1<;>cases q2<;>kernel_rfl) rfl (fun hc w' hw' K' hK'=>?_) ?_
    ·have hE:=hw'.1
     subst hc
     try simp only [cond_true]
     have hp:=Hp7.out
     subst hp
     have hg:=Hc5.out
     subst hg
     cases q4
     ·go_step
      exact hK'
     ·go_step
      exact hK'
    simp only [Act.put,sT1,sT2,sT3]
    refine wpE_sym q1 (.bool p8) (by cases q1<;>kernel_rfl) rfl (fun hc w' hw' K' hK'=>?_) ?_
    ·have hE:=hw'.1
     subst hc
     try simp only [cond_true]
     have hp:=Hp8.out
     subst hp
     have hg:=Hc3.out
     subst hg
     cases q2
     ·go_step
      exact hK'
     ·go_step
      exact hK'
    simp only [Act.put,sT1,sT2,sT3]
    refine wpE_val (.bool p9) rfl rfl (fun w' hw' K' hK'=>?_) ?_
    ·have hE:=hw'.1
     have hp:=Hp9.out
     subst hp
     cases q1
     ·go_step
      exact hK'
     ·go_step
      exact hK'
    simp only [Act.put,sT1,sT2,sT3]
    refine wpE_nil (fun W hW=>?_)
    have HXW:=Lib.hid (HX2.out.trans ((Ext.drew _).trans hW.1))
    clear hW
    cases p9 with
    | true=>
     have HB:=Lib.hid (HBT.out.1 rfl)
     have HBAD:=Lib.hid (show ordTo (xs.map FV.fct) (xs.map FV.fct).length→(false=true) from fun h=>by
      have h2:=(h k HKN.out).2 HB.out.1
      rw [HB.out.2] at h2
      exact h2.symm)
     go_wp2_with fail
     go_ret
     exact ⟨false,rfl,⟨fun h=>absurd h (by decide),HBAD.out⟩,HXW.out⟩
    | false=>
     have HOS:=Lib.hid (ordTo_succ HO.out HAO.out (fun h=>by
      cases hb:backB (atF (xs.map FV.fct) (k-1)) (atF (xs.map FV.fct) k) with
      | false=>rfl
      | true=>exact absurd (HBT.out.2 ⟨h,hb⟩) (by decide)))
     go_wp2_with fail
     go_roundw
     case rel=>exact ⟨k+1,by go_num,by omega,HOS,HXW⟩
     case measure=>simp [intOf];omega
  ·obtain rfl:k=n:=by omega
   go_wp2_with fail
   go_ret
   refine ⟨true,rfl,⟨fun _=>?_,fun _=>rfl⟩,HX.out⟩
   rw [List.length_map,HN.out]
   exact HO.out
end Go.Proofs.YtnjmndofcpnmeaaGreatDoor
