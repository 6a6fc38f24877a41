/- Pq39. -/
import Derived.Test.YtnjmndofcpnmeaaGreatDoorPq0
import Derived.Test.YtnjmndofcpnmeaaGreatDoorPq38
import Derived.Test.YtnjmndofcpnmeaaGreatDoorPq23
import Derived.Test.YtnjmndofcpnmeaaGreatDoorPq29
import Derived.Test.YtnjmndofcpnmeaaGreatDoorPq30
import Derived.Test.YtnjmndofcpnmeaaGreatDoorPq18
import Derived.Deep.DeepCutAuto
import Derived.Laws.DeepStrings4
import Derived.Test.YtnjmndofcpnmeaaGreatDoorPq26
import Derived.Test.YtnjmndofcpnmeaaGreatDoorPq24
import Derived.Test.YtnjmndofcpnmeaaGreatDoorPq3
namespace Go.Proofs.YtnjmndofcpnmeaaGreatDoor
open Go Go.RowKit
set_option linter.unusedVariables false
theorem tk_4096 (f:W32):tkB f=decide ((f.toNat:Int)<4096):=by
 have e:(andW tkM f).toNat=f.toNat % 4096:=by
  unfold andW tkM
  rw [BitVec.toNat_and,Nat.and_comm]
  exact Nat.and_two_pow_sub_one_eq_mod f.toNat 12
 unfold tkB hasB
 rw [Bool.eq_iff_iff,beq_iff_eq,decide_eq_true_iff]
 constructor
 ·intro h
  have:=congrArg BitVec.toNat h
  rw [e] at this;omega
 ·intro h
  exact BitVec.eq_of_toNat_eq (by rw [e];omega)
theorem ok_ref (m:FV):m.fct.ok=(!((((decide (m.t<0)||decide ((1099511627776:Int)<m.t))||decide (m.mi<0))||decide ((999999:Int)<m.mi))||(((m.kd != 0)&&(m.kd != 10))&&(m.kd != 12)))&&(((((((okA m.fk m.fb&&prsB (dat m.cp) m.cr.data.toList)&&prsB (dat m.sp) m.sr.data.toList)&&decide ((0:Int)≤m.co))&&decide (m.co≤127))&&decide ((0:Int)≤m.pr))&&decide (m.pr≤999))&&decide ((m.fl.toNat:Int)<4096))):=by
 rw [Bool.eq_iff_iff,Fct.ok_iff]
 simp only [Bool.and_eq_true,Bool.not_eq_true',Bool.or_eq_false_iff,Bool.and_eq_false_iff,decide_eq_true_eq,decide_eq_false_iff_not,bne_eq_false_iff_eq,Int.not_lt]
 constructor
 ·rintro ⟨h1,h2,h3,h4,h5,h6,h7,h8,h9⟩
  dsimp only [FV.fct] at h1 h2 h3 h4 h5 h6 h7 h8 h9
  rw [tk_4096,decide_eq_true_eq] at h9
  refine ⟨⟨⟨⟨⟨h1.1,h1.2⟩,h2.1⟩,h2.2⟩,?_⟩,⟨⟨⟨⟨⟨⟨⟨h4,h5⟩,h6⟩,h7.1⟩,h7.2⟩,h8.1⟩,h8.2⟩,h9⟩⟩
  omega
 ·rintro ⟨⟨⟨⟨⟨a1,a2⟩,a3⟩,a4⟩,a5⟩,⟨⟨⟨⟨⟨⟨⟨h4,h5⟩,h6⟩,b1⟩,b2⟩,b3⟩,b4⟩,h9⟩⟩
  refine ⟨⟨a1,a2⟩,⟨a3,a4⟩,?_,h4,h5,h6,⟨b1,b2⟩,⟨b3,b4⟩,?_⟩
  ·dsimp only [FV.fct];omega
  ·dsimp only [FV.fct]
   rw [tk_4096,decide_eq_true_eq]
   exact h9
set_option maxRecDepth 100000 in
set_option maxHeartbeats 2000000 in
theorem RFValid_at2 (m:FV) (w:World) (hm:m.In w) (hcr:m.cr.size≤4294967280) (hsr:m.sr.size≤4294967280):
  Calls Tryz.prog 25 #[m.val] w fun e w'=>e=.returned (.bool m.fct.ok)∧Ext w w':=by
 have h0:FQ (w.alloc (.cells #[.int .i64 m.t,.int .i64 m.mi,.int .i64 m.kd,.int .i64 m.fk,.slice m.FA m.fb.length m.fc,.slice m.CA m.cp.length m.cc,.string m.cr,.slice m.SA m.sp.length m.sc,.string m.sr,.int .i64 m.co,.int .i64 m.pr,.int .u32 (m.fl.toNat:Int)] 41)) w.heap.size m:=heap_alloc_new w _
 have hx:=(Ext.refl w).alloc (.cells #[.int .i64 m.t,.int .i64 m.mi,.int .i64 m.kd,.int .i64 m.fk,.slice m.FA m.fb.length m.fc,.slice m.CA m.cp.length m.cc,.string m.cr,.slice m.SA m.sp.length m.sc,.string m.sr,.int .i64 m.co,.int .i64 m.pr,.int .u32 (m.fl.toNat:Int)] 41)
 obtain ⟨W2,e2⟩:∃ W,w.alloc (.cells #[.int .i64 m.t,.int .i64 m.mi,.int .i64 m.kd,.int .i64 m.fk,.slice m.FA m.fb.length m.fc,.slice m.CA m.cp.length m.cc,.string m.cr,.slice m.SA m.sp.length m.sc,.string m.sr,.int .i64 m.co,.int .i64 m.pr,.int .u32 (m.fl.toNat:Int)] 41)=W:=⟨_,rfl⟩
 rw [e2] at h0 hx
 have HM:=Lib.hid h0;have HX:=Lib.hid hx
 have HC0:=Lib.hid (fun W (hw:Ext W2 W)=>RAValid_at m.fk m.fb m.FA m.fc W (hm.fb.ext (hx.trans hw)))
 have HC1:=Lib.hid (fun W (hw:Ext W2 W)=>Person_at m.CA m.cc m.cp m.cr hcr W (hm.cp.ext (hx.trans hw)))
 have HC2:=Lib.hid (fun W (hw:Ext W2 W)=>Person_at m.SA m.sc m.sp m.sr hsr W (hm.sp.ext (hx.trans hw)))
 unfold adv at HC0
 rw [ok_ref]
 unfold FV.val
 obtain ⟨ac,hac⟩:∃ b,okA m.fk m.fb=b:=⟨_,rfl⟩
 obtain ⟨pc,hpc⟩:∃ b,prsB (dat m.cp) m.cr.data.toList=b:=⟨_,rfl⟩
 obtain ⟨sc,hsc⟩:∃ b,prsB (dat m.sp) m.sr.data.toList=b:=⟨_,rfl⟩
 rw [hac] at HC0 ⊢
 rw [hpc] at HC1 ⊢
 rw [hsc] at HC2 ⊢
 clear hpc hac hsc h0 hx hm hcr hsr
 obtain ⟨q1,hq1⟩:∃ q1:Bool,(decide (m.t<0))=q1:=⟨_,rfl⟩
 have Hq1:=Lib.hid hq1;clear hq1
 obtain ⟨c2,hc2⟩:∃ c2:Bool,(!q1)=c2:=⟨_,rfl⟩
 have Hc2:=Lib.hid hc2;clear hc2
 obtain ⟨q3,hq3⟩:∃ q3:Bool,(decide ((1099511627776:Int)<m.t))=q3:=⟨_,rfl⟩
 have Hq3:=Lib.hid hq3;clear hq3
 obtain ⟨p4,hp4⟩:∃ p4:Bool,(q1||q3)=p4:=⟨_,rfl⟩
 have Hp4:=Lib.hid hp4;clear hp4
 obtain ⟨c5,hc5⟩:∃ c5:Bool,(!p4)=c5:=⟨_,rfl⟩
 have Hc5:=Lib.hid hc5;clear hc5
 obtain ⟨q6,hq6⟩:∃ q6:Bool,(decide (m.mi<0))=q6:=⟨_,rfl⟩
 have Hq6:=Lib.hid hq6;clear hq6
 obtain ⟨p7,hp7⟩:∃ p7:Bool,(p4||q6)=p7:=⟨_,rfl⟩
 have Hp7:=Lib.hid hp7;clear hp7
 obtain ⟨c8,hc8⟩:∃ c8:Bool,(!p7)=c8:=⟨_,rfl⟩
 have Hc8:=Lib.hid hc8;clear hc8
 obtain ⟨q9,hq9⟩:∃ q9:Bool,(decide ((999999:Int)<m.mi))=q9:=⟨_,rfl⟩
 have Hq9:=Lib.hid hq9;clear hq9
 obtain ⟨p10,hp10⟩:∃ p10:Bool,(p7||q9)=p10:=⟨_,rfl⟩
 have Hp10:=Lib.hid hp10;clear hp10
 obtain ⟨c11,hc11⟩:∃ c11:Bool,(!p10)=c11:=⟨_,rfl⟩
 have Hc11:=Lib.hid hc11;clear hc11
 obtain ⟨q12,hq12⟩:∃ q12:Bool,((m.kd != 0))=q12:=⟨_,rfl⟩
 have Hq12:=Lib.hid hq12;clear hq12
 obtain ⟨c13,hc13⟩:∃ c13:Bool,(c11&&q12)=c13:=⟨_,rfl⟩
 have Hc13:=Lib.hid hc13;clear hc13
 obtain ⟨q14,hq14⟩:∃ q14:Bool,((m.kd != 10))=q14:=⟨_,rfl⟩
 have Hq14:=Lib.hid hq14;clear hq14
 obtain ⟨p15,hp15⟩:∃ p15:Bool,(q12&&q14)=p15:=⟨_,rfl⟩
 have Hp15:=Lib.hid hp15;clear hp15
 obtain ⟨c16,hc16⟩:∃ c16:Bool,(c11&&p15)=c16:=⟨_,rfl⟩
 have Hc16:=Lib.hid hc16;clear hc16
 obtain ⟨q17,hq17⟩:∃ q17:Bool,((m.kd != 12))=q17:=⟨_,rfl⟩
 have Hq17:=Lib.hid hq17;clear hq17
 obtain ⟨p18,hp18⟩:∃ p18:Bool,(p15&&q17)=p18:=⟨_,rfl⟩
 have Hp18:=Lib.hid hp18;clear hp18
 obtain ⟨p19,hp19⟩:∃ p19:Bool,(p10||p18)=p19:=⟨_,rfl⟩
 have Hp19:=Lib.hid hp19;clear hp19
 have HX0:=Lib.hid (Ext.refl W2)
 go_enter Tryz.func25,Tryz.ntmps25
 go_upto_region 1 with fail
 refine wp_region_lit ?_
 refine wpL_val (.pointer (some ⟨w.heap.size,0,none⟩)) rfl (fun K' hK'=>?_) ?_
 ·go_step
  exact hK'
 simp only [Act.put,sT1,sT2,sT3]
 refine wpL_val (.int .i64 m.t) rfl (fun K' hK'=>?_) ?_
 ·obtain ⟨u0,u1,u2,u3,u4,u5,u6,u7,u8,u9,u10,u11⟩:=(HM.out.ext HX0.out).cells
  go_step
  exact hK'
 simp only [Act.put,sT1,sT2,sT3]
 refine wpL_val (.bool q1) rfl (fun K' hK'=>?_) ?_
 ·have hq:=Hq1.out
  subst hq
  go_step
  exact hK'
 simp only [Act.put,sT1,sT2,sT3]
 refine wpL_val (.bool q1) rfl (fun K' hK'=>?_) ?_
 ·go_step
  exact hK'
 simp only [Act.put,sT1,sT2,sT3]
 refine wpL_sym c2 (.pointer (some ⟨w.heap.size,0,none⟩)) (by rw [← Hc2.out];cases q1<;>kernel_rfl) (fun hc K' hK'=>?_) ?_
 ·subst hc
  try simp only [cond_true]
  go_step
  exact hK'
 simp only [Act.put,sT1,sT2,sT3]
 refine wpL_sym c2 (.int .i64 m.t) (by rw [← Hc2.out];cases q1<;>kernel_rfl) (fun hc K' hK'=>?_) ?_
 ·subst hc
  try simp only [cond_true]
  obtain ⟨u0,u1,u2,u3,u4,u5,u6,u7,u8,u9,u10,u11⟩:=(HM.out.ext HX0.out).cells
  go_step
  exact hK'
 simp only [Act.put,sT1,sT2,sT3]
 refine wpL_sym c2 (.bool q3) (by rw [← Hc2.out];cases q1<;>kernel_rfl) (fun hc K' hK'=>?_) ?_
 ·subst hc
  try simp only [cond_true]
  have hq:=Hq3.out
  subst hq
  go_step
  exact hK'
 simp only [Act.put,sT1,sT2,sT3]
 refine wpL_val (.bool p4) rfl (fun K' hK'=>?_) ?_
 ·have hp:=Hp4.out
  subst hp
  have hg:=Hc2.out
  subst hg
  cases q1
  ·go_step
   exact hK'
  ·go_step
   exact hK'
 simp only [Act.put,sT1,sT2,sT3]
 refine wpL_val (.bool p4) rfl (fun K' hK'=>?_) ?_
 ·go_step
  exact hK'
 simp only [Act.put,sT1,sT2,sT3]
 refine wpL_sym c5 (.pointer (some ⟨w.heap.size,1,none⟩)) (by rw [← Hc5.out];cases p4<;>kernel_rfl) (fun hc K' hK'=>?_) ?_
 ·subst hc
  try simp only [cond_true]
  go_step
  exact hK'
 simp only [Act.put,sT1,sT2,sT3]
 refine wpL_sym c5 (.int .i64 m.mi) (by rw [← Hc5.out];cases p4<;>kernel_rfl) (fun hc K' hK'=>?_) ?_
 ·subst hc
  try simp only [cond_true]
  obtain ⟨u0,u1,u2,u3,u4,u5,u6,u7,u8,u9,u10,u11⟩:=(HM.out.ext HX0.out).cells
  go_step
  exact hK'
 simp only [Act.put,sT1,sT2,sT3]
 refine wpL_sym c5 (.bool q6) (by rw [← Hc5.out];cases p4<;>kernel_rfl) (fun hc K' hK'=>?_) ?_
 ·subst hc
  try simp only [cond_true]
  have hq:=Hq6.out
  subst hq
  go_step
  exact hK'
 simp only [Act.put,sT1,sT2,sT3]
 refine wpL_val (.bool p7) rfl (fun K' hK'=>?_) ?_
 ·have hp:=Hp7.out
  subst hp
  have hg:=Hc5.out
  subst hg
  cases p4
  ·go_step
   exact hK'
  ·go_step
   exact hK'
 simp only [Act.put,sT1,sT2,sT3]
 refine wpL_val (.bool p7) rfl (fun K' hK'=>?_) ?_
 ·go_step
  exact hK'
 simp only [Act.put,sT1,sT2,sT3]
 refine wpL_sym c8 (.pointer (some ⟨w.heap.size,1,none⟩)) (by rw [← Hc8.out];cases p7<;>kernel_rfl) (fun hc K' hK'=>?_) ?_
 ·subst hc
  try simp only [cond_true]
  go_step
  exact hK'
 simp only [Act.put,sT1,sT2,sT3]
 refine wpL_sym c8 (.int .i64 m.mi) (by rw [← Hc8.out];cases p7<;>kernel_rfl) (fun hc K' hK'=>?_) ?_
 ·subst hc
  try simp only [cond_true]
  obtain ⟨u0,u1,u2,u3,u4,u5,u6,u7,u8,u9,u10,u11⟩:=(HM.out.ext HX0.out).cells
  go_step
  exact hK'
 simp only [Act.put,sT1,sT2,sT3]
 refine wpL_sym c8 (.bool q9) (by rw [← Hc8.out];cases p7<;>kernel_rfl) (fun hc K' hK'=>?_) ?_
 ·subst hc
  try simp only [cond_true]
  have hq:=Hq9.out
  subst hq
  go_step
  exact hK'
 simp only [Act.put,sT1,sT2,sT3]
 refine wpL_val (.bool p10) rfl (fun K' hK'=>?_) ?_
 ·have hp:=Hp10.out
  subst hp
  have hg:=Hc8.out
  subst hg
  cases p7
  ·go_step
   exact hK'
  ·go_step
   exact hK'
 simp only [Act.put,sT1,sT2,sT3]
 refine wpL_val (.bool p10) rfl (fun K' hK'=>?_) ?_
 ·go_step
  exact hK'
 simp only [Act.put,sT1,sT2,sT3]
 refine wpL_sym c11 (.pointer (some ⟨w.heap.size,2,none⟩)) (by rw [← Hc11.out];cases p10<;>kernel_rfl) (fun hc K' hK'=>?_) ?_
 ·subst hc
  try simp only [cond_true]
  go_step
  exact hK'
 simp only [Act.put,sT1,sT2,sT3]
 refine wpL_sym c11 (.int .i64 m.kd) (by rw [← Hc11.out];cases p10<;>kernel_rfl) (fun hc K' hK'=>?_) ?_
 ·subst hc
  try simp only [cond_true]
  obtain ⟨u0,u1,u2,u3,u4,u5,u6,u7,u8,u9,u10,u11⟩:=(HM.out.ext HX0.out).cells
  go_step
  exact hK'
 simp only [Act.put,sT1,sT2,sT3]
 refine wpL_sym c11 (.bool q12) (by rw [← Hc11.out];cases p10<;>kernel_rfl) (fun hc K' hK'=>?_) ?_
 ·subst hc
  try simp only [cond_true]
  have hq:=Hq12.out
  subst hq
  go_step
  exact hK'
 simp only [Act.put,sT1,sT2,sT3]
 refine wpL_sym c11 (.bool q12) (by rw [← Hc11.out];cases p10<;>kernel_rfl) (fun hc K' hK'=>?_) ?_
 ·subst hc
  try simp only [cond_true]
  go_step
  exact hK'
 simp only [Act.put,sT1,sT2,sT3]
 refine wpL_sym c13 (.pointer (some ⟨w.heap.size,2,none⟩)) (by rw [← Hc13.out];cases c11<;>cases q12<;>kernel_rfl) (fun hc K' hK'=>?_) ?_
 ·subst hc
  try simp only [cond_true]
  go_step
  exact hK'
 simp only [Act.put,sT1,sT2,sT3]
 refine wpL_sym c13 (.int .i64 m.kd) (by rw [← Hc13.out];cases c11<;>cases q12<;>kernel_rfl) (fun hc K' hK'=>?_) ?_
 ·subst hc
  try simp only [cond_true]
  obtain ⟨u0,u1,u2,u3,u4,u5,u6,u7,u8,u9,u10,u11⟩:=(HM.out.ext HX0.out).cells
  go_step
  exact hK'
 simp only [Act.put,sT1,sT2,sT3]
 refine wpL_sym c13 (.bool q14) (by rw [← Hc13.out];cases c11<;>cases q12<;>kernel_rfl) (fun hc K' hK'=>?_) ?_
 ·subst hc
  try simp only [cond_true]
  have hq:=Hq14.out
  subst hq
  go_step
  exact hK'
 simp only [Act.put,sT1,sT2,sT3]
 refine wpL_sym c11 (.bool p15) (by rw [← Hc11.out];cases p10<;>kernel_rfl) (fun hc K' hK'=>?_) ?_
 ·subst hc
  try simp only [cond_true]
  have hp:=Hp15.out
  subst hp
  have hg:=Hc13.out
  subst hg
  cases q12
  ·go_step
   exact hK'
  ·go_step
   exact hK'
 simp only [Act.put,sT1,sT2,sT3]
 refine wpL_sym c11 (.bool p15) (by rw [← Hc11.out];cases p10<;>kernel_rfl) (fun hc K' hK'=>?_) ?_
 ·subst hc
  try simp only [cond_true]
  go_step
  exact hK'
 simp only [Act.put,sT1,sT2,sT3]
 refine wpL_sym c16 (.pointer (some ⟨w.heap.size,2,none⟩)) (by rw [← Hc16.out];cases c11<;>cases p15<;>kernel_rfl) (fun hc K' hK'=>?_) ?_
 ·subst hc
  try simp only [cond_true]
  go_step
  exact hK'
 simp only [Act.put,sT1,sT2,sT3]
 refine wpL_sym c16 (.int .i64 m.kd) (by rw [← Hc16.out];cases c11<;>cases p15<;>kernel_rfl) (fun hc K' hK'=>?_) ?_
 ·subst hc
  try simp only [cond_true]
  obtain ⟨u0,u1,u2,u3,u4,u5,u6,u7,u8,u9,u10,u11⟩:=(HM.out.ext HX0.out).cells
  go_step
  exact hK'
 simp only [Act.put,sT1,sT2,sT3]
 refine wpL_sym c16 (.bool q17) (by rw [← Hc16.out];cases c11<;>cases p15<;>kernel_rfl) (fun hc K' hK'=>?_) ?_
 ·subst hc
  try simp only [cond_true]
  have hq:=Hq17.out
  subst hq
  go_step
  exact hK'
 simp only [Act.put,sT1,sT2,sT3]
 refine wpL_sym c11 (.bool p18) (by rw [← Hc11.out];cases p10<;>kernel_rfl) (fun hc K' hK'=>?_) ?_
 ·subst hc
  try simp only [cond_true]
  have hp:=Hp18.out
  subst hp
  have hg:=Hc16.out
  subst hg
  cases p15
  ·go_step
   exact hK'
  ·go_step
   exact hK'
 simp only [Act.put,sT1,sT2,sT3]
 refine wpL_val (.bool p19) rfl (fun K' hK'=>?_) ?_
 ·have hp:=Hp19.out
  subst hp
  have hg:=Hc11.out
  subst hg
  cases p10
  ·go_step
   exact hK'
  ·go_step
   exact hK'
 simp only [Act.put,sT1,sT2,sT3]
 cases p19 with
 | true=>
  go_wp2_with fail
  go_ret
  refine ⟨?_,HX.out⟩
  have HL:=Hp19.out
  have h:=Hp18.out;subst h
  have h:=Hq17.out;subst h
  have h:=Hc16.out;subst h
  have h:=Hp15.out;subst h
  have h:=Hq14.out;subst h
  have h:=Hc13.out;subst h
  have h:=Hq12.out;subst h
  have h:=Hc11.out;subst h
  have h:=Hp10.out;subst h
  have h:=Hq9.out;subst h
  have h:=Hc8.out;subst h
  have h:=Hp7.out;subst h
  have h:=Hq6.out;subst h
  have h:=Hc5.out;subst h
  have h:=Hp4.out;subst h
  have h:=Hq3.out;subst h
  have h:=Hc2.out;subst h
  have h:=Hq1.out;subst h
  rw [show ((((decide (m.t<0)||decide ((1099511627776:Int)<m.t))||decide (m.mi<0))||decide ((999999:Int)<m.mi))||(((m.kd != 0)&&(m.kd != 10))&&(m.kd != 12)))=true from HL];rfl
 | false=>
  obtain ⟨p101,hp101⟩:∃ p101:Bool,(ac&&pc)=p101:=⟨_,rfl⟩
  have Hp101:=Lib.hid hp101;clear hp101
  obtain ⟨p102,hp102⟩:∃ p102:Bool,(p101&&sc)=p102:=⟨_,rfl⟩
  have Hp102:=Lib.hid hp102;clear hp102
  obtain ⟨q103,hq103⟩:∃ q103:Bool,(decide ((0:Int)≤m.co))=q103:=⟨_,rfl⟩
  have Hq103:=Lib.hid hq103;clear hq103
  obtain ⟨p104,hp104⟩:∃ p104:Bool,(p102&&q103)=p104:=⟨_,rfl⟩
  have Hp104:=Lib.hid hp104;clear hp104
  obtain ⟨q105,hq105⟩:∃ q105:Bool,(decide (m.co≤127))=q105:=⟨_,rfl⟩
  have Hq105:=Lib.hid hq105;clear hq105
  obtain ⟨p106,hp106⟩:∃ p106:Bool,(p104&&q105)=p106:=⟨_,rfl⟩
  have Hp106:=Lib.hid hp106;clear hp106
  obtain ⟨q107,hq107⟩:∃ q107:Bool,(decide ((0:Int)≤m.pr))=q107:=⟨_,rfl⟩
  have Hq107:=Lib.hid hq107;clear hq107
  obtain ⟨p108,hp108⟩:∃ p108:Bool,(p106&&q107)=p108:=⟨_,rfl⟩
  have Hp108:=Lib.hid hp108;clear hp108
  obtain ⟨q109,hq109⟩:∃ q109:Bool,(decide (m.pr≤999))=q109:=⟨_,rfl⟩
  have Hq109:=Lib.hid hq109;clear hq109
  obtain ⟨p110,hp110⟩:∃ p110:Bool,(p108&&q109)=p110:=⟨_,rfl⟩
  have Hp110:=Lib.hid hp110;clear hp110
  obtain ⟨q111,hq111⟩:∃ q111:Bool,(decide ((m.fl.toNat:Int)<4096))=q111:=⟨_,rfl⟩
  have Hq111:=Lib.hid hq111;clear hq111
  obtain ⟨p112,hp112⟩:∃ p112:Bool,(p110&&q111)=p112:=⟨_,rfl⟩
  have Hp112:=Lib.hid hp112;clear hp112
  go_upto_region 3 with fail
  refine wp_region_lit ?_
  refine wpL_val (.pointer (some ⟨w.heap.size,3,none⟩)) rfl (fun K' hK'=>?_) ?_
  ·go_step
   exact hK'
  simp only [Act.put,sT1,sT2,sT3]
  refine wpL_val (.agg #[.int .i64 m.fk,.slice m.FA m.fb.length m.fc]) rfl (fun K' hK'=>?_) ?_
  ·obtain ⟨u0,u1,u2,u3,u4,u5,u6,u7,u8,u9,u10,u11⟩:=(HM.out.ext HX0.out).cells
   go_step
   exact hK'
  simp only [Act.put,sT1,sT2,sT3]
  refine wpL_symcall true (.bool ac) (rfl) (fun hc K' hK'=>?_) (fun wc38 hx=>?_)
  ·skip
   try simp only [cond_true]
   go_step
   refine (HC0.out W2 HX0.out).mono ?_
   rintro _ w2 ⟨rfl,hx⟩
   exact hK' _ hx
  have HX38:=Lib.hid (HX0.out.trans hx);clear hx
  simp only [cond_true,Act.put,sT1,sT2,sT3]
  refine wpL_val (.bool ac) rfl (fun K' hK'=>?_) ?_
  ·go_step
   exact hK'
  simp only [Act.put,sT1,sT2,sT3]
  refine wpL_sym ac (.pointer (some ⟨w.heap.size,5,none⟩)) (by cases ac<;>kernel_rfl) (fun hc K' hK'=>?_) ?_
  ·subst hc
   try simp only [cond_true]
   go_step
   exact hK'
  simp only [Act.put,sT1,sT2,sT3]
  refine wpL_sym ac (.agg #[.slice m.CA m.cp.length m.cc,.string m.cr]) (by cases ac<;>kernel_rfl) (fun hc K' hK'=>?_) ?_
  ·subst hc
   try simp only [cond_true]
   obtain ⟨u0,u1,u2,u3,u4,u5,u6,u7,u8,u9,u10,u11⟩:=(HM.out.ext HX38.out).cells
   go_step
   exact hK'
  simp only [Act.put,sT1,sT2,sT3]
  refine wpL_symcall ac (.bool pc) (by cases ac<;>kernel_rfl) (fun hc K' hK'=>?_) (fun wc42 hx=>?_)
  ·subst hc
   try simp only [cond_true]
   go_step
   refine (HC1.out wc38 HX38.out).mono ?_
   rintro _ w2 ⟨rfl,hx⟩
   exact hK' _ hx
  have HX42:=Lib.hid (HX38.out.trans hx);clear hx
  simp only [Act.put,sT1,sT2,sT3]
  refine wpL_val (.bool p101) rfl (fun K' hK'=>?_) ?_
  ·have hp:=Hp101.out
   subst hp
   cases ac
   ·go_step
    exact hK'
   ·go_step
    exact hK'
  simp only [Act.put,sT1,sT2,sT3]
  refine wpL_val (.bool p101) rfl (fun K' hK'=>?_) ?_
  ·go_step
   exact hK'
  simp only [Act.put,sT1,sT2,sT3]
  refine wpL_sym p101 (.pointer (some ⟨w.heap.size,7,none⟩)) (by cases p101<;>kernel_rfl) (fun hc K' hK'=>?_) ?_
  ·subst hc
   try simp only [cond_true]
   go_step
   exact hK'
  simp only [Act.put,sT1,sT2,sT3]
  refine wpL_sym p101 (.agg #[.slice m.SA m.sp.length m.sc,.string m.sr]) (by cases p101<;>kernel_rfl) (fun hc K' hK'=>?_) ?_
  ·subst hc
   try simp only [cond_true]
   obtain ⟨u0,u1,u2,u3,u4,u5,u6,u7,u8,u9,u10,u11⟩:=(HM.out.ext HX42.out).cells
   go_step
   exact hK'
  simp only [Act.put,sT1,sT2,sT3]
  refine wpL_symcall p101 (.bool sc) (by cases p101<;>kernel_rfl) (fun hc K' hK'=>?_) (fun wc47 hx=>?_)
  ·subst hc
   try simp only [cond_true]
   go_step
   refine (HC2.out wc42 HX42.out).mono ?_
   rintro _ w2 ⟨rfl,hx⟩
   exact hK' _ hx
  have HX47:=Lib.hid (HX42.out.trans hx);clear hx
  simp only [Act.put,sT1,sT2,sT3]
  refine wpL_val (.bool p102) rfl (fun K' hK'=>?_) ?_
  ·have hp:=Hp102.out
   subst hp
   cases p101
   ·go_step
    exact hK'
   ·go_step
    exact hK'
  simp only [Act.put,sT1,sT2,sT3]
  refine wpL_val (.bool p102) rfl (fun K' hK'=>?_) ?_
  ·go_step
   exact hK'
  simp only [Act.put,sT1,sT2,sT3]
  refine wpL_sym p102 (.pointer (some ⟨w.heap.size,9,none⟩)) (by cases p102<;>kernel_rfl) (fun hc K' hK'=>?_) ?_
  ·subst hc
   try simp only [cond_true]
   go_step
   exact hK'
  simp only [Act.put,sT1,sT2,sT3]
  refine wpL_sym p102 (.int .i64 m.co) (by cases p102<;>kernel_rfl) (fun hc K' hK'=>?_) ?_
  ·subst hc
   try simp only [cond_true]
   obtain ⟨u0,u1,u2,u3,u4,u5,u6,u7,u8,u9,u10,u11⟩:=(HM.out.ext HX47.out).cells
   go_step
   exact hK'
  simp only [Act.put,sT1,sT2,sT3]
  refine wpL_sym p102 (.bool q103) (by cases p102<;>kernel_rfl) (fun hc K' hK'=>?_) ?_
  ·subst hc
   try simp only [cond_true]
   have hq:=Hq103.out
   subst hq
   go_step
   exact hK'
  simp only [Act.put,sT1,sT2,sT3]
  refine wpL_val (.bool p104) rfl (fun K' hK'=>?_) ?_
  ·have hp:=Hp104.out
   subst hp
   cases p102
   ·go_step
    exact hK'
   ·go_step
    exact hK'
  simp only [Act.put,sT1,sT2,sT3]
  refine wpL_val (.bool p104) rfl (fun K' hK'=>?_) ?_
  ·go_step
   exact hK'
  simp only [Act.put,sT1,sT2,sT3]
  refine wpL_sym p104 (.pointer (some ⟨w.heap.size,9,none⟩)) (by cases p104<;>kernel_rfl) (fun hc K' hK'=>?_) ?_
  ·subst hc
   try simp only [cond_true]
   go_step
   exact hK'
  simp only [Act.put,sT1,sT2,sT3]
  refine wpL_sym p104 (.int .i64 m.co) (by cases p104<;>kernel_rfl) (fun hc K' hK'=>?_) ?_
  ·subst hc
   try simp only [cond_true]
   obtain ⟨u0,u1,u2,u3,u4,u5,u6,u7,u8,u9,u10,u11⟩:=(HM.out.ext HX47.out).cells
   go_step
   exact hK'
  simp only [Act.put,sT1,sT2,sT3]
  refine wpL_sym p104 (.bool q105) (by cases p104<;>kernel_rfl) (fun hc K' hK'=>?_) ?_
  ·subst hc
   try simp only [cond_true]
   have hq:=Hq105.out
   subst hq
   go_step
   exact hK'
  simp only [Act.put,sT1,sT2,sT3]
  refine wpL_val (.bool p106) rfl (fun K' hK'=>?_) ?_
  ·have hp:=Hp106.out
   subst hp
   cases p104
   ·go_step
    exact hK'
   ·go_step
    exact hK'
  simp only [Act.put,sT1,sT2,sT3]
  refine wpL_val (.bool p106) rfl (fun K' hK'=>?_) ?_
  ·go_step
   exact hK'
  simp only [Act.put,sT1,sT2,sT3]
  refine wpL_sym p106 (.pointer (some ⟨w.heap.size,10,none⟩)) (by cases p106<;>kernel_rfl) (fun hc K' hK'=>?_) ?_
  ·subst hc
   try simp only [cond_true]
   go_step
   exact hK'
  simp only [Act.put,sT1,sT2,sT3]
  refine wpL_sym p106 (.int .i64 m.pr) (by cases p106<;>kernel_rfl) (fun hc K' hK'=>?_) ?_
  ·subst hc
   try simp only [cond_true]
   obtain ⟨u0,u1,u2,u3,u4,u5,u6,u7,u8,u9,u10,u11⟩:=(HM.out.ext HX47.out).cells
   go_step
   exact hK'
  simp only [Act.put,sT1,sT2,sT3]
  refine wpL_sym p106 (.bool q107) (by cases p106<;>kernel_rfl) (fun hc K' hK'=>?_) ?_
  ·subst hc
   try simp only [cond_true]
   have hq:=Hq107.out
   subst hq
   go_step
   exact hK'
  simp only [Act.put,sT1,sT2,sT3]
  refine wpL_val (.bool p108) rfl (fun K' hK'=>?_) ?_
  ·have hp:=Hp108.out
   subst hp
   cases p106
   ·go_step
    exact hK'
   ·go_step
    exact hK'
  simp only [Act.put,sT1,sT2,sT3]
  refine wpL_val (.bool p108) rfl (fun K' hK'=>?_) ?_
  ·go_step
   exact hK'
  simp only [Act.put,sT1,sT2,sT3]
  refine wpL_sym p108 (.pointer (some ⟨w.heap.size,10,none⟩)) (by cases p108<;>kernel_rfl) (fun hc K' hK'=>?_) ?_
  ·subst hc
   try simp only [cond_true]
   go_step
   exact hK'
  simp only [Act.put,sT1,sT2,sT3]
  refine wpL_sym p108 (.int .i64 m.pr) (by cases p108<;>kernel_rfl) (fun hc K' hK'=>?_) ?_
  ·subst hc
   try simp only [cond_true]
   obtain ⟨u0,u1,u2,u3,u4,u5,u6,u7,u8,u9,u10,u11⟩:=(HM.out.ext HX47.out).cells
   go_step
   exact hK'
  simp only [Act.put,sT1,sT2,sT3]
  refine wpL_sym p108 (.bool q109) (by cases p108<;>kernel_rfl) (fun hc K' hK'=>?_) ?_
  ·subst hc
   try simp only [cond_true]
   have hq:=Hq109.out
   subst hq
   go_step
   exact hK'
  simp only [Act.put,sT1,sT2,sT3]
  refine wpL_val (.bool p110) rfl (fun K' hK'=>?_) ?_
  ·have hp:=Hp110.out
   subst hp
   cases p108
   ·go_step
    exact hK'
   ·go_step
    exact hK'
  simp only [Act.put,sT1,sT2,sT3]
  refine wpL_val (.bool p110) rfl (fun K' hK'=>?_) ?_
  ·go_step
   exact hK'
  simp only [Act.put,sT1,sT2,sT3]
  refine wpL_sym p110 (.pointer (some ⟨w.heap.size,11,none⟩)) (by cases p110<;>kernel_rfl) (fun hc K' hK'=>?_) ?_
  ·subst hc
   try simp only [cond_true]
   go_step
   exact hK'
  simp only [Act.put,sT1,sT2,sT3]
  refine wpL_sym p110 (.int .u32 (m.fl.toNat:Int)) (by cases p110<;>kernel_rfl) (fun hc K' hK'=>?_) ?_
  ·subst hc
   try simp only [cond_true]
   obtain ⟨u0,u1,u2,u3,u4,u5,u6,u7,u8,u9,u10,u11⟩:=(HM.out.ext HX47.out).cells
   go_step
   exact hK'
  simp only [Act.put,sT1,sT2,sT3]
  refine wpL_sym p110 (.bool q111) (by cases p110<;>kernel_rfl) (fun hc K' hK'=>?_) ?_
  ·subst hc
   try simp only [cond_true]
   have hq:=Hq111.out
   subst hq
   go_step
   exact hK'
  simp only [Act.put,sT1,sT2,sT3]
  refine wpL_val (.bool p112) rfl (fun K' hK'=>?_) ?_
  ·have hp:=Hp112.out
   subst hp
   cases p110
   ·go_step
    exact hK'
   ·go_step
    exact hK'
  simp only [Act.put,sT1,sT2,sT3]
  go_wp2_with fail
  go_ret
  refine ⟨?_,HX.out.trans HX47.out⟩
  have HL:=Hp19.out
  have h:=Hp112.out;subst h
  have h:=Hq111.out;subst h
  have h:=Hp110.out;subst h
  have h:=Hq109.out;subst h
  have h:=Hp108.out;subst h
  have h:=Hq107.out;subst h
  have h:=Hp106.out;subst h
  have h:=Hq105.out;subst h
  have h:=Hp104.out;subst h
  have h:=Hq103.out;subst h
  have h:=Hp102.out;subst h
  have h:=Hp101.out;subst h
  have h:=Hp18.out;subst h
  have h:=Hq17.out;subst h
  have h:=Hc16.out;subst h
  have h:=Hp15.out;subst h
  have h:=Hq14.out;subst h
  have h:=Hc13.out;subst h
  have h:=Hq12.out;subst h
  have h:=Hc11.out;subst h
  have h:=Hp10.out;subst h
  have h:=Hq9.out;subst h
  have h:=Hc8.out;subst h
  have h:=Hp7.out;subst h
  have h:=Hq6.out;subst h
  have h:=Hc5.out;subst h
  have h:=Hp4.out;subst h
  have h:=Hq3.out;subst h
  have h:=Hc2.out;subst h
  have h:=Hq1.out;subst h
  rw [show ((((decide (m.t<0)||decide ((1099511627776:Int)<m.t))||decide (m.mi<0))||decide ((999999:Int)<m.mi))||(((m.kd != 0)&&(m.kd != 10))&&(m.kd != 12)))=false from HL];rfl
theorem RFValid_at (m:FV) (w:World) (hm:m.In w) (hz:m.Sz):
  Calls Tryz.prog 25 #[m.val] w fun e w'=>e=.returned (.bool m.fct.ok)∧Ext w w':=RFValid_at2 m w hm (by have:=hz.cr;omega) (by have:=hz.sr;omega)
theorem RDecZ_at (x:Int) (h0:0≤x) (h1:x≤2000000000000000) (w:World):
  Calls Tryz.prog 86 #[.int .i64 x] w fun e w'=>e=.returned (.string ⟨(Lib.itoa x).toArray⟩)∧Ext w w':=by
 have k:=RDecB_at x.toNat (by omega) w
 have e:((x.toNat:Nat):Int)=x:=by omega
 rw [e] at k
 rw [← e,Lib.itoa_nonneg]
 rw [e]
 exact k
theorem RATextO_at (k:Int) (b:List UInt8) (A:Option Addr) (c:Nat) (w:World) (hb:BS w (.slice A b.length c) b) (h:okA k b=true):
  Calls Tryz.prog 88 #[.agg #[.int .i64 k,.slice A b.length c]] w fun e w'=>e=.returned (.string ⟨(txtA k b).toArray⟩)∧Ext w w':=by
 rcases okA_kinds h with ⟨rfl,hl⟩ | ⟨rfl,hl⟩ | ⟨rfl,hl,_⟩
 ·exact RAText4_at b A c w hb hl
 ·exact RAText6_at b A c w hb hl
 ·exact RATextH_at b A c w hb hl.2
theorem join8 (a b c d e f g h:List UInt8):Lib.join [a,b,c,d,e,f,g,h] [32]=a++[32]++b++[32]++c++[32]++d++[32]++e++[32]++f++[32]++g++[32]++h:=by
 rw [Lib.join_cons]
 unfold Lib.joinTail
 simp
set_option maxRecDepth 100000 in
set_option maxHeartbeats 2000000 in
theorem RFText_at (m:FV) (w:World) (hm:m.In w) (hz:m.Sz) (hok:m.fct.Ok):
  Calls Tryz.prog 26 #[m.val] w fun e w'=>e=.returned (.string ⟨m.fct.txt.toArray⟩)∧Ext w w':=by
 obtain ⟨k1,k2,k3,k4,k5,k6,k7,k8,k9⟩:=hok
 dsimp only [FV.fct] at k1 k2 k3 k4 k5 k6 k7 k8 k9
 have h0:FQ (w.alloc (.cells #[.int .i64 m.t,.int .i64 m.mi,.int .i64 m.kd,.int .i64 m.fk,.slice m.FA m.fb.length m.fc,.slice m.CA m.cp.length m.cc,.string m.cr,.slice m.SA m.sp.length m.sc,.string m.sr,.int .i64 m.co,.int .i64 m.pr,.int .u32 (m.fl.toNat:Int)] 41)) w.heap.size m:=heap_alloc_new w _
 have hx:=(Ext.refl w).alloc (.cells #[.int .i64 m.t,.int .i64 m.mi,.int .i64 m.kd,.int .i64 m.fk,.slice m.FA m.fb.length m.fc,.slice m.CA m.cp.length m.cc,.string m.cr,.slice m.SA m.sp.length m.sc,.string m.sr,.int .i64 m.co,.int .i64 m.pr,.int .u32 (m.fl.toNat:Int)] 41)
 obtain ⟨W2,e2⟩:∃ W,w.alloc (.cells #[.int .i64 m.t,.int .i64 m.mi,.int .i64 m.kd,.int .i64 m.fk,.slice m.FA m.fb.length m.fc,.slice m.CA m.cp.length m.cc,.string m.cr,.slice m.SA m.sp.length m.sc,.string m.sr,.int .i64 m.co,.int .i64 m.pr,.int .u32 (m.fl.toNat:Int)] 41)=W:=⟨_,rfl⟩
 rw [e2] at h0 hx
 have HM:=Lib.hid h0;have HX:=Lib.hid hx
 have htx:m.fct.txt=((((((((((((((((Lib.itoa m.t++[46])++(Lib.itoa (1000000+m.mi)).drop 1)++[32])++kindW m.kd)++[32])++prsW (dat m.cp) m.cr.data.toList)++[32])++prsW (dat m.sp) m.sr.data.toList)++[32])++txtA m.fk m.fb)++[32])++Lib.itoa m.co)++[32])++Lib.itoa m.pr)++[32])++textF m.fl):=by
  unfold Fct.txt Fct.wrd
  dsimp only [FV.fct]
  rw [join8]
  unfold timW
  rw [micro_ref k2.1 k2.2]
  simp
 have l1:=itoa_len20 m.t (by omega) (by omega)
 have l2:=itoa_len20 (1000000+m.mi) (by omega) (by omega)
 have l3:=kindW_len m.kd
 have l4:=prsW_len k5
 have l5:=prsW_len k6
 have l6:=txtA_len k4
 have l7:=itoa_len20 m.co (by omega) (by omega)
 have l8:=itoa_len20 m.pr (by omega) (by omega)
 have l9:=textF_len m.fl
 have HMI:=Lib.hid (fun W=>RDecZ_at (1000000+m.mi) (by omega) (by omega) W)
 have HTI:=Lib.hid (fun W (hW:Ext W2 W)=>RDecZ_at m.t (by omega) (by omega) W)
 have HCO:=Lib.hid (fun W (hW:Ext W2 W)=>RDecZ_at m.co (by omega) (by omega) W)
 have HPR:=Lib.hid (fun W (hW:Ext W2 W)=>RDecZ_at m.pr (by omega) (by omega) W)
 have HCW:=Lib.hid (fun W (hW:Ext W2 W)=>RWord_at m.CA m.cc m.cp m.cr W (hm.cp.ext (hx.trans hW)) k5)
 have HSW:=Lib.hid (fun W (hW:Ext W2 W)=>RWord_at m.SA m.sc m.sp m.sr W (hm.sp.ext (hx.trans hW)) k6)
 have HAW:=Lib.hid (fun W (hW:Ext W2 W)=>RATextO_at m.fk m.fb m.FA m.fc W (hm.fb.ext (hx.trans hW)) k4)
 have HFW:=Lib.hid (fun W (hW:Ext W2 W)=>RFlags_at m.fl k9 W)
 have hmi:(1000000+m.mi:Int)≤2000000:=by omega
 have hmi0:0≤m.mi:=k2.1
 have hlen1:1≤(Lib.itoa (1000000+m.mi)).length:=by
  rcases Nat.eq_zero_or_pos (Lib.itoa (1000000+m.mi)).length with h | h
  ·exfalso
   have h2:=micro_ref k2.1 k2.2
   rw [List.eq_nil_of_length_eq_zero h] at h2
   have h3:=congrArg List.length h2
   have h4:=itoa_len6 k2.1 k2.2
   rw [List.length_append,List.length_replicate] at h3
   simp at h3
   omega
  ·exact h
 rw [htx]
 unfold FV.val
 clear htx h0 hx hm hz k1 k2 k4 k5 k6 k7 k8 k9
 generalize Lib.itoa m.t=TI at *
 generalize Lib.itoa (1000000+m.mi)=ML at *
 generalize Lib.itoa m.co=CO at *
 generalize Lib.itoa m.pr=PR at *
 generalize txtA m.fk m.fb=AW at *
 generalize textF m.fl=FW at *
 generalize prsW (dat m.cp) m.cr.data.toList=CW at *
 generalize prsW (dat m.sp) m.sr.data.toList=SW at *
 obtain ⟨MT,hMT⟩:∃ L,ML.drop 1=L:=⟨_,rfl⟩
 rw [hMT]
 have l10:MT.length≤21:=by rw [← hMT,List.length_drop];omega
 have HLL:=Lib.hid (show TI.length≤21∧MT.length≤21∧(kindW m.kd).length≤7∧CW.length≤293∧SW.length≤293∧AW.length≤41∧CO.length≤21∧PR.length≤21∧FW.length≤416 by refine ⟨?_,?_,?_,?_,?_,?_,?_,?_,?_⟩<;>omega)
 have HSL:Hid (∀ W:World,(Instr.slice 9 (.string ⟨ML.toArray⟩) (some (.int .i64 1)) none none).run Tryz.prog W=.ok (.string ⟨MT.toArray⟩) W):=Lib.hid (fun W=>by
  rw [← hMT]
  rw [run_slice_string_from_if W 9 ⟨ML.toArray⟩ .i64 1 Tryz.underlying9,if_pos (by show (0:Int)≤1∧(1:Int)≤((ML.length:Nat):Int);omega)]
  refine congrArg (fun b=>Result.ok (Value.string b) W) ?_
  apply ByteArray.ext
  apply Array.toList_inj.1
  rw [ByteArray.data_extract,Array.toList_extract,List.extract_eq_take_drop]
  show List.take (ML.length-1) (List.drop 1 ML)=List.drop 1 ML
  exact List.take_of_length_le (by rw [List.length_drop];exact Nat.le_refl _))
 have HKD:=Lib.hid k3
 obtain ⟨K0,hK0⟩:∃ K:List UInt8,(if m.kd=10 then [105,110,105,116,105,97,108] else [111,116,104,101,114])=K:=⟨_,rfl⟩
 have HK0:=Lib.hid hK0
 clear hK0
 obtain ⟨KW,hKW⟩:∃ K,kindW m.kd=K:=⟨_,rfl⟩
 have HKW:=Lib.hid hKW
 rw [hKW] at HLL ⊢
 clear l1 l2 l3 l4 l5 l6 l7 l8 l9 l10 k3 hKW hlen1 hMT
 obtain ⟨f0,f1,f2,f3,f4,f5,f6,f7,f8,f9,f10,f11⟩:=HM.out.cells
 go_enter Tryz.func26,Tryz.ntmps26
 go_wp2_with fail
 refine (HMI.out _).mono ?_
 rintro _ wr ⟨rfl,hxr⟩
 have HXr:=Lib.hid hxr
 have HB:=Lib.hid (HM.out.ext hxr)
 clear hxr f0 f1 f2 f3 f4 f5 f6 f7 f8 f9 f10 f11 e2
 obtain ⟨f0,f1,f2,f3,f4,f5,f6,f7,f8,f9,f10,f11⟩:=HB.out.cells
 go_upto_if 11 with fail
 go_cut [4] (fun v wc=>v=.string ⟨K0.toArray⟩∧wr=wc)
 case first=>
  by_cases h10:m.kd=10
  ·have e10:(m.kd==10)=true:=by rw [h10];rfl
   go_wp2_with fail
   go_meet
   case rel=>exact ⟨by rw [← HK0.out,if_pos h10],rfl⟩
  ·have e10:(m.kd==10)=false:=by rw [beq_eq_false_iff_ne];exact h10
   go_wp2_with fail
   go_meet
   case rel=>exact ⟨by rw [← HK0.out,if_neg h10],rfl⟩
 case rest=>
 obtain ⟨hv4,hwc⟩:=hcut
 subst hv4
 subst hwc
 go_upto_if 14 with fail
 go_cut [4] (fun v wc=>v=.string ⟨KW.toArray⟩∧wr=wc)
 case first=>
  have hk:=HKW.out
  unfold kindW at hk
  by_cases h12:m.kd=12
  ·have e12:(m.kd==12)=true:=by rw [h12];rfl
   rw [if_neg (by omega),if_pos h12] at hk
   have HK:=Lib.hid hk
   clear hk h12
   go_wp2_with fail
   go_meet
   case rel=>exact ⟨by rw [← HK.out],rfl⟩
  ·have e12:(m.kd==12)=false:=by rw [beq_eq_false_iff_ne];exact h12
   rw [if_neg h12] at hk
   have HK:=Lib.hid (HK0.out.symm.trans hk)
   clear hk h12
   go_wp2_with fail
   go_meet
   case rel=>exact ⟨by rw [← HK.out],rfl⟩
 case rest=>
 obtain ⟨hv4,hwc⟩:=hcut
 subst hv4
 subst hwc
 clear f0 f1 f2 f3 f4 f5 f6 f7 f8 f9 f10 f11
 go_upto_region 7 with fail
 refine wp_region_ext (fun i v' w'=>match i with | 2=>v'=.string ⟨(TI).toArray⟩ | 13=>v'=.string ⟨(CW).toArray⟩ | 18=>v'=.string ⟨(SW).toArray⟩ | 23=>v'=.string ⟨(AW).toArray⟩ | 28=>v'=.string ⟨(CO).toArray⟩ | 33=>v'=.string ⟨(PR).toArray⟩ | 38=>v'=.string ⟨(FW).toArray⟩ | _=>False) (by kernel_rfl) (by kernel_rfl) ?_
 refine wpE_val (.pointer (some ⟨w.heap.size,0,none⟩)) rfl rfl (fun w' hw' K' hK'=>?_) ?_
 ·have hE:=hw'.1
  go_step
  exact hK'
 simp only [Act.put,sT1,sT2,sT3]
 refine wpE_val (.int .i64 m.t) rfl rfl (fun w' hw' K' hK'=>?_) ?_
 ·have hE:=hw'.1
  obtain ⟨u0,u1,u2,u3,u4,u5,u6,u7,u8,u9,u10,u11⟩:=(HB.out.ext ((Ext.drew wr).trans hE)).cells
  go_step
  exact hK'
 simp only [Act.put,sT1,sT2,sT3]
 refine wpE_symcall 17 rfl (by simp) true (.string ⟨(TI).toArray⟩) (rfl) (fun _ _ h=>h) (fun hc w' hw' K' hK'=>?_) ?_
 ·have hE:=hw'.1
  try simp only [cond_true]
  go_step
  refine (HTI.out w' (HXr.out.trans ((Ext.drew _).trans hE))).mono ?_
  rintro _ w2 ⟨rfl,hx⟩
  exact hK' _ _ rfl hx
 simp only [cond_true,Act.put,sT1,sT2,sT3]
 refine wpE_cat (TI) ([46]) rfl rfl rfl rfl (by have:=HLL.out;simp;omega) ?_
 simp only [Act.put,sT1,sT2,sT3]
 refine wpE_val (.string ⟨(ML).toArray⟩) rfl rfl (fun w' hw' K' hK'=>?_) ?_
 ·have hE:=hw'.1
  go_step
  exact hK'
 simp only [Act.put,sT1,sT2,sT3]
 refine wpE_val (.string ⟨MT.toArray⟩) rfl rfl (fun w' hw' K' hK'=>?_) ?_
 ·have hE:=hw'.1
  have hsl:=HSL.out w'
  go_step
  exact hK'
 simp only [Act.put,sT1,sT2,sT3]
 refine wpE_cat ((TI++[46])) (MT) rfl rfl rfl rfl (by have:=HLL.out;simp;omega) ?_
 simp only [Act.put,sT1,sT2,sT3]
 refine wpE_cat (((TI++[46])++MT)) ([32]) rfl rfl rfl rfl (by have:=HLL.out;simp;omega) ?_
 simp only [Act.put,sT1,sT2,sT3]
 refine wpE_val (.string ⟨(KW).toArray⟩) rfl rfl (fun w' hw' K' hK'=>?_) ?_
 ·have hE:=hw'.1
  go_step
  exact hK'
 simp only [Act.put,sT1,sT2,sT3]
 refine wpE_cat ((((TI++[46])++MT)++[32])) (KW) rfl rfl rfl rfl (by have:=HLL.out;simp;omega) ?_
 simp only [Act.put,sT1,sT2,sT3]
 refine wpE_cat (((((TI++[46])++MT)++[32])++KW)) ([32]) rfl rfl rfl rfl (by have:=HLL.out;simp;omega) ?_
 simp only [Act.put,sT1,sT2,sT3]
 refine wpE_val (.pointer (some ⟨w.heap.size,5,none⟩)) rfl rfl (fun w' hw' K' hK'=>?_) ?_
 ·have hE:=hw'.1
  go_step
  exact hK'
 simp only [Act.put,sT1,sT2,sT3]
 refine wpE_val (.agg #[.slice m.CA m.cp.length m.cc,.string m.cr]) rfl rfl (fun w' hw' K' hK'=>?_) ?_
 ·have hE:=hw'.1
  obtain ⟨u0,u1,u2,u3,u4,u5,u6,u7,u8,u9,u10,u11⟩:=(HB.out.ext ((Ext.drew wr).trans hE)).cells
  go_step
  exact hK'
 simp only [Act.put,sT1,sT2,sT3]
 refine wpE_symcall 28 rfl (by simp) true (.string ⟨(CW).toArray⟩) (rfl) (fun _ _ h=>h) (fun hc w' hw' K' hK'=>?_) ?_
 ·have hE:=hw'.1
  try simp only [cond_true]
  go_step
  refine (HCW.out w' (HXr.out.trans ((Ext.drew _).trans hE))).mono ?_
  rintro _ w2 ⟨rfl,hx⟩
  exact hK' _ _ rfl hx
 simp only [cond_true,Act.put,sT1,sT2,sT3]
 refine wpE_cat ((((((TI++[46])++MT)++[32])++KW)++[32])) (CW) rfl rfl rfl rfl (by have:=HLL.out;simp;omega) ?_
 simp only [Act.put,sT1,sT2,sT3]
 refine wpE_cat (((((((TI++[46])++MT)++[32])++KW)++[32])++CW)) ([32]) rfl rfl rfl rfl (by have:=HLL.out;simp;omega) ?_
 simp only [Act.put,sT1,sT2,sT3]
 refine wpE_val (.pointer (some ⟨w.heap.size,7,none⟩)) rfl rfl (fun w' hw' K' hK'=>?_) ?_
 ·have hE:=hw'.1
  go_step
  exact hK'
 simp only [Act.put,sT1,sT2,sT3]
 refine wpE_val (.agg #[.slice m.SA m.sp.length m.sc,.string m.sr]) rfl rfl (fun w' hw' K' hK'=>?_) ?_
 ·have hE:=hw'.1
  obtain ⟨u0,u1,u2,u3,u4,u5,u6,u7,u8,u9,u10,u11⟩:=(HB.out.ext ((Ext.drew wr).trans hE)).cells
  go_step
  exact hK'
 simp only [Act.put,sT1,sT2,sT3]
 refine wpE_symcall 33 rfl (by simp) true (.string ⟨(SW).toArray⟩) (rfl) (fun _ _ h=>h) (fun hc w' hw' K' hK'=>?_) ?_
 ·have hE:=hw'.1
  try simp only [cond_true]
  go_step
  refine (HSW.out w' (HXr.out.trans ((Ext.drew _).trans hE))).mono ?_
  rintro _ w2 ⟨rfl,hx⟩
  exact hK' _ _ rfl hx
 simp only [cond_true,Act.put,sT1,sT2,sT3]
 refine wpE_cat ((((((((TI++[46])++MT)++[32])++KW)++[32])++CW)++[32])) (SW) rfl rfl rfl rfl (by have:=HLL.out;simp;omega) ?_
 simp only [Act.put,sT1,sT2,sT3]
 refine wpE_cat (((((((((TI++[46])++MT)++[32])++KW)++[32])++CW)++[32])++SW)) ([32]) rfl rfl rfl rfl (by have:=HLL.out;simp;omega) ?_
 simp only [Act.put,sT1,sT2,sT3]
 refine wpE_val (.pointer (some ⟨w.heap.size,3,none⟩)) rfl rfl (fun w' hw' K' hK'=>?_) ?_
 ·have hE:=hw'.1
  go_step
  exact hK'
 simp only [Act.put,sT1,sT2,sT3]
 refine wpE_val (.agg #[.int .i64 m.fk,.slice m.FA m.fb.length m.fc]) rfl rfl (fun w' hw' K' hK'=>?_) ?_
 ·have hE:=hw'.1
  obtain ⟨u0,u1,u2,u3,u4,u5,u6,u7,u8,u9,u10,u11⟩:=(HB.out.ext ((Ext.drew wr).trans hE)).cells
  go_step
  exact hK'
 simp only [Act.put,sT1,sT2,sT3]
 refine wpE_symcall 38 rfl (by simp) true (.string ⟨(AW).toArray⟩) (rfl) (fun _ _ h=>h) (fun hc w' hw' K' hK'=>?_) ?_
 ·have hE:=hw'.1
  try simp only [cond_true]
  go_step
  refine (HAW.out w' (HXr.out.trans ((Ext.drew _).trans hE))).mono ?_
  rintro _ w2 ⟨rfl,hx⟩
  exact hK' _ _ rfl hx
 simp only [cond_true,Act.put,sT1,sT2,sT3]
 refine wpE_cat ((((((((((TI++[46])++MT)++[32])++KW)++[32])++CW)++[32])++SW)++[32])) (AW) rfl rfl rfl rfl (by have:=HLL.out;simp;omega) ?_
 simp only [Act.put,sT1,sT2,sT3]
 refine wpE_cat (((((((((((TI++[46])++MT)++[32])++KW)++[32])++CW)++[32])++SW)++[32])++AW)) ([32]) rfl rfl rfl rfl (by have:=HLL.out;simp;omega) ?_
 simp only [Act.put,sT1,sT2,sT3]
 refine wpE_val (.pointer (some ⟨w.heap.size,9,none⟩)) rfl rfl (fun w' hw' K' hK'=>?_) ?_
 ·have hE:=hw'.1
  go_step
  exact hK'
 simp only [Act.put,sT1,sT2,sT3]
 refine wpE_val (.int .i64 m.co) rfl rfl (fun w' hw' K' hK'=>?_) ?_
 ·have hE:=hw'.1
  obtain ⟨u0,u1,u2,u3,u4,u5,u6,u7,u8,u9,u10,u11⟩:=(HB.out.ext ((Ext.drew wr).trans hE)).cells
  go_step
  exact hK'
 simp only [Act.put,sT1,sT2,sT3]
 refine wpE_symcall 43 rfl (by simp) true (.string ⟨(CO).toArray⟩) (rfl) (fun _ _ h=>h) (fun hc w' hw' K' hK'=>?_) ?_
 ·have hE:=hw'.1
  try simp only [cond_true]
  go_step
  refine (HCO.out w' (HXr.out.trans ((Ext.drew _).trans hE))).mono ?_
  rintro _ w2 ⟨rfl,hx⟩
  exact hK' _ _ rfl hx
 simp only [cond_true,Act.put,sT1,sT2,sT3]
 refine wpE_cat ((((((((((((TI++[46])++MT)++[32])++KW)++[32])++CW)++[32])++SW)++[32])++AW)++[32])) (CO) rfl rfl rfl rfl (by have:=HLL.out;simp;omega) ?_
 simp only [Act.put,sT1,sT2,sT3]
 refine wpE_cat (((((((((((((TI++[46])++MT)++[32])++KW)++[32])++CW)++[32])++SW)++[32])++AW)++[32])++CO)) ([32]) rfl rfl rfl rfl (by have:=HLL.out;simp;omega) ?_
 simp only [Act.put,sT1,sT2,sT3]
 refine wpE_val (.pointer (some ⟨w.heap.size,10,none⟩)) rfl rfl (fun w' hw' K' hK'=>?_) ?_
 ·have hE:=hw'.1
  go_step
  exact hK'
 simp only [Act.put,sT1,sT2,sT3]
 refine wpE_val (.int .i64 m.pr) rfl rfl (fun w' hw' K' hK'=>?_) ?_
 ·have hE:=hw'.1
  obtain ⟨u0,u1,u2,u3,u4,u5,u6,u7,u8,u9,u10,u11⟩:=(HB.out.ext ((Ext.drew wr).trans hE)).cells
  go_step
  exact hK'
 simp only [Act.put,sT1,sT2,sT3]
 refine wpE_symcall 48 rfl (by simp) true (.string ⟨(PR).toArray⟩) (rfl) (fun _ _ h=>h) (fun hc w' hw' K' hK'=>?_) ?_
 ·have hE:=hw'.1
  try simp only [cond_true]
  go_step
  refine (HPR.out w' (HXr.out.trans ((Ext.drew _).trans hE))).mono ?_
  rintro _ w2 ⟨rfl,hx⟩
  exact hK' _ _ rfl hx
 simp only [cond_true,Act.put,sT1,sT2,sT3]
 refine wpE_cat ((((((((((((((TI++[46])++MT)++[32])++KW)++[32])++CW)++[32])++SW)++[32])++AW)++[32])++CO)++[32])) (PR) rfl rfl rfl rfl (by have:=HLL.out;simp;omega) ?_
 simp only [Act.put,sT1,sT2,sT3]
 refine wpE_cat (((((((((((((((TI++[46])++MT)++[32])++KW)++[32])++CW)++[32])++SW)++[32])++AW)++[32])++CO)++[32])++PR)) ([32]) rfl rfl rfl rfl (by have:=HLL.out;simp;omega) ?_
 simp only [Act.put,sT1,sT2,sT3]
 refine wpE_val (.pointer (some ⟨w.heap.size,11,none⟩)) rfl rfl (fun w' hw' K' hK'=>?_) ?_
 ·have hE:=hw'.1
  go_step
  exact hK'
 simp only [Act.put,sT1,sT2,sT3]
 refine wpE_val (.int .u32 (m.fl.toNat:Int)) rfl rfl (fun w' hw' K' hK'=>?_) ?_
 ·have hE:=hw'.1
  obtain ⟨u0,u1,u2,u3,u4,u5,u6,u7,u8,u9,u10,u11⟩:=(HB.out.ext ((Ext.drew wr).trans hE)).cells
  go_step
  exact hK'
 simp only [Act.put,sT1,sT2,sT3]
 refine wpE_symcall 53 rfl (by simp) true (.string ⟨(FW).toArray⟩) (rfl) (fun _ _ h=>h) (fun hc w' hw' K' hK'=>?_) ?_
 ·have hE:=hw'.1
  try simp only [cond_true]
  go_step
  refine (HFW.out w' (HXr.out.trans ((Ext.drew _).trans hE))).mono ?_
  rintro _ w2 ⟨rfl,hx⟩
  exact hK' _ _ rfl hx
 simp only [cond_true,Act.put,sT1,sT2,sT3]
 refine wpE_cat ((((((((((((((((TI++[46])++MT)++[32])++KW)++[32])++CW)++[32])++SW)++[32])++AW)++[32])++CO)++[32])++PR)++[32])) (FW) rfl rfl rfl rfl (by have:=HLL.out;simp;omega) ?_
 simp only [Act.put,sT1,sT2,sT3]
 refine wpE_op rfl rfl (fun w' hw' K' hK'=>?_)
 go_step
 refine hK' _ ⟨_,rfl⟩ ?_
 clear hK' K' hw' w'
 refine wpE_nil (fun W hW=>?_)
 have HXW:=Lib.hid ((HX.out.trans HXr.out).trans ((Ext.drew _).trans hW.1))
 clear hW
 go_wp2_with fail
 go_ret
 exact ⟨rfl,HXW.out⟩
end Go.Proofs.YtnjmndofcpnmeaaGreatDoor
namespace Go.Proofs.YtnjmndofcpnmeaaGreatDoor
open Go Go.Lib
set_option linter.unusedVariables false
theorem names_far:((List.range 12).all fun k=>(List.range 32).all fun j=>decide (j<12) || !((nmS j).data.toList==(nmS k).data.toList))=true:=by kernel_rfl
theorem dash_far:((List.range 32).all fun j=>!((nmS j).data.toList==[45]))=true:=by kernel_rfl
theorem inF_12 {l:List UInt8}(h:∀ j,12≤j→j<32→(nmS j).data.toList≠l)(f:W32):inF f l 12=pF f l:=by
 have:∀ n,12+n≤32→inF f l (12+n)=inF f l 12:=by
  intro n
  induction n with
  | zero=>intro _;rfl
  | succ n ih=>
   intro hn
   rw [← Nat.add_assoc,inF_succ,if_neg (fun e=>h (12+n) (by omega) (by omega) e.2),ih (by omega)]
 rw [← inF_all]
 exact (this 20 (by omega)).symm
theorem foldl_same {α β:Type} {g h:β→α→β}:∀ (ls:List α) (b:β),(∀ l∈ls,∀ x,g x l=h x l)→ls.foldl g b=ls.foldl h b
 | [],b,_=>rfl
 | l::ls,b,k=>by
  rw [List.foldl_cons,List.foldl_cons,k l (by simp),foldl_same ls _ (fun m hm x=>k m (List.mem_cons_of_mem _ hm) x)]
theorem words_44 {f:W32}(hv:tkB f=true):∀ l∈splb 44 [] (textF f),l=[45]∨∃ k,k<12∧l=(nmS k).data.toList:=by
 unfold textF
 by_cases hz:f=0#32
 ·subst hz
  rw [if_pos rfl]
  intro l hl
  have:splb 44 [] [45]=[[45]]:=by kernel_rfl
  rw [this] at hl
  exact .inl (by simpa using hl)
 ·rw [if_neg hz]
  have hn:∀ m∈(nmL (bitsF f)).map (·.data.toList),(∃ k,k<12∧m=(nmS k).data.toList)∧∀ c∈m,c≠44:=by
   intro m hm
   simp only [nmL,List.map_map,List.mem_map] at hm
   obtain ⟨k,hk,rfl⟩:=hm
   have hk2:k<32∧isF f k=true:=by
    unfold bitsF bitsTo at hk
    rw [List.mem_filter] at hk
    exact ⟨by simpa using hk.1,hk.2⟩
   have hk12:k<12:=by
    refine Classical.byContradiction fun h12=>?_
    have h1:=hk2.2
    rw [isF_bit (tk_nm hv) k hk2.1] at h1
    have h3:=(hasB_iff tkM f).1 hv k hk2.1 h1
    have h4:((List.range 32).all fun k=>decide (k<12) || !tkM.getLsbD k)=true:=by decide
    have h5:=List.all_eq_true.1 h4 k (List.mem_range.2 hk2.1)
    rw [h3,decide_eq_false h12] at h5
    cases h5
   refine ⟨⟨k,hk12,rfl⟩,fun c hc=>?_⟩
   have:=(List.all_eq_true.1 names_free) k (by simpa using hk2.1)
   have:=(List.all_eq_true.1 this) c hc
   simpa using this
  intro l hl
  unfold joinF at hl
  cases hls:(nmL (bitsF f)).map (·.data.toList) with
  | nil=>
   have:=bitsF_ne (tk_nm hv) hz
   have h1:=congrArg List.length hls
   simp [nmL] at h1
   rw [h1] at this
   simp at this
  | cons a r=>
   rw [hls] at hl hn
   rw [splb_join 44 a r (fun m hm=>(hn m hm).2)] at hl
   exact .inr (hn l hl).1
def flR (ls:List (List UInt8)):W32:=ls.foldl (fun a l=>inF a l 12) 0#32
theorem flR_text {f:W32}(hv:tkB f=true):flR (splb 44 [] (textF f))=f:=by
 unfold flR
 refine (foldl_same (h:=pF) _ _ (fun l hl x=>?_)).trans (fold_text (tk_nm hv))
 refine inF_12 (fun j h1 h2 e=>?_) x
 rcases words_44 hv l hl with rfl | ⟨k,hk,rfl⟩
 ·have:=List.all_eq_true.1 dash_far j (List.mem_range.2 h2)
  rw [e] at this
  simp at this
 ·have:=List.all_eq_true.1 (List.all_eq_true.1 names_far k (List.mem_range.2 hk)) j (List.mem_range.2 h2)
  rw [e,decide_eq_false (by omega)] at this
  simp at this
theorem dig_no46 {x:Int}(h:0≤x):∀ c∈itoa x,c≠46:=fun c hc e=>by
 rw [itoa_nn h,e] at hc
 exact dec_no _ _ (by decide) hc
theorem tim_split {t m:Int}(h:0≤t)(k:0≤m):splb 46 [] (timW t m)=[itoa t,List.replicate (6-(itoa m).length) 48++itoa m]:=by
 unfold timW
 rw [splb_hit 46 _ [] _ (dig_no46 h),splb_acc 46 _ [] (fun c hc=>?_)]
 ·rfl
 ·rcases List.mem_append.1 hc with hc | hc
  ·rw [(List.mem_replicate.1 hc).2];decide
  ·exact dig_no46 k c hc
def kdR (s:List UInt8):Int:=if s=[105,110,105,116,105,97,108] then 10 else if s=[103,114,97,110,116] then 12 else 0
theorem kdR_kind {k:Int}(h:k=0∨k=10∨k=12):kdR (kindW k)=k:=by
 rcases h with rfl | rfl | rfl<;>rfl
def facR (a b w1 w2 w3 w4 w5 w6 w7:List UInt8):Fct:=⟨numR a,numR b,kdR w1,((prsA w4).getD (0,[])).1,((prsA w4).getD (0,[])).2,(prnW w2).1,(prnW w2).2,(prnW w3).1,(prnW w3).2,numR w5,numR w6,flR (splb 44 [] w7)⟩
theorem facR_ok {f:Fct}(h:f.Ok):facR (itoa f.t) (List.replicate (6-(itoa f.mi).length) 48++itoa f.mi) (kindW f.kd) (prsW f.cp f.cr) (prsW f.sp f.sr) (txtA f.fk f.fb) (itoa f.co) (itoa f.pr) (textF f.fl)=f:=by
 unfold facR
 rw [numR_itoa h.t.1 h.t.2,numR_mi h.mi.1 h.mi.2,kdR_kind h.kd,prsA_txt h.fr,prnW_word h.cl,prnW_word h.sv,numR_itoa h.co.1 (by have:=h.co.2;omega),numR_itoa h.pr.1 (by have:=h.pr.2;omega),flR_text h.fl]
 rfl
theorem facR_no8 {l:List UInt8}(h:(splb 32 [] l).length≠8):∀ F:Fct,F.Ok→F.txt≠l:=fun F hF e=>by
 subst e
 rw [txt_words hF] at h
 exact h rfl
theorem facR_no2 {l w0:List UInt8}{r:List (List UInt8)}(hw:splb 32 [] l=w0::r)(h:(splb 46 [] w0).length≠2):∀ F:Fct,F.Ok→F.txt≠l:=fun F hF e=>by
 subst e
 rw [txt_words hF] at hw
 injection hw with hw _
 subst hw
 rw [tim_split hF.t.1 hF.mi.1] at h
 exact h rfl
theorem facR_no {l w0 w1 w2 w3 w4 w5 w6 w7 a b:List UInt8} (hw:splb 32 [] l=[w0,w1,w2,w3,w4,w5,w6,w7]) (ht:splb 46 [] w0=[a,b])
  (h:¬ ((facR a b w1 w2 w3 w4 w5 w6 w7).Ok∧(facR a b w1 w2 w3 w4 w5 w6 w7).txt=l)):∀ F:Fct,F.Ok→F.txt≠l:=fun F hF e=>by
 have hF2:=facR_ok hF
 rw [← e,txt_words hF] at hw
 unfold Fct.wrd at hw
 injection hw with h0 hw;injection hw with h1 hw;injection hw with h2 hw;injection hw with h3 hw;injection hw with h4 hw;injection hw with h5 hw;injection hw with h6 hw;injection hw with h7 hw
 subst h0;subst h1;subst h2;subst h3;subst h4;subst h5;subst h6;subst h7
 rw [tim_split hF.t.1 hF.mi.1] at ht
 injection ht with ha ht;injection ht with hb ht
 subst ha;subst hb
 rw [hF2] at h
 exact h ⟨hF,e⟩
end Go.Proofs.YtnjmndofcpnmeaaGreatDoor
namespace Go.Proofs.YtnjmndofcpnmeaaGreatDoor
open Go.Lib
set_option linter.unusedVariables false
theorem rd6_nil (db:Bool)(bf af:List Nat):rd6 [] db bf af=some (bf,af,db):=by rw [rd6]
theorem rd6_stop {l:List UInt8}{c:UInt8}{r:List UInt8}(hl:l=c::r)(db:Bool)(bf af:List Nat)(h:c=93∨¬ bf.length+af.length<9):rd6 l db bf af=some (bf,af,db):=by
 rw [hl,rd6,if_pos h]
theorem rd6_col {l:List UInt8}{r:List UInt8}(hl:l=58::r)(db:Bool)(bf af:List Nat)(h:bf.length+af.length<9):rd6 l db bf af=rd6 r (db||r.head? == some 58) bf af:=by
 rw [hl];exact rd6_colon r db bf af h
theorem rd6_fail {l:List UInt8}{c:UInt8}{r:List UInt8}{v:Nat}{t:List UInt8}(hl:l=c::r)(db:Bool)(bf af:List Nat)(h1:c≠93)(h2:bf.length+af.length<9)(h3:c≠58)(hd:dgs 16 l 0=(v,t))(hn:¬ t.length<l.length):rd6 l db bf af=none:=by
 rw [hl] at hd hn ⊢
 rw [rd6,if_neg (by rintro (h | h);exact h1 h;exact h h2),if_neg h3,dif_neg (by rw [hd];exact hn)]
theorem rd6_af {l:List UInt8}{c:UInt8}{r:List UInt8}{v:Nat}{t:List UInt8}(hl:l=c::r)(bf af:List Nat)(h1:c≠93)(h2:bf.length+af.length<9)(h3:c≠58)(hd:dgs 16 l 0=(v,t))(hn:t.length<l.length):rd6 l true bf af=rd6 t true bf (af++[v % 65536]):=by
 rw [hl] at hd hn ⊢
 rw [rd6,if_neg (by rintro (h | h);exact h1 h;exact h h2),if_neg h3,dif_pos (by rw [hd];exact hn),if_pos rfl,hd]
theorem rd6_bf {l:List UInt8}{c:UInt8}{r:List UInt8}{v:Nat}{t:List UInt8}(hl:l=c::r)(bf af:List Nat)(h1:c≠93)(h2:bf.length+af.length<9)(h3:c≠58)(hd:dgs 16 l 0=(v,t))(hn:t.length<l.length):rd6 l false bf af=rd6 t false (bf++[v % 65536]) af:=by
 rw [hl] at hd hn ⊢
 rw [rd6,if_neg (by rintro (h | h);exact h1 h;exact h h2),if_neg h3,dif_pos (by rw [hd];exact hn),if_neg (by simp),hd]
theorem pad6_no (bf af:List Nat):pad6 bf af false=bf++af:=by unfold pad6;rw [if_neg (by simp)]
theorem pad6_full (bf af:List Nat)(h:¬ bf.length+af.length<8):pad6 bf af true=bf++af:=by
 unfold pad6
 rw [if_pos rfl,show 8-(bf.length+af.length)=0 by omega]
 simp
theorem pad6_step (bf af:List Nat)(h:bf.length+af.length<8):pad6 bf af true=pad6 (bf++[0]) af true:=by
 unfold pad6
 rw [if_pos rfl,if_pos rfl,show 8-(bf.length+af.length)=8-((bf++[0]).length+af.length)+1 by simp;omega,List.replicate_succ]
 simp
theorem wbs_snoc3 (g:List Nat)(x:Nat):wbs (g++[x])=wbs g++[UInt8.ofNat (x / 256),UInt8.ofNat (x % 256)]:=by rw [wbs_append];rfl
end Go.Proofs.YtnjmndofcpnmeaaGreatDoor
