/- Pc10. -/
import Derived.Test.YtnjmndofcpnmeaaGreatDoorPc6
import Derived.Test.YtnjmndofcpnmeaaGreatDoorPc9
import Derived.Test.YtnjmndofcpnmeaaGreatDoorPc4
import Derived.Test.YtnjmndofcpnmeaaGreatDoorPc0
import Derived.Test.YtnjmndofcpnmeaaGreatDoorPc7
import Derived.Test.YtnjmndofcpnmeaaGreatDoorPc1
import Derived.Test.YtnjmndofcpnmeaaGreatDoorPc8
import Derived.Test.YtnjmndofcpnmeaaGreatDoorPc2
import Derived.Laws.EntriesVeiled
import Derived.Laws.Rows
namespace Go.Proofs.YtnjmndofcpnmeaaGreatDoor
open Go Go.RowKit
set_option linter.unusedVariables false
theorem ok_bits (f:Fct):f.ok=((((((((((((decide (0≤f.t)&&decide (f.t≤1099511627776))&&decide (0≤f.mi))&&decide (f.mi<1000000))&&((f.kd==0||f.kd==10)||f.kd==12))&&okA f.fk f.fb)&&(noneN f.cp f.cr||nameB f.cp f.cr))&&(noneN f.sp f.sr||nameB f.sp f.sr))&&decide (0≤f.co))&&decide (f.co≤127))&&decide (0≤f.pr))&&decide (f.pr≤999))&&tkB f.fl):=by
 unfold Fct.ok prsB
 have e1:decide (f.mi≤999999)=decide (f.mi<1000000):=decide_eq_decide.2 (by omega)
 have e2:decide (f.kd=0∨f.kd=10∨f.kd=12)=((f.kd==0||f.kd==10)||f.kd==12):=by
  rw [Bool.eq_iff_iff]
  simp only [decide_eq_true_eq,Bool.or_eq_true,beq_iff_eq]
  omega
 rw [e2]
 simp only [Bool.decide_and,e1,Bool.and_assoc]
set_option maxRecDepth 100000 in
set_option maxHeartbeats 4000000 in
theorem LValid_at (f:FV) (w:World) (hM:f.In w) (hz:f.Sz) (hE:EnvA w):
  Calls Tryz.prog 24 #[f.val] w fun e w'=>e=.returned (.bool f.fct.ok)∧Ext w w':=by
 rw [ok_bits]
 obtain ⟨t,mi,kd,fk,FA,fb,fc,CA,cp,cc,cr,SA,sp,sc,sr,co,pr,fl⟩:=f
 have hb0:=FBx.new w ⟨t,mi,kd,fk,FA,fb,fc,CA,cp,cc,cr,SA,sp,sc,sr,co,pr,fl⟩
 have hx0:=(Ext.refl w).alloc (.cells #[.int .i64 t,.int .i64 mi,.int .i64 kd,.int .i64 fk,.slice FA fb.length fc,.slice CA cp.length cc,.string cr,.slice SA sp.length sc,.string sr,.int .i64 co,.int .i64 pr,.int .u32 (fl.toNat:Int)] 41)
 dsimp only [FV.val,FV.fct] at hb0 ⊢
 obtain ⟨m1,m2,m3⟩:=hM
 obtain ⟨z1,z2,z3,z4,z5,z6,z7⟩:=hz
 dsimp only at m1 m2 m3 z1 z2 z3 z4 z5 z6 z7
 obtain ⟨W1,e1⟩:∃ W,w.alloc (.cells #[.int .i64 t,.int .i64 mi,.int .i64 kd,.int .i64 fk,.slice FA fb.length fc,.slice CA cp.length cc,.string cr,.slice SA sp.length sc,.string sr,.int .i64 co,.int .i64 pr,.int .u32 (fl.toNat:Int)] 41)=W:=⟨_,rfl⟩
 rw [e1] at hb0 hx0
 have HB:=Lib.hid hb0;have HX:=Lib.hid hx0
 have HA:=Lib.hid (fun W (hx:Ext W1 W)=>Valid_at' fk fb FA fc W (m1.ext (hx0.trans hx)) (hE.ext (hx0.trans hx)))
 have HC0:=Lib.hid (fun W (hx:Ext W1 W)=>noName_at CA cc cp cr z2 W (m2.ext (hx0.trans hx)))
 have HC1:=Lib.hid (fun W (hx:Ext W1 W)=>NValid_at CA cc cp cr (fun p hp=>by have:=z3 p hp;omega) (by omega) W (m2.ext (hx0.trans hx)))
 have HS0:=Lib.hid (fun W (hx:Ext W1 W)=>noName_at SA sc sp sr z5 W (m3.ext (hx0.trans hx)))
 have HS1:=Lib.hid (fun W (hx:Ext W1 W)=>NValid_at SA sc sp sr (fun p hp=>by have:=z6 p hp;omega) (by omega) W (m3.ext (hx0.trans hx)))
 have HT:=Lib.hid (fun W (hx:Ext W1 W)=>(Ticket_at fl W).mono fun e w' (h:e=.returned (.bool (tkB fl))∧W=w')=>(⟨h.1,h.2 ▸ Ext.refl _⟩:e=.returned (.bool (tkB fl))∧Ext W w'))
 unfold adv at HA
 clear hb0 hx0 m1 m2 m3 z1 z2 z3 z4 z5 z6 z7 hE
 obtain ⟨ba,hba⟩:∃ q,okA fk fb=q:=⟨_,rfl⟩
 obtain ⟨bc,hbc⟩:∃ q,noneN (dat cp) cr.data.toList=q:=⟨_,rfl⟩
 obtain ⟨bd,hbd⟩:∃ q,nameB (dat cp) cr.data.toList=q:=⟨_,rfl⟩
 obtain ⟨bs,hbs⟩:∃ q,noneN (dat sp) sr.data.toList=q:=⟨_,rfl⟩
 obtain ⟨bu,hbu⟩:∃ q,nameB (dat sp) sr.data.toList=q:=⟨_,rfl⟩
 obtain ⟨bf,hbf⟩:∃ q,tkB fl=q:=⟨_,rfl⟩
 rw [hba] at HA ⊢;rw [hbc] at HC0 ⊢;rw [hbd] at HC1 ⊢;rw [hbs] at HS0 ⊢;rw [hbu] at HS1 ⊢;rw [hbf] at HT ⊢
 clear hba hbc hbd hbs hbu hbf
 obtain ⟨q1,hq1⟩:∃ q1:Bool,(decide (0≤t))=q1:=⟨_,rfl⟩
 have Hq1:=Lib.hid hq1;clear hq1
 obtain ⟨q2,hq2⟩:∃ q2:Bool,(decide (t≤1099511627776))=q2:=⟨_,rfl⟩
 have Hq2:=Lib.hid hq2;clear hq2
 obtain ⟨p3,hp3⟩:∃ p3:Bool,(q1&&q2)=p3:=⟨_,rfl⟩
 have Hp3:=Lib.hid hp3;clear hp3
 obtain ⟨q4,hq4⟩:∃ q4:Bool,(decide (0≤mi))=q4:=⟨_,rfl⟩
 have Hq4:=Lib.hid hq4;clear hq4
 obtain ⟨p5,hp5⟩:∃ p5:Bool,(p3&&q4)=p5:=⟨_,rfl⟩
 have Hp5:=Lib.hid hp5;clear hp5
 obtain ⟨q6,hq6⟩:∃ q6:Bool,(decide (mi<1000000))=q6:=⟨_,rfl⟩
 have Hq6:=Lib.hid hq6;clear hq6
 obtain ⟨p7,hp7⟩:∃ p7:Bool,(p5&&q6)=p7:=⟨_,rfl⟩
 have Hp7:=Lib.hid hp7;clear hp7
 obtain ⟨q8,hq8⟩:∃ q8:Bool,(kd==0)=q8:=⟨_,rfl⟩
 have Hq8:=Lib.hid hq8;clear hq8
 obtain ⟨c9,hc9⟩:∃ c9:Bool,(p7 && !q8)=c9:=⟨_,rfl⟩
 have Hc9:=Lib.hid hc9;clear hc9
 obtain ⟨q10,hq10⟩:∃ q10:Bool,(kd==10)=q10:=⟨_,rfl⟩
 have Hq10:=Lib.hid hq10;clear hq10
 obtain ⟨p11,hp11⟩:∃ p11:Bool,(q8||q10)=p11:=⟨_,rfl⟩
 have Hp11:=Lib.hid hp11;clear hp11
 obtain ⟨c12,hc12⟩:∃ c12:Bool,(p7 && !p11)=c12:=⟨_,rfl⟩
 have Hc12:=Lib.hid hc12;clear hc12
 obtain ⟨q13,hq13⟩:∃ q13:Bool,(kd==12)=q13:=⟨_,rfl⟩
 have Hq13:=Lib.hid hq13;clear hq13
 obtain ⟨p14,hp14⟩:∃ p14:Bool,(p11||q13)=p14:=⟨_,rfl⟩
 have Hp14:=Lib.hid hp14;clear hp14
 obtain ⟨p15,hp15⟩:∃ p15:Bool,(p7&&p14)=p15:=⟨_,rfl⟩
 have Hp15:=Lib.hid hp15;clear hp15
 obtain ⟨p16,hp16⟩:∃ p16:Bool,(p15&&ba)=p16:=⟨_,rfl⟩
 have Hp16:=Lib.hid hp16;clear hp16
 obtain ⟨c17,hc17⟩:∃ c17:Bool,(p16 && !bc)=c17:=⟨_,rfl⟩
 have Hc17:=Lib.hid hc17;clear hc17
 obtain ⟨p18,hp18⟩:∃ p18:Bool,(bc||bd)=p18:=⟨_,rfl⟩
 have Hp18:=Lib.hid hp18;clear hp18
 obtain ⟨p19,hp19⟩:∃ p19:Bool,(p16&&p18)=p19:=⟨_,rfl⟩
 have Hp19:=Lib.hid hp19;clear hp19
 obtain ⟨c20,hc20⟩:∃ c20:Bool,(p19 && !bs)=c20:=⟨_,rfl⟩
 have Hc20:=Lib.hid hc20;clear hc20
 obtain ⟨p21,hp21⟩:∃ p21:Bool,(bs||bu)=p21:=⟨_,rfl⟩
 have Hp21:=Lib.hid hp21;clear hp21
 obtain ⟨p22,hp22⟩:∃ p22:Bool,(p19&&p21)=p22:=⟨_,rfl⟩
 have Hp22:=Lib.hid hp22;clear hp22
 obtain ⟨q23,hq23⟩:∃ q23:Bool,(decide (0≤co))=q23:=⟨_,rfl⟩
 have Hq23:=Lib.hid hq23;clear hq23
 obtain ⟨p24,hp24⟩:∃ p24:Bool,(p22&&q23)=p24:=⟨_,rfl⟩
 have Hp24:=Lib.hid hp24;clear hp24
 obtain ⟨q25,hq25⟩:∃ q25:Bool,(decide (co≤127))=q25:=⟨_,rfl⟩
 have Hq25:=Lib.hid hq25;clear hq25
 obtain ⟨p26,hp26⟩:∃ p26:Bool,(p24&&q25)=p26:=⟨_,rfl⟩
 have Hp26:=Lib.hid hp26;clear hp26
 obtain ⟨q27,hq27⟩:∃ q27:Bool,(decide (0≤pr))=q27:=⟨_,rfl⟩
 have Hq27:=Lib.hid hq27;clear hq27
 obtain ⟨p28,hp28⟩:∃ p28:Bool,(p26&&q27)=p28:=⟨_,rfl⟩
 have Hp28:=Lib.hid hp28;clear hp28
 obtain ⟨q29,hq29⟩:∃ q29:Bool,(decide (pr≤999))=q29:=⟨_,rfl⟩
 have Hq29:=Lib.hid hq29;clear hq29
 obtain ⟨p30,hp30⟩:∃ p30:Bool,(p28&&q29)=p30:=⟨_,rfl⟩
 have Hp30:=Lib.hid hp30;clear hp30
 obtain ⟨p31,hp31⟩:∃ p31:Bool,(p30&&bf)=p31:=⟨_,rfl⟩
 have Hp31:=Lib.hid hp31;clear hp31
 go_enter Tryz.func24,Tryz.ntmps24
 go_upto_region 1 with fail
 have HX0:=Lib.hid (Ext.refl W1)
 refine wp_region_lit ?_
 refine wpL_val (.pointer (some ⟨w.heap.size,0,none⟩)) rfl (fun K' hK'=>?_) ?_
 ·go_step
  exact hK'
 simp only [Act.put,sT1,sT2,sT3]
 refine wpL_val (.int .i64 t) rfl (fun K' hK'=>?_) ?_
 ·obtain ⟨u0,u1,u2,u3,u4,u5,u6,u7,u8,u9,u10,u11⟩:=(HB.out.ext HX0.out).cells
  go_step
  exact hK'
 simp only [Act.put,sT1,sT2,sT3]
 refine wpL_val (.bool q1) rfl (fun K' hK'=>?_) ?_
 ·have hq:=Hq1.out
  subst hq
  go_step
  exact hK'
 simp only [Act.put,sT1,sT2,sT3]
 refine wpL_val (.bool q1) rfl (fun K' hK'=>?_) ?_
 ·go_step
  exact hK'
 simp only [Act.put,sT1,sT2,sT3]
 refine wpL_sym q1 (.pointer (some ⟨w.heap.size,0,none⟩)) (by cases q1<;>kernel_rfl) (fun hc K' hK'=>?_) ?_
 ·subst hc
  try simp only [cond_true]
  go_step
  exact hK'
 simp only [Act.put,sT1,sT2,sT3]
 refine wpL_sym q1 (.int .i64 t) (by cases q1<;>kernel_rfl) (fun hc K' hK'=>?_) ?_
 ·subst hc
  try simp only [cond_true]
  obtain ⟨u0,u1,u2,u3,u4,u5,u6,u7,u8,u9,u10,u11⟩:=(HB.out.ext HX0.out).cells
  go_step
  exact hK'
 simp only [Act.put,sT1,sT2,sT3]
 refine wpL_sym q1 (.bool q2) (by cases q1<;>kernel_rfl) (fun hc K' hK'=>?_) ?_
 ·subst hc
  try simp only [cond_true]
  have hq:=Hq2.out
  subst hq
  go_step
  exact hK'
 simp only [Act.put,sT1,sT2,sT3]
 refine wpL_val (.bool p3) rfl (fun K' hK'=>?_) ?_
 ·have hp:=Hp3.out
  subst hp
  cases q1
  ·go_step
   exact hK'
  ·go_step
   exact hK'
 simp only [Act.put,sT1,sT2,sT3]
 refine wpL_val (.bool p3) rfl (fun K' hK'=>?_) ?_
 ·go_step
  exact hK'
 simp only [Act.put,sT1,sT2,sT3]
 refine wpL_sym p3 (.pointer (some ⟨w.heap.size,1,none⟩)) (by cases p3<;>kernel_rfl) (fun hc K' hK'=>?_) ?_
 ·subst hc
  try simp only [cond_true]
  go_step
  exact hK'
 simp only [Act.put,sT1,sT2,sT3]
 refine wpL_sym p3 (.int .i64 mi) (by cases p3<;>kernel_rfl) (fun hc K' hK'=>?_) ?_
 ·subst hc
  try simp only [cond_true]
  obtain ⟨u0,u1,u2,u3,u4,u5,u6,u7,u8,u9,u10,u11⟩:=(HB.out.ext HX0.out).cells
  go_step
  exact hK'
 simp only [Act.put,sT1,sT2,sT3]
 refine wpL_sym p3 (.bool q4) (by cases p3<;>kernel_rfl) (fun hc K' hK'=>?_) ?_
 ·subst hc
  try simp only [cond_true]
  have hq:=Hq4.out
  subst hq
  go_step
  exact hK'
 simp only [Act.put,sT1,sT2,sT3]
 refine wpL_val (.bool p5) rfl (fun K' hK'=>?_) ?_
 ·have hp:=Hp5.out
  subst hp
  cases p3
  ·go_step
   exact hK'
  ·go_step
   exact hK'
 simp only [Act.put,sT1,sT2,sT3]
 refine wpL_val (.bool p5) rfl (fun K' hK'=>?_) ?_
 ·go_step
  exact hK'
 simp only [Act.put,sT1,sT2,sT3]
 refine wpL_sym p5 (.pointer (some ⟨w.heap.size,1,none⟩)) (by cases p5<;>kernel_rfl) (fun hc K' hK'=>?_) ?_
 ·subst hc
  try simp only [cond_true]
  go_step
  exact hK'
 simp only [Act.put,sT1,sT2,sT3]
 refine wpL_sym p5 (.int .i64 mi) (by cases p5<;>kernel_rfl) (fun hc K' hK'=>?_) ?_
 ·subst hc
  try simp only [cond_true]
  obtain ⟨u0,u1,u2,u3,u4,u5,u6,u7,u8,u9,u10,u11⟩:=(HB.out.ext HX0.out).cells
  go_step
  exact hK'
 simp only [Act.put,sT1,sT2,sT3]
 refine wpL_sym p5 (.bool q6) (by cases p5<;>kernel_rfl) (fun hc K' hK'=>?_) ?_
 ·subst hc
  try simp only [cond_true]
  have hq:=Hq6.out
  subst hq
  go_step
  exact hK'
 simp only [Act.put,sT1,sT2,sT3]
 refine wpL_val (.bool p7) rfl (fun K' hK'=>?_) ?_
 ·have hp:=Hp7.out
  subst hp
  cases p5
  ·go_step
   exact hK'
  ·go_step
   exact hK'
 simp only [Act.put,sT1,sT2,sT3]
 refine wpL_val (.bool p7) rfl (fun K' hK'=>?_) ?_
 ·go_step
  exact hK'
 simp only [Act.put,sT1,sT2,sT3]
 refine wpL_sym p7 (.pointer (some ⟨w.heap.size,2,none⟩)) (by cases p7<;>kernel_rfl) (fun hc K' hK'=>?_) ?_
 ·subst hc
  try simp only [cond_true]
  go_step
  exact hK'
 simp only [Act.put,sT1,sT2,sT3]
 refine wpL_sym p7 (.int .i64 kd) (by cases p7<;>kernel_rfl) (fun hc K' hK'=>?_) ?_
 ·subst hc
  try simp only [cond_true]
  obtain ⟨u0,u1,u2,u3,u4,u5,u6,u7,u8,u9,u10,u11⟩:=(HB.out.ext HX0.out).cells
  go_step
  exact hK'
 simp only [Act.put,sT1,sT2,sT3]
 refine wpL_sym p7 (.bool q8) (by cases p7<;>kernel_rfl) (fun hc K' hK'=>?_) ?_
 ·subst hc
  try simp only [cond_true]
  have hq:=Hq8.out
  subst hq
  go_step
  exact hK'
 simp only [Act.put,sT1,sT2,sT3]
 refine wpL_sym p7 (.bool q8) (by cases p7<;>kernel_rfl) (fun hc K' hK'=>?_) ?_
 ·subst hc
  try simp only [cond_true]
  go_step
  exact hK'
 simp only [Act.put,sT1,sT2,sT3]
 refine wpL_sym c9 (.pointer (some ⟨w.heap.size,2,none⟩)) (by rw [← Hc9.out];cases p7<;>cases q8<;>kernel_rfl) (fun hc K' hK'=>?_) ?_
 ·subst hc
  try simp only [cond_true]
  go_step
  exact hK'
 simp only [Act.put,sT1,sT2,sT3]
 refine wpL_sym c9 (.int .i64 kd) (by rw [← Hc9.out];cases p7<;>cases q8<;>kernel_rfl) (fun hc K' hK'=>?_) ?_
 ·subst hc
  try simp only [cond_true]
  obtain ⟨u0,u1,u2,u3,u4,u5,u6,u7,u8,u9,u10,u11⟩:=(HB.out.ext HX0.out).cells
  go_step
  exact hK'
 simp only [Act.put,sT1,sT2,sT3]
 refine wpL_sym c9 (.bool q10) (by rw [← Hc9.out];cases p7<;>cases q8<;>kernel_rfl) (fun hc K' hK'=>?_) ?_
 ·subst hc
  try simp only [cond_true]
  have hq:=Hq10.out
  subst hq
  go_step
  exact hK'
 simp only [Act.put,sT1,sT2,sT3]
 refine wpL_sym p7 (.bool p11) (by cases p7<;>kernel_rfl) (fun hc K' hK'=>?_) ?_
 ·subst hc
  try simp only [cond_true]
  have hp:=Hp11.out
  subst hp
  have hg:=Hc9.out
  subst hg
  cases q8
  ·go_step
   exact hK'
  ·go_step
   exact hK'
 simp only [Act.put,sT1,sT2,sT3]
 refine wpL_sym p7 (.bool p11) (by cases p7<;>kernel_rfl) (fun hc K' hK'=>?_) ?_
 ·subst hc
  try simp only [cond_true]
  go_step
  exact hK'
 simp only [Act.put,sT1,sT2,sT3]
 refine wpL_sym c12 (.pointer (some ⟨w.heap.size,2,none⟩)) (by rw [← Hc12.out];cases p7<;>cases p11<;>kernel_rfl) (fun hc K' hK'=>?_) ?_
 ·subst hc
  try simp only [cond_true]
  go_step
  exact hK'
 simp only [Act.put,sT1,sT2,sT3]
 refine wpL_sym c12 (.int .i64 kd) (by rw [← Hc12.out];cases p7<;>cases p11<;>kernel_rfl) (fun hc K' hK'=>?_) ?_
 ·subst hc
  try simp only [cond_true]
  obtain ⟨u0,u1,u2,u3,u4,u5,u6,u7,u8,u9,u10,u11⟩:=(HB.out.ext HX0.out).cells
  go_step
  exact hK'
 simp only [Act.put,sT1,sT2,sT3]
 refine wpL_sym c12 (.bool q13) (by rw [← Hc12.out];cases p7<;>cases p11<;>kernel_rfl) (fun hc K' hK'=>?_) ?_
 ·subst hc
  try simp only [cond_true]
  have hq:=Hq13.out
  subst hq
  go_step
  exact hK'
 simp only [Act.put,sT1,sT2,sT3]
 refine wpL_sym p7 (.bool p14) (by cases p7<;>kernel_rfl) (fun hc K' hK'=>?_) ?_
 ·subst hc
  try simp only [cond_true]
  have hp:=Hp14.out
  subst hp
  have hg:=Hc12.out
  subst hg
  cases p11
  ·go_step
   exact hK'
  ·go_step
   exact hK'
 simp only [Act.put,sT1,sT2,sT3]
 refine wpL_val (.bool p15) rfl (fun K' hK'=>?_) ?_
 ·have hp:=Hp15.out
  subst hp
  cases p7
  ·go_step
   exact hK'
  ·go_step
   exact hK'
 simp only [Act.put,sT1,sT2,sT3]
 refine wpL_val (.bool p15) rfl (fun K' hK'=>?_) ?_
 ·go_step
  exact hK'
 simp only [Act.put,sT1,sT2,sT3]
 refine wpL_sym p15 (.pointer (some ⟨w.heap.size,3,none⟩)) (by cases p15<;>kernel_rfl) (fun hc K' hK'=>?_) ?_
 ·subst hc
  try simp only [cond_true]
  go_step
  exact hK'
 simp only [Act.put,sT1,sT2,sT3]
 refine wpL_sym p15 (.agg #[.int .i64 fk,.slice FA fb.length fc]) (by cases p15<;>kernel_rfl) (fun hc K' hK'=>?_) ?_
 ·subst hc
  try simp only [cond_true]
  obtain ⟨u0,u1,u2,u3,u4,u5,u6,u7,u8,u9,u10,u11⟩:=(HB.out.ext HX0.out).cells
  go_step
  exact hK'
 simp only [Act.put,sT1,sT2,sT3]
 refine wpL_symcall p15 (.bool ba) (by cases p15<;>kernel_rfl) (fun hc K' hK'=>?_) (fun wc39 hx=>?_)
 ·subst hc
  try simp only [cond_true]
  go_step
  refine (HA.out W1 HX0.out).mono ?_
  rintro _ w2 ⟨rfl,hx⟩
  exact hK' _ hx
 have HX39:=Lib.hid (HX0.out.trans hx);clear hx
 simp only [Act.put,sT1,sT2,sT3]
 refine wpL_val (.bool p16) rfl (fun K' hK'=>?_) ?_
 ·have hp:=Hp16.out
  subst hp
  cases p15
  ·go_step
   exact hK'
  ·go_step
   exact hK'
 simp only [Act.put,sT1,sT2,sT3]
 refine wpL_val (.bool p16) rfl (fun K' hK'=>?_) ?_
 ·go_step
  exact hK'
 simp only [Act.put,sT1,sT2,sT3]
 refine wpL_sym p16 (.pointer (some ⟨w.heap.size,5,none⟩)) (by cases p16<;>kernel_rfl) (fun hc K' hK'=>?_) ?_
 ·subst hc
  try simp only [cond_true]
  go_step
  exact hK'
 simp only [Act.put,sT1,sT2,sT3]
 refine wpL_sym p16 (.agg #[.slice CA cp.length cc,.string cr]) (by cases p16<;>kernel_rfl) (fun hc K' hK'=>?_) ?_
 ·subst hc
  try simp only [cond_true]
  obtain ⟨u0,u1,u2,u3,u4,u5,u6,u7,u8,u9,u10,u11⟩:=(HB.out.ext HX39.out).cells
  go_step
  exact hK'
 simp only [Act.put,sT1,sT2,sT3]
 refine wpL_symcall p16 (.bool bc) (by cases p16<;>kernel_rfl) (fun hc K' hK'=>?_) (fun wc44 hx=>?_)
 ·subst hc
  try simp only [cond_true]
  go_step
  refine (HC0.out wc39 HX39.out).mono ?_
  rintro _ w2 ⟨rfl,hx⟩
  exact hK' _ hx
 have HX44:=Lib.hid (HX39.out.trans hx);clear hx
 simp only [Act.put,sT1,sT2,sT3]
 refine wpL_sym p16 (.bool bc) (by cases p16<;>kernel_rfl) (fun hc K' hK'=>?_) ?_
 ·subst hc
  try simp only [cond_true]
  go_step
  exact hK'
 simp only [Act.put,sT1,sT2,sT3]
 refine wpL_sym c17 (.pointer (some ⟨w.heap.size,5,none⟩)) (by rw [← Hc17.out];cases p16<;>cases bc<;>kernel_rfl) (fun hc K' hK'=>?_) ?_
 ·subst hc
  try simp only [cond_true]
  go_step
  exact hK'
 simp only [Act.put,sT1,sT2,sT3]
 refine wpL_sym c17 (.agg #[.slice CA cp.length cc,.string cr]) (by rw [← Hc17.out];cases p16<;>cases bc<;>kernel_rfl) (fun hc K' hK'=>?_) ?_
 ·subst hc
  try simp only [cond_true]
  obtain ⟨u0,u1,u2,u3,u4,u5,u6,u7,u8,u9,u10,u11⟩:=(HB.out.ext HX44.out).cells
  go_step
  exact hK'
 simp only [Act.put,sT1,sT2,sT3]
 refine wpL_symcall c17 (.bool bd) (by rw [← Hc17.out];cases p16<;>cases bc<;>kernel_rfl) (fun hc K' hK'=>?_) (fun wc48 hx=>?_)
 ·subst hc
  try simp only [cond_true]
  go_step
  refine (HC1.out wc44 HX44.out).mono ?_
  rintro _ w2 ⟨rfl,hx⟩
  exact hK' _ hx
 have HX48:=Lib.hid (HX44.out.trans hx);clear hx
 simp only [Act.put,sT1,sT2,sT3]
 refine wpL_sym p16 (.bool p18) (by cases p16<;>kernel_rfl) (fun hc K' hK'=>?_) ?_
 ·subst hc
  try simp only [cond_true]
  have hp:=Hp18.out
  subst hp
  have hg:=Hc17.out
  subst hg
  cases bc
  ·go_step
   exact hK'
  ·go_step
   exact hK'
 simp only [Act.put,sT1,sT2,sT3]
 refine wpL_val (.bool p19) rfl (fun K' hK'=>?_) ?_
 ·have hp:=Hp19.out
  subst hp
  cases p16
  ·go_step
   exact hK'
  ·go_step
   exact hK'
 simp only [Act.put,sT1,sT2,sT3]
 refine wpL_val (.bool p19) rfl (fun K' hK'=>?_) ?_
 ·go_step
  exact hK'
 simp only [Act.put,sT1,sT2,sT3]
 refine wpL_sym p19 (.pointer (some ⟨w.heap.size,7,none⟩)) (by cases p19<;>kernel_rfl) (fun hc K' hK'=>?_) ?_
 ·subst hc
  try simp only [cond_true]
  go_step
  exact hK'
 simp only [Act.put,sT1,sT2,sT3]
 refine wpL_sym p19 (.agg #[.slice SA sp.length sc,.string sr]) (by cases p19<;>kernel_rfl) (fun hc K' hK'=>?_) ?_
 ·subst hc
  try simp only [cond_true]
  obtain ⟨u0,u1,u2,u3,u4,u5,u6,u7,u8,u9,u10,u11⟩:=(HB.out.ext HX48.out).cells
  go_step
  exact hK'
 simp only [Act.put,sT1,sT2,sT3]
 refine wpL_symcall p19 (.bool bs) (by cases p19<;>kernel_rfl) (fun hc K' hK'=>?_) (fun wc54 hx=>?_)
 ·subst hc
  try simp only [cond_true]
  go_step
  refine (HS0.out wc48 HX48.out).mono ?_
  rintro _ w2 ⟨rfl,hx⟩
  exact hK' _ hx
 have HX54:=Lib.hid (HX48.out.trans hx);clear hx
 simp only [Act.put,sT1,sT2,sT3]
 refine wpL_sym p19 (.bool bs) (by cases p19<;>kernel_rfl) (fun hc K' hK'=>?_) ?_
 ·subst hc
  try simp only [cond_true]
  go_step
  exact hK'
 simp only [Act.put,sT1,sT2,sT3]
 refine wpL_sym c20 (.pointer (some ⟨w.heap.size,7,none⟩)) (by rw [← Hc20.out];cases p19<;>cases bs<;>kernel_rfl) (fun hc K' hK'=>?_) ?_
 ·subst hc
  try simp only [cond_true]
  go_step
  exact hK'
 simp only [Act.put,sT1,sT2,sT3]
 refine wpL_sym c20 (.agg #[.slice SA sp.length sc,.string sr]) (by rw [← Hc20.out];cases p19<;>cases bs<;>kernel_rfl) (fun hc K' hK'=>?_) ?_
 ·subst hc
  try simp only [cond_true]
  obtain ⟨u0,u1,u2,u3,u4,u5,u6,u7,u8,u9,u10,u11⟩:=(HB.out.ext HX54.out).cells
  go_step
  exact hK'
 simp only [Act.put,sT1,sT2,sT3]
 refine wpL_symcall c20 (.bool bu) (by rw [← Hc20.out];cases p19<;>cases bs<;>kernel_rfl) (fun hc K' hK'=>?_) (fun wc58 hx=>?_)
 ·subst hc
  try simp only [cond_true]
  go_step
  refine (HS1.out wc54 HX54.out).mono ?_
  rintro _ w2 ⟨rfl,hx⟩
  exact hK' _ hx
 have HX58:=Lib.hid (HX54.out.trans hx);clear hx
 simp only [Act.put,sT1,sT2,sT3]
 refine wpL_sym p19 (.bool p21) (by cases p19<;>kernel_rfl) (fun hc K' hK'=>?_) ?_
 ·subst hc
  try simp only [cond_true]
  have hp:=Hp21.out
  subst hp
  have hg:=Hc20.out
  subst hg
  cases bs
  ·go_step
   exact hK'
  ·go_step
   exact hK'
 simp only [Act.put,sT1,sT2,sT3]
 refine wpL_val (.bool p22) rfl (fun K' hK'=>?_) ?_
 ·have hp:=Hp22.out
  subst hp
  cases p19
  ·go_step
   exact hK'
  ·go_step
   exact hK'
 simp only [Act.put,sT1,sT2,sT3]
 refine wpL_val (.bool p22) rfl (fun K' hK'=>?_) ?_
 ·go_step
  exact hK'
 simp only [Act.put,sT1,sT2,sT3]
 refine wpL_sym p22 (.pointer (some ⟨w.heap.size,9,none⟩)) (by cases p22<;>kernel_rfl) (fun hc K' hK'=>?_) ?_
 ·subst hc
  try simp only [cond_true]
  go_step
  exact hK'
 simp only [Act.put,sT1,sT2,sT3]
 refine wpL_sym p22 (.int .i64 co) (by cases p22<;>kernel_rfl) (fun hc K' hK'=>?_) ?_
 ·subst hc
  try simp only [cond_true]
  obtain ⟨u0,u1,u2,u3,u4,u5,u6,u7,u8,u9,u10,u11⟩:=(HB.out.ext HX58.out).cells
  go_step
  exact hK'
 simp only [Act.put,sT1,sT2,sT3]
 refine wpL_sym p22 (.bool q23) (by cases p22<;>kernel_rfl) (fun hc K' hK'=>?_) ?_
 ·subst hc
  try simp only [cond_true]
  have hq:=Hq23.out
  subst hq
  go_step
  exact hK'
 simp only [Act.put,sT1,sT2,sT3]
 refine wpL_val (.bool p24) rfl (fun K' hK'=>?_) ?_
 ·have hp:=Hp24.out
  subst hp
  cases p22
  ·go_step
   exact hK'
  ·go_step
   exact hK'
 simp only [Act.put,sT1,sT2,sT3]
 refine wpL_val (.bool p24) rfl (fun K' hK'=>?_) ?_
 ·go_step
  exact hK'
 simp only [Act.put,sT1,sT2,sT3]
 refine wpL_sym p24 (.pointer (some ⟨w.heap.size,9,none⟩)) (by cases p24<;>kernel_rfl) (fun hc K' hK'=>?_) ?_
 ·subst hc
  try simp only [cond_true]
  go_step
  exact hK'
 simp only [Act.put,sT1,sT2,sT3]
 refine wpL_sym p24 (.int .i64 co) (by cases p24<;>kernel_rfl) (fun hc K' hK'=>?_) ?_
 ·subst hc
  try simp only [cond_true]
  obtain ⟨u0,u1,u2,u3,u4,u5,u6,u7,u8,u9,u10,u11⟩:=(HB.out.ext HX58.out).cells
  go_step
  exact hK'
 simp only [Act.put,sT1,sT2,sT3]
 refine wpL_sym p24 (.bool q25) (by cases p24<;>kernel_rfl) (fun hc K' hK'=>?_) ?_
 ·subst hc
  try simp only [cond_true]
  have hq:=Hq25.out
  subst hq
  go_step
  exact hK'
 simp only [Act.put,sT1,sT2,sT3]
 refine wpL_val (.bool p26) rfl (fun K' hK'=>?_) ?_
 ·have hp:=Hp26.out
  subst hp
  cases p24
  ·go_step
   exact hK'
  ·go_step
   exact hK'
 simp only [Act.put,sT1,sT2,sT3]
 refine wpL_val (.bool p26) rfl (fun K' hK'=>?_) ?_
 ·go_step
  exact hK'
 simp only [Act.put,sT1,sT2,sT3]
 refine wpL_sym p26 (.pointer (some ⟨w.heap.size,10,none⟩)) (by cases p26<;>kernel_rfl) (fun hc K' hK'=>?_) ?_
 ·subst hc
  try simp only [cond_true]
  go_step
  exact hK'
 simp only [Act.put,sT1,sT2,sT3]
 refine wpL_sym p26 (.int .i64 pr) (by cases p26<;>kernel_rfl) (fun hc K' hK'=>?_) ?_
 ·subst hc
  try simp only [cond_true]
  obtain ⟨u0,u1,u2,u3,u4,u5,u6,u7,u8,u9,u10,u11⟩:=(HB.out.ext HX58.out).cells
  go_step
  exact hK'
 simp only [Act.put,sT1,sT2,sT3]
 refine wpL_sym p26 (.bool q27) (by cases p26<;>kernel_rfl) (fun hc K' hK'=>?_) ?_
 ·subst hc
  try simp only [cond_true]
  have hq:=Hq27.out
  subst hq
  go_step
  exact hK'
 simp only [Act.put,sT1,sT2,sT3]
 refine wpL_val (.bool p28) rfl (fun K' hK'=>?_) ?_
 ·have hp:=Hp28.out
  subst hp
  cases p26
  ·go_step
   exact hK'
  ·go_step
   exact hK'
 simp only [Act.put,sT1,sT2,sT3]
 refine wpL_val (.bool p28) rfl (fun K' hK'=>?_) ?_
 ·go_step
  exact hK'
 simp only [Act.put,sT1,sT2,sT3]
 refine wpL_sym p28 (.pointer (some ⟨w.heap.size,10,none⟩)) (by cases p28<;>kernel_rfl) (fun hc K' hK'=>?_) ?_
 ·subst hc
  try simp only [cond_true]
  go_step
  exact hK'
 simp only [Act.put,sT1,sT2,sT3]
 refine wpL_sym p28 (.int .i64 pr) (by cases p28<;>kernel_rfl) (fun hc K' hK'=>?_) ?_
 ·subst hc
  try simp only [cond_true]
  obtain ⟨u0,u1,u2,u3,u4,u5,u6,u7,u8,u9,u10,u11⟩:=(HB.out.ext HX58.out).cells
  go_step
  exact hK'
 simp only [Act.put,sT1,sT2,sT3]
 refine wpL_sym p28 (.bool q29) (by cases p28<;>kernel_rfl) (fun hc K' hK'=>?_) ?_
 ·subst hc
  try simp only [cond_true]
  have hq:=Hq29.out
  subst hq
  go_step
  exact hK'
 simp only [Act.put,sT1,sT2,sT3]
 refine wpL_val (.bool p30) rfl (fun K' hK'=>?_) ?_
 ·have hp:=Hp30.out
  subst hp
  cases p28
  ·go_step
   exact hK'
  ·go_step
   exact hK'
 simp only [Act.put,sT1,sT2,sT3]
 refine wpL_val (.bool p30) rfl (fun K' hK'=>?_) ?_
 ·go_step
  exact hK'
 simp only [Act.put,sT1,sT2,sT3]
 refine wpL_sym p30 (.pointer (some ⟨w.heap.size,11,none⟩)) (by cases p30<;>kernel_rfl) (fun hc K' hK'=>?_) ?_
 ·subst hc
  try simp only [cond_true]
  go_step
  exact hK'
 simp only [Act.put,sT1,sT2,sT3]
 refine wpL_sym p30 (.int .u32 (fl.toNat:Int)) (by cases p30<;>kernel_rfl) (fun hc K' hK'=>?_) ?_
 ·subst hc
  try simp only [cond_true]
  obtain ⟨u0,u1,u2,u3,u4,u5,u6,u7,u8,u9,u10,u11⟩:=(HB.out.ext HX58.out).cells
  go_step
  exact hK'
 simp only [Act.put,sT1,sT2,sT3]
 refine wpL_symcall p30 (.bool bf) (by cases p30<;>kernel_rfl) (fun hc K' hK'=>?_) (fun wc84 hx=>?_)
 ·subst hc
  try simp only [cond_true]
  go_step
  refine (HT.out wc58 HX58.out).mono ?_
  rintro _ w2 ⟨rfl,hx⟩
  exact hK' _ hx
 have HX84:=Lib.hid (HX58.out.trans hx);clear hx
 simp only [Act.put,sT1,sT2,sT3]
 refine wpL_val (.bool p31) rfl (fun K' hK'=>?_) ?_
 ·have hp:=Hp31.out
  subst hp
  cases p30
  ·go_step
   exact hK'
  ·go_step
   exact hK'
 simp only [Act.put,sT1,sT2,sT3]
 refine wpL_val (.bool p31) rfl (fun K' hK'=>?_) ?_
 ·go_step
  exact hK'
 simp only [Act.put,sT1,sT2,sT3]
 go_wp2_with fail
 go_ret
 refine ⟨?_,HX.out.trans HX84.out⟩
 have h:=Hp31.out;subst h
 have h:=Hp30.out;subst h
 have h:=Hq29.out;subst h
 have h:=Hp28.out;subst h
 have h:=Hq27.out;subst h
 have h:=Hp26.out;subst h
 have h:=Hq25.out;subst h
 have h:=Hp24.out;subst h
 have h:=Hq23.out;subst h
 have h:=Hp22.out;subst h
 have h:=Hp21.out;subst h
 have h:=Hc20.out;subst h
 have h:=Hp19.out;subst h
 have h:=Hp18.out;subst h
 have h:=Hc17.out;subst h
 have h:=Hp16.out;subst h
 have h:=Hp15.out;subst h
 have h:=Hp14.out;subst h
 have h:=Hq13.out;subst h
 have h:=Hc12.out;subst h
 have h:=Hp11.out;subst h
 have h:=Hq10.out;subst h
 have h:=Hc9.out;subst h
 have h:=Hq8.out;subst h
 have h:=Hp7.out;subst h
 have h:=Hq6.out;subst h
 have h:=Hp5.out;subst h
 have h:=Hq4.out;subst h
 have h:=Hp3.out;subst h
 have h:=Hq2.out;subst h
 have h:=Hq1.out;subst h
 rfl
set_option maxRecDepth 100000 in
theorem textKind_at (k:Int)(w:World):Calls Tryz.prog 59 #[.int .i64 k] w fun e w'=>e=.returned (.string ⟨(kindW k).toArray⟩)∧w'=w:=by
 by_cases h1:k=10
 ·subst h1
  go_enter Tryz.func59,Tryz.ntmps59
  go_wp2
  go_ret
  exact ⟨rfl,rfl⟩
 ·have q1:(k==10)=false:=by rw [beq_eq_false_iff_ne];exact h1
  by_cases h2:k=12
  ·subst h2
   clear h1 q1
   go_enter Tryz.func59,Tryz.ntmps59
   go_wp2
   go_ret
   exact ⟨rfl,rfl⟩
  ·have q2:(k==12)=false:=by rw [beq_eq_false_iff_ne];exact h2
   have e:kindW k=[111,116,104,101,114]:=by unfold kindW;rw [if_neg h1,if_neg h2]
   rw [e]
   clear h1 h2 e
   go_enter Tryz.func59,Tryz.ntmps59
   go_wp2
   go_ret
   exact ⟨rfl,rfl⟩
theorem ItoaZ_at (x:Int) (h0:-9223372036854775808≤x) (h1:x≤9223372036854775807) (w:World) (hp:Pow w):
  Calls Tryz.prog 54 #[.int .i64 x] w fun e w'=>e=.returned (.string ⟨(Lib.itoa x).toArray⟩)∧Ext w w':=
 (Tryz.strconv_Itoa x h0 h1 w hp).mono fun _ _ ⟨h,nn,os,hw⟩=>⟨h,hw ▸ ext_grow (Ext.refl w) nn os⟩
theorem JoinS_at (ws:List (List UInt8)) (vs:Array Value) (g n:Nat) (w:World) (hg:w.heap[g]? = some (.cells vs 9 (0,0))) (hv:vs=(stv ws).toArray) (hn:n=ws.length) (hl:(Lib.join ws [32]).length≤100000) (hn1:n≤1000):
  Calls Tryz.prog 57 #[.slice (some ⟨g,0,none⟩) n n,.string ⟨#[32]⟩] w fun e w'=>e=.returned (.string ⟨(Lib.join ws [32]).toArray⟩)∧Ext w w':=by
 have hlt:g<w.heap.size:=(Array.getElem?_eq_some_iff.1 hg).1
 have e1:(ws.map fun l=>(⟨l.toArray⟩:ByteArray)).length=n:=by rw [List.length_map,hn]
 have e2:(ws.map fun l=>(⟨l.toArray⟩:ByteArray)).map (·.data.toList)=ws:=by rw [List.map_map];exact List.map_id' _
 have hcell:∀ (j:Nat) x,(ws.map fun l=>(⟨l.toArray⟩:ByteArray))[j]? = some x→w.cell? ⟨g,0+j,none⟩=some (.string x):=by
  intro j x hx
  rw [Nat.zero_add,cell_of_row _ _ j _ _ (0,0) hg,hv]
  rw [List.getElem?_map] at hx
  show (stv ws).toArray[j]? = _
  rw [List.getElem?_toArray,stv,List.getElem?_map]
  cases hw:ws[j]? with
  | none=>rw [hw] at hx;cases hx
  | some y=>rw [hw] at hx;injection hx with hx;subst hx;rfl
 have h:=Tryz.strings_Join g 0 n (ws.map fun l=>(⟨l.toArray⟩:ByteArray)) ⟨#[32]⟩ w hcell hlt (by rw [e1];omega) (by rw [e1];exact Nat.le_refl _) (by rw [e2];exact Nat.le_trans hl (by decide))
 rw [e1,e2] at h
 exact h.mono fun _ _ ⟨h,hx⟩=>⟨h,hx⟩
theorem Repeat0_at (m n:Nat) (h:m≤100) (w:World) (hn:n=m):
  Calls Tryz.prog 58 #[.string ⟨#[48]⟩,.int .i64 (n:Int)] w fun e w'=>e=.returned (.string ⟨(List.replicate m (48:UInt8)).toArray⟩)∧Ext w w':=by
 subst hn
 have e:Lib.repeatL [48] n=List.replicate n (48:UInt8):=by
  clear h
  induction n with
  | zero=>rfl
  | succ n ih=>rw [List.replicate_succ,← ih];simp [Lib.repeatL]
 have h':=Tryz.strings_Repeat ⟨#[48]⟩ n w (by omega) (by show 1*n≤_;omega)
 rw [show (⟨#[48]⟩:ByteArray).data.toList=[48] from rfl,e] at h'
 exact h'.mono fun _ _ ⟨h,hx⟩=>⟨h,hx⟩
set_option maxRecDepth 100000 in
theorem textName_at (A:Option Addr) (c:Nat) (ps:List ByteArray) (r:ByteArray) (hn:ps.length≤1000) (w:World) (hR:RS w (.slice A ps.length c) (sv ps)) (hv:prsB (dat ps) r.data.toList=true):
  Calls Tryz.prog 60 #[.agg #[.slice A ps.length c,.string r]] w fun e w'=>e=.returned (.string ⟨(prsW (dat ps) r.data.toList).toArray⟩)∧Ext w w':=by
 have hg:=heap_alloc_new w (.cells #[.slice A ps.length c,.string r] 37)
 have hx:=(Ext.refl w).alloc (.cells #[.slice A ps.length c,.string r] 37)
 obtain ⟨W1,e1⟩:∃ W,w.alloc (.cells #[.slice A ps.length c,.string r] 37)=W:=⟨_,rfl⟩
 rw [e1] at hg hx
 have c0:W1.cell? ⟨w.heap.size,0,none⟩=some (.slice A ps.length c):=by rw [cell_of_row _ w.heap.size 0 _ _ (0,0) hg];rfl
 have c1:W1.cell? ⟨w.heap.size,1,none⟩=some (.string r):=by rw [cell_of_row _ w.heap.size 1 _ _ (0,0) hg];rfl
 have HC0:=Lib.hid c0;have HC1:=Lib.hid c1
 have HN:=Lib.hid (noName_at A c ps r hn W1 (hR.ext hx))
 have HX:=Lib.hid hx
 unfold prsB at hv
 cases hq:noneN (dat ps) r.data.toList with
 | true=>
  rw [hq] at HN
  have HW:=Lib.hid (show prsW (dat ps) r.data.toList=[45] by unfold prsW;rw [if_pos hq])
  generalize prsW (dat ps) r.data.toList=L at *
  clear hg hx hR hv hq
  go_enter Tryz.func60,Tryz.ntmps60
  go_wp2_with fail
  refine HN.out.mono ?_
  rintro _ w2 ⟨rfl,hx2⟩
  have HX2:=Lib.hid (HX.out.trans hx2)
  clear hx2
  go_wp2_with fail
  go_ret
  exact ⟨by rw [HW.out];rfl,HX2.out⟩
 | false=>
  rw [hq] at HN hv
  have HT:=Lib.hid (fun W (h:Ext W1 W)=>NText_yes A c ps r W (hR.ext (hx.trans h)) hv)
  have HW:=Lib.hid (show prsW (dat ps) r.data.toList=textN (dat ps) r.data.toList by unfold prsW;rw [if_neg (by rw [hq];decide)])
  generalize prsW (dat ps) r.data.toList=L at *
  generalize textN (dat ps) r.data.toList=M at *
  clear hg hx hR hv hq c0 c1
  have c0:=HC0.out;have c1:=HC1.out
  go_enter Tryz.func60,Tryz.ntmps60
  go_wp2_with fail
  refine HN.out.mono ?_
  rintro _ w2 ⟨rfl,hx2⟩
  have HX1:=Lib.hid hx2
  have d0:=hx2.cell HC0.out;have d1:=hx2.cell HC1.out
  clear hx2 c0 c1
  go_wp2_with fail
  refine (HT.out w2 HX1.out).mono ?_
  rintro _ w3 ⟨rfl,hx3⟩
  have HX2:=Lib.hid ((HX.out.trans HX1.out).trans hx3)
  clear hx3
  go_wp2_with fail
  go_ret
  exact ⟨by rw [HW.out];rfl,HX2.out⟩
def RW (w:World)(g:Nat)(T:TypeId)(cs:Array Value):Prop:=w.heap[g]? = some (.cells cs T (0,0))
theorem RW.ext {w w':World}{g:Nat}{T:TypeId}{cs:Array Value}(h:RW w g T cs)(hx:Ext w w'):RW w' g T cs:=hx.heap h
theorem RW.set {w:World}{g:Nat}{T:TypeId}{cs:Array Value}(h:RW w g T cs)(o:Nat)(v:Value):RW (w.setCell ⟨g,o,none⟩ v) g T (cs.setIfInBounds o v):=heap_setCell_same w g o cs T v h
theorem RW.soft {w:World}{g:Nat}{T:TypeId}{cs:Array Value}(h:RW w g T cs)(o:Nat):w.frozen? ⟨g,o,none⟩=false:=frozen_of_row w g o _ _ h
theorem RW.get {w:World}{g:Nat}{T:TypeId}{cs:Array Value}(h:RW w g T cs)(o:Nat)(ho:o<cs.size):∃ u,w.cell? ⟨g,o,none⟩=some u:=⟨cs[o],by rw [cell_of_row _ _ o _ _ (0,0) h,Array.getElem?_eq_getElem ho]⟩
theorem RS.far {w w':World}{A:Option Addr}{n c g:Nat}{xs:List Value}(h:RS w (.slice A n c) xs)(hA:∀ ad,A=some ad→ad.block≠g)(hg:w.grownBy w' (some g)):RS w' (.slice A n c) xs:=by
 obtain ⟨A',c',he,h1,h2,h3⟩:=h
 injection he with e1 e2 e3
 subst e1;subst e3
 refine ⟨A,c,by rw [e2],h1,h2,fun hp=>?_⟩
 obtain ⟨ad,ha,hb,hc⟩:=h3 hp
 refine ⟨ad,ha,Nat.lt_of_lt_of_le hb hg.size,fun j u hu=>?_⟩
 have hblk:(ad.add j).block=ad.block:=block_of_add ad j
 have:=hg.block ad.block hb (fun e=>by injection e with e;exact hA ad ha e)
 rw [← hc j u hu]
 exact World.cell?_of_block (by rw [hblk];exact this)
def PutB (w:World)(g:Nat)(T:TypeId)(cs:Array Value)(o:Nat)(v:Value)(b:Bool)(e:Ending)(w':World):Prop:=e=.returned (.bool b)∧w.grownBy w' (some g)∧RW w' g T (cs.setIfInBounds o v)
theorem Atoi3_ok (b:ByteArray) (hb:b.size≤3000) (v:Int) (h:Lib.atoiAll b.data.toList=.ok v) (w:World):
  Calls Tryz.prog 101 #[.string b] w fun e w'=>e=.returned (.tuple #[.int .i64 v,.nilIface])∧Ext w w':=by
 refine (Tryz.strconv_Atoi_ok b (by omega) v h w).mono ?_
 rintro e w' ⟨rfl,rfl | ⟨t,rfl⟩⟩
 ·exact ⟨rfl,Ext.refl _⟩
 ·exact ⟨rfl,ext_bytesWorld _ _ _⟩
theorem Atoi3_bad (b:ByteArray) (hb:b.size≤3000) (h:∀ v,Lib.atoiAll b.data.toList≠.ok v) (w:World) (hE:Env w):
  Calls Tryz.prog 101 #[.string b] w fun e w'=>∃ x p,e=.returned (.tuple #[.int .i64 x,.iface 237 p])∧Ext w w':=by
 cases ha:Lib.atoiAll b.data.toList
 case ok v=>exact absurd ha (h v)
 case range=>
  obtain ⟨tp,p,hv⟩:=hE.rng
  refine (Tryz.strconv_Atoi_range_var b (by omega) ha tp p w hv).mono ?_
  rintro e w' ⟨N,rfl,_,_,hx⟩
  exact ⟨_,_,rfl,hx⟩
 ·obtain ⟨tp,p,hv⟩:=hE.syn
  refine (Tryz.strconv_Atoi_syntax_var b (by omega) (fun v e=>by rw [ha] at e;cases e) (fun e=>by rw [ha] at e;cases e) tp p w hv).mono ?_
  rintro e w' ⟨N,rfl,_,_,hx⟩
  exact ⟨_,_,rfl,hx⟩
set_option maxRecDepth 100000 in
theorem readNumber_at (s:ByteArray) (hs:s.size≤3000) (g o:Nat) (T:TypeId) (cs:Array Value) (ho:o<cs.size) (w:World) (hE:Env w) (hg:RW w g T cs):
  Calls Tryz.prog 41 #[.string s,.pointer (some ⟨g,o,none⟩)] w fun e w'=>∃ (v:Int) (b:Bool),PutB w g T cs o (.int .i64 v) b e w'∧∀ x,Lib.atoiAll s.data.toList=.ok x→v=x∧b=true:=by
 have hfin:∀ (v:Int) (w2:World),Ext w w2→w.grownBy (w2.setCell ⟨g,o,none⟩ (.int .i64 v)) (some g)∧RW (w2.setCell ⟨g,o,none⟩ (.int .i64 v)) g T (cs.setIfInBounds o (.int .i64 v)):=fun v w2 hx=>
  ⟨grown_set (hx.but _) o _,(hg.ext hx).set o _⟩
 have HF:=Lib.hid hfin;have HG:=Lib.hid hg;have HO:=Lib.hid ho
 by_cases hn:∃ x,Lib.atoiAll s.data.toList=.ok x
 ·obtain ⟨v,hv⟩:=hn
  have HA:=Lib.hid (Atoi3_ok s hs v hv w)
  have HV:=Lib.hid hv
  clear hv hE hg hfin ho
  go_enter Tryz.func41,Tryz.ntmps41
  go_wp2_with fail
  refine HA.out.mono ?_
  rintro _ w2 ⟨rfl,hx⟩
  obtain ⟨u,c1⟩:=(HG.out.ext hx).get o HO.out
  have c2:=(HG.out.ext hx).soft o
  have HX:=Lib.hid hx
  clear hx
  go_wp2_with fail
  go_ret
  exact ⟨v,true,⟨rfl,(HF.out v w2 HX.out).1,(HF.out v w2 HX.out).2⟩,fun x hx=>by rw [HV.out] at hx;injection hx with hx;exact ⟨hx,rfl⟩⟩
 ·have hn':∀ v,Lib.atoiAll s.data.toList≠.ok v:=fun v hv=>hn ⟨v,hv⟩
  have HA:=Lib.hid (Atoi3_bad s hs hn' w hE)
  have HV:=Lib.hid hn'
  clear hn hn' hE hg hfin ho
  go_enter Tryz.func41,Tryz.ntmps41
  go_wp2_with fail
  refine HA.out.mono ?_
  rintro _ w2 ⟨x,pv,rfl,hx⟩
  obtain ⟨u,c1⟩:=(HG.out.ext hx).get o HO.out
  have c2:=(HG.out.ext hx).soft o
  have HX:=Lib.hid hx
  clear hx
  go_wp2_with fail
  go_ret
  exact ⟨x,false,⟨rfl,(HF.out x w2 HX.out).1,(HF.out x w2 HX.out).2⟩,fun y hy=>absurd hy (HV.out y)⟩
def kindA:Value:=.agg #[.int .i64 0,.int .i64 10,.int .i64 12]
def kindK (k:Nat):Int:=if k=0 then 0 else if k=1 then 10 else 12
theorem kindK_or (k:Nat):kindK k=0∨kindK k=10∨kindK k=12:=by
 unfold kindK
 split
 ·exact .inl rfl
 ·split
  ·exact .inr (.inl rfl)
  ·exact .inr (.inr rfl)
theorem kindA_at (k:Nat)(h:k<3)(w:World):(Instr.index 146 kindA (.int .i64 (k:Int))).run Tryz.prog w=.ok (.int .i64 (kindK k)) w:=by
 rcases (show k=0∨k=1∨k=2 by omega) with rfl | rfl | rfl<;>kernel_rfl
set_option maxRecDepth 100000 in
set_option maxHeartbeats 1000000 in
theorem readKind_at (s:ByteArray) (g o:Nat) (T:TypeId) (cs:Array Value) (ho:o<cs.size) (w:World) (hg:RW w g T cs):
  Calls Tryz.prog 43 #[.string s,.pointer (some ⟨g,o,none⟩)] w fun e w'=>(∃ k:Int,(k=0∨k=10∨k=12)∧kindW k=s.data.toList∧PutB w g T cs o (.int .i64 k) true e w')∨((∀ k:Int,(k=0∨k=10∨k=12)→kindW k≠s.data.toList)∧e=.returned (.bool false)∧w'=w):=by
 obtain ⟨u,c1⟩:=hg.get o ho
 have c2:=hg.soft o
 have HF:=Lib.hid (fun v=>(⟨grown_set (grown_refl _ _) o _,hg.set o _⟩:w.grownBy (w.setCell ⟨g,o,none⟩ v) (some g)∧RW (w.setCell ⟨g,o,none⟩ v) g T (cs.setIfInBounds o v)))
 have HS:=Lib.hid (ByteArray.toList_eq s)
 clear hg ho
 have hix:=kindA_at
 unfold kindA at hix
 have HIX:=Lib.hid hix
 clear hix
 go_enter Tryz.func43,Tryz.ntmps43
 go_wp2_with fail
 go_loopw [6,8] (fun _ i wr=>∃ k:Nat,k≤3∧i=.int .i64 (k:Int)∧wr=w∧Hid (∀ j,j<k→kindW (kindK j)≠s.data.toList)) (fun _ i _=>3-(intOf i).toNat)
 case atStart=>exact ⟨0,by omega,rfl,rfl,Lib.hid fun j hj=>absurd hj (Nat.not_lt_zero _)⟩
 case round=>
  obtain ⟨k,hk,rfl,rfl,HN⟩:=hrel
  by_cases hlt:k<3
  ·have hix:=HIX.out k hlt wr
   have HK:=Lib.hid (textKind_at (kindK k))
   have HKO:=Lib.hid (kindK_or k)
   by_cases hq:kindW (kindK k)=s.data.toList
   ·have hq':(kindW (kindK k)==s.toList)=true:=by rw [HS.out,hq];exact beq_self_eq_true _
    have HQ:=Lib.hid hq
    generalize kindK k=x at *
    generalize kindW x=L at hq' HK
    clear hq
    go_wp2_with fail
    refine (HK.out _).mono ?_
    rintro _ w2 ⟨rfl,rfl⟩
    go_wp2_with fail
    go_ret
    exact .inl ⟨x,HKO.out,HQ.out,rfl,(HF.out _).1,(HF.out _).2⟩
   ·have hq':(kindW (kindK k)==s.toList)=false:=by rw [HS.out];exact beq_eq_false_iff_ne.2 hq
    have HQ:=Lib.hid (show ∀ j,j<k+1→kindW (kindK j)≠s.data.toList from fun j hj=>by
     rcases Nat.lt_succ_iff_lt_or_eq.1 hj with h | rfl
     ·exact HN.out j h
     ·exact hq)
    generalize kindK k=x at hix HK HKO hq'
    generalize kindW x=L at hq' HK
    clear hq
    go_wp2_with fail
    refine (HK.out _).mono ?_
    rintro _ w2 ⟨rfl,rfl⟩
    go_wp2_with fail
    go_roundw
    case rel=>exact ⟨k+1,by omega,by go_num,by first | trivial | rfl,HQ⟩
    case measure=>simp [intOf];omega
  ·obtain rfl:k=3:=by omega
   go_wp2_with fail
   go_ret
   refine .inr ⟨fun x hx=>?_,rfl,rfl⟩
   rcases hx with rfl | rfl | rfl
   ·exact HN.out 0 (by omega)
   ·exact HN.out 1 (by omega)
   ·exact HN.out 2 (by omega)
set_option maxRecDepth 100000 in
set_option maxHeartbeats 1000000 in
theorem readName_at' (s:ByteArray) (hs:s.size≤3000) (g o:Nat) (T:TypeId) (cs:Array Value) (ho:o+1<cs.size) (w:World) (hg:RW w g T cs):
  Calls Tryz.prog 45 #[.string s,.pointer (some ⟨g,o,none⟩)] w fun e w'=>
   (s.data.toList=[45]∧e=.returned (.bool true)∧w'=w) ∨
   (∃ A c ps r,prsB (dat ps) r.data.toList=true∧prsW (dat ps) r.data.toList=s.data.toList∧e=.returned (.bool true)∧w.grownBy w' (some g)∧RW w' g T ((cs.setIfInBounds o (.slice A ps.length c)).setIfInBounds (o+1) (.string r))∧RS w' (.slice A ps.length c) (sv ps)∧(∀ ad,A=some ad→w.heap.size≤ad.block)∧(∀ p∈ps,p.size≤1000)∧r.size≤1000∧ps.length≤1000) ∨
   ((∀ (ls:List (List UInt8)) (r:List UInt8),prsB ls r=true→prsW ls r≠s.data.toList)∧e=.returned (.bool false)∧w.grownBy w' (some g)):=by
 by_cases h:s.data.toList=[45]
 ·have e1:(s.toList==[45])=true:=by rw [ByteArray.toList_eq,h];rfl
  have HD:=Lib.hid h
  clear h
  go_enter Tryz.func45,Tryz.ntmps45
  go_wp2_with fail
  go_ret
  exact .inl ⟨HD.out,rfl,rfl⟩
 ·have e1:(s.toList==[45])=false:=by rw [ByteArray.toList_eq];exact beq_eq_false_iff_ne.2 h
  have HD:=Lib.hid h
  have HP:=Lib.hid (NParse_own s hs w)
  have HG:=Lib.hid hg;have HO:=Lib.hid ho;have HLG:=Lib.hid (Array.getElem?_eq_some_iff.1 hg).1
  clear h hg ho
  go_enter Tryz.func45,Tryz.ntmps45
  go_wp2_with fail
  refine HP.out.mono ?_
  rintro en w2 ⟨hp | hp,hx⟩
  ·obtain ⟨A,c,ps,r,h1,h2,rfl,h3,h4⟩:=hp
   have hbx:=heap_alloc_new w2 (.cells #[.slice A ps.length c,.string r] 37)
   have hx3:=(Ext.refl w2).alloc (.cells #[.slice A ps.length c,.string r] 37)
   obtain ⟨W3,hW3⟩:∃ W3,w2.alloc (.cells #[.slice A ps.length c,.string r] 37)=W3:=⟨_,rfl⟩
   rw [hW3] at hbx hx3
   obtain ⟨q0,q1⟩:=(show PB W3 w2.heap.size _ _ from hbx).cells
   have hg3:=HG.out.ext (hx.trans hx3)
   obtain ⟨u0,c0⟩:=hg3.get o (by have:=HO.out;omega)
   have f0:=hg3.soft o
   have hg4:=hg3.set o (.slice A ps.length c)
   obtain ⟨u1,c1⟩:=hg4.get (o+1) (by simpa using HO.out)
   have f1:=hg4.soft (o+1)
   have hgr:w.grownBy ((W3.setCell ⟨g,o,none⟩ (.slice A ps.length c)).setCell ⟨g,o+1,none⟩ (.string r)) (some g):=grown_set (grown_set ((hx.trans hx3).but _) o _) (o+1) _
   have hg5:=hg4.set (o+1) (.string r)
   have HGR:=Lib.hid hgr;have HG5:=Lib.hid hg5
   obtain ⟨W4,hW4⟩:∃ W4,W3.setCell ⟨g,o,none⟩ (.slice A ps.length c)=W4:=⟨_,rfl⟩
   rw [hW4] at c1 f1
   have HX:=Lib.hid hx;have HX3:=Lib.hid hx3;have H1:=Lib.hid h1;have H2:=Lib.hid h2;have H3:=Lib.hid h3;have H4:=Lib.hid h4
   clear hbx hx hx3 h1 h2 h3 h4 hg3 hg4 hg5 hgr
   go_wp2_with fail
   go_ret
   have hfar:∀ ad,A=some ad→ad.block≠g:=fun ad ha e=>by have:=H4.out ad ha;have:=HLG.out;omega
   have hrs:RS (W4.setCell ⟨g,o+1,none⟩ (.string r)) (.slice A ps.length c) (sv ps):=by
    rw [← hW4]
    exact (H3.out.ext HX3.out).far hfar (grown_set (grown_set (grown_refl _ _) o _) (o+1) _)
   have hnb:=H1.out
   obtain ⟨v1,v2,v3,v4⟩:=nameB_parts hnb
   have hsz:∀ p∈ps,p.size≤1000:=fun p hp=>by obtain ⟨k,hk,rfl⟩:=List.getElem_of_mem hp;have:=part_len v1 hk;omega
   have hr32:r.size≤32:=by rw [← size_list];exact realmB_len v4
   have hn0:noneN (dat ps) r.data.toList=false:=by
    unfold noneN
    cases hd:dat ps with
    | nil=>rw [hd] at v2;simp at v2
    | cons x l=>rfl
   refine .inr (.inl ⟨A,c,ps,r,?_,?_,rfl,hW4 ▸ HGR.out,hW4 ▸ HG5.out,hrs,H4.out,hsz,by omega,by rw [dat_length] at v3;omega⟩)
   ·unfold prsB;rw [hnb,Bool.or_true]
   ·unfold prsW;rw [hn0,if_neg (by decide)];exact H2.out
  ·obtain ⟨h1,he⟩:=hp
   obtain ⟨n,hn⟩:∃ n,0=n:=⟨_,rfl⟩
   obtain ⟨R,hR⟩:∃ R:ByteArray,⟨#[]⟩=R:=⟨_,rfl⟩
   rw [hR] at he
   have he':en=.returned (.tuple #[.agg #[.slice none n n,.string R],.int .i64 6]):=by rw [he,hn]
   subst he'
   clear he hn hR
   have hbx:=heap_alloc_new w2 (.cells #[.slice none n n,.string R] 37)
   have hx3:=(Ext.refl w2).alloc (.cells #[.slice none n n,.string R] 37)
   obtain ⟨W3,hW3⟩:∃ W3,w2.alloc (.cells #[.slice none n n,.string R] 37)=W3:=⟨_,rfl⟩
   rw [hW3] at hbx hx3
   obtain ⟨q0,q1⟩:=(show PB W3 w2.heap.size _ _ from hbx).cells
   have hg3:=HG.out.ext (hx.trans hx3)
   obtain ⟨u0,c0⟩:=hg3.get o (by have:=HO.out;omega)
   have f0:=hg3.soft o
   have hg4:=hg3.set o (.slice none n n)
   obtain ⟨u1,c1⟩:=hg4.get (o+1) (by simpa using HO.out)
   have f1:=hg4.soft (o+1)
   have hgr:w.grownBy ((W3.setCell ⟨g,o,none⟩ (.slice none n n)).setCell ⟨g,o+1,none⟩ (.string R)) (some g):=grown_set (grown_set ((hx.trans hx3).but _) o _) (o+1) _
   have hg5:=hg4.set (o+1) (.string R)
   have HGR:=Lib.hid hgr;have HG5:=Lib.hid hg5
   obtain ⟨W4,hW4⟩:∃ W4,W3.setCell ⟨g,o,none⟩ (.slice none n n)=W4:=⟨_,rfl⟩
   rw [hW4] at c1 f1
   have H1:=Lib.hid h1
   clear hbx hx hx3 h1 hg3 hg4 hg5 hgr
   go_wp2_with fail
   go_ret
   refine .inr (.inr ⟨fun ls q hq e=>?_,rfl,hW4 ▸ HGR.out⟩)
   unfold prsB at hq
   unfold prsW at e
   by_cases hn:noneN ls q=true
   ·rw [if_pos hn] at e
    exact HD.out e.symm
   ·rw [if_neg hn] at e
    rw [Bool.or_eq_true] at hq
    exact H1.out ls q (hq.resolve_left hn) e
end Go.Proofs.YtnjmndofcpnmeaaGreatDoor
