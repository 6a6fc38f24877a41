/- Pc29. -/
import Derived.Test.YtnjmndofcpnmeaaGreatDoorPc28
import Derived.Test.YtnjmndofcpnmeaaGreatDoorPc9
import Derived.Test.YtnjmndofcpnmeaaGreatDoorPc8
import Derived.Test.YtnjmndofcpnmeaaGreatDoorProg
import Derived.Test.YtnjmndofcpnmeaaGreatDoorPc0
import Derived.WalkLawsBesides
import Derived.WalkSpells
import Derived.Deep.LoopGhost
import Derived.Lib.Hide
import Derived.Test.YtnjmndofcpnmeaaGreatDoorPc1
namespace Go.Proofs.YtnjmndofcpnmeaaGreatDoor
open Go Go.RowKit
set_option linter.unusedVariables false
def A7 (w:World)(g:Nat)(m:MV):Prop:=RW w g 50 #[.slice m.CA m.cp.length m.cc,.string m.cr,.int .i64 m.fk,.slice m.FA m.fb.length m.fc,.int .i64 m.n,.int .i64 m.b,.int .i64 m.t]
theorem A7.ext {w w':World}{g:Nat}{m:MV}(h:A7 w g m)(hx:Ext w w'):A7 w' g m:=RW.ext h hx
theorem A7.cells {w:World}{g:Nat}{m:MV}(h:A7 w g m):w.cell? ⟨g,0,none⟩=some (.slice m.CA m.cp.length m.cc)∧w.cell? ⟨g,1,none⟩=some (.string m.cr)∧w.cell? ⟨g,2,none⟩=some (.int .i64 m.fk)∧w.cell? ⟨g,3,none⟩=some (.slice m.FA m.fb.length m.fc)∧w.cell? ⟨g,4,none⟩=some (.int .i64 m.n)∧w.cell? ⟨g,5,none⟩=some (.int .i64 m.b)∧w.cell? ⟨g,6,none⟩=some (.int .i64 m.t):=by
 unfold A7 RW at h
 refine ⟨?_,?_,?_,?_,?_,?_,?_⟩<;>(rw [cell_of_row _ _ _ _ _ (0,0) h];rfl)
theorem boxesA (w:World)(m q:MV):∃ W,((w.alloc (.cells #[.slice m.CA m.cp.length m.cc,.string m.cr,.int .i64 m.fk,.slice m.FA m.fb.length m.fc,.int .i64 m.n,.int .i64 m.b,.int .i64 m.t] 50)).alloc (.cells #[.slice q.CA q.cp.length q.cc,.string q.cr,.int .i64 q.fk,.slice q.FA q.fb.length q.fc,.int .i64 q.n,.int .i64 q.b,.int .i64 q.t] 50))=W∧A7 W w.heap.size m∧A7 W (w.heap.size+1) q∧Ext w W:=by
 have hT:=heap_alloc_new w (.cells #[.slice m.CA m.cp.length m.cc,.string m.cr,.int .i64 m.fk,.slice m.FA m.fb.length m.fc,.int .i64 m.n,.int .i64 m.b,.int .i64 m.t] 50)
 have hU:=heap_alloc_new (w.alloc (.cells #[.slice m.CA m.cp.length m.cc,.string m.cr,.int .i64 m.fk,.slice m.FA m.fb.length m.fc,.int .i64 m.n,.int .i64 m.b,.int .i64 m.t] 50)) (.cells #[.slice q.CA q.cp.length q.cc,.string q.cr,.int .i64 q.fk,.slice q.FA q.fb.length q.fc,.int .i64 q.n,.int .i64 q.b,.int .i64 q.t] 50)
 rw [World.size_alloc] at hU
 have x1:=(Ext.refl w).alloc (.cells #[.slice m.CA m.cp.length m.cc,.string m.cr,.int .i64 m.fk,.slice m.FA m.fb.length m.fc,.int .i64 m.n,.int .i64 m.b,.int .i64 m.t] 50)
 have x2:=(Ext.refl (w.alloc (.cells #[.slice m.CA m.cp.length m.cc,.string m.cr,.int .i64 m.fk,.slice m.FA m.fb.length m.fc,.int .i64 m.n,.int .i64 m.b,.int .i64 m.t] 50))).alloc (.cells #[.slice q.CA q.cp.length q.cc,.string q.cr,.int .i64 q.fk,.slice q.FA q.fb.length q.fc,.int .i64 q.n,.int .i64 q.b,.int .i64 q.t] 50)
 exact ⟨_,rfl,x2.heap hT,hU,x1.trans x2⟩
def sameA (m q:MV):Bool:=((((sameP m.cp m.cr q.cp q.cr&&(m.fk==q.fk&&m.fb==q.fb))&&m.n==q.n)&&m.b==q.b)&&m.t==q.t)
theorem sameA_alm {m q:MV}(h:m.alm=q.alm):sameA m q=true:=by
 unfold MV.alm at h
 simp only [Alm.mk.injEq] at h
 obtain ⟨h1,h2,h3,h4,h5,h6,h7⟩:=h
 unfold sameA
 rw [sameP_eq,h1,h2,h3,h4,h5,h6,h7]
 simp
set_option maxRecDepth 100000 in
set_option maxHeartbeats 1000000 in
theorem SameA_at (m q:MV) (w:World) (hm:m.In w) (hq:q.In w) (hml:m.cp.length≤1000) (hql:q.cp.length≤1000):
  Calls Tryz.prog 17 #[.agg #[.slice m.CA m.cp.length m.cc,.string m.cr,.int .i64 m.fk,.slice m.FA m.fb.length m.fc,.int .i64 m.n,.int .i64 m.b,.int .i64 m.t],.agg #[.slice q.CA q.cp.length q.cc,.string q.cr,.int .i64 q.fk,.slice q.FA q.fb.length q.fc,.int .i64 q.n,.int .i64 q.b,.int .i64 q.t]] w fun e w'=>e=.returned (.bool (sameA m q))∧Ext w w':=by
 obtain ⟨W2,e2,h0,h1,hx⟩:=boxesA w m q
 have HM:=Lib.hid h0;have HQ:=Lib.hid h1;have HX:=Lib.hid hx
 have HC0:=Lib.hid (fun W (hw:Ext W2 W)=>SameP_at m.CA m.cc m.cp m.cr q.CA q.cc q.cp q.cr hml hql W (hm.cp.ext (hx.trans hw)) (hq.cp.ext (hx.trans hw)))
 have HC1:=Lib.hid (fun W (hw:Ext W2 W)=>RAEqual_at m.fk q.fk m.fb q.fb m.FA q.FA m.fc q.fc W (hm.fb.ext (hx.trans hw)) (hq.fb.ext (hx.trans hw)))
 unfold adv at HC1
 have hsa:sameA m q=((((sameP m.cp m.cr q.cp q.cr&&(m.fk==q.fk&&m.fb==q.fb))&&m.n==q.n)&&m.b==q.b)&&m.t==q.t):=rfl
 rw [hsa]
 clear hsa
 obtain ⟨pc,hpc⟩:∃ b,sameP m.cp m.cr q.cp q.cr=b:=⟨_,rfl⟩
 obtain ⟨ac,hac⟩:∃ b,(m.fk==q.fk&&m.fb==q.fb)=b:=⟨_,rfl⟩
 rw [hpc] at HC0 ⊢
 rw [hac] at HC1 ⊢
 clear hpc hac h0 h1 hx hm hq
 obtain ⟨p1,hp1⟩:∃ p1:Bool,(pc&&ac)=p1:=⟨_,rfl⟩
 have Hp1:=Lib.hid hp1;clear hp1
 obtain ⟨q2,hq2⟩:∃ q2:Bool,(m.n==q.n)=q2:=⟨_,rfl⟩
 have Hq2:=Lib.hid hq2;clear hq2
 obtain ⟨p3,hp3⟩:∃ p3:Bool,(p1&&q2)=p3:=⟨_,rfl⟩
 have Hp3:=Lib.hid hp3;clear hp3
 obtain ⟨q4,hq4⟩:∃ q4:Bool,(m.b==q.b)=q4:=⟨_,rfl⟩
 have Hq4:=Lib.hid hq4;clear hq4
 obtain ⟨p5,hp5⟩:∃ p5:Bool,(p3&&q4)=p5:=⟨_,rfl⟩
 have Hp5:=Lib.hid hp5;clear hp5
 obtain ⟨q6,hq6⟩:∃ q6:Bool,(m.t==q.t)=q6:=⟨_,rfl⟩
 have Hq6:=Lib.hid hq6;clear hq6
 obtain ⟨p7,hp7⟩:∃ p7:Bool,(p5&&q6)=p7:=⟨_,rfl⟩
 have Hp7:=Lib.hid hp7;clear hp7
 have HX0:=Lib.hid (Ext.refl W2)
 go_enter Tryz.func17,Tryz.ntmps17
 go_upto_region 1 with fail
 refine wp_region_lit ?_
 refine wpL_val (.pointer (some ⟨w.heap.size,0,none⟩)) rfl (fun K' hK'=>?_) ?_
 ·go_step
  exact hK'
 simp only [Act.put,sT1,sT2,sT3]
 refine wpL_val (.agg #[.slice m.CA m.cp.length m.cc,.string m.cr]) rfl (fun K' hK'=>?_) ?_
 ·obtain ⟨u0,u1,u2,u3,u4,u5,u6⟩:=(HM.out.ext HX0.out).cells
  go_step
  exact hK'
 simp only [Act.put,sT1,sT2,sT3]
 refine wpL_val (.pointer (some ⟨(w.heap.size+1),0,none⟩)) rfl (fun K' hK'=>?_) ?_
 ·go_step
  exact hK'
 simp only [Act.put,sT1,sT2,sT3]
 refine wpL_val (.agg #[.slice q.CA q.cp.length q.cc,.string q.cr]) rfl (fun K' hK'=>?_) ?_
 ·obtain ⟨u0,u1,u2,u3,u4,u5,u6⟩:=(HQ.out.ext HX0.out).cells
  go_step
  exact hK'
 simp only [Act.put,sT1,sT2,sT3]
 refine wpL_symcall true (.bool pc) (rfl) (fun hc K' hK'=>?_) (fun wc9 hx=>?_)
 ·skip
  try simp only [cond_true]
  go_step
  refine (HC0.out W2 HX0.out).mono ?_
  rintro _ w2 ⟨rfl,hx⟩
  exact hK' _ hx
 have HX9:=Lib.hid (HX0.out.trans hx);clear hx
 simp only [cond_true,Act.put,sT1,sT2,sT3]
 refine wpL_val (.bool pc) rfl (fun K' hK'=>?_) ?_
 ·go_step
  exact hK'
 simp only [Act.put,sT1,sT2,sT3]
 refine wpL_sym pc (.pointer (some ⟨w.heap.size,2,none⟩)) (by cases pc<;>kernel_rfl) (fun hc K' hK'=>?_) ?_
 ·subst hc
  try simp only [cond_true]
  go_step
  exact hK'
 simp only [Act.put,sT1,sT2,sT3]
 refine wpL_sym pc (.agg #[.int .i64 m.fk,.slice m.FA m.fb.length m.fc]) (by cases pc<;>kernel_rfl) (fun hc K' hK'=>?_) ?_
 ·subst hc
  try simp only [cond_true]
  obtain ⟨u0,u1,u2,u3,u4,u5,u6⟩:=(HM.out.ext HX9.out).cells
  go_step
  exact hK'
 simp only [Act.put,sT1,sT2,sT3]
 refine wpL_sym pc (.pointer (some ⟨(w.heap.size+1),2,none⟩)) (by cases pc<;>kernel_rfl) (fun hc K' hK'=>?_) ?_
 ·subst hc
  try simp only [cond_true]
  go_step
  exact hK'
 simp only [Act.put,sT1,sT2,sT3]
 refine wpL_sym pc (.agg #[.int .i64 q.fk,.slice q.FA q.fb.length q.fc]) (by cases pc<;>kernel_rfl) (fun hc K' hK'=>?_) ?_
 ·subst hc
  try simp only [cond_true]
  obtain ⟨u0,u1,u2,u3,u4,u5,u6⟩:=(HQ.out.ext HX9.out).cells
  go_step
  exact hK'
 simp only [Act.put,sT1,sT2,sT3]
 refine wpL_symcall pc (.bool ac) (by cases pc<;>kernel_rfl) (fun hc K' hK'=>?_) (fun wc15 hx=>?_)
 ·subst hc
  try simp only [cond_true]
  go_step
  refine (HC1.out wc9 HX9.out).mono ?_
  rintro _ w2 ⟨rfl,hx⟩
  exact hK' _ hx
 have HX15:=Lib.hid (HX9.out.trans hx);clear hx
 simp only [Act.put,sT1,sT2,sT3]
 refine wpL_val (.bool p1) rfl (fun K' hK'=>?_) ?_
 ·have hp:=Hp1.out
  subst hp
  cases pc
  ·go_step
   exact hK'
  ·go_step
   exact hK'
 simp only [Act.put,sT1,sT2,sT3]
 refine wpL_val (.bool p1) rfl (fun K' hK'=>?_) ?_
 ·go_step
  exact hK'
 simp only [Act.put,sT1,sT2,sT3]
 refine wpL_sym p1 (.pointer (some ⟨w.heap.size,4,none⟩)) (by cases p1<;>kernel_rfl) (fun hc K' hK'=>?_) ?_
 ·subst hc
  try simp only [cond_true]
  go_step
  exact hK'
 simp only [Act.put,sT1,sT2,sT3]
 refine wpL_sym p1 (.int .i64 m.n) (by cases p1<;>kernel_rfl) (fun hc K' hK'=>?_) ?_
 ·subst hc
  try simp only [cond_true]
  obtain ⟨u0,u1,u2,u3,u4,u5,u6⟩:=(HM.out.ext HX15.out).cells
  go_step
  exact hK'
 simp only [Act.put,sT1,sT2,sT3]
 refine wpL_sym p1 (.pointer (some ⟨(w.heap.size+1),4,none⟩)) (by cases p1<;>kernel_rfl) (fun hc K' hK'=>?_) ?_
 ·subst hc
  try simp only [cond_true]
  go_step
  exact hK'
 simp only [Act.put,sT1,sT2,sT3]
 refine wpL_sym p1 (.int .i64 q.n) (by cases p1<;>kernel_rfl) (fun hc K' hK'=>?_) ?_
 ·subst hc
  try simp only [cond_true]
  obtain ⟨u0,u1,u2,u3,u4,u5,u6⟩:=(HQ.out.ext HX15.out).cells
  go_step
  exact hK'
 simp only [Act.put,sT1,sT2,sT3]
 refine wpL_sym p1 (.bool q2) (by cases p1<;>kernel_rfl) (fun hc K' hK'=>?_) ?_
 ·subst hc
  try simp only [cond_true]
  have hq:=Hq2.out
  subst hq
  go_step
  exact hK'
 simp only [Act.put,sT1,sT2,sT3]
 refine wpL_val (.bool p3) rfl (fun K' hK'=>?_) ?_
 ·have hp:=Hp3.out
  subst hp
  cases p1
  ·go_step
   exact hK'
  ·go_step
   exact hK'
 simp only [Act.put,sT1,sT2,sT3]
 refine wpL_val (.bool p3) rfl (fun K' hK'=>?_) ?_
 ·go_step
  exact hK'
 simp only [Act.put,sT1,sT2,sT3]
 refine wpL_sym p3 (.pointer (some ⟨w.heap.size,5,none⟩)) (by cases p3<;>kernel_rfl) (fun hc K' hK'=>?_) ?_
 ·subst hc
  try simp only [cond_true]
  go_step
  exact hK'
 simp only [Act.put,sT1,sT2,sT3]
 refine wpL_sym p3 (.int .i64 m.b) (by cases p3<;>kernel_rfl) (fun hc K' hK'=>?_) ?_
 ·subst hc
  try simp only [cond_true]
  obtain ⟨u0,u1,u2,u3,u4,u5,u6⟩:=(HM.out.ext HX15.out).cells
  go_step
  exact hK'
 simp only [Act.put,sT1,sT2,sT3]
 refine wpL_sym p3 (.pointer (some ⟨(w.heap.size+1),5,none⟩)) (by cases p3<;>kernel_rfl) (fun hc K' hK'=>?_) ?_
 ·subst hc
  try simp only [cond_true]
  go_step
  exact hK'
 simp only [Act.put,sT1,sT2,sT3]
 refine wpL_sym p3 (.int .i64 q.b) (by cases p3<;>kernel_rfl) (fun hc K' hK'=>?_) ?_
 ·subst hc
  try simp only [cond_true]
  obtain ⟨u0,u1,u2,u3,u4,u5,u6⟩:=(HQ.out.ext HX15.out).cells
  go_step
  exact hK'
 simp only [Act.put,sT1,sT2,sT3]
 refine wpL_sym p3 (.bool q4) (by cases p3<;>kernel_rfl) (fun hc K' hK'=>?_) ?_
 ·subst hc
  try simp only [cond_true]
  have hq:=Hq4.out
  subst hq
  go_step
  exact hK'
 simp only [Act.put,sT1,sT2,sT3]
 refine wpL_val (.bool p5) rfl (fun K' hK'=>?_) ?_
 ·have hp:=Hp5.out
  subst hp
  cases p3
  ·go_step
   exact hK'
  ·go_step
   exact hK'
 simp only [Act.put,sT1,sT2,sT3]
 refine wpL_val (.bool p5) rfl (fun K' hK'=>?_) ?_
 ·go_step
  exact hK'
 simp only [Act.put,sT1,sT2,sT3]
 refine wpL_sym p5 (.pointer (some ⟨w.heap.size,6,none⟩)) (by cases p5<;>kernel_rfl) (fun hc K' hK'=>?_) ?_
 ·subst hc
  try simp only [cond_true]
  go_step
  exact hK'
 simp only [Act.put,sT1,sT2,sT3]
 refine wpL_sym p5 (.int .i64 m.t) (by cases p5<;>kernel_rfl) (fun hc K' hK'=>?_) ?_
 ·subst hc
  try simp only [cond_true]
  obtain ⟨u0,u1,u2,u3,u4,u5,u6⟩:=(HM.out.ext HX15.out).cells
  go_step
  exact hK'
 simp only [Act.put,sT1,sT2,sT3]
 refine wpL_sym p5 (.pointer (some ⟨(w.heap.size+1),6,none⟩)) (by cases p5<;>kernel_rfl) (fun hc K' hK'=>?_) ?_
 ·subst hc
  try simp only [cond_true]
  go_step
  exact hK'
 simp only [Act.put,sT1,sT2,sT3]
 refine wpL_sym p5 (.int .i64 q.t) (by cases p5<;>kernel_rfl) (fun hc K' hK'=>?_) ?_
 ·subst hc
  try simp only [cond_true]
  obtain ⟨u0,u1,u2,u3,u4,u5,u6⟩:=(HQ.out.ext HX15.out).cells
  go_step
  exact hK'
 simp only [Act.put,sT1,sT2,sT3]
 refine wpL_sym p5 (.bool q6) (by cases p5<;>kernel_rfl) (fun hc K' hK'=>?_) ?_
 ·subst hc
  try simp only [cond_true]
  have hq:=Hq6.out
  subst hq
  go_step
  exact hK'
 simp only [Act.put,sT1,sT2,sT3]
 refine wpL_val (.bool p7) rfl (fun K' hK'=>?_) ?_
 ·have hp:=Hp7.out
  subst hp
  cases p5
  ·go_step
   exact hK'
  ·go_step
   exact hK'
 simp only [Act.put,sT1,sT2,sT3]
 go_wp2_with fail
 go_ret
 refine ⟨?_,HX.out.trans HX15.out⟩
 have h:=Hp7.out;subst h
 have h:=Hq6.out;subst h
 have h:=Hp5.out;subst h
 have h:=Hq4.out;subst h
 have h:=Hp3.out;subst h
 have h:=Hq2.out;subst h
 have h:=Hp1.out;subst h
 rfl
def fnz:List Int→Int
 | []=>0
 | a::l=>if a≠0 then a else fnz l
def ivo (l:List Int):List Value:=l.map (.int .i64 ·)
theorem ivo_length (l:List Int):(ivo l).length=l.length:=by simp [ivo]
theorem ivo_get (l:List Int)(k:Nat)(h:k<l.length):(ivo l)[k]? = some (.int .i64 l[k]):=by simp [ivo,h]
set_option maxRecDepth 100000 in
set_option maxHeartbeats 1000000 in
theorem or_at (A:Option Addr) (c:Nat) (xs:List Int) (hn:xs.length≤1000) (w:World) (hR:RS w (.slice A xs.length c) (ivo xs)):
  Calls Tryz.prog 130 #[.slice A xs.length c] w fun e w'=>e=.returned (.int .i64 (fnz xs))∧w=w':=by
 obtain ⟨X,hX⟩:∃ X,fnz xs=X:=⟨_,rfl⟩
 rw [hX]
 have HX:=Lib.hid hX
 have HR:=Lib.hid hR
 clear hX hR
 go_enter Tryz.func130,Tryz.ntmps130
 go_wp2_with fail
 go_loopw [8] (fun i wr=>∃ k:Nat,k≤xs.length∧i=.int .i64 k∧Hid (fnz (xs.drop k)=X)∧wr=w) (fun i _=>xs.length-(intOf i).toNat)
 case atStart=>exact ⟨0,Nat.zero_le _,rfl,HX,rfl⟩
 case round=>
  obtain ⟨k,hk1,rfl,HC,rfl⟩:=hrel
  by_cases h1:k<xs.length
  ·obtain ⟨A',c',he,e1,e2,e3⟩:=HR.out
   rw [ivo_length] at e1 e3 he
   injection he with z1 _ z3
   subst z1;subst z3
   obtain ⟨ad,rfl,_,hcell⟩:=e3 (by omega)
   have g1:=hcell k _ (ivo_get xs k h1)
   have HD:=Lib.hid (show (if xs[k]≠0 then xs[k] else fnz (xs.drop (k+1)))=X by
    rw [← HC.out,List.drop_eq_getElem_cons h1,fnz])
   obtain ⟨z,hz⟩:∃ z,xs[k]=z:=⟨_,rfl⟩
   rw [hz] at g1 HD
   clear hcell e1 e2 e3 hz
   by_cases hz0:z=0
   ·subst hz0
    have HD2:=Lib.hid (show fnz (xs.drop (k+1))=X by have:=HD.out;rwa [if_neg (by simp)] at this)
    go_wp2_with fail
    go_roundw
    case rel=>exact ⟨k+1,by omega,by go_num,HD2,trivial⟩
    case measure=>simp [intOf];omega
   ·have hzb:(z != 0)=true:=by rw [bne_iff_ne];exact hz0
    have HD2:=Lib.hid (show z=X by have:=HD.out;rwa [if_pos hz0] at this)
    clear hz0
    go_wp2_with fail
    go_ret
    refine ⟨?_,rfl⟩
    rw [← HD2.out];rfl
  ·have hkp:k=xs.length:=by omega
   subst hkp
   have HF:=Lib.hid (show (0:Int)=X by rw [← HC.out,List.drop_eq_nil_of_le (Nat.le_refl _)];rfl)
   go_wp2_with fail
   go_ret
   refine ⟨?_,rfl⟩
   rw [← HF.out];rfl
end Go.Proofs.YtnjmndofcpnmeaaGreatDoor
namespace Go.Proofs.YtnjmndofcpnmeaaGreatDoor
def encLen (n:Nat):List UInt8:=
 if n<128 then [UInt8.ofNat n] else if n<256 then [0x81,UInt8.ofNat n] else if n<65536 then [0x82,UInt8.ofNat (n / 256),UInt8.ofNat n]
 else [0x83,UInt8.ofNat (n / 65536),UInt8.ofNat (n / 256),UInt8.ofNat n]
def elem (t:UInt8)(l:List UInt8):List UInt8:=if l.length<16777216 then t::(encLen l.length++l) else []
end Go.Proofs.YtnjmndofcpnmeaaGreatDoor
namespace Go.Proofs.YtnjmndofcpnmeaaGreatDoor
open Go Go.RowKit
end Go.Proofs.YtnjmndofcpnmeaaGreatDoor
namespace Go.Proofs.YtnjmndofcpnmeaaGreatDoor
end Go.Proofs.YtnjmndofcpnmeaaGreatDoor
namespace Go.Proofs.YtnjmndofcpnmeaaGreatDoor
open Go Go.RowKit
set_option linter.unusedVariables false
end Go.Proofs.YtnjmndofcpnmeaaGreatDoor
