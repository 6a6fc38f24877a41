/- Pa33. -/
import Derived.Test.YtnjmndofcpnmeaaGreatDoorPa0
import Derived.Test.YtnjmndofcpnmeaaGreatDoorPa32
import Derived.Test.YtnjmndofcpnmeaaGreatDoorPa31
import Derived.Test.YtnjmndofcpnmeaaGreatDoorPa19
namespace Go.Proofs.YtnjmndofcpnmeaaGreatDoor
open Go Go.RowKit
set_option linter.unusedVariables false
def shortB (ps:List ByteArray)(r:ByteArray):Bool:=ps.all (fun p=>decide (p.size≤60))&&(decide (ps.length≤6)&&decide (r.size≤60))
theorem short_end {ps:List ByteArray}{r:ByteArray}{k:Nat}(h:ps.length≤k∨7≤ps.length)(ha:(ps.take k).all (fun p=>decide (p.size≤60))=true):(decide (ps.length≤6)&&decide (r.size≤60))=shortB ps r:=by
 unfold shortB
 rcases h with h | h
 ·rw [List.take_of_length_le h] at ha
  rw [ha,Bool.true_and]
 ·rw [decide_eq_false (show ¬ ps.length≤6 by omega),Bool.false_and,Bool.and_false]
theorem short_big {ps:List ByteArray}{r p:ByteArray}(h:p∈ps)(hb:60<p.size):shortB ps r=false:=by
 unfold shortB
 rw [show ps.all (fun p=>decide (p.size≤60))=false from List.all_eq_false.2 ⟨p,h,by simpa using hb⟩];rfl
theorem shortB_yes {ps:List ByteArray}{r:ByteArray}(h:shortB ps r=true):(∀ p∈ps,p.size≤60)∧ps.length≤6∧r.size≤60:=by
 unfold shortB at h
 rw [Bool.and_eq_true,Bool.and_eq_true,List.all_eq_true,decide_eq_true_iff,decide_eq_true_iff] at h
 exact ⟨fun p hp=>of_decide_eq_true (h.1 p hp),h.2.1,h.2.2⟩
theorem sv_len (ps:List ByteArray):(sv ps).length=ps.length:=by unfold sv;simp
theorem sv_at (ps:List ByteArray)(k:Nat)(h:k<ps.length):(sv ps)[k]? = some (.string ps[k]):=by unfold sv;simp [h]
set_option maxRecDepth 100000 in
set_option maxHeartbeats 1600000 in
theorem Short_at (A:Option Addr) (c:Nat) (ps:List ByteArray) (r:ByteArray) (w:World) (hR:RS w (.slice A ps.length c) (sv ps)):
  Calls Tryz.prog 80 #[.agg #[.slice A ps.length c,.string r]] w fun e w'=>e=.returned (.bool (shortB ps r))∧Ext w w':=by
 have hT:RW (w.alloc (.cells #[.slice A ps.length c,.string r] 37)) w.heap.size 37 #[.slice A ps.length c,.string r]:=heap_alloc_new w _
 have hX:=(Ext.refl w).alloc (.cells #[.slice A ps.length c,.string r] 37)
 obtain ⟨wb,hwb⟩:∃ wb,w.alloc (.cells #[.slice A ps.length c,.string r] 37)=wb:=⟨_,rfl⟩
 rw [hwb] at hT hX
 have HX:=Lib.hid hX
 have HRS:=Lib.hid (hR.ext hX)
 obtain ⟨q0,q1⟩:=rw2 hT
 obtain ⟨b,hb⟩:∃ b,shortB ps r=b:=⟨_,rfl⟩
 have HB:=Lib.hid hb
 rw [hb]
 have hlen:ps.length≤9223372036854775807:=by
  obtain ⟨A',c',he,h1,h2,_⟩:=hR
  rw [sv_len] at h1
  unfold maxLen at h2
  omega
 clear hT hX hR hb
 go_enter Tryz.func80,Tryz.ntmps80
 go_wp2_with fail
 clear hwb
 go_loopw [3] (fun i wr=>∃ k:Nat,k≤ps.length∧i=.int .i64 k∧Hid ((ps.take k).all (fun p=>decide (p.size≤60))=true)∧wr=wb) (fun i _=>ps.length-(intOf i).toNat)
 case atStart=>exact ⟨0,Nat.zero_le _,rfl,Lib.hid rfl,rfl⟩
 case round=>
  obtain ⟨k,hk,rfl,HA,rfl⟩:=hrel
  have fin:Hid (ps.length≤k∨7≤ps.length→(decide (ps.length≤6)&&decide (r.size≤60))=b):=Lib.hid (fun h=>(short_end h HA.out).trans HB.out)
  by_cases hlt:k<ps.length
  ·by_cases h7:k<7
   ·obtain ⟨A',c',he,e1,e2,e3⟩:=HRS.out
    rw [sv_len] at e1 e3 he
    injection he with z1 _ z3
    subst z1;subst z3
    obtain ⟨ad,rfl,hblt,hcell⟩:=e3 (by omega)
    have hck:=hcell k _ (sv_at ps k hlt)
    have HTK:=Lib.hid (show (ps.take (k+1)).all (fun p=>decide (p.size≤60))=decide (ps[k].size≤60) by
     rw [List.take_succ_eq_append_getElem hlt,List.all_append,HA.out];simp)
    have HIN:=Lib.hid (List.getElem_mem hlt)
    obtain ⟨p,hp⟩:∃ p,ps[k]=p:=⟨_,rfl⟩
    rw [hp] at hck HTK HIN
    clear hcell e3 e2 e1 hblt hp
    by_cases hbig:60<p.size
    ·have hb1:(60:Int)<(p.size:Int):=by omega
     have HBT:=Lib.hid (show b=false by rw [← HB.out];exact short_big HIN.out hbig)
     clear hbig fin
     go_wp2_with fail
     go_ret
     refine ⟨?_,HX.out⟩
     rw [HBT.out];rfl
    ·have hb1:(p.size:Int)≤60:=by omega
     have HT2:=Lib.hid (show (ps.take (k+1)).all (fun p=>decide (p.size≤60))=true by rw [HTK.out];exact decide_eq_true (by omega))
     clear hbig fin
     go_wp2_with fail
     go_roundw
     case rel=>exact ⟨k+1,by omega,by go_num,HT2,trivial⟩
     case measure=>simp [intOf];omega
   ·have HF:=Lib.hid (show false=b by have:=fin.out (.inr (by omega));rwa [decide_eq_false (show ¬ ps.length≤6 by omega),Bool.false_and] at this)
    clear fin
    have h61:(6:Int)<(ps.length:Int):=by omega
    go_wp2_with fail
    go_ret
    refine ⟨?_,HX.out⟩
    rw [← HF.out];rfl
  ·have HF:=Lib.hid (fin.out (.inl (by omega)))
   clear fin
   by_cases h6:ps.length≤6
   ·have h61:(ps.length:Int)≤6:=by omega
    by_cases hr:r.size≤60
    ·have hr1:(r.size:Int)≤60:=by omega
     have HT:=Lib.hid (show true=b by have:=HF.out;rwa [decide_eq_true h6,decide_eq_true hr] at this)
     clear h6 hr
     go_wp2_with fail
     go_ret
     refine ⟨?_,HX.out⟩
     rw [← HT.out];rfl
    ·have hr1:decide ((r.size:Int)≤60)=false:=decide_eq_false (by omega)
     have HT:=Lib.hid (show false=b by have:=HF.out;rwa [decide_eq_true h6,decide_eq_false hr] at this)
     clear h6 hr
     go_wp2_with fail
     go_ret
     refine ⟨?_,HX.out⟩
     rw [← HT.out];rfl
   ·have h61:(6:Int)<(ps.length:Int):=by omega
    have HT:=Lib.hid (show false=b by have:=HF.out;rwa [decide_eq_false h6] at this)
    clear h6
    go_wp2_with fail
    go_ret
    refine ⟨?_,HX.out⟩
    rw [← HT.out];rfl
def smallF (m:FV):Bool:=(shortB m.cp m.cr&&shortB m.sp m.sr)&&decide ((m.fb.length:Int)≤60)
theorem smallF_sz {m:FV}(h:smallF m=true):m.Sz:=by
 unfold smallF at h
 rw [Bool.and_eq_true,Bool.and_eq_true,decide_eq_true_iff] at h
 obtain ⟨h1,h2,h3⟩:=shortB_yes h.1.1
 obtain ⟨h4,h5,h6⟩:=shortB_yes h.1.2
 exact ⟨by omega,by omega,fun p hp=>by have:=h1 p hp;omega,by omega,by omega,fun p hp=>by have:=h4 p hp;omega,by omega⟩
set_option maxRecDepth 100000 in
set_option maxHeartbeats 1600000 in
theorem SmallF_at (m:FV) (w:World) (hm:m.In w):
  Calls Tryz.prog 23 #[m.val] w fun e w'=>e=.returned (.bool (smallF m))∧Ext w w':=by
 have h0:FQ (w.alloc (.cells #[.int .i64 m.t,.int .i64 m.mi,.int .i64 m.kd,.int .i64 m.fk,.slice m.FA m.fb.length m.fc,.slice m.CA m.cp.length m.cc,.string m.cr,.slice m.SA m.sp.length m.sc,.string m.sr,.int .i64 m.co,.int .i64 m.pr,.int .u32 (m.fl.toNat:Int)] 41)) w.heap.size m:=heap_alloc_new w _
 have hx:=(Ext.refl w).alloc (.cells #[.int .i64 m.t,.int .i64 m.mi,.int .i64 m.kd,.int .i64 m.fk,.slice m.FA m.fb.length m.fc,.slice m.CA m.cp.length m.cc,.string m.cr,.slice m.SA m.sp.length m.sc,.string m.sr,.int .i64 m.co,.int .i64 m.pr,.int .u32 (m.fl.toNat:Int)] 41)
 obtain ⟨W2,e2⟩:∃ W,w.alloc (.cells #[.int .i64 m.t,.int .i64 m.mi,.int .i64 m.kd,.int .i64 m.fk,.slice m.FA m.fb.length m.fc,.slice m.CA m.cp.length m.cc,.string m.cr,.slice m.SA m.sp.length m.sc,.string m.sr,.int .i64 m.co,.int .i64 m.pr,.int .u32 (m.fl.toNat:Int)] 41)=W:=⟨_,rfl⟩
 rw [e2] at h0 hx
 have HM:=Lib.hid h0;have HX:=Lib.hid hx
 have HC0:=Lib.hid (fun W (hw:Ext W2 W)=>Short_at m.CA m.cc m.cp m.cr W (hm.cp.ext (hx.trans hw)))
 have HC1:=Lib.hid (fun W (hw:Ext W2 W)=>Short_at m.SA m.sc m.sp m.sr W (hm.sp.ext (hx.trans hw)))
 have hsa:smallF m=((shortB m.cp m.cr&&shortB m.sp m.sr)&&decide ((m.fb.length:Int)≤60)):=rfl
 have hlen:m.fb.length≤9223372036854775807:=by
  obtain ⟨A',c',he,h1,h2,_⟩:=hm.fb
  rw [bv_length] at h1
  unfold maxLen at h2
  omega
 rw [hsa]
 unfold FV.val
 clear hsa
 obtain ⟨pc,hpc⟩:∃ b,shortB m.cp m.cr=b:=⟨_,rfl⟩
 obtain ⟨sc,hsc⟩:∃ b,shortB m.sp m.sr=b:=⟨_,rfl⟩
 rw [hpc] at HC0 ⊢
 rw [hsc] at HC1 ⊢
 clear hpc hsc h0 hx hm
 obtain ⟨p1,hp1⟩:∃ p1:Bool,(pc&&sc)=p1:=⟨_,rfl⟩
 have Hp1:=Lib.hid hp1;clear hp1
 obtain ⟨q2,hq2⟩:∃ q2:Bool,(decide ((m.fb.length:Int)≤60))=q2:=⟨_,rfl⟩
 have Hq2:=Lib.hid hq2;clear hq2
 obtain ⟨p3,hp3⟩:∃ p3:Bool,(p1&&q2)=p3:=⟨_,rfl⟩
 have Hp3:=Lib.hid hp3;clear hp3
 have HX0:=Lib.hid (Ext.refl W2)
 go_enter Tryz.func23,Tryz.ntmps23
 go_upto_region 1 with fail
 refine wp_region_lit ?_
 refine wpL_val (.pointer (some ⟨w.heap.size,5,none⟩)) rfl (fun K' hK'=>?_) ?_
 ·go_step
  exact hK'
 simp only [Act.put,sT1,sT2,sT3]
 refine wpL_val (.agg #[.slice m.CA m.cp.length m.cc,.string m.cr]) rfl (fun K' hK'=>?_) ?_
 ·obtain ⟨u0,u1,u2,u3,u4,u5,u6,u7,u8,u9,u10,u11⟩:=(HM.out.ext HX0.out).cells
  go_step
  exact hK'
 simp only [Act.put,sT1,sT2,sT3]
 refine wpL_symcall true (.bool pc) (rfl) (fun hc K' hK'=>?_) (fun wc5 hx=>?_)
 ·skip
  try simp only [cond_true]
  go_step
  refine (HC0.out W2 HX0.out).mono ?_
  rintro _ w2 ⟨rfl,hx⟩
  exact hK' _ hx
 have HX5:=Lib.hid (HX0.out.trans hx);clear hx
 simp only [cond_true,Act.put,sT1,sT2,sT3]
 refine wpL_val (.bool pc) rfl (fun K' hK'=>?_) ?_
 ·go_step
  exact hK'
 simp only [Act.put,sT1,sT2,sT3]
 refine wpL_sym pc (.pointer (some ⟨w.heap.size,7,none⟩)) (by cases pc<;>kernel_rfl) (fun hc K' hK'=>?_) ?_
 ·subst hc
  try simp only [cond_true]
  go_step
  exact hK'
 simp only [Act.put,sT1,sT2,sT3]
 refine wpL_sym pc (.agg #[.slice m.SA m.sp.length m.sc,.string m.sr]) (by cases pc<;>kernel_rfl) (fun hc K' hK'=>?_) ?_
 ·subst hc
  try simp only [cond_true]
  obtain ⟨u0,u1,u2,u3,u4,u5,u6,u7,u8,u9,u10,u11⟩:=(HM.out.ext HX5.out).cells
  go_step
  exact hK'
 simp only [Act.put,sT1,sT2,sT3]
 refine wpL_symcall pc (.bool sc) (by cases pc<;>kernel_rfl) (fun hc K' hK'=>?_) (fun wc9 hx=>?_)
 ·subst hc
  try simp only [cond_true]
  go_step
  refine (HC1.out wc5 HX5.out).mono ?_
  rintro _ w2 ⟨rfl,hx⟩
  exact hK' _ hx
 have HX9:=Lib.hid (HX5.out.trans hx);clear hx
 simp only [Act.put,sT1,sT2,sT3]
 refine wpL_val (.bool p1) rfl (fun K' hK'=>?_) ?_
 ·have hp:=Hp1.out
  subst hp
  cases pc
  ·go_step
   exact hK'
  ·go_step
   exact hK'
 simp only [Act.put,sT1,sT2,sT3]
 refine wpL_val (.bool p1) rfl (fun K' hK'=>?_) ?_
 ·go_step
  exact hK'
 simp only [Act.put,sT1,sT2,sT3]
 refine wpL_sym p1 (.pointer (some ⟨w.heap.size,3,none⟩)) (by cases p1<;>kernel_rfl) (fun hc K' hK'=>?_) ?_
 ·subst hc
  try simp only [cond_true]
  go_step
  exact hK'
 simp only [Act.put,sT1,sT2,sT3]
 refine wpL_sym p1 (.pointer (some ⟨w.heap.size,4,none⟩)) (by cases p1<;>kernel_rfl) (fun hc K' hK'=>?_) ?_
 ·subst hc
  try simp only [cond_true]
  go_step
  exact hK'
 simp only [Act.put,sT1,sT2,sT3]
 refine wpL_sym p1 (.slice m.FA m.fb.length m.fc) (by cases p1<;>kernel_rfl) (fun hc K' hK'=>?_) ?_
 ·subst hc
  try simp only [cond_true]
  obtain ⟨u0,u1,u2,u3,u4,u5,u6,u7,u8,u9,u10,u11⟩:=(HM.out.ext HX9.out).cells
  go_step
  exact hK'
 simp only [Act.put,sT1,sT2,sT3]
 refine wpL_sym p1 (.int .i64 (m.fb.length:Int)) (by cases p1<;>kernel_rfl) (fun hc K' hK'=>?_) ?_
 ·subst hc
  try simp only [cond_true]
  go_step
  exact hK'
 simp only [Act.put,sT1,sT2,sT3]
 refine wpL_sym p1 (.bool q2) (by cases p1<;>kernel_rfl) (fun hc K' hK'=>?_) ?_
 ·subst hc
  try simp only [cond_true]
  have hq:=Hq2.out
  subst hq
  go_step
  exact hK'
 simp only [Act.put,sT1,sT2,sT3]
 refine wpL_val (.bool p3) rfl (fun K' hK'=>?_) ?_
 ·have hp:=Hp3.out
  subst hp
  cases p1
  ·go_step
   exact hK'
  ·go_step
   exact hK'
 simp only [Act.put,sT1,sT2,sT3]
 go_wp2_with fail
 go_ret
 refine ⟨?_,HX.out.trans HX9.out⟩
 have h:=Hp3.out;subst h
 have h:=Hq2.out;subst h
 have h:=Hp1.out;subst h
 rfl
def fewB (xs:List FV):Bool:=xs.all smallF&&decide (xs.length≤40)
theorem fewB_yes {xs:List FV}(h:fewB xs=true):(∀ m∈xs,m.Sz)∧xs.length≤40:=by
 unfold fewB at h
 rw [Bool.and_eq_true,List.all_eq_true,decide_eq_true_iff] at h
 exact ⟨fun m hm=>smallF_sz (h.1 m hm),h.2⟩
theorem few_end {xs:List FV}{k:Nat}(h:xs.length≤k∨41≤xs.length)(ha:(xs.take k).all smallF=true):decide (xs.length≤40)=fewB xs:=by
 unfold fewB
 rcases h with h | h
 ·rw [List.take_of_length_le h] at ha
  rw [ha,Bool.true_and]
 ·rw [decide_eq_false (show ¬ xs.length≤40 by omega),Bool.and_false]
theorem few_big {xs:List FV}{m:FV}(h:m∈xs)(hb:smallF m=false):fewB xs=false:=by
 unfold fewB
 rw [show xs.all smallF=false from List.all_eq_false.2 ⟨m,h,by rw [hb];simp⟩];rfl
set_option maxRecDepth 100000 in
set_option maxHeartbeats 1600000 in
theorem Few_at (A:Option Addr) (c:Nat) (xs:List FV) (w:World) (hF:FS w (.slice A xs.length c) xs):
  Calls Tryz.prog 9 #[.slice A xs.length c] w fun e w'=>e=.returned (.bool (fewB xs))∧Ext w w':=by
 have HF:=Lib.hid hF
 have hlen:xs.length≤9223372036854775807:=by
  obtain ⟨_,c',he,hc1,hc2⟩:=hF.shape
  injection he with e1 _ e3
  subst e3
  unfold maxLen at hc2
  omega
 obtain ⟨b,hb⟩:∃ b,fewB xs=b:=⟨_,rfl⟩
 have HB:=Lib.hid hb
 rw [hb]
 obtain ⟨n,hn'⟩:∃ n,xs.length=n:=⟨_,rfl⟩
 have HN:=Lib.hid hn'
 rw [hn'] at HF hlen ⊢
 clear hn' hF hb
 go_enter Tryz.func9,Tryz.ntmps9
 go_wp2_with fail
 go_loopw [3] (fun i wr=>∃ k:Nat,k≤n∧i=.int .i64 k∧Hid ((xs.take k).all smallF=true)∧Hid (Ext w wr)) (fun i _=>n-(intOf i).toNat)
 case atStart=>exact ⟨0,Nat.zero_le _,rfl,Lib.hid rfl,Lib.hid (Ext.refl w)⟩
 case round=>
  obtain ⟨k,hk,rfl,HA,HX⟩:=hrel
  have fin:Hid (xs.length≤k∨41≤xs.length→decide (xs.length≤40)=b):=Lib.hid (fun h=>(few_end h HA.out).trans HB.out)
  by_cases hlt:k<n
  ·have hlx:k<xs.length:=by rw [HN.out];exact hlt
   by_cases h41:k<41
   ·have hF:=HF.out.ext HX.out
    obtain ⟨hin,ad,rfl,u0,u1,u2,u3,u4,u5,u6,u7,u8,u9,u10,u11⟩:=hF.at_ k hlx
    have HC:=Lib.hid (SmallF_at xs[k] wr hin)
    have HTK:=Lib.hid (show (xs.take (k+1)).all smallF=smallF xs[k] by
     rw [List.take_succ_eq_append_getElem hlx,List.all_append,HA.out];simp)
    have HIN:=Lib.hid (List.getElem_mem hlx)
    obtain ⟨s,hs⟩:∃ s,smallF xs[k]=s:=⟨_,rfl⟩
    have HS:=Lib.hid hs
    rw [hs] at HC HTK
    unfold FV.val at HC
    clear hs hin hF fin
    generalize xs[k]=f at *
    go_wp2_with fail
    refine HC.out.mono ?_
    rintro _ w2 ⟨rfl,hx⟩
    have HX2:=Lib.hid (HX.out.trans hx)
    clear hx u0 u1 u2 u3 u4 u5 u6 u7 u8 u9 u10 u11
    cases s with
    | true=>
     go_wp2_with fail
     go_roundw
     case rel=>exact ⟨k+1,by omega,by go_num,HTK,HX2⟩
     case measure=>simp [intOf];omega
    | false=>
     have HBT:=Lib.hid (show b=false by rw [← HB.out];exact few_big HIN.out HS.out)
     go_wp2_with fail
     go_ret
     refine ⟨?_,HX2.out⟩
     rw [HBT.out];rfl
   ·have HG:=Lib.hid (show false=b by have:=fin.out (.inr (by omega));rwa [decide_eq_false (show ¬ xs.length≤40 by omega)] at this)
    clear fin
    have h61:decide ((n:Int)≤40)=false:=decide_eq_false (by omega)
    go_wp2_with fail
    go_ret
    refine ⟨?_,HX.out⟩
    rw [← HG.out];rfl
  ·have HG:=Lib.hid (fin.out (.inl (by rw [HN.out];omega)))
   have hnn:=HN.out
   clear fin
   by_cases h6:n≤40
   ·have h61:(n:Int)≤40:=by omega
    have HT:=Lib.hid (show true=b by have:=HG.out;rwa [decide_eq_true (show xs.length≤40 by omega)] at this)
    clear h6 hnn
    go_wp2_with fail
    go_ret
    refine ⟨?_,HX.out⟩
    rw [← HT.out];rfl
   ·have h61:decide ((n:Int)≤40)=false:=decide_eq_false (by omega)
    have HT:=Lib.hid (show false=b by have:=HG.out;rwa [decide_eq_false (show ¬ xs.length≤40 by omega)] at this)
    clear h6 hnn
    go_wp2_with fail
    go_ret
    refine ⟨?_,HX.out⟩
    rw [← HT.out];rfl
def fE:Fct:=⟨100,5,10,2,[10,0,0,1],[[117]],[82],[[107,114,98,116,103,116],[82]],[82],0,2,257#32⟩
def gE:Fct:=⟨103,5,10,2,[10,0,0,1],[[117]],[82],[[107,114,98,116,103,116],[82]],[82],24,0,0#32⟩
def fX (b:Nat):FV:=⟨100,5,10,2,some ⟨b,0,none⟩,[10,0,0,1],4,some ⟨b+1,0,none⟩,[⟨#[117]⟩],1,⟨#[82]⟩,some ⟨b+1+1,0,none⟩,[⟨#[107,114,98,116,103,116]⟩,⟨#[82]⟩],2,⟨#[82]⟩,0,2,257#32⟩
def gX (t:Int)(b:Nat):FV:=⟨t,5,10,2,some ⟨b,0,none⟩,[10,0,0,1],4,some ⟨b+1,0,none⟩,[⟨#[117]⟩],1,⟨#[82]⟩,some ⟨b+1+1,0,none⟩,[⟨#[107,114,98,116,103,116]⟩,⟨#[82]⟩],2,⟨#[82]⟩,24,0,0#32⟩
theorem fX_fct (b:Nat):(fX b).fct=fE:=rfl
theorem fX_sz (b:Nat):(fX b).Sz:=⟨(by decide:(4:Nat)≤1000),(by decide:(1:Nat)≤1000),fun p hp=>by simp [fX] at hp;subst hp;decide,(by decide:(1:Nat)≤1000),(by decide:(2:Nat)≤1000),fun p hp=>by simp [fX] at hp;rcases hp with rfl | rfl<;>decide,(by decide:(1:Nat)≤1000)⟩
theorem gX_sz (t:Int)(b:Nat):(gX t b).Sz:=⟨(by decide:(4:Nat)≤1000),(by decide:(1:Nat)≤1000),fun p hp=>by simp [gX] at hp;subst hp;decide,(by decide:(1:Nat)≤1000),(by decide:(2:Nat)≤1000),fun p hp=>by simp [gX] at hp;rcases hp with rfl | rfl<;>decide,(by decide:(1:Nat)≤1000)⟩
def SX (w:World)(b:Nat):Prop:=BS w (.slice (some ⟨b,0,none⟩) 4 4) [10,0,0,1]∧RS w (.slice (some ⟨b+1,0,none⟩) 1 1) [.string ⟨#[117]⟩]∧RS w (.slice (some ⟨b+1+1,0,none⟩) 2 2) [.string ⟨#[107,114,98,116,103,116]⟩,.string ⟨#[82]⟩]
theorem SX.ext {w w':World}{b:Nat}(h:SX w b)(hx:Ext w w'):SX w' b:=⟨h.1.ext hx,h.2.1.ext hx,h.2.2.ext hx⟩
theorem SX.far {w w':World}{b g:Nat}(h:SX w b)(hg:w.grownBy w' (some g))(hb:g<b):SX w' b:=⟨RS.far h.1 (fun ad e=>by injection e with e;subst e;show b≠g;omega) hg,RS.far h.2.1 (fun ad e=>by injection e with e;subst e;show b+1≠g;omega) hg,RS.far h.2.2 (fun ad e=>by injection e with e;subst e;show b+1+1≠g;omega) hg⟩
theorem SX.f {w:World}{b:Nat}(h:SX w b):(fX b).In w:=⟨h.1,h.2.1,h.2.2⟩
theorem SX.g {w:World}{b:Nat}(h:SX w b)(t:Int):(gX t b).In w:=⟨h.1,h.2.1,h.2.2⟩
theorem sample_mem (W2:World):∃ W3,((W2.alloc (.cells #[.int .u8 10,.int .u8 0,.int .u8 0,.int .u8 1] 5)).alloc (.cells #[.string ⟨#[117]⟩] 9)).alloc (.cells #[.string ⟨#[107,114,98,116,103,116]⟩,.string ⟨#[82]⟩] 9)=W3∧SX W3 W2.heap.size∧Ext W2 W3:=by
 have r1:=RS.new W2 5 [.int .u8 10,.int .u8 0,.int .u8 0,.int .u8 1] (by decide)
 have x1:=(Ext.refl W2).alloc (.cells #[.int .u8 10,.int .u8 0,.int .u8 0,.int .u8 1] 5)
 obtain ⟨Wa,ea⟩:∃ W,W2.alloc (.cells #[.int .u8 10,.int .u8 0,.int .u8 0,.int .u8 1] 5)=W:=⟨_,rfl⟩
 have sa:Wa.heap.size=W2.heap.size+1:=by rw [← ea,World.size_alloc]
 change RS (W2.alloc (.cells #[.int .u8 10,.int .u8 0,.int .u8 0,.int .u8 1] 5)) (.slice (some ⟨W2.heap.size,0,none⟩) 4 4) _ at r1
 rw [ea] at r1 x1 ⊢
 have r2:=RS.new Wa 9 [.string ⟨#[117]⟩] (by decide)
 have x2:=(Ext.refl Wa).alloc (.cells #[.string ⟨#[117]⟩] 9)
 obtain ⟨Wb,eb⟩:∃ W,Wa.alloc (.cells #[.string ⟨#[117]⟩] 9)=W:=⟨_,rfl⟩
 have sb:Wb.heap.size=W2.heap.size+1+1:=by rw [← eb,World.size_alloc,sa]
 change RS (Wa.alloc (.cells #[.string ⟨#[117]⟩] 9)) (.slice (some ⟨Wa.heap.size,0,none⟩) 1 1) _ at r2
 rw [eb,sa] at r2
 rw [eb] at x2 ⊢
 have r3:=RS.new Wb 9 [.string ⟨#[107,114,98,116,103,116]⟩,.string ⟨#[82]⟩] (by decide)
 have x3:=(Ext.refl Wb).alloc (.cells #[.string ⟨#[107,114,98,116,103,116]⟩,.string ⟨#[82]⟩] 9)
 change RS (Wb.alloc (.cells #[.string ⟨#[107,114,98,116,103,116]⟩,.string ⟨#[82]⟩] 9)) (.slice (some ⟨Wb.heap.size,0,none⟩) 2 2) _ at r3
 rw [sb] at r3
 exact ⟨_,rfl,⟨(show BS Wa _ [10,0,0,1] from r1).ext (x2.trans x3),r2.ext x3,r3⟩,x1.trans (x2.trans x3)⟩
theorem rw12 {w:World}{g:Nat}{t:TypeId}{a0 a1 a2 a3 a4 a5 a6 a7 a8 a9 a10 a11:Value}(h:RW w g t #[a0,a1,a2,a3,a4,a5,a6,a7,a8,a9,a10,a11]):(w.cell? ⟨g,0,none⟩=some a0∧w.cell? ⟨g,1,none⟩=some a1∧w.cell? ⟨g,2,none⟩=some a2∧w.cell? ⟨g,3,none⟩=some a3∧w.cell? ⟨g,4,none⟩=some a4∧w.cell? ⟨g,5,none⟩=some a5∧w.cell? ⟨g,6,none⟩=some a6∧w.cell? ⟨g,7,none⟩=some a7∧w.cell? ⟨g,8,none⟩=some a8∧w.cell? ⟨g,9,none⟩=some a9∧w.cell? ⟨g,10,none⟩=some a10∧w.cell? ⟨g,11,none⟩=some a11)∧w.frozen? ⟨g,0,none⟩=false∧w.frozen? ⟨g,1,none⟩=false∧w.frozen? ⟨g,2,none⟩=false∧w.frozen? ⟨g,3,none⟩=false∧w.frozen? ⟨g,4,none⟩=false∧w.frozen? ⟨g,5,none⟩=false∧w.frozen? ⟨g,6,none⟩=false∧w.frozen? ⟨g,7,none⟩=false∧w.frozen? ⟨g,8,none⟩=false∧w.frozen? ⟨g,9,none⟩=false∧w.frozen? ⟨g,10,none⟩=false∧w.frozen? ⟨g,11,none⟩=false:=by
 unfold RW at h
 refine ⟨⟨?_,?_,?_,?_,?_,?_,?_,?_,?_,?_,?_,?_⟩,?_,?_,?_,?_,?_,?_,?_,?_,?_,?_,?_,?_⟩
 all_goals first
  | exact frozen_of_row w g _ _ _ h
  | (rw [cell_of_row _ _ _ _ _ (0,0) h];rfl)
set_option maxRecDepth 100000 in
set_option maxHeartbeats 4000000 in
theorem sample_at (w:World):Calls Tryz.prog 31 #[] w fun e w'=>(∃ b,e=.returned (.tuple #[(fX b).val,(gX 103 b).val])∧SX w' b)∧Ext w w':=by
 have z1:FBx (w.alloc (.cells #[.int .i64 0,.int .i64 0,.int .i64 0,.int .i64 0,.slice none 0 0,.slice none 0 0,.string ⟨#[]⟩,.slice none 0 0,.string ⟨#[]⟩,.int .i64 0,.int .i64 0,.int .u32 0] 41)) w.heap.size fv0:=heap_alloc_new w _
 have x1:=(Ext.refl w).alloc (.cells #[.int .i64 0,.int .i64 0,.int .i64 0,.int .i64 0,.slice none 0 0,.slice none 0 0,.string ⟨#[]⟩,.slice none 0 0,.string ⟨#[]⟩,.int .i64 0,.int .i64 0,.int .u32 0] 41)
 obtain ⟨W1,e1⟩:∃ W,w.alloc (.cells #[.int .i64 0,.int .i64 0,.int .i64 0,.int .i64 0,.slice none 0 0,.slice none 0 0,.string ⟨#[]⟩,.slice none 0 0,.string ⟨#[]⟩,.int .i64 0,.int .i64 0,.int .u32 0] 41)=W:=⟨_,rfl⟩
 have s1:W1.heap.size=w.heap.size+1:=by rw [← e1,World.size_alloc]
 rw [e1] at z1 x1
 have z2:FBx (W1.alloc (.cells #[.int .i64 0,.int .i64 0,.int .i64 0,.int .i64 0,.slice none 0 0,.slice none 0 0,.string ⟨#[]⟩,.slice none 0 0,.string ⟨#[]⟩,.int .i64 0,.int .i64 0,.int .u32 0] 41)) W1.heap.size fv0:=heap_alloc_new W1 _
 have x2:=(Ext.refl W1).alloc (.cells #[.int .i64 0,.int .i64 0,.int .i64 0,.int .i64 0,.slice none 0 0,.slice none 0 0,.string ⟨#[]⟩,.slice none 0 0,.string ⟨#[]⟩,.int .i64 0,.int .i64 0,.int .u32 0] 41)
 obtain ⟨W2,e2⟩:∃ W,W1.alloc (.cells #[.int .i64 0,.int .i64 0,.int .i64 0,.int .i64 0,.slice none 0 0,.slice none 0 0,.string ⟨#[]⟩,.slice none 0 0,.string ⟨#[]⟩,.int .i64 0,.int .i64 0,.int .u32 0] 41)=W:=⟨_,rfl⟩
 rw [e2] at z2 x2
 obtain ⟨W3,e3,hS,x3⟩:=sample_mem W2
 have f4:FBx (W3.alloc (.cells #[.int .i64 100,.int .i64 5,.int .i64 10,.int .i64 2,.slice (some ⟨W2.heap.size,0,none⟩) 4 4,.slice (some ⟨W2.heap.size+1,0,none⟩) 1 1,.string ⟨#[82]⟩,.slice (some ⟨W2.heap.size+1+1,0,none⟩) 2 2,.string ⟨#[82]⟩,.int .i64 0,.int .i64 2,.int .u32 257] 41)) W3.heap.size (fX W2.heap.size):=heap_alloc_new W3 _
 have x4:=(Ext.refl W3).alloc (.cells #[.int .i64 100,.int .i64 5,.int .i64 10,.int .i64 2,.slice (some ⟨W2.heap.size,0,none⟩) 4 4,.slice (some ⟨W2.heap.size+1,0,none⟩) 1 1,.string ⟨#[82]⟩,.slice (some ⟨W2.heap.size+1+1,0,none⟩) 2 2,.string ⟨#[82]⟩,.int .i64 0,.int .i64 2,.int .u32 257] 41)
 obtain ⟨W4,e4⟩:∃ W,W3.alloc (.cells #[.int .i64 100,.int .i64 5,.int .i64 10,.int .i64 2,.slice (some ⟨W2.heap.size,0,none⟩) 4 4,.slice (some ⟨W2.heap.size+1,0,none⟩) 1 1,.string ⟨#[82]⟩,.slice (some ⟨W2.heap.size+1+1,0,none⟩) 2 2,.string ⟨#[82]⟩,.int .i64 0,.int .i64 2,.int .u32 257] 41)=W:=⟨_,rfl⟩
 have s4:W4.heap.size=W3.heap.size+1:=by rw [← e4,World.size_alloc]
 rw [e4] at f4 x4
 have f5:FBx (W4.alloc (.cells #[.int .i64 100,.int .i64 5,.int .i64 10,.int .i64 2,.slice (some ⟨W2.heap.size,0,none⟩) 4 4,.slice (some ⟨W2.heap.size+1,0,none⟩) 1 1,.string ⟨#[82]⟩,.slice (some ⟨W2.heap.size+1+1,0,none⟩) 2 2,.string ⟨#[82]⟩,.int .i64 0,.int .i64 2,.int .u32 257] 41)) W4.heap.size (fX W2.heap.size):=heap_alloc_new W4 _
 have x5:=(Ext.refl W4).alloc (.cells #[.int .i64 100,.int .i64 5,.int .i64 10,.int .i64 2,.slice (some ⟨W2.heap.size,0,none⟩) 4 4,.slice (some ⟨W2.heap.size+1,0,none⟩) 1 1,.string ⟨#[82]⟩,.slice (some ⟨W2.heap.size+1+1,0,none⟩) 2 2,.string ⟨#[82]⟩,.int .i64 0,.int .i64 2,.int .u32 257] 41)
 obtain ⟨W5,e5⟩:∃ W,W4.alloc (.cells #[.int .i64 100,.int .i64 5,.int .i64 10,.int .i64 2,.slice (some ⟨W2.heap.size,0,none⟩) 4 4,.slice (some ⟨W2.heap.size+1,0,none⟩) 1 1,.string ⟨#[82]⟩,.slice (some ⟨W2.heap.size+1+1,0,none⟩) 2 2,.string ⟨#[82]⟩,.int .i64 0,.int .i64 2,.int .u32 257] 41)=W:=⟨_,rfl⟩
 rw [e5] at f5 x5
 have g6:=((((show RW W5 W4.heap.size 41 #[.int .i64 100,.int .i64 5,.int .i64 10,.int .i64 2,.slice (some ⟨W2.heap.size,0,none⟩) 4 4,.slice (some ⟨W2.heap.size+1,0,none⟩) 1 1,.string ⟨#[82]⟩,.slice (some ⟨W2.heap.size+1+1,0,none⟩) 2 2,.string ⟨#[82]⟩,.int .i64 0,.int .i64 2,.int .u32 257] from f5).set 0 (.int .i64 103)).set 9 (.int .i64 24)).set 10 (.int .i64 0)).set 11 (.int .u32 0)
 have x6:=((((x4.trans x5).setCell (p:=⟨W4.heap.size,0,none⟩) (by show W3.heap.size≤W4.heap.size;omega) (.int .i64 103)).setCell (p:=⟨W4.heap.size,9,none⟩) (by show W3.heap.size≤W4.heap.size;omega) (.int .i64 24)).setCell (p:=⟨W4.heap.size,10,none⟩) (by show W3.heap.size≤W4.heap.size;omega) (.int .i64 0)).setCell (p:=⟨W4.heap.size,11,none⟩) (by show W3.heap.size≤W4.heap.size;omega) (.int .u32 0)
 have f6:FBx ((((W5.setCell ⟨W4.heap.size,0,none⟩ (.int .i64 103)).setCell ⟨W4.heap.size,9,none⟩ (.int .i64 24)).setCell ⟨W4.heap.size,10,none⟩ (.int .i64 0)).setCell ⟨W4.heap.size,11,none⟩ (.int .u32 0)) W3.heap.size (fX W2.heap.size):=
  heap_set_ne (heap_set_ne (heap_set_ne (heap_set_ne (f4.ext x5) (show W3.heap.size≠W4.heap.size by omega)) (show W3.heap.size≠W4.heap.size by omega)) (show W3.heap.size≠W4.heap.size by omega)) (show W3.heap.size≠W4.heap.size by omega)
 obtain ⟨W6,e6⟩:∃ W,(((W5.setCell ⟨W4.heap.size,0,none⟩ (.int .i64 103)).setCell ⟨W4.heap.size,9,none⟩ (.int .i64 24)).setCell ⟨W4.heap.size,10,none⟩ (.int .i64 0)).setCell ⟨W4.heap.size,11,none⟩ (.int .u32 0)=W:=⟨_,rfl⟩
 rw [e6] at g6 x6 f6
 have g6':FBx W6 W4.heap.size (gX 103 W2.heap.size):=g6
 obtain ⟨WA,eA,xA,bA,kA⟩:=f_put (q:=fX W2.heap.size) (((x1.trans x2).trans x3).trans x6) (Nat.le_refl _) (((z1.ext x2).ext x3).ext x6)
 change ((((((((((((W6.setCell ⟨w.heap.size,0,none⟩ (.int .i64 100)).setCell ⟨w.heap.size,1,none⟩ (.int .i64 5)).setCell ⟨w.heap.size,2,none⟩ (.int .i64 10)).setCell ⟨w.heap.size,3,none⟩ (.int .i64 2)).setCell ⟨w.heap.size,4,none⟩ (.slice (some ⟨W2.heap.size,0,none⟩) 4 4)).setCell ⟨w.heap.size,5,none⟩ (.slice (some ⟨W2.heap.size+1,0,none⟩) 1 1)).setCell ⟨w.heap.size,6,none⟩ (.string ⟨#[82]⟩)).setCell ⟨w.heap.size,7,none⟩ (.slice (some ⟨W2.heap.size+1+1,0,none⟩) 2 2)).setCell ⟨w.heap.size,8,none⟩ (.string ⟨#[82]⟩)).setCell ⟨w.heap.size,9,none⟩ (.int .i64 0)).setCell ⟨w.heap.size,10,none⟩ (.int .i64 2)).setCell ⟨w.heap.size,11,none⟩ (.int .u32 257))=WA at eA
 have z2A:FBx WA W1.heap.size fv0:=(kA.block W1.heap.size (Array.getElem?_eq_some_iff.1 ((z2.ext x3).ext x6)).1 (by simp;omega)).trans ((z2.ext x3).ext x6)
 obtain ⟨WB,eB,xB,bB,kB⟩:=f_put (q:=gX 103 W2.heap.size) xA x1.size z2A
 change ((((((((((((WA.setCell ⟨W1.heap.size,0,none⟩ (.int .i64 103)).setCell ⟨W1.heap.size,1,none⟩ (.int .i64 5)).setCell ⟨W1.heap.size,2,none⟩ (.int .i64 10)).setCell ⟨W1.heap.size,3,none⟩ (.int .i64 2)).setCell ⟨W1.heap.size,4,none⟩ (.slice (some ⟨W2.heap.size,0,none⟩) 4 4)).setCell ⟨W1.heap.size,5,none⟩ (.slice (some ⟨W2.heap.size+1,0,none⟩) 1 1)).setCell ⟨W1.heap.size,6,none⟩ (.string ⟨#[82]⟩)).setCell ⟨W1.heap.size,7,none⟩ (.slice (some ⟨W2.heap.size+1+1,0,none⟩) 2 2)).setCell ⟨W1.heap.size,8,none⟩ (.string ⟨#[82]⟩)).setCell ⟨W1.heap.size,9,none⟩ (.int .i64 24)).setCell ⟨W1.heap.size,10,none⟩ (.int .i64 0)).setCell ⟨W1.heap.size,11,none⟩ (.int .u32 0))=WB at eB
 obtain ⟨VA,eC,yA,cA,lA⟩:=f_put (q:=gX 103 W2.heap.size) (((x1.trans x2).trans x3).trans x6) x1.size ((z2.ext x3).ext x6)
 change ((((((((((((W6.setCell ⟨W1.heap.size,0,none⟩ (.int .i64 103)).setCell ⟨W1.heap.size,1,none⟩ (.int .i64 5)).setCell ⟨W1.heap.size,2,none⟩ (.int .i64 10)).setCell ⟨W1.heap.size,3,none⟩ (.int .i64 2)).setCell ⟨W1.heap.size,4,none⟩ (.slice (some ⟨W2.heap.size,0,none⟩) 4 4)).setCell ⟨W1.heap.size,5,none⟩ (.slice (some ⟨W2.heap.size+1,0,none⟩) 1 1)).setCell ⟨W1.heap.size,6,none⟩ (.string ⟨#[82]⟩)).setCell ⟨W1.heap.size,7,none⟩ (.slice (some ⟨W2.heap.size+1+1,0,none⟩) 2 2)).setCell ⟨W1.heap.size,8,none⟩ (.string ⟨#[82]⟩)).setCell ⟨W1.heap.size,9,none⟩ (.int .i64 24)).setCell ⟨W1.heap.size,10,none⟩ (.int .i64 0)).setCell ⟨W1.heap.size,11,none⟩ (.int .u32 0))=VA at eC
 have y1A:FBx VA w.heap.size fv0:=(lA.block w.heap.size (Array.getElem?_eq_some_iff.1 (((z1.ext x2).ext x3).ext x6)).1 (by simp;omega)).trans (((z1.ext x2).ext x3).ext x6)
 obtain ⟨VB,eD,yB,dB,lB⟩:=f_put (q:=fX W2.heap.size) yA (Nat.le_refl _) y1A
 change ((((((((((((VA.setCell ⟨w.heap.size,0,none⟩ (.int .i64 100)).setCell ⟨w.heap.size,1,none⟩ (.int .i64 5)).setCell ⟨w.heap.size,2,none⟩ (.int .i64 10)).setCell ⟨w.heap.size,3,none⟩ (.int .i64 2)).setCell ⟨w.heap.size,4,none⟩ (.slice (some ⟨W2.heap.size,0,none⟩) 4 4)).setCell ⟨w.heap.size,5,none⟩ (.slice (some ⟨W2.heap.size+1,0,none⟩) 1 1)).setCell ⟨w.heap.size,6,none⟩ (.string ⟨#[82]⟩)).setCell ⟨w.heap.size,7,none⟩ (.slice (some ⟨W2.heap.size+1+1,0,none⟩) 2 2)).setCell ⟨w.heap.size,8,none⟩ (.string ⟨#[82]⟩)).setCell ⟨w.heap.size,9,none⟩ (.int .i64 0)).setCell ⟨w.heap.size,10,none⟩ (.int .i64 2)).setCell ⟨w.heap.size,11,none⟩ (.int .u32 257))=VB at eD
 have dAB:FBx VB W1.heap.size (gX 103 W2.heap.size):=(lB.block W1.heap.size (Array.getElem?_eq_some_iff.1 cA).1 (by simp;omega)).trans cA
 have bAB:FBx WB w.heap.size (fX W2.heap.size):=(kB.block w.heap.size (Array.getElem?_eq_some_iff.1 bA).1 (by simp;omega)).trans bA
 have HZ1:=Lib.hid (((z1.ext x2).ext x3).ext x6)
 have HS6:=Lib.hid (hS.ext x6)
 have HXB:=Lib.hid xB
 have HSB:=Lib.hid (show SX WB W2.heap.size from ((hS.ext x6).far kA (Array.getElem?_eq_some_iff.1 (z1.ext x2)).1).far kB (Array.getElem?_eq_some_iff.1 z2).1)
 have hsz3:w.heap.size<W3.heap.size∧W1.heap.size<W3.heap.size:=by
  have h1:=(Array.getElem?_eq_some_iff.1 (z1.ext x2)).1
  have h2:=(Array.getElem?_eq_some_iff.1 z2).1
  have h3:=x3.size
  omega
 have gAL:RW WA W4.heap.size 41 #[.int .i64 103,.int .i64 5,.int .i64 10,.int .i64 2,.slice (some ⟨W2.heap.size,0,none⟩) 4 4,.slice (some ⟨W2.heap.size+1,0,none⟩) 1 1,.string ⟨#[82]⟩,.slice (some ⟨W2.heap.size+1+1,0,none⟩) 2 2,.string ⟨#[82]⟩,.int .i64 24,.int .i64 0,.int .u32 0]:=(kA.block W4.heap.size (Array.getElem?_eq_some_iff.1 g6).1 (by simp;omega)).trans g6
 have fAL:RW VA W3.heap.size 41 #[.int .i64 100,.int .i64 5,.int .i64 10,.int .i64 2,.slice (some ⟨W2.heap.size,0,none⟩) 4 4,.slice (some ⟨W2.heap.size+1,0,none⟩) 1 1,.string ⟨#[82]⟩,.slice (some ⟨W2.heap.size+1+1,0,none⟩) 2 2,.string ⟨#[82]⟩,.int .i64 0,.int .i64 2,.int .u32 257]:=(lA.block W3.heap.size (Array.getElem?_eq_some_iff.1 f6).1 (by simp;omega)).trans f6
 have HgAL:=Lib.hid gAL;have HfAL:=Lib.hid fAL
 clear gAL fAL hsz3
 have z1L:RW W6 w.heap.size 41 #[.int .i64 0,.int .i64 0,.int .i64 0,.int .i64 0,.slice none 0 0,.slice none 0 0,.string ⟨#[]⟩,.slice none 0 0,.string ⟨#[]⟩,.int .i64 0,.int .i64 0,.int .u32 0]:=((z1.ext x2).ext x3).ext x6
 have z2L:RW W6 W1.heap.size 41 #[.int .i64 0,.int .i64 0,.int .i64 0,.int .i64 0,.slice none 0 0,.slice none 0 0,.string ⟨#[]⟩,.slice none 0 0,.string ⟨#[]⟩,.int .i64 0,.int .i64 0,.int .u32 0]:=(z2.ext x3).ext x6
 have f6L:RW W6 W3.heap.size 41 #[.int .i64 100,.int .i64 5,.int .i64 10,.int .i64 2,.slice (some ⟨W2.heap.size,0,none⟩) 4 4,.slice (some ⟨W2.heap.size+1,0,none⟩) 1 1,.string ⟨#[82]⟩,.slice (some ⟨W2.heap.size+1+1,0,none⟩) 2 2,.string ⟨#[82]⟩,.int .i64 0,.int .i64 2,.int .u32 257]:=f6
 have g6L:RW W6 W4.heap.size 41 #[.int .i64 103,.int .i64 5,.int .i64 10,.int .i64 2,.slice (some ⟨W2.heap.size,0,none⟩) 4 4,.slice (some ⟨W2.heap.size+1,0,none⟩) 1 1,.string ⟨#[82]⟩,.slice (some ⟨W2.heap.size+1+1,0,none⟩) 2 2,.string ⟨#[82]⟩,.int .i64 24,.int .i64 0,.int .u32 0]:=g6
 have f5L:RW W5 W4.heap.size 41 #[.int .i64 100,.int .i64 5,.int .i64 10,.int .i64 2,.slice (some ⟨W2.heap.size,0,none⟩) 4 4,.slice (some ⟨W2.heap.size+1,0,none⟩) 1 1,.string ⟨#[82]⟩,.slice (some ⟨W2.heap.size+1+1,0,none⟩) 2 2,.string ⟨#[82]⟩,.int .i64 0,.int .i64 2,.int .u32 257]:=f5
 have f4L:RW W4 W3.heap.size 41 #[.int .i64 100,.int .i64 5,.int .i64 10,.int .i64 2,.slice (some ⟨W2.heap.size,0,none⟩) 4 4,.slice (some ⟨W2.heap.size+1,0,none⟩) 1 1,.string ⟨#[82]⟩,.slice (some ⟨W2.heap.size+1+1,0,none⟩) 2 2,.string ⟨#[82]⟩,.int .i64 0,.int .i64 2,.int .u32 257]:=f4
 have zAL:RW WA W1.heap.size 41 #[.int .i64 0,.int .i64 0,.int .i64 0,.int .i64 0,.slice none 0 0,.slice none 0 0,.string ⟨#[]⟩,.slice none 0 0,.string ⟨#[]⟩,.int .i64 0,.int .i64 0,.int .u32 0]:=z2A
 have yAL:RW VA w.heap.size 41 #[.int .i64 0,.int .i64 0,.int .i64 0,.int .i64 0,.slice none 0 0,.slice none 0 0,.string ⟨#[]⟩,.slice none 0 0,.string ⟨#[]⟩,.int .i64 0,.int .i64 0,.int .u32 0]:=y1A
 have aBL:RW WB w.heap.size 41 #[.int .i64 100,.int .i64 5,.int .i64 10,.int .i64 2,.slice (some ⟨W2.heap.size,0,none⟩) 4 4,.slice (some ⟨W2.heap.size+1,0,none⟩) 1 1,.string ⟨#[82]⟩,.slice (some ⟨W2.heap.size+1+1,0,none⟩) 2 2,.string ⟨#[82]⟩,.int .i64 0,.int .i64 2,.int .u32 257]:=bAB
 have bBL:RW WB W1.heap.size 41 #[.int .i64 103,.int .i64 5,.int .i64 10,.int .i64 2,.slice (some ⟨W2.heap.size,0,none⟩) 4 4,.slice (some ⟨W2.heap.size+1,0,none⟩) 1 1,.string ⟨#[82]⟩,.slice (some ⟨W2.heap.size+1+1,0,none⟩) 2 2,.string ⟨#[82]⟩,.int .i64 24,.int .i64 0,.int .u32 0]:=bB
 have cBL:RW VB w.heap.size 41 #[.int .i64 100,.int .i64 5,.int .i64 10,.int .i64 2,.slice (some ⟨W2.heap.size,0,none⟩) 4 4,.slice (some ⟨W2.heap.size+1,0,none⟩) 1 1,.string ⟨#[82]⟩,.slice (some ⟨W2.heap.size+1+1,0,none⟩) 2 2,.string ⟨#[82]⟩,.int .i64 0,.int .i64 2,.int .u32 257]:=dB
 have dBL:RW VB W1.heap.size 41 #[.int .i64 103,.int .i64 5,.int .i64 10,.int .i64 2,.slice (some ⟨W2.heap.size,0,none⟩) 4 4,.slice (some ⟨W2.heap.size+1,0,none⟩) 1 1,.string ⟨#[82]⟩,.slice (some ⟨W2.heap.size+1+1,0,none⟩) 2 2,.string ⟨#[82]⟩,.int .i64 24,.int .i64 0,.int .u32 0]:=dAB
 have Hz1L:=Lib.hid z1L
 have Hz2L:=Lib.hid z2L
 have Hf6L:=Lib.hid f6L
 have Hg6L:=Lib.hid g6L
 obtain ⟨⟨ke0,ke1,ke2,ke3,ke4,ke5,ke6,ke7,ke8,ke9,ke10,ke11⟩,kez0,kez1,kez2,kez3,kez4,kez5,kez6,kez7,kez8,kez9,kez10,kez11⟩:=rw12 f5L
 obtain ⟨⟨kf0,kf1,kf2,kf3,kf4,kf5,kf6,kf7,kf8,kf9,kf10,kf11⟩,kfz0,kfz1,kfz2,kfz3,kfz4,kfz5,kfz6,kfz7,kfz8,kfz9,kfz10,kfz11⟩:=rw12 f4L
 have HzAL:=Lib.hid zAL
 have HyAL:=Lib.hid yAL
 have HAB:=Lib.hid aBL;have HBB:=Lib.hid bBL;have HCB:=Lib.hid cBL;have HDB:=Lib.hid dBL;have HYB:=Lib.hid yB
 clear z1 z2 f4 f5 f6 g6 g6' z2A bA kA kB bB bAB hS z1L z2L f6L g6L f5L f4L zAL yAL aBL bBL cBL dBL y1A cA lA lB dB dAB
 have HEA:=Lib.hid eA;have HEB:=Lib.hid eB;have HEC:=Lib.hid eC;have HED:=Lib.hid eD
 clear eA eB eC eD xA xB yA yB x1 x2 x3 x4 x5 x6 s1 s4
 go_enter Tryz.func31,Tryz.ntmps31
 go_upto_region 4 with fail
 clear kf0 kf1 kf2 kf3 kf4 kf5 kf6 kf7 kf8 kf9 kf10 kf11 kfz0 kfz1 kfz2 kfz3 kfz4 kfz5 kfz6 kfz7 kfz8 kfz9 kfz10 kfz11 ke0 ke1 ke2 ke3 ke4 ke5 ke6 ke7 ke8 ke9 ke10 ke11 kez0 kez1 kez2 kez3 kez4 kez5 kez6 kez7 kez8 kez9 kez10 kez11 e1 e2 e3 e4 e5 e6
 obtain ⟨⟨ka0,ka1,ka2,ka3,ka4,ka5,ka6,ka7,ka8,ka9,ka10,ka11⟩,kaz0,kaz1,kaz2,kaz3,kaz4,kaz5,kaz6,kaz7,kaz8,kaz9,kaz10,kaz11⟩:=rw12 Hz1L.out
 obtain ⟨⟨kb0,kb1,kb2,kb3,kb4,kb5,kb6,kb7,kb8,kb9,kb10,kb11⟩,kbz0,kbz1,kbz2,kbz3,kbz4,kbz5,kbz6,kbz7,kbz8,kbz9,kbz10,kbz11⟩:=rw12 Hz2L.out
 obtain ⟨⟨kc0,kc1,kc2,kc3,kc4,kc5,kc6,kc7,kc8,kc9,kc10,kc11⟩,_⟩:=rw12 Hf6L.out
 obtain ⟨⟨kd0,kd1,kd2,kd3,kd4,kd5,kd6,kd7,kd8,kd9,kd10,kd11⟩,_⟩:=rw12 Hg6L.out
 obtain ⟨⟨kg0,kg1,kg2,kg3,kg4,kg5,kg6,kg7,kg8,kg9,kg10,kg11⟩,kgz0,kgz1,kgz2,kgz3,kgz4,kgz5,kgz6,kgz7,kgz8,kgz9,kgz10,kgz11⟩:=rw12 HzAL.out
 obtain ⟨⟨kh0,kh1,kh2,kh3,kh4,kh5,kh6,kh7,kh8,kh9,kh10,kh11⟩,khz0,khz1,khz2,khz3,khz4,khz5,khz6,khz7,khz8,khz9,khz10,khz11⟩:=rw12 HyAL.out
 obtain ⟨⟨ki0,ki1,ki2,ki3,ki4,ki5,ki6,ki7,ki8,ki9,ki10,ki11⟩,_⟩:=rw12 HgAL.out
 obtain ⟨⟨kj0,kj1,kj2,kj3,kj4,kj5,kj6,kj7,kj8,kj9,kj10,kj11⟩,_⟩:=rw12 HfAL.out
 have eA:=HEA.out;have eB:=HEB.out;have eC:=HEC.out;have eD:=HED.out
 go_region
 obtain ⟨⟨l0,l1,l2,l3,l4,l5,l6,l7,l8,l9,l10,l11⟩,_⟩:=rw12 HAB.out
 obtain ⟨⟨m0,m1,m2,m3,m4,m5,m6,m7,m8,m9,m10,m11⟩,_⟩:=rw12 HBB.out
 clear eA eB eC eD
 go_wp2_with fail
 refine bodyPost_ret (v:=.tuple #[(fX W2.heap.size).val,(gX 103 W2.heap.size).val]) (by simp [results,Tryz.results31,go_sem,l0,l1,l2,l3,l4,l5,l6,l7,l8,l9,l10,l11,m0,m1,m2,m3,m4,m5,m6,m7,m8,m9,m10,m11];exact ⟨rfl,rfl⟩) rfl ?_
 exact ⟨⟨_,rfl,HSB.out.ext (Ext.drew _)⟩,HXB.out.trans (Ext.drew _)⟩
end Go.Proofs.YtnjmndofcpnmeaaGreatDoor
