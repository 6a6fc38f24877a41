/- Pc34. -/
import Derived.Test.YtnjmndofcpnmeaaGreatDoorPc0
import Derived.Test.YtnjmndofcpnmeaaGreatDoorPc33
namespace Go.Proofs.YtnjmndofcpnmeaaGreatDoor
open Go Go.RowKit
set_option linter.unusedVariables false
def shortB (ps:List ByteArray)(r:ByteArray):Bool:=ps.all (fun p=>decide (p.size≤60))&&(decide (ps.length≤6)&&decide (r.size≤60))
theorem short_end {ps:List ByteArray}{r:ByteArray}{k:Nat}(h:ps.length≤k∨7≤ps.length)(ha:(ps.take k).all (fun p=>decide (p.size≤60))=true):(decide (ps.length≤6)&&decide (r.size≤60))=shortB ps r:=by
 unfold shortB
 rcases h with h | h
 ·rw [List.take_of_length_le h] at ha
  rw [ha,Bool.true_and]
 ·rw [decide_eq_false (show ¬ ps.length≤6 by omega),Bool.false_and,Bool.and_false]
theorem short_big {ps:List ByteArray}{r p:ByteArray}(h:p∈ps)(hb:60<p.size):shortB ps r=false:=by
 unfold shortB
 rw [show ps.all (fun p=>decide (p.size≤60))=false from List.all_eq_false.2 ⟨p,h,by simpa using hb⟩];rfl
theorem shortB_yes {ps:List ByteArray}{r:ByteArray}(h:shortB ps r=true):(∀ p∈ps,p.size≤60)∧ps.length≤6∧r.size≤60:=by
 unfold shortB at h
 rw [Bool.and_eq_true,Bool.and_eq_true,List.all_eq_true,decide_eq_true_iff,decide_eq_true_iff] at h
 exact ⟨fun p hp=>of_decide_eq_true (h.1 p hp),h.2.1,h.2.2⟩
theorem sv_len (ps:List ByteArray):(sv ps).length=ps.length:=by unfold sv;simp
theorem sv_at (ps:List ByteArray)(k:Nat)(h:k<ps.length):(sv ps)[k]? = some (.string ps[k]):=by unfold sv;simp [h]
set_option maxRecDepth 100000 in
set_option maxHeartbeats 1600000 in
theorem Short_at (A:Option Addr) (c:Nat) (ps:List ByteArray) (r:ByteArray) (w:World) (hR:RS w (.slice A ps.length c) (sv ps)):
  Calls Tryz.prog 80 #[.agg #[.slice A ps.length c,.string r]] w fun e w'=>e=.returned (.bool (shortB ps r))∧Ext w w':=by
 have hT:RW (w.alloc (.cells #[.slice A ps.length c,.string r] 37)) w.heap.size 37 #[.slice A ps.length c,.string r]:=heap_alloc_new w _
 have hX:=(Ext.refl w).alloc (.cells #[.slice A ps.length c,.string r] 37)
 obtain ⟨wb,hwb⟩:∃ wb,w.alloc (.cells #[.slice A ps.length c,.string r] 37)=wb:=⟨_,rfl⟩
 rw [hwb] at hT hX
 have HX:=Lib.hid hX
 have HRS:=Lib.hid (hR.ext hX)
 obtain ⟨q0,q1⟩:=rw2 hT
 obtain ⟨b,hb⟩:∃ b,shortB ps r=b:=⟨_,rfl⟩
 have HB:=Lib.hid hb
 rw [hb]
 have hlen:ps.length≤9223372036854775807:=by
  obtain ⟨A',c',he,h1,h2,_⟩:=hR
  rw [sv_len] at h1
  unfold maxLen at h2
  omega
 clear hT hX hR hb
 go_enter Tryz.func80,Tryz.ntmps80
 go_wp2_with fail
 clear hwb
 go_loopw [3] (fun i wr=>∃ k:Nat,k≤ps.length∧i=.int .i64 k∧Hid ((ps.take k).all (fun p=>decide (p.size≤60))=true)∧wr=wb) (fun i _=>ps.length-(intOf i).toNat)
 case atStart=>exact ⟨0,Nat.zero_le _,rfl,Lib.hid rfl,rfl⟩
 case round=>
  obtain ⟨k,hk,rfl,HA,rfl⟩:=hrel
  have fin:Hid (ps.length≤k∨7≤ps.length→(decide (ps.length≤6)&&decide (r.size≤60))=b):=Lib.hid (fun h=>(short_end h HA.out).trans HB.out)
  by_cases hlt:k<ps.length
  ·by_cases h7:k<7
   ·obtain ⟨A',c',he,e1,e2,e3⟩:=HRS.out
    rw [sv_len] at e1 e3 he
    injection he with z1 _ z3
    subst z1;subst z3
    obtain ⟨ad,rfl,hblt,hcell⟩:=e3 (by omega)
    have hck:=hcell k _ (sv_at ps k hlt)
    have HTK:=Lib.hid (show (ps.take (k+1)).all (fun p=>decide (p.size≤60))=decide (ps[k].size≤60) by
     rw [List.take_succ_eq_append_getElem hlt,List.all_append,HA.out];simp)
    have HIN:=Lib.hid (List.getElem_mem hlt)
    obtain ⟨p,hp⟩:∃ p,ps[k]=p:=⟨_,rfl⟩
    rw [hp] at hck HTK HIN
    clear hcell e3 e2 e1 hblt hp
    by_cases hbig:60<p.size
    ·have hb1:(60:Int)<(p.size:Int):=by omega
     have HBT:=Lib.hid (show b=false by rw [← HB.out];exact short_big HIN.out hbig)
     clear hbig fin
     go_wp2_with fail
     go_ret
     refine ⟨?_,HX.out⟩
     rw [HBT.out];rfl
    ·have hb1:(p.size:Int)≤60:=by omega
     have HT2:=Lib.hid (show (ps.take (k+1)).all (fun p=>decide (p.size≤60))=true by rw [HTK.out];exact decide_eq_true (by omega))
     clear hbig fin
     go_wp2_with fail
     go_roundw
     case rel=>exact ⟨k+1,by omega,by go_num,HT2,trivial⟩
     case measure=>simp [intOf];omega
   ·have HF:=Lib.hid (show false=b by have:=fin.out (.inr (by omega));rwa [decide_eq_false (show ¬ ps.length≤6 by omega),Bool.false_and] at this)
    clear fin
    have h61:(6:Int)<(ps.length:Int):=by omega
    go_wp2_with fail
    go_ret
    refine ⟨?_,HX.out⟩
    rw [← HF.out];rfl
  ·have HF:=Lib.hid (fin.out (.inl (by omega)))
   clear fin
   by_cases h6:ps.length≤6
   ·have h61:(ps.length:Int)≤6:=by omega
    by_cases hr:r.size≤60
    ·have hr1:(r.size:Int)≤60:=by omega
     have HT:=Lib.hid (show true=b by have:=HF.out;rwa [decide_eq_true h6,decide_eq_true hr] at this)
     clear h6 hr
     go_wp2_with fail
     go_ret
     refine ⟨?_,HX.out⟩
     rw [← HT.out];rfl
    ·have hr1:decide ((r.size:Int)≤60)=false:=decide_eq_false (by omega)
     have HT:=Lib.hid (show false=b by have:=HF.out;rwa [decide_eq_true h6,decide_eq_false hr] at this)
     clear h6 hr
     go_wp2_with fail
     go_ret
     refine ⟨?_,HX.out⟩
     rw [← HT.out];rfl
   ·have h61:(6:Int)<(ps.length:Int):=by omega
    have HT:=Lib.hid (show false=b by have:=HF.out;rwa [decide_eq_false h6] at this)
    clear h6
    go_wp2_with fail
    go_ret
    refine ⟨?_,HX.out⟩
    rw [← HT.out];rfl
def smallF (m:FV):Bool:=(shortB m.cp m.cr&&shortB m.sp m.sr)&&decide ((m.fb.length:Int)≤60)
theorem smallF_sz {m:FV}(h:smallF m=true):m.Sz:=by
 unfold smallF at h
 rw [Bool.and_eq_true,Bool.and_eq_true,decide_eq_true_iff] at h
 obtain ⟨h1,h2,h3⟩:=shortB_yes h.1.1
 obtain ⟨h4,h5,h6⟩:=shortB_yes h.1.2
 exact ⟨by omega,by omega,fun p hp=>by have:=h1 p hp;omega,by omega,by omega,fun p hp=>by have:=h4 p hp;omega,by omega⟩
set_option maxRecDepth 100000 in
set_option maxHeartbeats 1600000 in
theorem SmallF_at (m:FV) (w:World) (hm:m.In w):
  Calls Tryz.prog 23 #[m.val] w fun e w'=>e=.returned (.bool (smallF m))∧Ext w w':=by
 have h0:FQ (w.alloc (.cells #[.int .i64 m.t,.int .i64 m.mi,.int .i64 m.kd,.int .i64 m.fk,.slice m.FA m.fb.length m.fc,.slice m.CA m.cp.length m.cc,.string m.cr,.slice m.SA m.sp.length m.sc,.string m.sr,.int .i64 m.co,.int .i64 m.pr,.int .u32 (m.fl.toNat:Int)] 41)) w.heap.size m:=heap_alloc_new w _
 have hx:=(Ext.refl w).alloc (.cells #[.int .i64 m.t,.int .i64 m.mi,.int .i64 m.kd,.int .i64 m.fk,.slice m.FA m.fb.length m.fc,.slice m.CA m.cp.length m.cc,.string m.cr,.slice m.SA m.sp.length m.sc,.string m.sr,.int .i64 m.co,.int .i64 m.pr,.int .u32 (m.fl.toNat:Int)] 41)
 obtain ⟨W2,e2⟩:∃ W,w.alloc (.cells #[.int .i64 m.t,.int .i64 m.mi,.int .i64 m.kd,.int .i64 m.fk,.slice m.FA m.fb.length m.fc,.slice m.CA m.cp.length m.cc,.string m.cr,.slice m.SA m.sp.length m.sc,.string m.sr,.int .i64 m.co,.int .i64 m.pr,.int .u32 (m.fl.toNat:Int)] 41)=W:=⟨_,rfl⟩
 rw [e2] at h0 hx
 have HM:=Lib.hid h0;have HX:=Lib.hid hx
 have HC0:=Lib.hid (fun W (hw:Ext W2 W)=>Short_at m.CA m.cc m.cp m.cr W (hm.cp.ext (hx.trans hw)))
 have HC1:=Lib.hid (fun W (hw:Ext W2 W)=>Short_at m.SA m.sc m.sp m.sr W (hm.sp.ext (hx.trans hw)))
 have hsa:smallF m=((shortB m.cp m.cr&&shortB m.sp m.sr)&&decide ((m.fb.length:Int)≤60)):=rfl
 have hlen:m.fb.length≤9223372036854775807:=by
  obtain ⟨A',c',he,h1,h2,_⟩:=hm.fb
  rw [bv_length] at h1
  unfold maxLen at h2
  omega
 rw [hsa]
 unfold FV.val
 clear hsa
 obtain ⟨pc,hpc⟩:∃ b,shortB m.cp m.cr=b:=⟨_,rfl⟩
 obtain ⟨sc,hsc⟩:∃ b,shortB m.sp m.sr=b:=⟨_,rfl⟩
 rw [hpc] at HC0 ⊢
 rw [hsc] at HC1 ⊢
 clear hpc hsc h0 hx hm
 obtain ⟨p1,hp1⟩:∃ p1:Bool,(pc&&sc)=p1:=⟨_,rfl⟩
 have Hp1:=Lib.hid hp1;clear hp1
 obtain ⟨q2,hq2⟩:∃ q2:Bool,(decide ((m.fb.length:Int)≤60))=q2:=⟨_,rfl⟩
 have Hq2:=Lib.hid hq2;clear hq2
 obtain ⟨p3,hp3⟩:∃ p3:Bool,(p1&&q2)=p3:=⟨_,rfl⟩
 have Hp3:=Lib.hid hp3;clear hp3
 have HX0:=Lib.hid (Ext.refl W2)
 go_enter Tryz.func23,Tryz.ntmps23
 go_upto_region 1 with fail
 refine wp_region_lit ?_
 refine wpL_val (.pointer (some ⟨w.heap.size,5,none⟩)) rfl (fun K' hK'=>?_) ?_
 ·go_step
  exact hK'
 simp only [Act.put,sT1,sT2,sT3]
 refine wpL_val (.agg #[.slice m.CA m.cp.length m.cc,.string m.cr]) rfl (fun K' hK'=>?_) ?_
 ·obtain ⟨u0,u1,u2,u3,u4,u5,u6,u7,u8,u9,u10,u11⟩:=(HM.out.ext HX0.out).cells
  go_step
  exact hK'
 simp only [Act.put,sT1,sT2,sT3]
 refine wpL_symcall true (.bool pc) (rfl) (fun hc K' hK'=>?_) (fun wc5 hx=>?_)
 ·skip
  try simp only [cond_true]
  go_step
  refine (HC0.out W2 HX0.out).mono ?_
  rintro _ w2 ⟨rfl,hx⟩
  exact hK' _ hx
 have HX5:=Lib.hid (HX0.out.trans hx);clear hx
 simp only [cond_true,Act.put,sT1,sT2,sT3]
 refine wpL_val (.bool pc) rfl (fun K' hK'=>?_) ?_
 ·go_step
  exact hK'
 simp only [Act.put,sT1,sT2,sT3]
 refine wpL_sym pc (.pointer (some ⟨w.heap.size,7,none⟩)) (by cases pc<;>kernel_rfl) (fun hc K' hK'=>?_) ?_
 ·subst hc
  try simp only [cond_true]
  go_step
  exact hK'
 simp only [Act.put,sT1,sT2,sT3]
 refine wpL_sym pc (.agg #[.slice m.SA m.sp.length m.sc,.string m.sr]) (by cases pc<;>kernel_rfl) (fun hc K' hK'=>?_) ?_
 ·subst hc
  try simp only [cond_true]
  obtain ⟨u0,u1,u2,u3,u4,u5,u6,u7,u8,u9,u10,u11⟩:=(HM.out.ext HX5.out).cells
  go_step
  exact hK'
 simp only [Act.put,sT1,sT2,sT3]
 refine wpL_symcall pc (.bool sc) (by cases pc<;>kernel_rfl) (fun hc K' hK'=>?_) (fun wc9 hx=>?_)
 ·subst hc
  try simp only [cond_true]
  go_step
  refine (HC1.out wc5 HX5.out).mono ?_
  rintro _ w2 ⟨rfl,hx⟩
  exact hK' _ hx
 have HX9:=Lib.hid (HX5.out.trans hx);clear hx
 simp only [Act.put,sT1,sT2,sT3]
 refine wpL_val (.bool p1) rfl (fun K' hK'=>?_) ?_
 ·have hp:=Hp1.out
  subst hp
  cases pc
  ·go_step
   exact hK'
  ·go_step
   exact hK'
 simp only [Act.put,sT1,sT2,sT3]
 refine wpL_val (.bool p1) rfl (fun K' hK'=>?_) ?_
 ·go_step
  exact hK'
 simp only [Act.put,sT1,sT2,sT3]
 refine wpL_sym p1 (.pointer (some ⟨w.heap.size,3,none⟩)) (by cases p1<;>kernel_rfl) (fun hc K' hK'=>?_) ?_
 ·subst hc
  try simp only [cond_true]
  go_step
  exact hK'
 simp only [Act.put,sT1,sT2,sT3]
 refine wpL_sym p1 (.pointer (some ⟨w.heap.size,4,none⟩)) (by cases p1<;>kernel_rfl) (fun hc K' hK'=>?_) ?_
 ·subst hc
  try simp only [cond_true]
  go_step
  exact hK'
 simp only [Act.put,sT1,sT2,sT3]
 refine wpL_sym p1 (.slice m.FA m.fb.length m.fc) (by cases p1<;>kernel_rfl) (fun hc K' hK'=>?_) ?_
 ·subst hc
  try simp only [cond_true]
  obtain ⟨u0,u1,u2,u3,u4,u5,u6,u7,u8,u9,u10,u11⟩:=(HM.out.ext HX9.out).cells
  go_step
  exact hK'
 simp only [Act.put,sT1,sT2,sT3]
 refine wpL_sym p1 (.int .i64 (m.fb.length:Int)) (by cases p1<;>kernel_rfl) (fun hc K' hK'=>?_) ?_
 ·subst hc
  try simp only [cond_true]
  go_step
  exact hK'
 simp only [Act.put,sT1,sT2,sT3]
 refine wpL_sym p1 (.bool q2) (by cases p1<;>kernel_rfl) (fun hc K' hK'=>?_) ?_
 ·subst hc
  try simp only [cond_true]
  have hq:=Hq2.out
  subst hq
  go_step
  exact hK'
 simp only [Act.put,sT1,sT2,sT3]
 refine wpL_val (.bool p3) rfl (fun K' hK'=>?_) ?_
 ·have hp:=Hp3.out
  subst hp
  cases p1
  ·go_step
   exact hK'
  ·go_step
   exact hK'
 simp only [Act.put,sT1,sT2,sT3]
 go_wp2_with fail
 go_ret
 refine ⟨?_,HX.out.trans HX9.out⟩
 have h:=Hp3.out;subst h
 have h:=Hq2.out;subst h
 have h:=Hp1.out;subst h
 rfl
def fewB (xs:List FV):Bool:=xs.all smallF&&decide (xs.length≤40)
theorem fewB_yes {xs:List FV}(h:fewB xs=true):(∀ m∈xs,m.Sz)∧xs.length≤40:=by
 unfold fewB at h
 rw [Bool.and_eq_true,List.all_eq_true,decide_eq_true_iff] at h
 exact ⟨fun m hm=>smallF_sz (h.1 m hm),h.2⟩
theorem few_end {xs:List FV}{k:Nat}(h:xs.length≤k∨41≤xs.length)(ha:(xs.take k).all smallF=true):decide (xs.length≤40)=fewB xs:=by
 unfold fewB
 rcases h with h | h
 ·rw [List.take_of_length_le h] at ha
  rw [ha,Bool.true_and]
 ·rw [decide_eq_false (show ¬ xs.length≤40 by omega),Bool.and_false]
theorem few_big {xs:List FV}{m:FV}(h:m∈xs)(hb:smallF m=false):fewB xs=false:=by
 unfold fewB
 rw [show xs.all smallF=false from List.all_eq_false.2 ⟨m,h,by rw [hb];simp⟩];rfl
set_option maxRecDepth 100000 in
set_option maxHeartbeats 1600000 in
theorem Few_at (A:Option Addr) (c:Nat) (xs:List FV) (w:World) (hF:FS w (.slice A xs.length c) xs):
  Calls Tryz.prog 9 #[.slice A xs.length c] w fun e w'=>e=.returned (.bool (fewB xs))∧Ext w w':=by
 have HF:=Lib.hid hF
 have hlen:xs.length≤9223372036854775807:=by
  obtain ⟨_,c',he,hc1,hc2⟩:=hF.shape
  injection he with e1 _ e3
  subst e3
  unfold maxLen at hc2
  omega
 obtain ⟨b,hb⟩:∃ b,fewB xs=b:=⟨_,rfl⟩
 have HB:=Lib.hid hb
 rw [hb]
 obtain ⟨n,hn'⟩:∃ n,xs.length=n:=⟨_,rfl⟩
 have HN:=Lib.hid hn'
 rw [hn'] at HF hlen ⊢
 clear hn' hF hb
 go_enter Tryz.func9,Tryz.ntmps9
 go_wp2_with fail
 go_loopw [3] (fun i wr=>∃ k:Nat,k≤n∧i=.int .i64 k∧Hid ((xs.take k).all smallF=true)∧Hid (Ext w wr)) (fun i _=>n-(intOf i).toNat)
 case atStart=>exact ⟨0,Nat.zero_le _,rfl,Lib.hid rfl,Lib.hid (Ext.refl w)⟩
 case round=>
  obtain ⟨k,hk,rfl,HA,HX⟩:=hrel
  have fin:Hid (xs.length≤k∨41≤xs.length→decide (xs.length≤40)=b):=Lib.hid (fun h=>(few_end h HA.out).trans HB.out)
  by_cases hlt:k<n
  ·have hlx:k<xs.length:=by rw [HN.out];exact hlt
   by_cases h41:k<41
   ·have hF:=HF.out.ext HX.out
    obtain ⟨hin,ad,rfl,u0,u1,u2,u3,u4,u5,u6,u7,u8,u9,u10,u11⟩:=hF.at_ k hlx
    have HC:=Lib.hid (SmallF_at xs[k] wr hin)
    have HTK:=Lib.hid (show (xs.take (k+1)).all smallF=smallF xs[k] by
     rw [List.take_succ_eq_append_getElem hlx,List.all_append,HA.out];simp)
    have HIN:=Lib.hid (List.getElem_mem hlx)
    obtain ⟨s,hs⟩:∃ s,smallF xs[k]=s:=⟨_,rfl⟩
    have HS:=Lib.hid hs
    rw [hs] at HC HTK
    unfold FV.val at HC
    clear hs hin hF fin
    generalize xs[k]=f at *
    go_wp2_with fail
    refine HC.out.mono ?_
    rintro _ w2 ⟨rfl,hx⟩
    have HX2:=Lib.hid (HX.out.trans hx)
    clear hx u0 u1 u2 u3 u4 u5 u6 u7 u8 u9 u10 u11
    cases s with
    | true=>
     go_wp2_with fail
     go_roundw
     case rel=>exact ⟨k+1,by omega,by go_num,HTK,HX2⟩
     case measure=>simp [intOf];omega
    | false=>
     have HBT:=Lib.hid (show b=false by rw [← HB.out];exact few_big HIN.out HS.out)
     go_wp2_with fail
     go_ret
     refine ⟨?_,HX2.out⟩
     rw [HBT.out];rfl
   ·have HG:=Lib.hid (show false=b by have:=fin.out (.inr (by omega));rwa [decide_eq_false (show ¬ xs.length≤40 by omega)] at this)
    clear fin
    have h61:decide ((n:Int)≤40)=false:=decide_eq_false (by omega)
    go_wp2_with fail
    go_ret
    refine ⟨?_,HX.out⟩
    rw [← HG.out];rfl
  ·have HG:=Lib.hid (fin.out (.inl (by rw [HN.out];omega)))
   have hnn:=HN.out
   clear fin
   by_cases h6:n≤40
   ·have h61:(n:Int)≤40:=by omega
    have HT:=Lib.hid (show true=b by have:=HG.out;rwa [decide_eq_true (show xs.length≤40 by omega)] at this)
    clear h6 hnn
    go_wp2_with fail
    go_ret
    refine ⟨?_,HX.out⟩
    rw [← HT.out];rfl
   ·have h61:decide ((n:Int)≤40)=false:=decide_eq_false (by omega)
    have HT:=Lib.hid (show false=b by have:=HG.out;rwa [decide_eq_false (show ¬ xs.length≤40 by omega)] at this)
    clear h6 hnn
    go_wp2_with fail
    go_ret
    refine ⟨?_,HX.out⟩
    rw [← HT.out];rfl
end Go.Proofs.YtnjmndofcpnmeaaGreatDoor
