/- Pa48. -/
import Derived.Test.YtnjmndofcpnmeaaGreatDoorPa0
import Derived.Test.YtnjmndofcpnmeaaGreatDoorPa46
import Derived.Test.YtnjmndofcpnmeaaGreatDoorPa17
import Derived.Test.YtnjmndofcpnmeaaGreatDoorPa5
import Derived.Test.YtnjmndofcpnmeaaGreatDoorPa41
import Derived.Test.YtnjmndofcpnmeaaGreatDoorPa24
import Derived.Deep.DeepCutAuto
import Derived.Laws.DeepStrings4
import Derived.Test.YtnjmndofcpnmeaaGreatDoorPa47
import Derived.Test.YtnjmndofcpnmeaaGreatDoorPa21
import Derived.Test.YtnjmndofcpnmeaaGreatDoorPa3
namespace Go.Proofs.YtnjmndofcpnmeaaGreatDoor
open Go Go.RowKit
set_option linter.unusedVariables false
end Go.Proofs.YtnjmndofcpnmeaaGreatDoor
namespace Go.Proofs.YtnjmndofcpnmeaaGreatDoor
open Go Go.RowKit Go.Lib
set_option linter.unusedVariables false
def jnTo (f:W32)(k:Nat):List UInt8:=Lib.join ((nmL (bitsTo f k)).map (·.data.toList)) [44]
theorem nm_pos:((List.range 12).all fun k=>!(nmS k).data.toList.isEmpty)=true:=by kernel_rfl
theorem nm_pos' {k:Nat}(hk:k<12):(nmS k).data.toList≠[]:=fun e=>by
 have:=List.all_eq_true.1 nm_pos k (List.mem_range.2 hk)
 rw [e] at this
 cases this
theorem jnTo_no {f:W32}{k:Nat}(h:isF f k=false):jnTo f (k+1)=jnTo f k:=by unfold jnTo;rw [bitsTo_no h]
theorem jn_snoc44:∀ (ls:List (List UInt8)) (x:List UInt8),Lib.join (ls++[x]) [44]=if ls=[] then x else Lib.join ls [44]++[44]++x
 | [],x=>by simp [join_one]
 | [y],x=>by simp [join_cons,joinTail]
 | y::z::r,x=>by
  rw [if_neg (by simp),List.cons_append,join_cons,join_cons]
  unfold joinTail
  simp
theorem jnTo_yes {f:W32}{k:Nat}(h:isF f k=true):jnTo f (k+1)=if bitsTo f k=[] then (nmS k).data.toList else jnTo f k++[44]++(nmS k).data.toList:=by
 unfold jnTo
 rw [bitsTo_yes h]
 unfold nmL
 rw [List.map_append,List.map_append,List.map_cons,List.map_nil,List.map_cons,List.map_nil,jn_snoc44]
 simp
theorem jnTo_nil {f:W32}{k:Nat}(hk:k≤12):jnTo f k=[] ↔ bitsTo f k=[]:=by
 constructor
 ·intro h
  cases hb:bitsTo f k with
  | nil=>rfl
  | cons x r=>
   have hx:x<12:=by
    have:x∈bitsTo f k:=by rw [hb];simp
    unfold bitsTo at this
    have:=(List.mem_filter.1 this).1
    have:=List.mem_range.1 this
    omega
   unfold jnTo nmL at h
   rw [hb,List.map_cons,List.map_cons,join_cons] at h
   exact absurd (List.append_eq_nil_iff.1 h).1 (nm_pos' hx)
 ·intro h
  unfold jnTo
  rw [h];rfl
theorem jnTo_len (f:W32)(k:Nat)(hk:k≤12):(jnTo f k).length≤200:=by
 unfold jnTo
 have h:=join_len ((nmL (bitsTo f k)).map (·.data.toList)) (fun l hl=>by
  obtain ⟨s,hs,rfl⟩:=List.mem_map.1 hl
  unfold nmL at hs
  obtain ⟨j,_,rfl⟩:=List.mem_map.1 hs
  rw [size_list]
  exact nmS_len j)
 have h2:=bitsTo_len f k
 unfold nmL at h ⊢
 rw [List.length_map,List.length_map] at h
 omega
theorem bitsTo_12 {f:W32}(hv:tkB f=true):bitsTo f 12=bitsF f:=by
 have h4:∀ k,12≤k→k<32→isF f k=false:=fun k h1 h2=>by
  rw [isF_bit (tk_nm hv) k h2]
  cases hb:f.getLsbD k with
  | false=>rfl
  | true=>
   have h3:=(hasB_iff tkM f).1 hv k h2 hb
   have h4:((List.range 32).all fun k=>decide (k<12) || !tkM.getLsbD k)=true:=by decide
   have h5:=List.all_eq_true.1 h4 k (List.mem_range.2 h2)
   rw [h3,decide_eq_false (by omega)] at h5
   cases h5
 have:∀ n,12+n≤32→bitsTo f (12+n)=bitsTo f 12:=by
  intro n
  induction n with
  | zero=>intro _;rfl
  | succ n ih=>
   intro h
   rw [← Nat.add_assoc,bitsTo_no (h4 (12+n) (by omega) (by omega)),ih (by omega)]
 exact (this 20 (by omega)).symm
theorem textF_to {f:W32}(hv:tkB f=true):textF f=if jnTo f 12=[] then [45] else jnTo f 12:=by
 have hj:joinF f=jnTo f 12:=by unfold joinF jnTo;rw [bitsTo_12 hv]
 unfold textF
 rw [hj]
 by_cases hz:f=0#32
 ·subst hz
  rw [if_pos rfl,if_pos ((jnTo_nil (Nat.le_refl _)).2 (by rw [bitsTo_12 hv];rfl))]
 ·rw [if_neg hz,if_neg (fun h=>bitsF_ne (tk_nm hv) hz (by
   have:=(jnTo_nil (Nat.le_refl _)).1 h
   rw [bitsTo_12 hv] at this
   rw [this];rfl))]
theorem shr_bit (f:W32)(k:Nat):f.toNat / 2 ^ k % 2=if f.getLsbD k then 1 else 0:=by
 rw [BitVec.getLsbD,Nat.testBit_eq_decide_div_mod_eq]
 split
 ·next h=>exact of_decide_eq_true h
 ·next h=>have:¬ f.toNat / 2 ^ k % 2=1:=fun e=>h (decide_eq_true e);omega
theorem and_bit (f:W32)(k:Nat):(bits .and .u32 ((f.toNat:Int) / 2 ^ k) 1==1)=f.getLsbD k:=by
 have hx:(BitVec.ofNat 32 (f.toNat / 2 ^ k)).toNat=f.toNat / 2 ^ k:=by
  rw [BitVec.toNat_ofNat]
  exact Nat.mod_eq_of_lt (Nat.lt_of_le_of_lt (Nat.div_le_self _ _) f.isLt)
 have h:=u32_and (BitVec.ofNat 32 (f.toNat / 2 ^ k)) 1#32
 have e1:(((1#32:W32).toNat:Nat):Int)=1:=rfl
 have e:((f.toNat / 2 ^ k:Nat):Int)=(f.toNat:Int) / 2 ^ k:=by simp
 have e2:(andW (BitVec.ofNat 32 (f.toNat / 2 ^ k)) 1#32).toNat=if f.getLsbD k then 1 else 0:=by
  rw [← shr_bit]
  unfold andW
  rw [BitVec.toNat_and,hx]
  show f.toNat / 2 ^ k &&& 1=_
  exact Nat.and_one_is_mod _
 rw [hx,e,e1,e2] at h
 rw [h]
 cases f.getLsbD k<;>rfl
set_option maxRecDepth 100000 in
set_option maxHeartbeats 1600000 in
theorem RFlags_at (f:W32) (hv:tkB f=true) (w:World):
  Calls Tryz.prog 89 #[.int .u32 (f.toNat:Int)] w fun e w'=>e=.returned (.string ⟨(textF f).toArray⟩)∧Ext w w':=by
 have HV:=Lib.hid hv
 obtain ⟨L,hL⟩:∃ L,textF f=L:=⟨_,rfl⟩
 have HL:=Lib.hid (show (if jnTo f 12=[] then [45] else jnTo f 12)=L by rw [← textF_to hv];exact hL)
 rw [hL]
 clear hv hL
 go_enter Tryz.func89,Tryz.ntmps89
 go_wp2_with fail
 go_loopw [3,4] (fun s i wr=>∃ (k:Nat) (S:ByteArray),k≤12∧i=.int .i64 k∧s=.string S∧Hid (S.data.toList=jnTo f k)∧Hid (Ext w wr)) (fun _ i _=>12-(intOf i).toNat)
 case atStart=>exact ⟨0,⟨#[]⟩,Nat.zero_le _,rfl,rfl,Lib.hid rfl,Lib.hid (Ext.refl w)⟩
 case round=>
  obtain ⟨k,S,hk,rfl,rfl,HS,HX⟩:=hrel
  have hSz:S.size≤200:=by rw [← size_list,HS.out];exact jnTo_len f k hk
  by_cases hlt:k<12
  ·have hand:=and_bit f k
   have hbb:=isF_bit (tk_nm HV.out) k (by omega)
   rw [← hbb] at hand
   clear hbb
   have HFL:=Lib.hid (RFlag_at k hlt wr)
   have hn12:=nmS_len k
   cases hb:isF f k with
   | false=>
    have HT:=Lib.hid (jnTo_no hb)
    rw [hb] at hand
    clear hb
    go_wp2_with fail
    go_roundw
    case rel=>exact ⟨k+1,S,by omega,by go_num,rfl,Lib.hid (by rw [HT.out];exact HS.out),HX⟩
    case measure=>simp [intOf];omega
   | true=>
    have HT:=Lib.hid (jnTo_yes hb)
    rw [hb] at hand
    have HB:=Lib.hid (jnTo_nil (f:=f) hk)
    clear hb
    generalize nmS k=N at *
    by_cases he:S.data.toList=[]
    ·obtain rfl:S=⟨#[]⟩:=by rw [← baR_list S,he]
     have HE:=Lib.hid (show jnTo f (k+1)=N.data.toList by rw [HT.out,if_pos (HB.out.1 (HS.out.symm.trans he))])
     clear he
     go_wp2_with fail
     refine HFL.out.mono ?_
     rintro _ w2 ⟨rfl,hx2⟩
     have HX2:=Lib.hid (HX.out.trans hx2)
     clear hx2
     go_wp2_with fail
     go_roundw
     case rel=>exact ⟨k+1,_,by omega,by go_num,rfl,Lib.hid (by rw [HE.out];simp),HX2⟩
     case measure=>simp [intOf];omega
    ·have q1:S.toList≠[]:=by rw [ByteArray.toList_eq];exact he
     have q2:S.toList.isEmpty=false:=by cases hh:S.toList with | nil=>exact absurd hh q1 | cons a b=>rfl
     have HE:=Lib.hid (show jnTo f (k+1)=S.data.toList++[44]++N.data.toList by rw [HT.out,if_neg (fun h=>he (by rw [HS.out];exact HB.out.2 h)),HS.out])
     clear he
     go_wp2_with fail
     refine (HFL.out).mono ?_
     rintro _ w2 ⟨rfl,hx2⟩
     have HX2:=Lib.hid (HX.out.trans hx2)
     clear hx2
     go_wp2_with fail
     go_roundw
     case rel=>exact ⟨k+1,_,by omega,by go_num,rfl,Lib.hid (by rw [HE.out];simp),HX2⟩
     case measure=>simp [intOf];omega
  ·obtain rfl:k=12:=by omega
   by_cases he:S.data.toList=[]
   ·obtain rfl:S=⟨#[]⟩:=by rw [← baR_list S,he]
    have HE:=Lib.hid (show jnTo f 12=[] by rw [← HS.out])
    clear he
    go_wp2_with fail
    go_ret
    refine ⟨?_,HX.out⟩
    rw [← HL.out,if_pos HE.out];rfl
   ·have q1:S.toList≠[]:=by rw [ByteArray.toList_eq];exact he
    have q2:S.toList.isEmpty=false:=by cases hh:S.toList with | nil=>exact absurd hh q1 | cons a b=>rfl
    have HE:=Lib.hid (show jnTo f 12≠[] by rw [← HS.out];exact he)
    clear he
    go_wp2_with fail
    go_ret
    refine ⟨?_,HX.out⟩
    rw [← HL.out,if_neg HE.out,← HS.out,baR_list];rfl
end Go.Proofs.YtnjmndofcpnmeaaGreatDoor
namespace Go.Proofs.YtnjmndofcpnmeaaGreatDoor
open Go Go.RowKit
set_option linter.unusedVariables false
theorem RDecZ_at (x:Int) (h0:0≤x) (h1:x≤2000000000000000) (w:World):
  Calls Tryz.prog 86 #[.int .i64 x] w fun e w'=>e=.returned (.string ⟨(Lib.itoa x).toArray⟩)∧Ext w w':=by
 have k:=RDecB_at x.toNat (by omega) w
 have e:((x.toNat:Nat):Int)=x:=by omega
 rw [e] at k
 rw [← e,Lib.itoa_nonneg]
 rw [e]
 exact k
theorem RATextO_at (k:Int) (b:List UInt8) (A:Option Addr) (c:Nat) (w:World) (hb:BS w (.slice A b.length c) b) (h:okA k b=true):
  Calls Tryz.prog 88 #[.agg #[.int .i64 k,.slice A b.length c]] w fun e w'=>e=.returned (.string ⟨(txtA k b).toArray⟩)∧Ext w w':=by
 rcases okA_kinds h with ⟨rfl,hl⟩ | ⟨rfl,hl⟩ | ⟨rfl,hl,_⟩
 ·exact RAText4_at b A c w hb hl
 ·exact RAText6_at b A c w hb hl
 ·exact RATextH_at b A c w hb hl.2
theorem join8 (a b c d e f g h:List UInt8):Lib.join [a,b,c,d,e,f,g,h] [32]=a++[32]++b++[32]++c++[32]++d++[32]++e++[32]++f++[32]++g++[32]++h:=by
 rw [Lib.join_cons]
 unfold Lib.joinTail
 simp
set_option maxRecDepth 100000 in
set_option maxHeartbeats 2000000 in
theorem RFText_at (m:FV) (w:World) (hm:m.In w) (hz:m.Sz) (hok:m.fct.Ok):
  Calls Tryz.prog 26 #[m.val] w fun e w'=>e=.returned (.string ⟨m.fct.txt.toArray⟩)∧Ext w w':=by
 obtain ⟨k1,k2,k3,k4,k5,k6,k7,k8,k9⟩:=hok
 dsimp only [FV.fct] at k1 k2 k3 k4 k5 k6 k7 k8 k9
 have h0:FQ (w.alloc (.cells #[.int .i64 m.t,.int .i64 m.mi,.int .i64 m.kd,.int .i64 m.fk,.slice m.FA m.fb.length m.fc,.slice m.CA m.cp.length m.cc,.string m.cr,.slice m.SA m.sp.length m.sc,.string m.sr,.int .i64 m.co,.int .i64 m.pr,.int .u32 (m.fl.toNat:Int)] 41)) w.heap.size m:=heap_alloc_new w _
 have hx:=(Ext.refl w).alloc (.cells #[.int .i64 m.t,.int .i64 m.mi,.int .i64 m.kd,.int .i64 m.fk,.slice m.FA m.fb.length m.fc,.slice m.CA m.cp.length m.cc,.string m.cr,.slice m.SA m.sp.length m.sc,.string m.sr,.int .i64 m.co,.int .i64 m.pr,.int .u32 (m.fl.toNat:Int)] 41)
 obtain ⟨W2,e2⟩:∃ W,w.alloc (.cells #[.int .i64 m.t,.int .i64 m.mi,.int .i64 m.kd,.int .i64 m.fk,.slice m.FA m.fb.length m.fc,.slice m.CA m.cp.length m.cc,.string m.cr,.slice m.SA m.sp.length m.sc,.string m.sr,.int .i64 m.co,.int .i64 m.pr,.int .u32 (m.fl.toNat:Int)] 41)=W:=⟨_,rfl⟩
 rw [e2] at h0 hx
 have HM:=Lib.hid h0;have HX:=Lib.hid hx
 have htx:m.fct.txt=((((((((((((((((Lib.itoa m.t++[46])++(Lib.itoa (1000000+m.mi)).drop 1)++[32])++kindW m.kd)++[32])++prsW (dat m.cp) m.cr.data.toList)++[32])++prsW (dat m.sp) m.sr.data.toList)++[32])++txtA m.fk m.fb)++[32])++Lib.itoa m.co)++[32])++Lib.itoa m.pr)++[32])++textF m.fl):=by
  unfold Fct.txt Fct.wrd
  dsimp only [FV.fct]
  rw [join8]
  unfold timW
  rw [micro_ref k2.1 k2.2]
  simp
 have l1:=itoa_len20 m.t (by omega) (by omega)
 have l2:=itoa_len20 (1000000+m.mi) (by omega) (by omega)
 have l3:=kindW_len m.kd
 have l4:=prsW_len k5
 have l5:=prsW_len k6
 have l6:=txtA_len k4
 have l7:=itoa_len20 m.co (by omega) (by omega)
 have l8:=itoa_len20 m.pr (by omega) (by omega)
 have l9:=textF_len m.fl
 have HMI:=Lib.hid (fun W=>RDecZ_at (1000000+m.mi) (by omega) (by omega) W)
 have HTI:=Lib.hid (fun W (hW:Ext W2 W)=>RDecZ_at m.t (by omega) (by omega) W)
 have HCO:=Lib.hid (fun W (hW:Ext W2 W)=>RDecZ_at m.co (by omega) (by omega) W)
 have HPR:=Lib.hid (fun W (hW:Ext W2 W)=>RDecZ_at m.pr (by omega) (by omega) W)
 have HCW:=Lib.hid (fun W (hW:Ext W2 W)=>RWord_at m.CA m.cc m.cp m.cr W (hm.cp.ext (hx.trans hW)) k5)
 have HSW:=Lib.hid (fun W (hW:Ext W2 W)=>RWord_at m.SA m.sc m.sp m.sr W (hm.sp.ext (hx.trans hW)) k6)
 have HAW:=Lib.hid (fun W (hW:Ext W2 W)=>RATextO_at m.fk m.fb m.FA m.fc W (hm.fb.ext (hx.trans hW)) k4)
 have HFW:=Lib.hid (fun W (hW:Ext W2 W)=>RFlags_at m.fl k9 W)
 have hmi:(1000000+m.mi:Int)≤2000000:=by omega
 have hmi0:0≤m.mi:=k2.1
 have hlen1:1≤(Lib.itoa (1000000+m.mi)).length:=by
  rcases Nat.eq_zero_or_pos (Lib.itoa (1000000+m.mi)).length with h | h
  ·exfalso
   have h2:=micro_ref k2.1 k2.2
   rw [List.eq_nil_of_length_eq_zero h] at h2
   have h3:=congrArg List.length h2
   have h4:=itoa_len6 k2.1 k2.2
   rw [List.length_append,List.length_replicate] at h3
   simp at h3
   omega
  ·exact h
 rw [htx]
 unfold FV.val
 clear htx h0 hx hm hz k1 k2 k4 k5 k6 k7 k8 k9
 generalize Lib.itoa m.t=TI at *
 generalize Lib.itoa (1000000+m.mi)=ML at *
 generalize Lib.itoa m.co=CO at *
 generalize Lib.itoa m.pr=PR at *
 generalize txtA m.fk m.fb=AW at *
 generalize textF m.fl=FW at *
 generalize prsW (dat m.cp) m.cr.data.toList=CW at *
 generalize prsW (dat m.sp) m.sr.data.toList=SW at *
 obtain ⟨MT,hMT⟩:∃ L,ML.drop 1=L:=⟨_,rfl⟩
 rw [hMT]
 have l10:MT.length≤21:=by rw [← hMT,List.length_drop];omega
 have HLL:=Lib.hid (show TI.length≤21∧MT.length≤21∧(kindW m.kd).length≤7∧CW.length≤293∧SW.length≤293∧AW.length≤41∧CO.length≤21∧PR.length≤21∧FW.length≤416 by refine ⟨?_,?_,?_,?_,?_,?_,?_,?_,?_⟩<;>omega)
 have HSL:Hid (∀ W:World,(Instr.slice 9 (.string ⟨ML.toArray⟩) (some (.int .i64 1)) none none).run Tryz.prog W=.ok (.string ⟨MT.toArray⟩) W):=Lib.hid (fun W=>by
  rw [← hMT]
  rw [run_slice_string_from_if W 9 ⟨ML.toArray⟩ .i64 1 Tryz.underlying9,if_pos (by show (0:Int)≤1∧(1:Int)≤((ML.length:Nat):Int);omega)]
  refine congrArg (fun b=>Result.ok (Value.string b) W) ?_
  apply ByteArray.ext
  apply Array.toList_inj.1
  rw [ByteArray.data_extract,Array.toList_extract,List.extract_eq_take_drop]
  show List.take (ML.length-1) (List.drop 1 ML)=List.drop 1 ML
  exact List.take_of_length_le (by rw [List.length_drop];exact Nat.le_refl _))
 have HKD:=Lib.hid k3
 obtain ⟨K0,hK0⟩:∃ K:List UInt8,(if m.kd=10 then [105,110,105,116,105,97,108] else [111,116,104,101,114])=K:=⟨_,rfl⟩
 have HK0:=Lib.hid hK0
 clear hK0
 obtain ⟨KW,hKW⟩:∃ K,kindW m.kd=K:=⟨_,rfl⟩
 have HKW:=Lib.hid hKW
 rw [hKW] at HLL ⊢
 clear l1 l2 l3 l4 l5 l6 l7 l8 l9 l10 k3 hKW hlen1 hMT
 obtain ⟨f0,f1,f2,f3,f4,f5,f6,f7,f8,f9,f10,f11⟩:=HM.out.cells
 go_enter Tryz.func26,Tryz.ntmps26
 go_wp2_with fail
 refine (HMI.out _).mono ?_
 rintro _ wr ⟨rfl,hxr⟩
 have HXr:=Lib.hid hxr
 have HB:=Lib.hid (HM.out.ext hxr)
 clear hxr f0 f1 f2 f3 f4 f5 f6 f7 f8 f9 f10 f11 e2
 obtain ⟨f0,f1,f2,f3,f4,f5,f6,f7,f8,f9,f10,f11⟩:=HB.out.cells
 go_upto_if 11 with fail
 go_cut [4] (fun v wc=>v=.string ⟨K0.toArray⟩∧wr=wc)
 case first=>
  by_cases h10:m.kd=10
  ·have e10:(m.kd==10)=true:=by rw [h10];rfl
   go_wp2_with fail
   go_meet
   case rel=>exact ⟨by rw [← HK0.out,if_pos h10],rfl⟩
  ·have e10:(m.kd==10)=false:=by rw [beq_eq_false_iff_ne];exact h10
   go_wp2_with fail
   go_meet
   case rel=>exact ⟨by rw [← HK0.out,if_neg h10],rfl⟩
 case rest=>
 obtain ⟨hv4,hwc⟩:=hcut
 subst hv4
 subst hwc
 go_upto_if 14 with fail
 go_cut [4] (fun v wc=>v=.string ⟨KW.toArray⟩∧wr=wc)
 case first=>
  have hk:=HKW.out
  unfold kindW at hk
  by_cases h12:m.kd=12
  ·have e12:(m.kd==12)=true:=by rw [h12];rfl
   rw [if_neg (by omega),if_pos h12] at hk
   have HK:=Lib.hid hk
   clear hk h12
   go_wp2_with fail
   go_meet
   case rel=>exact ⟨by rw [← HK.out],rfl⟩
  ·have e12:(m.kd==12)=false:=by rw [beq_eq_false_iff_ne];exact h12
   rw [if_neg h12] at hk
   have HK:=Lib.hid (HK0.out.symm.trans hk)
   clear hk h12
   go_wp2_with fail
   go_meet
   case rel=>exact ⟨by rw [← HK.out],rfl⟩
 case rest=>
 obtain ⟨hv4,hwc⟩:=hcut
 subst hv4
 subst hwc
 clear f0 f1 f2 f3 f4 f5 f6 f7 f8 f9 f10 f11
 go_upto_region 7 with fail
 refine wp_region_ext (fun i v' w'=>match i with | 2=>v'=.string ⟨(TI).toArray⟩ | 13=>v'=.string ⟨(CW).toArray⟩ | 18=>v'=.string ⟨(SW).toArray⟩ | 23=>v'=.string ⟨(AW).toArray⟩ | 28=>v'=.string ⟨(CO).toArray⟩ | 33=>v'=.string ⟨(PR).toArray⟩ | 38=>v'=.string ⟨(FW).toArray⟩ | _=>False) (by kernel_rfl) (by kernel_rfl) ?_
 refine wpE_val (.pointer (some ⟨w.heap.size,0,none⟩)) rfl rfl (fun w' hw' K' hK'=>?_) ?_
 ·have hE:=hw'.1
  go_step
  exact hK'
 simp only [Act.put,sT1,sT2,sT3]
 refine wpE_val (.int .i64 m.t) rfl rfl (fun w' hw' K' hK'=>?_) ?_
 ·have hE:=hw'.1
  obtain ⟨u0,u1,u2,u3,u4,u5,u6,u7,u8,u9,u10,u11⟩:=(HB.out.ext ((Ext.drew wr).trans hE)).cells
  go_step
  exact hK'
 simp only [Act.put,sT1,sT2,sT3]
 refine wpE_symcall 17 rfl (by simp) true (.string ⟨(TI).toArray⟩) (rfl) (fun _ _ h=>h) (fun hc w' hw' K' hK'=>?_) ?_
 ·have hE:=hw'.1
  try simp only [cond_true]
  go_step
  refine (HTI.out w' (HXr.out.trans ((Ext.drew _).trans hE))).mono ?_
  rintro _ w2 ⟨rfl,hx⟩
  exact hK' _ _ rfl hx
 simp only [cond_true,Act.put,sT1,sT2,sT3]
 refine wpE_cat (TI) ([46]) rfl rfl rfl rfl (by have:=HLL.out;simp;omega) ?_
 simp only [Act.put,sT1,sT2,sT3]
 refine wpE_val (.string ⟨(ML).toArray⟩) rfl rfl (fun w' hw' K' hK'=>?_) ?_
 ·have hE:=hw'.1
  go_step
  exact hK'
 simp only [Act.put,sT1,sT2,sT3]
 refine wpE_val (.string ⟨MT.toArray⟩) rfl rfl (fun w' hw' K' hK'=>?_) ?_
 ·have hE:=hw'.1
  have hsl:=HSL.out w'
  go_step
  exact hK'
 simp only [Act.put,sT1,sT2,sT3]
 refine wpE_cat ((TI++[46])) (MT) rfl rfl rfl rfl (by have:=HLL.out;simp;omega) ?_
 simp only [Act.put,sT1,sT2,sT3]
 refine wpE_cat (((TI++[46])++MT)) ([32]) rfl rfl rfl rfl (by have:=HLL.out;simp;omega) ?_
 simp only [Act.put,sT1,sT2,sT3]
 refine wpE_val (.string ⟨(KW).toArray⟩) rfl rfl (fun w' hw' K' hK'=>?_) ?_
 ·have hE:=hw'.1
  go_step
  exact hK'
 simp only [Act.put,sT1,sT2,sT3]
 refine wpE_cat ((((TI++[46])++MT)++[32])) (KW) rfl rfl rfl rfl (by have:=HLL.out;simp;omega) ?_
 simp only [Act.put,sT1,sT2,sT3]
 refine wpE_cat (((((TI++[46])++MT)++[32])++KW)) ([32]) rfl rfl rfl rfl (by have:=HLL.out;simp;omega) ?_
 simp only [Act.put,sT1,sT2,sT3]
 refine wpE_val (.pointer (some ⟨w.heap.size,5,none⟩)) rfl rfl (fun w' hw' K' hK'=>?_) ?_
 ·have hE:=hw'.1
  go_step
  exact hK'
 simp only [Act.put,sT1,sT2,sT3]
 refine wpE_val (.agg #[.slice m.CA m.cp.length m.cc,.string m.cr]) rfl rfl (fun w' hw' K' hK'=>?_) ?_
 ·have hE:=hw'.1
  obtain ⟨u0,u1,u2,u3,u4,u5,u6,u7,u8,u9,u10,u11⟩:=(HB.out.ext ((Ext.drew wr).trans hE)).cells
  go_step
  exact hK'
 simp only [Act.put,sT1,sT2,sT3]
 refine wpE_symcall 28 rfl (by simp) true (.string ⟨(CW).toArray⟩) (rfl) (fun _ _ h=>h) (fun hc w' hw' K' hK'=>?_) ?_
 ·have hE:=hw'.1
  try simp only [cond_true]
  go_step
  refine (HCW.out w' (HXr.out.trans ((Ext.drew _).trans hE))).mono ?_
  rintro _ w2 ⟨rfl,hx⟩
  exact hK' _ _ rfl hx
 simp only [cond_true,Act.put,sT1,sT2,sT3]
 refine wpE_cat ((((((TI++[46])++MT)++[32])++KW)++[32])) (CW) rfl rfl rfl rfl (by have:=HLL.out;simp;omega) ?_
 simp only [Act.put,sT1,sT2,sT3]
 refine wpE_cat (((((((TI++[46])++MT)++[32])++KW)++[32])++CW)) ([32]) rfl rfl rfl rfl (by have:=HLL.out;simp;omega) ?_
 simp only [Act.put,sT1,sT2,sT3]
 refine wpE_val (.pointer (some ⟨w.heap.size,7,none⟩)) rfl rfl (fun w' hw' K' hK'=>?_) ?_
 ·have hE:=hw'.1
  go_step
  exact hK'
 simp only [Act.put,sT1,sT2,sT3]
 refine wpE_val (.agg #[.slice m.SA m.sp.length m.sc,.string m.sr]) rfl rfl (fun w' hw' K' hK'=>?_) ?_
 ·have hE:=hw'.1
  obtain ⟨u0,u1,u2,u3,u4,u5,u6,u7,u8,u9,u10,u11⟩:=(HB.out.ext ((Ext.drew wr).trans hE)).cells
  go_step
  exact hK'
 simp only [Act.put,sT1,sT2,sT3]
 refine wpE_symcall 33 rfl (by simp) true (.string ⟨(SW).toArray⟩) (rfl) (fun _ _ h=>h) (fun hc w' hw' K' hK'=>?_) ?_
 ·have hE:=hw'.1
  try simp only [cond_true]
  go_step
  refine (HSW.out w' (HXr.out.trans ((Ext.drew _).trans hE))).mono ?_
  rintro _ w2 ⟨rfl,hx⟩
  exact hK' _ _ rfl hx
 simp only [cond_true,Act.put,sT1,sT2,sT3]
 refine wpE_cat ((((((((TI++[46])++MT)++[32])++KW)++[32])++CW)++[32])) (SW) rfl rfl rfl rfl (by have:=HLL.out;simp;omega) ?_
 simp only [Act.put,sT1,sT2,sT3]
 refine wpE_cat (((((((((TI++[46])++MT)++[32])++KW)++[32])++CW)++[32])++SW)) ([32]) rfl rfl rfl rfl (by have:=HLL.out;simp;omega) ?_
 simp only [Act.put,sT1,sT2,sT3]
 refine wpE_val (.pointer (some ⟨w.heap.size,3,none⟩)) rfl rfl (fun w' hw' K' hK'=>?_) ?_
 ·have hE:=hw'.1
  go_step
  exact hK'
 simp only [Act.put,sT1,sT2,sT3]
 refine wpE_val (.agg #[.int .i64 m.fk,.slice m.FA m.fb.length m.fc]) rfl rfl (fun w' hw' K' hK'=>?_) ?_
 ·have hE:=hw'.1
  obtain ⟨u0,u1,u2,u3,u4,u5,u6,u7,u8,u9,u10,u11⟩:=(HB.out.ext ((Ext.drew wr).trans hE)).cells
  go_step
  exact hK'
 simp only [Act.put,sT1,sT2,sT3]
 refine wpE_symcall 38 rfl (by simp) true (.string ⟨(AW).toArray⟩) (rfl) (fun _ _ h=>h) (fun hc w' hw' K' hK'=>?_) ?_
 ·have hE:=hw'.1
  try simp only [cond_true]
  go_step
  refine (HAW.out w' (HXr.out.trans ((Ext.drew _).trans hE))).mono ?_
  rintro _ w2 ⟨rfl,hx⟩
  exact hK' _ _ rfl hx
 simp only [cond_true,Act.put,sT1,sT2,sT3]
 refine wpE_cat ((((((((((TI++[46])++MT)++[32])++KW)++[32])++CW)++[32])++SW)++[32])) (AW) rfl rfl rfl rfl (by have:=HLL.out;simp;omega) ?_
 simp only [Act.put,sT1,sT2,sT3]
 refine wpE_cat (((((((((((TI++[46])++MT)++[32])++KW)++[32])++CW)++[32])++SW)++[32])++AW)) ([32]) rfl rfl rfl rfl (by have:=HLL.out;simp;omega) ?_
 simp only [Act.put,sT1,sT2,sT3]
 refine wpE_val (.pointer (some ⟨w.heap.size,9,none⟩)) rfl rfl (fun w' hw' K' hK'=>?_) ?_
 ·have hE:=hw'.1
  go_step
  exact hK'
 simp only [Act.put,sT1,sT2,sT3]
 refine wpE_val (.int .i64 m.co) rfl rfl (fun w' hw' K' hK'=>?_) ?_
 ·have hE:=hw'.1
  obtain ⟨u0,u1,u2,u3,u4,u5,u6,u7,u8,u9,u10,u11⟩:=(HB.out.ext ((Ext.drew wr).trans hE)).cells
  go_step
  exact hK'
 simp only [Act.put,sT1,sT2,sT3]
 refine wpE_symcall 43 rfl (by simp) true (.string ⟨(CO).toArray⟩) (rfl) (fun _ _ h=>h) (fun hc w' hw' K' hK'=>?_) ?_
 ·have hE:=hw'.1
  try simp only [cond_true]
  go_step
  refine (HCO.out w' (HXr.out.trans ((Ext.drew _).trans hE))).mono ?_
  rintro _ w2 ⟨rfl,hx⟩
  exact hK' _ _ rfl hx
 simp only [cond_true,Act.put,sT1,sT2,sT3]
 refine wpE_cat ((((((((((((TI++[46])++MT)++[32])++KW)++[32])++CW)++[32])++SW)++[32])++AW)++[32])) (CO) rfl rfl rfl rfl (by have:=HLL.out;simp;omega) ?_
 simp only [Act.put,sT1,sT2,sT3]
 refine wpE_cat (((((((((((((TI++[46])++MT)++[32])++KW)++[32])++CW)++[32])++SW)++[32])++AW)++[32])++CO)) ([32]) rfl rfl rfl rfl (by have:=HLL.out;simp;omega) ?_
 simp only [Act.put,sT1,sT2,sT3]
 refine wpE_val (.pointer (some ⟨w.heap.size,10,none⟩)) rfl rfl (fun w' hw' K' hK'=>?_) ?_
 ·have hE:=hw'.1
  go_step
  exact hK'
 simp only [Act.put,sT1,sT2,sT3]
 refine wpE_val (.int .i64 m.pr) rfl rfl (fun w' hw' K' hK'=>?_) ?_
 ·have hE:=hw'.1
  obtain ⟨u0,u1,u2,u3,u4,u5,u6,u7,u8,u9,u10,u11⟩:=(HB.out.ext ((Ext.drew wr).trans hE)).cells
  go_step
  exact hK'
 simp only [Act.put,sT1,sT2,sT3]
 refine wpE_symcall 48 rfl (by simp) true (.string ⟨(PR).toArray⟩) (rfl) (fun _ _ h=>h) (fun hc w' hw' K' hK'=>?_) ?_
 ·have hE:=hw'.1
  try simp only [cond_true]
  go_step
  refine (HPR.out w' (HXr.out.trans ((Ext.drew _).trans hE))).mono ?_
  rintro _ w2 ⟨rfl,hx⟩
  exact hK' _ _ rfl hx
 simp only [cond_true,Act.put,sT1,sT2,sT3]
 refine wpE_cat ((((((((((((((TI++[46])++MT)++[32])++KW)++[32])++CW)++[32])++SW)++[32])++AW)++[32])++CO)++[32])) (PR) rfl rfl rfl rfl (by have:=HLL.out;simp;omega) ?_
 simp only [Act.put,sT1,sT2,sT3]
 refine wpE_cat (((((((((((((((TI++[46])++MT)++[32])++KW)++[32])++CW)++[32])++SW)++[32])++AW)++[32])++CO)++[32])++PR)) ([32]) rfl rfl rfl rfl (by have:=HLL.out;simp;omega) ?_
 simp only [Act.put,sT1,sT2,sT3]
 refine wpE_val (.pointer (some ⟨w.heap.size,11,none⟩)) rfl rfl (fun w' hw' K' hK'=>?_) ?_
 ·have hE:=hw'.1
  go_step
  exact hK'
 simp only [Act.put,sT1,sT2,sT3]
 refine wpE_val (.int .u32 (m.fl.toNat:Int)) rfl rfl (fun w' hw' K' hK'=>?_) ?_
 ·have hE:=hw'.1
  obtain ⟨u0,u1,u2,u3,u4,u5,u6,u7,u8,u9,u10,u11⟩:=(HB.out.ext ((Ext.drew wr).trans hE)).cells
  go_step
  exact hK'
 simp only [Act.put,sT1,sT2,sT3]
 refine wpE_symcall 53 rfl (by simp) true (.string ⟨(FW).toArray⟩) (rfl) (fun _ _ h=>h) (fun hc w' hw' K' hK'=>?_) ?_
 ·have hE:=hw'.1
  try simp only [cond_true]
  go_step
  refine (HFW.out w' (HXr.out.trans ((Ext.drew _).trans hE))).mono ?_
  rintro _ w2 ⟨rfl,hx⟩
  exact hK' _ _ rfl hx
 simp only [cond_true,Act.put,sT1,sT2,sT3]
 refine wpE_cat ((((((((((((((((TI++[46])++MT)++[32])++KW)++[32])++CW)++[32])++SW)++[32])++AW)++[32])++CO)++[32])++PR)++[32])) (FW) rfl rfl rfl rfl (by have:=HLL.out;simp;omega) ?_
 simp only [Act.put,sT1,sT2,sT3]
 refine wpE_op rfl rfl (fun w' hw' K' hK'=>?_)
 go_step
 refine hK' _ ⟨_,rfl⟩ ?_
 clear hK' K' hw' w'
 refine wpE_nil (fun W hW=>?_)
 have HXW:=Lib.hid ((HX.out.trans HXr.out).trans ((Ext.drew _).trans hW.1))
 clear hW
 go_wp2_with fail
 go_ret
 exact ⟨rfl,HXW.out⟩
end Go.Proofs.YtnjmndofcpnmeaaGreatDoor
namespace Go.Proofs.YtnjmndofcpnmeaaGreatDoor
open Go Go.Lib
set_option linter.unusedVariables false
end Go.Proofs.YtnjmndofcpnmeaaGreatDoor
namespace Go.Proofs.YtnjmndofcpnmeaaGreatDoor
open Go.Lib
set_option linter.unusedVariables false
end Go.Proofs.YtnjmndofcpnmeaaGreatDoor
