/- Pc14. -/
import Derived.Test.YtnjmndofcpnmeaaGreatDoorPc12
import Derived.Test.YtnjmndofcpnmeaaGreatDoorPc13
import Derived.Laws.DeepStrings4
namespace Go.Proofs.YtnjmndofcpnmeaaGreatDoor
open Go Go.RowKit
set_option linter.unusedVariables false
def wd4 (s:ByteArray):List ByteArray:=Lib.splitB ⟨#[46]⟩ 0 (min 5 (s.size+1)-1) s
theorem wd4_eq (s:ByteArray):(wd4 s).map (·.data.toList)=words4 s.data.toList:=by
 unfold wd4 words4
 rw [Lib.splitB_data,show s.data.toList.length=s.size by rw [Array.length_toList];rfl]
theorem splitA_size (sep:ByteArray):∀ (k:Nat) (s b:ByteArray),b∈Lib.splitB sep 0 k s→b.size≤s.size
 | 0,s,b,h=>by
  rw [Lib.splitB_zero] at h
  simp only [List.mem_singleton] at h
  subst h
  exact Nat.le_refl _
 | k+1,s,b,h=>by
  unfold Lib.splitB at h
  split at h
  ·simp only [List.mem_singleton] at h
   subst h
   exact Nat.le_refl _
  ·rcases List.mem_cons.1 h with rfl | h
   ·rw [ByteArray.size_extract];omega
   ·have:=splitA_size sep k _ b h
    rw [ByteArray.size_extract] at this;omega
theorem Split4_at (s:ByteArray) (hs:s.size≤3000) (w:World) (hm:MaxL w):
  Calls Tryz.prog 153 #[.string s,.string ⟨#[46]⟩,.int .i64 5] w fun e w'=>∃ n cap cs,e=.returned (.slice (some ⟨w.heap.size,0,none⟩) n cap)∧n=(wd4 s).length∧w'=w.alloc (.cells cs 9)∧∀ (j:Nat) b,(wd4 s)[j]? = some b→cs[j]? = some (.string b):=by
 obtain ⟨m,hm⟩:=hm 0 (by kernel_rfl)
 refine (Tryz.strings_SplitN s ⟨#[46]⟩ 5 m w (by omega) hm (by decide) (by omega) (by omega)).mono ?_
 rintro e w' ⟨rfl,rfl⟩
 refine ⟨_,_,_,rfl,rfl,rfl,fun j b hb=>?_⟩
 have hlt:=(List.getElem?_eq_some_iff.1 hb).1
 unfold wd4 at hb hlt
 unfold Lib.cellsOf
 rw [List.getElem?_toArray,List.getElem?_append_left (by simpa using hlt),List.getElem?_map,hb]
 rfl
def b4 (vs:List Nat):List UInt8:=vs.map UInt8.ofNat
set_option maxRecDepth 100000 in
set_option maxHeartbeats 1000000 in
theorem parse4_at (s:ByteArray) (hs:s.size≤3000) (w:World) (hE:EnvA w):
  Calls Tryz.prog 106 #[.string s] w fun e w'=>∃ A c,e=.returned (.slice A (cand4 s.data.toList).length c)∧OB 5 w' w.heap.size (.slice A (cand4 s.data.toList).length c) (cand4 s.data.toList)∧Ext w w':=by
 obtain ⟨i0,hi,hz0,hz1,hz2⟩:=info_parts u8inf
 have HS:=Lib.hid hs;have HE:=Lib.hid hE
 have HSP:=Lib.hid (Split4_at s hs w hE.env.maxl)
 have hlen5:(wd4 s).length≤5:=by
  have:=Lib.splitB_length_le ⟨#[46]⟩ 0 (min 5 (s.size+1)-1) s
  unfold wd4;omega
 have HC:=Lib.hid (show cand4 s.data.toList=match allP pu8w ((wd4 s).map (·.data.toList)) with | none=>[] | some v=>b4 v by unfold cand4;rw [wd4_eq];rfl)
 clear hs hE
 go_enter Tryz.func106,Tryz.ntmps106
 go_wp2_with fail
 refine HSP.out.mono ?_
 rintro _ w1 ⟨n,cap,cs,rfl,hn,hw1,hcs⟩
 have hx1:Ext w w1:=hw1 ▸ (Ext.refl w).alloc _
 have hW1:w1.heap[w.heap.size]? = some (.cells cs 9 (0,0)):=by rw [hw1];exact heap_alloc_new w _
 have HX1:=Lib.hid hx1;have HW1:=Lib.hid hW1;have HN:=Lib.hid hn;have HCS:=Lib.hid hcs
 have hnl:n≤5:=by omega
 clear hw1 hx1 hW1 hn hcs hlen5
 go_wp2_with fail
 go_loopw [3,11] (fun v i wr=>∃ (k:Nat) (vs:List Nat),i=.int .i64 (k:Int)∧k≤n∧Hid (OB 5 wr w1.heap.size v (b4 vs))∧Hid (allP pu8w (((wd4 s).take k).map (·.data.toList))=some vs)∧Hid (Ext w1 wr)) (fun _ i _=>n-(intOf i).toNat)
 case atStart=>exact ⟨0,[],rfl,Nat.zero_le _,Lib.hid (OB.nil _ _ _),Lib.hid rfl,Lib.hid (Ext.refl _)⟩
 case round=>
  obtain ⟨k,vs,rfl,hk,HO,HA,HX⟩:=hrel
  by_cases hlt:k<n
  ·have hw:(wd4 s)[k]? = some ((wd4 s)[k]'(by rw [← HN.out];exact hlt)):=List.getElem?_eq_getElem _
   obtain ⟨x,hx⟩:∃ x,(wd4 s)[k]'(by rw [← HN.out];exact hlt)=x:=⟨_,rfl⟩
   rw [hx] at hw
   have hxs:x.size≤3000:=Nat.le_trans (splitA_size _ _ s x (by unfold wd4 at hw;exact List.mem_of_getElem? hw)) HS.out
   have hc:wr.cell? ⟨w.heap.size,k,none⟩=some (.string x):=HX.out.cell (by rw [cell_of_row _ _ k _ _ (0,0) HW1.out];exact HCS.out k x hw)
   have htk:((wd4 s).take (k+1)).map (·.data.toList)=((wd4 s).take k).map (·.data.toList)++[x.data.toList]:=by
    rw [List.take_succ_eq_append_getElem (by rw [← HN.out];exact hlt),hx];simp
   have hdk:(wd4 s).map (·.data.toList)=((wd4 s).take k).map (·.data.toList)++x.data.toList::((wd4 s).drop (k+1)).map (·.data.toList):=by
    conv=>lhs;rw [← List.take_append_drop k (wd4 s),List.drop_eq_getElem_cons (by rw [← HN.out];exact hlt),hx]
    simp
   have HI:=Lib.hid (Parse8_at x hxs wr ((HE.out.ext (HX1.out.trans HX.out)).env))
   have HTK:=Lib.hid htk;have HDK:=Lib.hid hdk
   clear hw hx hxs htk hdk
   go_wp2_with fail
   refine HI.out.mono ?_
   rintro _ w3 ⟨hp,hx3⟩
   have HX3:=Lib.hid hx3
   clear hx3
   rcases hp with ⟨m,hm,rfl⟩ | ⟨hm,u,p,rfl⟩
   ·have hm8:(m:Int)≤255:=by have:=pu8w_le hm;omega
    have hx4:=(Ext.refl w3).alloc (.cells #[.int .u8 (m:Int)] 5)
    have hbs:BS (w3.alloc (.cells #[.int .u8 (m:Int)] 5)) (.slice (some ⟨w3.heap.size,0,none⟩) 1 1) [UInt8.ofNat m]:=
     BS.new' w3 5 [.int .u8 (m:Int)] _ (by simp only [bv,List.map_cons,List.map_nil,UInt8.toNat_ofNat'];congr 2;omega) 1 rfl (by simp [maxLen])
    have HBS:=Lib.hid hbs;have HX4:=Lib.hid hx4;have HM:=Lib.hid hm
    have HOV:=Lib.hid ((HO.out.ext HX3.out).ext hx4)
    have HVL:=Lib.hid (allP_length _ _ HA.out)
    clear hbs hx4 hm
    go_wp2_with (at_builtin;refine wpList_append_bs _ rfl (.tmp 22) (.tmp 25) 32 rfl w1.heap.size 5 i0 (.int .u8 0) Tryz.underlying32 hi hz0 hz1 hz2 rfl _ (b4 vs) rfl HOV.out _ [UInt8.ofNat m] rfl HBS.out ?hb ?hm ?_;rotate_right;intro v4 w4 hown4 hg4 _)
    case hb=>
     have h1:=HVL.out
     rw [List.length_map,List.length_take] at h1
     unfold b4;rw [List.length_map];simp;omega
    case hm=>have h1:=HX.out.size;have h2:=HX3.out.size;have h3:=HX4.out.size;omega
    have HO4:=Lib.hid (show OB 5 w4 w1.heap.size v4 (b4 (vs++[m])) by unfold b4;rw [List.map_append];exact hown4)
    have HX5:=Lib.hid (((HX.out.trans HX3.out).trans HX4.out).grown hg4 (fun j hj=>OB.lt HOV.out j hj))
    clear hown4 hg4
    go_wp2_with fail
    go_roundw
    case rel=>exact ⟨k+1,vs++[m],by go_num,by omega,HO4,Lib.hid (by rw [HTK.out];exact allP_one HA.out HM.out),HX5⟩
    case measure=>simp [intOf];omega
   ·have HF:=Lib.hid (show cand4 s.data.toList=[] by rw [HC.out,HDK.out,allP_bad _ HA.out hm])
    clear hm
    go_wp2_with fail
    go_ret
    rw [HF.out]
    exact ⟨none,0,rfl,OB.nil _ _ _,(HX1.out.trans HX.out).trans HX3.out⟩
  ·obtain rfl:k=n:=by omega
   have ha:=HA.out
   rw [List.take_of_length_le (by rw [← HN.out];exact Nat.le_refl _)] at ha
   have HF:=Lib.hid (show cand4 s.data.toList=b4 vs by rw [HC.out,ha])
   have ho:=HO.out
   obtain ⟨A,c,rfl⟩:=ho.shape
   have HOO:=Lib.hid (ho.mono (B':=w.heap.size) HX1.out.size)
   clear ha ho
   go_wp2_with fail
   go_ret
   rw [HF.out]
   exact ⟨A,c,rfl,HOO.out,HX1.out.trans HX.out⟩
theorem pgs_len {l:List UInt8}{g:List Nat}(h:pgs l=some g):g.length≤l.length+1:=by
 unfold pgs at h
 split at h
 ·injection h with h;subst h;simp
 ·have:=allP_length _ _ h
  have:=splb_len 58 l []
  omega
theorem cut_len1 (l sep:List UInt8):(Lib.cut l sep).1.length≤l.length∧(Lib.cut l sep).2.1.length≤l.length:=by
 unfold Lib.cut
 split
 ·simp;omega
 ·simp
set_option maxRecDepth 100000 in
set_option maxHeartbeats 1000000 in
theorem parse6_at (s:ByteArray) (hs:s.size≤3000) (w:World) (hE:EnvA w):
  Calls Tryz.prog 105 #[.string s] w fun e w'=>∃ A c,e=.returned (.slice A (cand6 s.data.toList).length c)∧OB 5 w' w.heap.size (.slice A (cand6 s.data.toList).length c) (cand6 s.data.toList)∧Ext w w':=by
 obtain ⟨i0,hi,hz0,hz1,hz2⟩:=info_parts u8inf
 have hsz:s.data.toList.length=s.size:=by rw [Array.length_toList];rfl
 by_cases hb:s.size<2∨41<s.size
 ·have hc:cand6 s.data.toList=[]:=by unfold cand6;rw [if_pos (by omega)]
  rw [hc]
  rcases hb with hb | hb
  ·have h1:(s.size:Int)<2:=by omega
   clear hb hc hsz
   go_enter Tryz.func105,Tryz.ntmps105
   go_wp2_with fail
   go_ret
   exact ⟨none,0,rfl,OB.nil _ _ _,Ext.refl _⟩
  ·have h1:(41:Int)<(s.size:Int):=by omega
   clear hb hc hsz
   go_enter Tryz.func105,Tryz.ntmps105
   go_wp2_with fail
   go_ret
   exact ⟨none,0,rfl,OB.nil _ _ _,Ext.refl _⟩
 have hc:cand6 s.data.toList=cand6m ((s.data.toList.drop 1).take (s.size-2)):=by unfold cand6;rw [if_neg (by omega),hsz]
 rw [hc]
 have h2:(2:Int)≤(s.size:Int):=by omega
 have h41:(s.size:Int)≤41:=by omega
 have hex:(s.extract 1 (s.size-1)).data.toList=(s.data.toList.drop 1).take (s.size-2):=by
  rw [ByteArray.data_extract,Array.toList_extract,List.extract_eq_take_drop,show s.size-1-1=s.size-2 by omega]
 have hml:((s.data.toList.drop 1).take (s.size-2)).length≤40:=by rw [List.length_take,List.length_drop];omega
 have hsl:∀ W:World,(Instr.slice 9 (.string s) (some (.int .i64 1)) (some (.int .i64 ((s.size:Int)-1))) none).run Tryz.prog W=.ok (.string (s.extract 1 (s.size-1))) W:=fun W=>by
  rw [run_slice_string_if W 9 s .i64 .i64 1 ((s.size:Int)-1) Tryz.underlying9,if_pos (by omega),if_pos (by omega)]
  rw [show ((s.size:Int)-1).toNat=s.size-1 by omega];rfl
 obtain ⟨m0,hm0⟩:=hE.env.maxl 0 (by kernel_rfl)
 have hcut:=Tryz.strings_Cut (s.extract 1 (s.size-1)) ⟨#[58,58]⟩ m0 w (by rw [ByteArray.size_extract];omega) hm0
 rw [hex,show (⟨#[58,58]⟩:ByteArray).data.toList=[58,58] from rfl] at hcut
 obtain ⟨M,hM⟩:∃ M,(s.data.toList.drop 1).take (s.size-2)=M:=⟨_,rfl⟩
 rw [hM] at hcut hml ⊢
 have hcl:=cut_len1 M [58,58]
 unfold cand6m
 generalize Lib.cut M [58,58]=X at hcut hcl ⊢
 obtain ⟨H,Tl,sh⟩:=X
 simp only at hcut hcl ⊢
 obtain ⟨R,hR⟩:∃ R,jn6 (pgs H) (pgs Tl) sh=R:=⟨_,rfl⟩
 rw [hR]
 have HRR:=Lib.hid hR
 clear hR
 have hh1:(⟨H.toArray⟩:ByteArray).size≤3000:=by show H.toArray.size≤3000;simp;omega
 have ht1:(⟨Tl.toArray⟩:ByteArray).size≤3000:=by show Tl.toArray.size≤3000;simp;omega
 have HH:=Lib.hid (fun W h=>pgroups_at ⟨H.toArray⟩ hh1 W h);have HTT:=Lib.hid (fun W h=>pgroups_at ⟨Tl.toArray⟩ ht1 W h)
 have HCUT:=Lib.hid hcut;have HE:=Lib.hid hE
 have HLA:=Lib.hid (fun g (h:pgs H=some g)=>(pgs_len h:g.length≤H.length+1));have HLC:=Lib.hid (fun g (h:pgs Tl=some g)=>(pgs_len h:g.length≤Tl.length+1))
 have hHl:H.length≤40:=by omega
 have hTl:Tl.length≤40:=by omega
 clear hc hb hsz hex hml hm0 hM hcl hh1 ht1 hE hcut
 go_enter Tryz.func105,Tryz.ntmps105
 go_wp2_with fail
 refine HCUT.out.mono ?_
 rintro _ w1 ⟨rfl,nn,hw1⟩
 have hx1:Ext w w1:=hw1 ▸ (Ext.refl w).drewN nn
 have HX1:=Lib.hid hx1
 clear hw1 hx1 hsl
 go_wp2_with fail
 refine (HH.out w1 (HE.out.ext HX1.out)).mono ?_
 rintro _ w2 ⟨hp2,hx2⟩
 have HX2:=Lib.hid hx2
 clear hx2
 rcases hp2 with ⟨a,A2,c2,ha,rfl,hoa⟩ | ⟨ha,rfl⟩
 ·have hla:=wbs_length a
  have hal:=HLA.out a (by simpa using ha)
  have ia:((wbs a).length:Int)≤90:=by omega
  have HWA:=Lib.hid hla
  clear hla hal
  have HOA:=Lib.hid hoa;have HA:=Lib.hid (show pgs H=some a from by simpa using ha)
  clear hoa ha
  go_wp2_with fail
  refine (HTT.out w2 (HE.out.ext (HX1.out.trans HX2.out))).mono ?_
  rintro _ w3 ⟨hp3,hx3⟩
  have HX3:=Lib.hid hx3
  clear hx3
  rcases hp3 with ⟨b,A3,c3,hb,rfl,hob⟩ | ⟨hb,rfl⟩
  ·have HOB:=Lib.hid hob;have HB:=Lib.hid (show pgs Tl=some b from by simpa using hb)
   have HR:=Lib.hid (show R=join6 a b sh by rw [← HRR.out,HA.out,HB.out];rfl)
   have hla:=HWA.out
   have hal:=HLA.out a HA.out
   have hlb:=wbs_length b
   have hbl:=HLC.out b HB.out
   have ib:((wbs b).length:Int)≤90:=by omega
   clear hob hb
   rcases (show 16<2*a.length+2*b.length∨2*a.length+2*b.length=16∨2*a.length+2*b.length<16 by omega) with hgt | heq | hlt
   ·have HR2:=Lib.hid (show R=[] by rw [HR.out];unfold join6;rw [if_pos (.inl hgt)])
    have i1:(16:Int)-(wbs a).length-(wbs b).length<0:=by omega
    clear hla hlb hal hbl hgt
    go_wp2_with fail
    go_ret
    rw [HR2.out]
    exact ⟨none,0,rfl,OB.nil _ _ _,(HX1.out.trans HX2.out).trans HX3.out⟩
   ·have HR2:=Lib.hid (show R=wbs a++(List.replicate (16-(2*a.length+2*b.length)) 0++wbs b) by rw [HR.out];unfold join6;rw [if_neg (by omega)])
    have i2:0≤(16:Int)-(wbs a).length-(wbs b).length:=by omega
    have i3:(16:Int)-(wbs a).length-(wbs b).length≤0:=by omega
    have h16:(((16-(2*a.length+2*b.length):Nat)):Int)=16-((wbs a).length:Int)-((wbs b).length:Int):=by omega
    obtain ⟨n,hn⟩:∃ n,16-(2*a.length+2*b.length)=n:=⟨_,rfl⟩
    rw [hn] at h16 HR2
    have hn16:n≤16:=by omega
    have HN:=Lib.hid h16;have HN16:=Lib.hid hn16
    have HLAL:=Lib.hid (show (wbs a).length≤90 by omega);have HLBL:=Lib.hid (show (wbs b).length≤90 by omega)
    have HOA3:=Lib.hid (HOA.out.ext HX3.out)
    have HLTA:=Lib.hid (show ∀ j,(Value.slice A2 (wbs a).length c2).ownBlock=some j→j<w2.heap.size from fun j hj=>(World.ownsRow.lt HOA.out j hj).2)
    have HLTA1:=Lib.hid (show ∀ j,(Value.slice A2 (wbs a).length c2).ownBlock=some j→w1.heap.size≤j from fun j hj=>(World.ownsRow.lt HOA.out j hj).1)
    have HLTB:=Lib.hid (show ∀ j,(Value.slice A3 (wbs b).length c3).ownBlock=some j→w2.heap.size≤j from fun j hj=>(World.ownsRow.lt HOB.out j hj).1)
    clear hla hlb hal hbl hn h16 hn16 heq
    go_wp2_with (first
     | (at_builtin;refine wpList_append_zeros _ rfl (.tmp 63) (.tmp 64) 32 3 9 rfl w1.heap.size 5 i0 Tryz.underlying32 Tryz.underlying3 Tryz.underlying9 hi hz0 hz1 hz2 _ (wbs a) rfl HOA3.out n ?hx ?hl1 ?hl2 ?hm ?_;rotate_right;intro v4 w4 hown4 hg4;have HO4:=Lib.hid hown4;have HG4:=Lib.hid hg4;clear hown4 hg4)
     | (at_builtin;refine wpList_append_bs _ rfl (.tmp 65) (.tmp 66) 32 rfl w1.heap.size 5 i0 (.int .u8 0) Tryz.underlying32 hi hz0 hz1 hz2 rfl _ (wbs a++List.replicate n 0) rfl HO4.out _ (wbs b) rfl (HOB.out.bs.apart (fun _ j hj e=>by have:=HLTB.out j hj;have:=HLTA.out j e;omega) HG4.out) ?hb ?hm2 ?_;rotate_right;intro v5 w5 hown5 hg5 _;have HO5:=Lib.hid hown5;have HG5:=Lib.hid hg5;clear hown5 hg5))
    case hx=>first | exact HN.out.symm | (show Value.int _ _=_;rw [HN.out])
    case hl1=>have:=HN16.out;omega
    case hl2=>have:=HLAL.out;omega
    case hm=>have:=HX2.out.size;have:=HX3.out.size;omega
    case hb=>
     try rw [List.length_append,List.length_replicate]
     have:=HLAL.out;have:=HLBL.out;have:=HN16.out;omega
    case hm2=>have:=HX2.out.size;have:=HX3.out.size;have:=HG4.out.size;omega
    have ho5:=HO5.out
    rw [List.append_assoc,← HR2.out] at ho5
    obtain ⟨A5,c5,rfl⟩:=ho5.shape
    have HO5':=Lib.hid (ho5.mono (B':=w.heap.size) HX1.out.size)
    have HXF:=Lib.hid ((((HX1.out.trans HX2.out).trans HX3.out).grown HG4.out (fun j hj=>by have:=HLTA1.out j hj;have:=HX1.out.size;omega)).grown HG5.out (fun j hj=>by have:=OB.lt HO4.out j hj;have:=HX1.out.size;omega))
    clear ho5
    go_wp2_with fail
    go_ret
    exact ⟨A5,c5,rfl,HO5'.out,HXF.out⟩
   ·cases sh with
    | false=>
     have HR2:=Lib.hid (show R=[] by rw [HR.out];unfold join6;rw [if_pos (.inr ⟨hlt,rfl⟩)])
     have i2:0≤(16:Int)-(wbs a).length-(wbs b).length:=by omega
     have i3:0<(16:Int)-(wbs a).length-(wbs b).length:=by omega
     clear hla hlb hal hbl hlt
     go_wp2_with fail
     go_ret
     rw [HR2.out]
     exact ⟨none,0,rfl,OB.nil _ _ _,(HX1.out.trans HX2.out).trans HX3.out⟩
    | true=>
     have HR2:=Lib.hid (show R=wbs a++(List.replicate (16-(2*a.length+2*b.length)) 0++wbs b) by rw [HR.out];unfold join6;rw [if_neg (by simp;omega)])
     have i2:0≤(16:Int)-(wbs a).length-(wbs b).length:=by omega
     have i3:0<(16:Int)-(wbs a).length-(wbs b).length:=by omega
     have h16:(((16-(2*a.length+2*b.length):Nat)):Int)=16-((wbs a).length:Int)-((wbs b).length:Int):=by omega
     obtain ⟨n,hn⟩:∃ n,16-(2*a.length+2*b.length)=n:=⟨_,rfl⟩
     rw [hn] at h16 HR2
     have hn16:n≤16:=by omega
     have HN:=Lib.hid h16;have HN16:=Lib.hid hn16
     have HLAL:=Lib.hid (show (wbs a).length≤90 by omega);have HLBL:=Lib.hid (show (wbs b).length≤90 by omega)
     have HOA3:=Lib.hid (HOA.out.ext HX3.out)
     have HLTA:=Lib.hid (show ∀ j,(Value.slice A2 (wbs a).length c2).ownBlock=some j→j<w2.heap.size from fun j hj=>(World.ownsRow.lt HOA.out j hj).2)
     have HLTA1:=Lib.hid (show ∀ j,(Value.slice A2 (wbs a).length c2).ownBlock=some j→w1.heap.size≤j from fun j hj=>(World.ownsRow.lt HOA.out j hj).1)
     have HLTB:=Lib.hid (show ∀ j,(Value.slice A3 (wbs b).length c3).ownBlock=some j→w2.heap.size≤j from fun j hj=>(World.ownsRow.lt HOB.out j hj).1)
     clear hla hlb hal hbl hn h16 hn16 hlt
     go_wp2_with (first
      | (at_builtin;refine wpList_append_zeros _ rfl (.tmp 63) (.tmp 64) 32 3 9 rfl w1.heap.size 5 i0 Tryz.underlying32 Tryz.underlying3 Tryz.underlying9 hi hz0 hz1 hz2 _ (wbs a) rfl HOA3.out n ?hx ?hl1 ?hl2 ?hm ?_;rotate_right;intro v4 w4 hown4 hg4;have HO4:=Lib.hid hown4;have HG4:=Lib.hid hg4;clear hown4 hg4)
      | (at_builtin;refine wpList_append_bs _ rfl (.tmp 65) (.tmp 66) 32 rfl w1.heap.size 5 i0 (.int .u8 0) Tryz.underlying32 hi hz0 hz1 hz2 rfl _ (wbs a++List.replicate n 0) rfl HO4.out _ (wbs b) rfl (HOB.out.bs.apart (fun _ j hj e=>by have:=HLTB.out j hj;have:=HLTA.out j e;omega) HG4.out) ?hb ?hm2 ?_;rotate_right;intro v5 w5 hown5 hg5 _;have HO5:=Lib.hid hown5;have HG5:=Lib.hid hg5;clear hown5 hg5))
     case hx=>first | exact HN.out.symm | (show Value.int _ _=_;rw [HN.out])
     case hl1=>have:=HN16.out;omega
     case hl2=>have:=HLAL.out;omega
     case hm=>have:=HX2.out.size;have:=HX3.out.size;omega
     case hb=>
      try rw [List.length_append,List.length_replicate]
      have:=HLAL.out;have:=HLBL.out;have:=HN16.out;omega
     case hm2=>have:=HX2.out.size;have:=HX3.out.size;have:=HG4.out.size;omega
     have ho5:=HO5.out
     rw [List.append_assoc,← HR2.out] at ho5
     obtain ⟨A5,c5,rfl⟩:=ho5.shape
     have HO5':=Lib.hid (ho5.mono (B':=w.heap.size) HX1.out.size)
     have HXF:=Lib.hid ((((HX1.out.trans HX2.out).trans HX3.out).grown HG4.out (fun j hj=>by have:=HLTA1.out j hj;have:=HX1.out.size;omega)).grown HG5.out (fun j hj=>by have:=OB.lt HO4.out j hj;have:=HX1.out.size;omega))
     clear ho5
     go_wp2_with fail
     go_ret
     exact ⟨A5,c5,rfl,HO5'.out,HXF.out⟩
  ·have HR:=Lib.hid (show R=[] by rw [← HRR.out,show pgs Tl=none from by simpa using hb,HA.out];rfl)
   clear hb
   go_wp2_with fail
   go_ret
   rw [HR.out]
   exact ⟨none,0,rfl,OB.nil _ _ _,(HX1.out.trans HX2.out).trans HX3.out⟩
 ·have HR:=Lib.hid (show R=[] by rw [← HRR.out,show pgs H=none from by simpa using ha];rfl)
  clear ha
  go_wp2_with fail
  refine (HTT.out w2 (HE.out.ext (HX1.out.trans HX2.out))).mono ?_
  rintro _ w3 ⟨hp3,hx3⟩
  have HX3:=Lib.hid hx3
  clear hx3
  rcases hp3 with ⟨b,A3,c3,hb,rfl,hob⟩ | ⟨hb,rfl⟩
  ·have hlb:=wbs_length b
   have hbl:=HLC.out b (by simpa using hb)
   have ib:((wbs b).length:Int)≤90:=by omega
   clear hob hb hlb hbl
   go_wp2_with fail
   go_ret
   rw [HR.out]
   exact ⟨none,0,rfl,OB.nil _ _ _,(HX1.out.trans HX2.out).trans HX3.out⟩
  ·clear hb
   go_wp2_with fail
   go_ret
   rw [HR.out]
   exact ⟨none,0,rfl,OB.nil _ _ _,(HX1.out.trans HX2.out).trans HX3.out⟩
end Go.Proofs.YtnjmndofcpnmeaaGreatDoor
