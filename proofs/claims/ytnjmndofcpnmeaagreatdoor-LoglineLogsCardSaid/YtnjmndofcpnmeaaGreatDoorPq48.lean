/- Pq48. -/
import Derived.Test.YtnjmndofcpnmeaaGreatDoorPq0
import Derived.Test.YtnjmndofcpnmeaaGreatDoorPq45
import Derived.Test.YtnjmndofcpnmeaaGreatDoorPq47
import Derived.Test.YtnjmndofcpnmeaaGreatDoorPq21
import Derived.Test.YtnjmndofcpnmeaaGreatDoorPq44
import Derived.OwnWalk
namespace Go.Proofs.YtnjmndofcpnmeaaGreatDoor
open Go Go.RowKit
set_option linter.unusedVariables false
structure F12 (w:World) (p:Addr) (m:FV):Prop where
 cells:w.cell? p=some (.int .i64 m.t)∧w.cell? ⟨p.block,p.off+1,none⟩=some (.int .i64 m.mi)∧w.cell? ⟨p.block,p.off+2,none⟩=some (.int .i64 m.kd)∧w.cell? ⟨p.block,p.off+3,none⟩=some (.int .i64 m.fk)∧w.cell? ⟨p.block,p.off+4,none⟩=some (.slice m.FA m.fb.length m.fc)∧w.cell? ⟨p.block,p.off+5,none⟩=some (.slice m.CA m.cp.length m.cc)∧w.cell? ⟨p.block,p.off+6,none⟩=some (.string m.cr)∧w.cell? ⟨p.block,p.off+7,none⟩=some (.slice m.SA m.sp.length m.sc)∧w.cell? ⟨p.block,p.off+8,none⟩=some (.string m.sr)∧w.cell? ⟨p.block,p.off+9,none⟩=some (.int .i64 m.co)∧w.cell? ⟨p.block,p.off+10,none⟩=some (.int .i64 m.pr)∧w.cell? ⟨p.block,p.off+11,none⟩=some (.int .u32 (m.fl.toNat:Int))
theorem F12.ext {w w':World}{p:Addr}{m:FV}(h:F12 w p m)(hx:Ext w w'):F12 w' p m:=by
 obtain ⟨u0,u1,u2,u3,u4,u5,u6,u7,u8,u9,u10,u11⟩:=h.cells
 exact ⟨hx.cell u0,hx.cell u1,hx.cell u2,hx.cell u3,hx.cell u4,hx.cell u5,hx.cell u6,hx.cell u7,hx.cell u8,hx.cell u9,hx.cell u10,hx.cell u11⟩
theorem FS.f12 {w:World}{A:Option Addr}{n c:Nat}{xs:List FV}(h:FS w (.slice A n c) xs)(k:Nat)(hk:k<xs.length):xs[k].In w∧∃ ad,A=some ad∧F12 w (ad.add (k*12)) xs[k]:=by
 obtain ⟨hin,ad,e,u0,u1,u2,u3,u4,u5,u6,u7,u8,u9,u10,u11⟩:=h.at_ k hk
 exact ⟨hin,ad,e,⟨u0,u1,u2,u3,u4,u5,u6,u7,u8,u9,u10,u11⟩⟩
structure M2 (w:World) (p:Addr) (m:MV):Prop where
 cells:w.cell? p=some (.slice m.CA m.cp.length m.cc)∧w.cell? ⟨p.block,p.off+1,none⟩=some (.string m.cr)
theorem M2.ext {w w':World}{p:Addr}{m:MV}(h:M2 w p m)(hx:Ext w w'):M2 w' p m:=⟨hx.cell h.cells.1,hx.cell h.cells.2⟩
theorem ROW.m2 {w:World}{B:Nat}{A:Option Addr}{n c:Nat}{ms:List MV}(h:ROW EM 50 w B (.slice A n c) ms)(k:Nat)(hk:k<ms.length):ms[k].In w∧∃ ad,A=some ad∧M2 w (ad.add (k*7)) ms[k]:=by
 obtain ⟨A',c',e1,_,_,h4⟩:=h.cells
 injection e1 with e1 _ _
 subst e1
 obtain ⟨hin,ad,hA,hc⟩:=h4 k hk
 refine ⟨hin,ad,hA,⟨hc 0 _ rfl,?_⟩⟩
 rw [cell_addj w ad (k*7) 1 (by decide)]
 exact hc 1 _ rfl
def MV.cl (m:MV):MV:=⟨m.CA,m.cp,m.cc,m.cr,0,none,[],0,0,0,0⟩
theorem MV.In.cl {w:World}{m:MV}(h:m.In w):m.cl.In w:=⟨h.cp,RS.nil w⟩
theorem splb_mem_len (x:UInt8):∀ (l acc m:List UInt8),m∈splb x acc l→m.length≤acc.length+l.length
 | [],acc,m,h=>by simp [splb] at h;subst h;simp
 | c::r,acc,m,h=>by
  rw [splb] at h
  split at h
  ·rcases List.mem_cons.1 h with rfl | h
   ·simp
   ·have:=splb_mem_len x r [] m h
    simp at this ⊢
    omega
  ·have:=splb_mem_len x r (acc++[c]) m h
   simp at this ⊢
   omega
theorem all_ok {xs:List FV}:(xs.all fun x=>x.fct.ok)=true ↔ ∀ f∈xs.map FV.fct,f.Ok:=by
 rw [List.all_eq_true]
 constructor
 ·intro h f hf
  obtain ⟨x,hx,rfl⟩:=List.mem_map.1 hf
  exact (Fct.ok_iff _).1 (h x hx)
 ·intro h x hx
  exact (Fct.ok_iff _).2 (h _ (List.mem_map.2 ⟨x,hx,rfl⟩))
set_option maxRecDepth 100000 in
set_option maxHeartbeats 2000000 in
theorem RLog_at (A:Option Addr) (c:Nat) (xs:List FV) (w:World) (hF:FS w (.slice A xs.length c) xs) (hn:xs.length≤1000) (hz:∀ x∈xs,x.Sz):
  Calls Tryz.prog 28 #[.slice A xs.length c] w fun e w'=>e=.returned (logR (xs.map FV.fct) (xs.all fun x=>x.fct.ok))∧Ext w w':=by
 have HF:=Lib.hid hF;have HZ:=Lib.hid hz
 obtain ⟨n,hn'⟩:∃ n,xs.length=n:=⟨_,rfl⟩
 have HN:=Lib.hid hn'
 rw [hn'] at hn ⊢ HF
 clear hF hz hn'
 go_enter Tryz.func28,Tryz.ntmps28
 go_wp2_with fail
 go_loopw [4,5] (fun s i wr=>∃ k:Nat,k≤n∧i=.int .i64 k∧s=.string ⟨(logT ((xs.map FV.fct).take k)).toArray⟩∧Hid (∀ f∈(xs.map FV.fct).take k,f.Ok)∧Hid (Ext w wr)) (fun _ i _=>n-(intOf i).toNat)
 case atStart=>exact ⟨0,Nat.zero_le _,rfl,rfl,Lib.hid (fun f hf=>by simp at hf),Lib.hid (Ext.refl w)⟩
 case round=>
  obtain ⟨k,hk,rfl,rfl,HOK,HX⟩:=hrel
  obtain ⟨wo,rfl⟩:∃ wo:World,wo=wr:=⟨_,rfl⟩
  by_cases hlt:k<n
  ·have hkl:k<xs.length:=by rw [HN.out];exact hlt
   obtain ⟨hin,ad,rfl,hq⟩:=(HF.out.ext HX.out).f12 k hkl
   have hz:=HZ.out _ (List.getElem_mem hkl)
   have HNO:=Lib.hid (show xs[k].fct.ok=false→(xs.all fun x=>x.fct.ok)=false from fun h=>by
    rw [List.all_eq_false]
    exact ⟨xs[k],List.getElem_mem hkl,by rw [h];decide⟩)
   have HTK:=Lib.hid (show (xs.map FV.fct).take (k+1)=(xs.map FV.fct).take k++[xs[k].fct] by
    rw [List.take_succ_eq_append_getElem (by rw [List.length_map];exact hkl),List.getElem_map])
   have HLL:=Lib.hid (show (logT ((xs.map FV.fct).take k)).length≤1201*k by
    have h1:=log_len _ HOK.out
    have h2:((xs.map FV.fct).take k).length≤k:=by rw [List.length_take];omega
    omega)
   generalize xs[k]=f at *
   have HV:=Lib.hid (RFValid_at f wo hin hz)
   have HQ0:=Lib.hid hq
   have HIN:=Lib.hid hin
   obtain ⟨u0,u1,u2,u3,u4,u5,u6,u7,u8,u9,u10,u11⟩:=hq.cells
   unfold FV.val at HV
   clear hin hq hkl
   cases hok:f.fct.ok with
   | false=>
    rw [hok] at HV
    have HAL:=Lib.hid (HNO.out hok)
    generalize logT ((xs.map FV.fct).take k)=L at *
    clear hok
    go_wp2_with fail
    refine HV.out.mono ?_
    rintro _ w2 ⟨rfl,hx2⟩
    have HX2:=Lib.hid (HX.out.trans hx2)
    clear hx2 u0 u1 u2 u3 u4 u5 u6 u7 u8 u9 u10 u11
    go_wp2_with fail
    go_ret2
    exact ⟨by rw [HAL.out];rfl,HX2.out⟩
   | true=>
    rw [hok] at HV
    have HO:=Lib.hid ((Fct.ok_iff _).1 hok)
    have HT0:=Lib.hid (fun W (hW:Ext wo W)=>RFText_at f W (HIN.out.ext hW) hz HO.out)
    unfold FV.val at HT0
    have HLS:=Lib.hid (show logT ((xs.map FV.fct).take (k+1))=(logT ((xs.map FV.fct).take k)++f.fct.txt)++[10] by rw [HTK.out,logT_snoc,List.append_assoc])
    have HOK2:=Lib.hid (show ∀ g∈(xs.map FV.fct).take (k+1),g.Ok from fun g hg=>by
     rw [HTK.out] at hg
     rcases List.mem_append.1 hg with hg | hg
     ·exact HOK.out g hg
     ·rw [List.mem_singleton] at hg;subst hg;exact HO.out)
    have HLT:=Lib.hid (show (logT ((xs.map FV.fct).take k)).length≤1201000∧f.fct.txt.length≤1200 from ⟨by have:=HLL.out;omega,txt_len HO.out⟩)
    obtain ⟨L,hL⟩:∃ L,logT ((xs.map FV.fct).take k)=L:=⟨_,rfl⟩
    obtain ⟨TX,hTX⟩:∃ L,f.fct.txt=L:=⟨_,rfl⟩
    rw [hL] at HLS HLT ⊢
    rw [hTX] at HT0 HLS HLT
    clear hok hL hTX HLL
    go_wp2_with fail
    refine HV.out.mono ?_
    rintro _ w2 ⟨rfl,hx2⟩
    have HX2:=Lib.hid (HX.out.trans hx2)
    have HQ:=Lib.hid (HQ0.out.ext hx2)
    have HT:=Lib.hid (fun W (hW:Ext w2 W)=>HT0.out W (hx2.trans hW))
    clear hx2 u0 u1 u2 u3 u4 u5 u6 u7 u8 u9 u10 u11 HT0
    go_upto_region 7 with fail
    refine wp_region_ext (fun i v' w'=>match i with | 5=>v'=.string ⟨TX.toArray⟩ | 7=>∃ g,v'=.slice (some ⟨g,0,none⟩) 1 1∧BS w' (.slice (some ⟨g,0,none⟩) 1 1) [10] | _=>False) (by kernel_rfl) (by kernel_rfl) ?_
    refine wpE_op rfl rfl (fun w' hw' K' hK'=>?_)
    have hE:=hw'.1
    go_step
    refine hK' _ ⟨_,rfl⟩ ?_
    clear hK' K' hE hw' w'
    refine wpE_op rfl rfl (fun w' hw' K' hK'=>?_)
    have hE:=hw'.1
    go_step
    refine hK' _ ⟨_,rfl⟩ ?_
    clear hK' K' hE hw' w'
    refine wpE_op rfl rfl (fun w' hw' K' hK'=>?_)
    have hE:=hw'.1
    go_step
    refine hK' _ ⟨_,rfl⟩ ?_
    clear hK' K' hE hw' w'
    refine wpE_op rfl rfl (fun w' hw' K' hK'=>?_)
    have hE:=hw'.1
    go_step
    refine hK' _ ⟨_,rfl⟩ ?_
    clear hK' K' hE hw' w'
    refine wpE_op rfl rfl (fun w' hw' K' hK'=>?_)
    have hE:=hw'.1
    obtain ⟨u0,u1,u2,u3,u4,u5,u6,u7,u8,u9,u10,u11⟩:=(HQ.out.ext ((Ext.drew w2).trans hE)).cells
    go_step
    refine hK' _ ⟨_,rfl⟩ ?_
    clear hK' K' u0 u1 u2 u3 u4 u5 u6 u7 u8 u9 u10 u11 hE hw' w'
    refine wpE_call 23 rfl (by simp) rfl (fun w' hw' K' hK'=>?_) ?_
    ·have hE:=hw'.1
     go_step
     refine (HT.out w' ((Ext.drew _).trans hE)).mono ?_
     rintro _ w2 ⟨rfl,hx⟩
     exact hK' _ _ ⟨_,rfl,rfl⟩ hx
    rintro _ w6 _ rfl
    simp only [Act.put,sT1,sT2,sT3]
    refine wpE_cat L TX rfl rfl rfl rfl (by have:=HLT.out;simp;omega) ?_
    simp only [Act.put,sT1,sT2,sT3]
    refine wpE_call 25 rfl (by simp) rfl (fun w' hw' K' hK'=>?_) ?_
    ·have hE:=hw'.1
     go_step
     exact hK' _ _ ⟨_,rfl,_,rfl,BS.new' w' _ [.int .u8 10] [10] rfl 1 rfl (by unfold maxLen;decide)⟩ ((Ext.refl w').alloc _)
    rintro _ w25 hE25 ⟨g25,rfl,hbs25⟩
    simp only [Act.put,sT1,sT2,sT3]
    refine wpE_op rfl rfl (fun w' hw' K' hK'=>?_)
    have hE:=hw'.1
    have hcv:=run_str (P:=Tryz.prog) w' 32 9 5 _ [10] Tryz.underlying32 Tryz.underlying5 Tryz.underlying9 (hbs25.ext (hw'.2 25 w25 (by simp [adds]) (by decide)))
    go_step
    refine hK' _ ⟨_,rfl⟩ ?_
    clear hK' K' hcv hE hw' w'
    refine wpE_cat (L++TX) [10] rfl rfl rfl rfl (by have:=HLT.out;simp;omega) ?_
    simp only [Act.put,sT1,sT2,sT3]
    refine wpE_op rfl rfl (fun w' hw' K' hK'=>?_)
    have hE:=hw'.1
    go_step
    refine hK' _ ⟨_,rfl⟩ ?_
    clear hK' K' hE hw' w'
    refine wpE_nil (fun W hW=>?_)
    have HXW:=Lib.hid (HX2.out.trans ((Ext.drew _).trans hW.1))
    clear hW
    go_wp2_with fail
    go_roundw
    case rel=>exact ⟨k+1,by omega,by go_num,by rw [HLS.out],HOK2,HXW⟩
    case measure=>simp [intOf];omega
  ·obtain rfl:k=n:=by omega
   have HAL:=Lib.hid (show logR (xs.map FV.fct) (xs.all fun x=>x.fct.ok)=.tuple #[.string ⟨(logT ((xs.map FV.fct).take k)).toArray⟩,.int .i64 0] by
    have h1:(xs.map FV.fct).take k=xs.map FV.fct:=List.take_of_length_le (by rw [List.length_map,HN.out];exact Nat.le_refl _)
    have h2:=HOK.out
    rw [h1] at h2 ⊢
    rw [all_ok.2 h2]
    rfl)
   generalize logT ((xs.map FV.fct).take k)=L at *
   go_wp2_with fail
   go_ret2
   exact ⟨by rw [HAL.out];rfl,HX.out⟩
set_option maxRecDepth 100000 in
set_option maxHeartbeats 2000000 in
theorem RParseLog_at (s:ByteArray) (hs:s.size≤3000) (w:World) (hE:EnvA w):
  Calls Tryz.prog 29 #[.string s] w fun e w'=>PLg w.heap.size s.data.toList e w'∧Ext w w':=by
 obtain ⟨i0,hi,iz0,iz1,iz2⟩:=fact_info
 have HE:=Lib.hid hE
 have HS1:=Lib.hid (RSplit_at s hs 10 w)
 clear hE
 go_enter Tryz.func29,Tryz.ntmps29
 go_wp2_with fail
 refine HS1.out.mono ?_
 rintro _ w1 ⟨⟨v1,ws,rfl,hr1,hd1⟩,hx1⟩
 have HX1:=Lib.hid hx1;have HD1:=Lib.hid hd1
 have HWZ:=Lib.hid (word_sizes hs hd1)
 have hn1:0<ws.length:=by
  rcases Nat.eq_zero_or_pos ws.length with h | h
  ·have h2:=congrArg List.length hd1
   rw [dat_length,h] at h2
   exact absurd (List.eq_nil_of_length_eq_zero h2.symm) (splb_ne 10 _ _)
  ·exact h
 obtain ⟨g1,c1,rfl,hw1⟩:=hr1.words hn1
 have HW1:=Lib.hid hw1
 obtain ⟨m,hm⟩:∃ m,ws.length=m:=⟨_,rfl⟩
 have HM:=Lib.hid hm
 have hlm:m≤3001:=by
  have h1:=congrArg List.length hd1
  rw [dat_length,hm] at h1
  have h2:=spR_len 10 s.data.toList []
  have h3:s.data.toList.length=s.size:=by rw [Array.length_toList];rfl
  omega
 have hm0:0<m:=by omega
 rw [hm]
 clear hx1 hd1 hr1 hn1 hw1 HS1 hm
 go_wp2_with fail
 go_loopw [6,7,8,9] (fun o i _ _ wr=>∃ (k:Nat) (fs:List FV) (A:Option Addr) (c:Nat),k≤m∧i=.int .i64 k∧o=.slice A fs.length c∧Hid (fs.length=k)∧Hid (ROW EF 41 wr w1.heap.size (.slice A fs.length c) fs)∧Hid (∀ f∈fs,f.Sz)∧Hid (plogF (splb 10 [] s.data.toList) []=plogF ((dat ws).drop k) (fs.map FV.fct))∧Hid (Ext w1 wr)) (fun _ i _ _ _=>m-(intOf i).toNat)
 case atStart=>exact ⟨0,[],none,0,Nat.zero_le _,rfl,rfl,Lib.hid rfl,Lib.hid (ROW.nil _ _ _),Lib.hid (fun f hf=>by cases hf),Lib.hid (by rw [List.drop_zero,HD1.out];rfl),Lib.hid (Ext.refl w1)⟩
 case round=>
  obtain ⟨k,fs,A,c,hk,rfl,rfl,HFL,HR,HSZ,HPL,HX⟩:=hrel
  obtain ⟨wo,rfl⟩:∃ wo:World,wo=wr:=⟨_,rfl⟩
  have hkw:wrap64 ((k:Int)+1)=(k:Int)+1:=IntWalk.wrap64_in _ (by omega)
  have hmw:wrap64 ((m:Int)-1)=(m:Int)-1:=IntWalk.wrap64_in _ (by omega)
  by_cases hlt:k<m
  ·have hkl:k<ws.length:=by rw [HM.out];exact hlt
   have HDR:=Lib.hid (show (dat ws).drop k=ws[k].data.toList::(dat ws).drop (k+1) by
    rw [List.drop_eq_getElem_cons (by rw [dat_length];exact hkl)]
    simp [dat])
   have hck:=HX.out.cell (HW1.out k hkl)
   have HSK:=Lib.hid (HWZ.out _ (List.getElem_mem hkl))
   generalize ws[k]=p at *
   by_cases hlast:k+1=m
   ·have e1:((k:Int)==(m:Int)-1)=true:=by rw [beq_iff_eq];omega
    have HDE:=Lib.hid (show (dat ws).drop (k+1)=[] from List.drop_eq_nil_of_le (by rw [dat_length,HM.out];omega))
    by_cases hp:p.data.toList=[]
    ·have e2:(p.toList==[])=true:=by rw [ByteArray.toList_eq,hp];rfl
     have HFIN:=Lib.hid (show plogF (splb 10 [] s.data.toList) []=(fs.map FV.fct,0,0) by rw [HPL.out,HDR.out,HDE.out,plog_one,if_pos hp])
     clear hp
     go_wp2_with fail
     go_ret3
     exact ⟨.inl ⟨_,fs,rfl,HR.out.down HX1.out.size,HSZ.out,HFIN.out⟩,HX1.out.trans HX.out⟩
    ·have e2:(p.toList==[])=false:=by rw [ByteArray.toList_eq,beq_eq_false_iff_ne];exact hp
     have HFIN:=Lib.hid (show plogF (splb 10 [] s.data.toList) []=([],k+1,6) by rw [HPL.out,HDR.out,HDE.out,plog_one,if_neg hp,List.length_map,HFL.out])
     clear hp
     go_wp2_with fail
     go_ret3
     exact ⟨.inr ⟨k+1,rfl,HFIN.out⟩,HX1.out.trans HX.out⟩
   ·have e1:((k:Int)==(m:Int)-1)=false:=by rw [beq_eq_false_iff_ne];omega
    have HDE:=Lib.hid (show ∃ y r,(dat ws).drop (k+1)=y::r from by
     rw [List.drop_eq_getElem_cons (by rw [dat_length,HM.out];omega)]
     exact ⟨_,_,rfl⟩)
    have HPR:=Lib.hid (RFParse_at2 p HSK.out wo (HE.out.ext (HX1.out.trans HX.out)))
    go_wp2_with fail
    refine HPR.out.mono ?_
    rintro _ w3 ⟨⟨f,hok,htx,rfl,hin,hsz,hs2,hs3⟩ | ⟨hno,rfl⟩,hx3⟩
    ·have HX3:=Lib.hid (HX.out.trans hx3)
     have HR3:=Lib.hid (HR.out.ext hx3)
     have HPF:=Lib.hid (show prsF p.data.toList=some f.fct from (prsF_spec _).uniq (.inl ⟨_,rfl,hok,htx⟩))
     have HPL2:=Lib.hid (show plogF (splb 10 [] s.data.toList) []=plogF ((dat ws).drop (k+1)) ((fs++[f]).map FV.fct) by
      obtain ⟨y,r,e⟩:=HDE.out
      rw [HPL.out,HDR.out,e,plog_some HPF.out,List.map_append]
      rfl)
     have HSF:=Lib.hid hsz;have HIF:=Lib.hid hin;have HS2:=Lib.hid hs2;have HS3:=Lib.hid hs3
     have zZ:=heap_alloc_new w3 (.cells #[.int .i64 0,.int .i64 0,.int .i64 0,.int .i64 0,.slice none 0 0,.slice none 0 0,.string ⟨#[]⟩,.slice none 0 0,.string ⟨#[]⟩,.int .i64 0,.int .i64 0,.int .u32 0] 41)
     have xZ:=(Ext.refl w3).alloc (.cells #[.int .i64 0,.int .i64 0,.int .i64 0,.int .i64 0,.slice none 0 0,.slice none 0 0,.string ⟨#[]⟩,.slice none 0 0,.string ⟨#[]⟩,.int .i64 0,.int .i64 0,.int .u32 0] 41)
     obtain ⟨WZ,eZ⟩:∃ W,w3.alloc (.cells #[.int .i64 0,.int .i64 0,.int .i64 0,.int .i64 0,.slice none 0 0,.slice none 0 0,.string ⟨#[]⟩,.slice none 0 0,.string ⟨#[]⟩,.int .i64 0,.int .i64 0,.int .u32 0] 41)=W:=⟨_,rfl⟩
     rw [eZ] at zZ xZ
     unfold FV.val
     clear hok htx hin hsz hs2 hs3 hx3 hck
     go_upto_if 39 with (first
      | (refine wpList_store_var WZ rfl (.tmp 8) (.tmp 36) 41 rfl w3.heap.size 41 #[.int .i64 0,.int .i64 0,.int .i64 0,.int .i64 0,.slice none 0 0,.slice none 0 0,.string ⟨#[]⟩,.slice none 0 0,.string ⟨#[]⟩,.int .i64 0,.int .i64 0,.int .u32 0] #[.int .i64 f.t,.int .i64 f.mi,.int .i64 f.kd,.int .i64 f.fk,.slice f.FA f.fb.length f.fc,.slice f.CA f.cp.length f.cc,.string f.cr,.slice f.SA f.sp.length f.sc,.string f.sr,.int .i64 f.co,.int .i64 f.pr,.int .u32 (f.fl.toNat:Int)] rfl rfl (Tryz.sizeOf41 WZ) zZ rfl (one8 rfl) ?_;intro WC b3 hg3)
      | fail)
     have x3:Ext w3 WC:=Below.grown xZ hg3 xZ.size (fun j hj=>by cases hj;exact Nat.le_refl _)
     have HBX:=Lib.hid (show FQ WC w3.heap.size f from b3)
     have HRC:=Lib.hid (HR3.out.ext x3);have HXC:=Lib.hid (HX3.out.trans x3)
     have HFI:=Lib.hid (HIF.out.ext x3)
     have HFB:=Lib.hid (show ∀ b,(Value.slice A fs.length c).ownBlock=some b→¬ f.Blk b from fun b hb hB=>by
      have key:∀ AA:Option Addr,STB w3 AA→∀ ad,AA=some ad→ad.block≠b:=fun AA hst ad hA e=>by
       obtain ⟨cs,e1⟩:=hst ad hA
       rcases HR3.out.2.1.2 with ⟨h0,_⟩ | ⟨g,cap,cur,hv,_,hg,_⟩
       ·rw [h0] at hb;cases hb
       ·rw [hv] at hb
        injection hb with hb
        subst hb
        rw [e,hg] at e1
        injection e1 with e1
        injection e1 with _ e1 _
        exact absurd e1 (by decide)
      rcases hB with ⟨_,ad,hA,e⟩ | ⟨_,ad,hA,e⟩
      ·exact key _ HS2.out ad hA e
      ·exact key _ HS3.out ad hA e)
     obtain ⟨v0,v1,v2,v3,v4,v5,v6,v7,v8,v9,v10,v11⟩:=HBX.out.cells
     have hb5:=FBx.new WC f
     have hx5:=(Ext.refl WC).alloc (.cells #[.int .i64 f.t,.int .i64 f.mi,.int .i64 f.kd,.int .i64 f.fk,.slice f.FA f.fb.length f.fc,.slice f.CA f.cp.length f.cc,.string f.cr,.slice f.SA f.sp.length f.sc,.string f.sr,.int .i64 f.co,.int .i64 f.pr,.int .u32 (f.fl.toNat:Int)] 41)
     obtain ⟨W5,e5⟩:∃ W5,WC.alloc (.cells #[.int .i64 f.t,.int .i64 f.mi,.int .i64 f.kd,.int .i64 f.fk,.slice f.FA f.fb.length f.fc,.slice f.CA f.cp.length f.cc,.string f.cr,.slice f.SA f.sp.length f.sc,.string f.sr,.int .i64 f.co,.int .i64 f.pr,.int .u32 (f.fl.toNat:Int)] 41)=W5:=⟨_,rfl⟩
     rw [e5] at hb5 hx5
     have HB5:=Lib.hid hb5;have HR5:=Lib.hid (HRC.out.ext hx5);have HX5:=Lib.hid (HXC.out.trans hx5)
     have HYS:=Lib.hid (show ∀ y∈[f],EF.In W5 y∧∀ b,(Value.slice A fs.length c).ownBlock=some b→¬ EF.Blk y b from fun y hy=>by rw [List.mem_singleton] at hy;subst hy;exact ⟨HFI.out.ext hx5,HFB.out⟩)
     have HBY:=Lib.hid (show (fs.length + [f].length)*160≤140737488355328 by have:=HFL.out;simp;omega)
     have HBS:=Lib.hid (show w1.heap.size≤W5.heap.size from HX5.out.size)
     clear hb5 hx5 zZ xZ eZ hg3 b3 x3
     go_wp2_with (at_builtin;refine wpList_append_row (E:=EF) W5 rfl (.tmp 42) (.tmp 44) 22 rfl w1.heap.size 41 i0 factZ 160 Tryz.underlying22 hi iz0 iz1 iz2 fact_zs fact_zn' _ fs rfl HR5.out ⟨WC.heap.size,0,none⟩ 1 [f] rfl (by show 0<1;decide) HB5.out.news HYS.out HBY.out (by decide) HBS.out ?_;intro v6' w6 hown6 hg6 ho6;obtain ⟨A6,cc6,rfl⟩:=hown6.shape;have HX6:=Lib.hid (show Ext w1 w6 from Below.grown HX5.out hg6 HX5.out.size (fun j hj=>(HR5.out.lt j hj).1));have HO6:=Lib.hid hown6;clear hown6 hg6 ho6)
     go_roundw
     case rel=>exact ⟨k+1,fs++[f],A6,cc6,by omega,by go_num,by rw [List.length_append];rfl,Lib.hid (by rw [List.length_append,HFL.out];rfl),HO6,Lib.hid (fun x hx=>by rcases List.mem_append.1 hx with hx | hx;exact HSZ.out x hx;rw [List.mem_singleton] at hx;subst hx;exact HSF.out),HPL2,HX6⟩
     case measure=>simp [intOf];omega
    ·have HX3:=Lib.hid (HX.out.trans hx3)
     have HPF:=Lib.hid (show prsF p.data.toList=none from (prsF_spec _).uniq (.inr ⟨rfl,hno⟩))
     have HFIN:=Lib.hid (show plogF (splb 10 [] s.data.toList) []=([],k+1,6) by
      obtain ⟨y,r,e⟩:=HDE.out
      rw [HPL.out,HDR.out,e,plog_none HPF.out,List.length_map,HFL.out])
     obtain ⟨f,hf0⟩:∃ f,fv0=f:=⟨_,rfl⟩
     have zZ:=heap_alloc_new w3 (.cells #[.int .i64 0,.int .i64 0,.int .i64 0,.int .i64 0,.slice none 0 0,.slice none 0 0,.string ⟨#[]⟩,.slice none 0 0,.string ⟨#[]⟩,.int .i64 0,.int .i64 0,.int .u32 0] 41)
     have xZ:=(Ext.refl w3).alloc (.cells #[.int .i64 0,.int .i64 0,.int .i64 0,.int .i64 0,.slice none 0 0,.slice none 0 0,.string ⟨#[]⟩,.slice none 0 0,.string ⟨#[]⟩,.int .i64 0,.int .i64 0,.int .u32 0] 41)
     obtain ⟨WZ,eZ⟩:∃ W,w3.alloc (.cells #[.int .i64 0,.int .i64 0,.int .i64 0,.int .i64 0,.slice none 0 0,.slice none 0 0,.string ⟨#[]⟩,.slice none 0 0,.string ⟨#[]⟩,.int .i64 0,.int .i64 0,.int .u32 0] 41)=W:=⟨_,rfl⟩
     rw [eZ] at zZ xZ
     rw [hf0]
     unfold FV.val
     clear hno hx3 hck hf0
     go_upto_if 39 with (first
      | (refine wpList_store_var WZ rfl (.tmp 8) (.tmp 36) 41 rfl w3.heap.size 41 #[.int .i64 0,.int .i64 0,.int .i64 0,.int .i64 0,.slice none 0 0,.slice none 0 0,.string ⟨#[]⟩,.slice none 0 0,.string ⟨#[]⟩,.int .i64 0,.int .i64 0,.int .u32 0] #[.int .i64 f.t,.int .i64 f.mi,.int .i64 f.kd,.int .i64 f.fk,.slice f.FA f.fb.length f.fc,.slice f.CA f.cp.length f.cc,.string f.cr,.slice f.SA f.sp.length f.sc,.string f.sr,.int .i64 f.co,.int .i64 f.pr,.int .u32 (f.fl.toNat:Int)] rfl rfl (Tryz.sizeOf41 WZ) zZ rfl (one8 rfl) ?_;intro WC b3 hg3)
      | fail)
     have x3:Ext w3 WC:=Below.grown xZ hg3 xZ.size (fun j hj=>by cases hj;exact Nat.le_refl _)
     have HXC:=Lib.hid (HX1.out.trans (HX3.out.trans x3))
     clear zZ xZ eZ hg3 b3 x3
     go_wp2_with fail
     go_ret3
     exact ⟨.inr ⟨k+1,rfl,HFIN.out⟩,HXC.out⟩
  ·obtain rfl:k=m:=by omega
   have HFIN:=Lib.hid (show plogF (splb 10 [] s.data.toList) []=(fs.map FV.fct,0,0) by
    rw [HPL.out,List.drop_eq_nil_of_le (by rw [dat_length,HM.out];exact Nat.le_refl _),plogF])
   go_wp2_with fail
   go_ret3
   exact ⟨.inl ⟨_,fs,rfl,HR.out.down HX1.out.size,HSZ.out,HFIN.out⟩,HX1.out.trans HX.out⟩
end Go.Proofs.YtnjmndofcpnmeaaGreatDoor
