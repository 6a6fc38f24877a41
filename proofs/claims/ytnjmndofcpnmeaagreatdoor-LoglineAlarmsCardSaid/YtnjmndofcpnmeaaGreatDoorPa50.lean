/- Pa50. -/
import Derived.Test.YtnjmndofcpnmeaaGreatDoorPa0
import Derived.Test.YtnjmndofcpnmeaaGreatDoorPa47
import Derived.Test.YtnjmndofcpnmeaaGreatDoorPa48
import Derived.Test.YtnjmndofcpnmeaaGreatDoorPa49
import Derived.Test.YtnjmndofcpnmeaaGreatDoorPa36
import Derived.Test.YtnjmndofcpnmeaaGreatDoorPa19
import Derived.Deep.DeepCutAuto
import Derived.Deep.CutBlock
import Derived.Test.YtnjmndofcpnmeaaGreatDoorPa39
import Derived.OwnWalk
namespace Go.Proofs.YtnjmndofcpnmeaaGreatDoor
open Go Go.RowKit
set_option linter.unusedVariables false
theorem ROW.box {w:World}{B g c:Nat}{ws:List ByteArray}(h:ROW ES 9 w B (.slice (some ⟨g,0,none⟩) ws.length c) ws):∃ cs,RW w g 9 cs∧∀ i (hi:i<ws.length),cs[i]? = some (.string ws[i]):=by
 obtain ⟨_,⟨_,h2⟩,_⟩:=h
 rcases h2 with ⟨h0,_⟩ | ⟨g',cap,cur,hv,_,hg,_,_,_,hx⟩
 ·cases h0
 ·injection hv with e1 _ _
  injection e1 with e1
  injection e1 with e1 _ _
  subst e1
  refine ⟨cur,hg,fun i hi=>?_⟩
  have:(ES.all ws)[i]? = some (.string ws[i]):=by rw [ES.all_eq];exact sv_get ws i hi
  rw [← hx,List.getElem?_take_of_lt (by show i<ws.length*1;omega)] at this
  rw [← this];simp
set_option maxRecDepth 100000 in
set_option maxHeartbeats 2000000 in
theorem RLog_at (A:Option Addr) (c:Nat) (xs:List FV) (w:World) (hF:FS w (.slice A xs.length c) xs) (hn:xs.length≤1000) (hz:∀ x∈xs,x.Sz):
  Calls Tryz.prog 28 #[.slice A xs.length c] w fun e w'=>e=.returned (logR (xs.map FV.fct) (xs.all fun x=>x.fct.ok))∧Ext w w':=by
 have HF:=Lib.hid hF;have HZ:=Lib.hid hz
 obtain ⟨n,hn'⟩:∃ n,xs.length=n:=⟨_,rfl⟩
 have HN:=Lib.hid hn'
 rw [hn'] at hn ⊢ HF
 clear hF hz hn'
 go_enter Tryz.func28,Tryz.ntmps28
 go_wp2_with fail
 go_loopw [4,5] (fun s i wr=>∃ k:Nat,k≤n∧i=.int .i64 k∧s=.string ⟨(logT ((xs.map FV.fct).take k)).toArray⟩∧Hid (∀ f∈(xs.map FV.fct).take k,f.Ok)∧Hid (Ext w wr)) (fun _ i _=>n-(intOf i).toNat)
 case atStart=>exact ⟨0,Nat.zero_le _,rfl,rfl,Lib.hid (fun f hf=>by simp at hf),Lib.hid (Ext.refl w)⟩
 case round=>
  obtain ⟨k,hk,rfl,rfl,HOK,HX⟩:=hrel
  obtain ⟨wo,rfl⟩:∃ wo:World,wo=wr:=⟨_,rfl⟩
  by_cases hlt:k<n
  ·have hkl:k<xs.length:=by rw [HN.out];exact hlt
   obtain ⟨hin,ad,rfl,hq⟩:=(HF.out.ext HX.out).f12 k hkl
   have hz:=HZ.out _ (List.getElem_mem hkl)
   have HNO:=Lib.hid (show xs[k].fct.ok=false→(xs.all fun x=>x.fct.ok)=false from fun h=>by
    rw [List.all_eq_false]
    exact ⟨xs[k],List.getElem_mem hkl,by rw [h];decide⟩)
   have HTK:=Lib.hid (show (xs.map FV.fct).take (k+1)=(xs.map FV.fct).take k++[xs[k].fct] by
    rw [List.take_succ_eq_append_getElem (by rw [List.length_map];exact hkl),List.getElem_map])
   have HLL:=Lib.hid (show (logT ((xs.map FV.fct).take k)).length≤1201*k by
    have h1:=log_len _ HOK.out
    have h2:((xs.map FV.fct).take k).length≤k:=by rw [List.length_take];omega
    omega)
   generalize xs[k]=f at *
   have HV:=Lib.hid (RFValid_at f wo hin hz)
   have HQ0:=Lib.hid hq
   have HIN:=Lib.hid hin
   obtain ⟨u0,u1,u2,u3,u4,u5,u6,u7,u8,u9,u10,u11⟩:=hq.cells
   unfold FV.val at HV
   clear hin hq hkl
   cases hok:f.fct.ok with
   | false=>
    rw [hok] at HV
    have HAL:=Lib.hid (HNO.out hok)
    generalize logT ((xs.map FV.fct).take k)=L at *
    clear hok
    go_wp2_with fail
    refine HV.out.mono ?_
    rintro _ w2 ⟨rfl,hx2⟩
    have HX2:=Lib.hid (HX.out.trans hx2)
    clear hx2 u0 u1 u2 u3 u4 u5 u6 u7 u8 u9 u10 u11
    go_wp2_with fail
    go_ret2
    exact ⟨by rw [HAL.out];rfl,HX2.out⟩
   | true=>
    rw [hok] at HV
    have HO:=Lib.hid ((Fct.ok_iff _).1 hok)
    have HT0:=Lib.hid (fun W (hW:Ext wo W)=>RFText_at f W (HIN.out.ext hW) hz HO.out)
    unfold FV.val at HT0
    have HLS:=Lib.hid (show logT ((xs.map FV.fct).take (k+1))=(logT ((xs.map FV.fct).take k)++f.fct.txt)++[10] by rw [HTK.out,logT_snoc,List.append_assoc])
    have HOK2:=Lib.hid (show ∀ g∈(xs.map FV.fct).take (k+1),g.Ok from fun g hg=>by
     rw [HTK.out] at hg
     rcases List.mem_append.1 hg with hg | hg
     ·exact HOK.out g hg
     ·rw [List.mem_singleton] at hg;subst hg;exact HO.out)
    have HLT:=Lib.hid (show (logT ((xs.map FV.fct).take k)).length≤1201000∧f.fct.txt.length≤1200 from ⟨by have:=HLL.out;omega,txt_len HO.out⟩)
    obtain ⟨L,hL⟩:∃ L,logT ((xs.map FV.fct).take k)=L:=⟨_,rfl⟩
    obtain ⟨TX,hTX⟩:∃ L,f.fct.txt=L:=⟨_,rfl⟩
    rw [hL] at HLS HLT ⊢
    rw [hTX] at HT0 HLS HLT
    clear hok hL hTX HLL
    go_wp2_with fail
    refine HV.out.mono ?_
    rintro _ w2 ⟨rfl,hx2⟩
    have HX2:=Lib.hid (HX.out.trans hx2)
    have HQ:=Lib.hid (HQ0.out.ext hx2)
    have HT:=Lib.hid (fun W (hW:Ext w2 W)=>HT0.out W (hx2.trans hW))
    clear hx2 u0 u1 u2 u3 u4 u5 u6 u7 u8 u9 u10 u11 HT0
    go_upto_region 7 with fail
    refine wp_region_ext (fun i v' w'=>match i with | 5=>v'=.string ⟨TX.toArray⟩ | 7=>∃ g,v'=.slice (some ⟨g,0,none⟩) 1 1∧BS w' (.slice (some ⟨g,0,none⟩) 1 1) [10] | _=>False) (by kernel_rfl) (by kernel_rfl) ?_
    refine wpE_op rfl rfl (fun w' hw' K' hK'=>?_)
    have hE:=hw'.1
    go_step
    refine hK' _ ⟨_,rfl⟩ ?_
    clear hK' K' hE hw' w'
    refine wpE_op rfl rfl (fun w' hw' K' hK'=>?_)
    have hE:=hw'.1
    go_step
    refine hK' _ ⟨_,rfl⟩ ?_
    clear hK' K' hE hw' w'
    refine wpE_op rfl rfl (fun w' hw' K' hK'=>?_)
    have hE:=hw'.1
    go_step
    refine hK' _ ⟨_,rfl⟩ ?_
    clear hK' K' hE hw' w'
    refine wpE_op rfl rfl (fun w' hw' K' hK'=>?_)
    have hE:=hw'.1
    go_step
    refine hK' _ ⟨_,rfl⟩ ?_
    clear hK' K' hE hw' w'
    refine wpE_op rfl rfl (fun w' hw' K' hK'=>?_)
    have hE:=hw'.1
    obtain ⟨u0,u1,u2,u3,u4,u5,u6,u7,u8,u9,u10,u11⟩:=(HQ.out.ext ((Ext.drew w2).trans hE)).cells
    go_step
    refine hK' _ ⟨_,rfl⟩ ?_
    clear hK' K' u0 u1 u2 u3 u4 u5 u6 u7 u8 u9 u10 u11 hE hw' w'
    refine wpE_call 23 rfl (by simp) rfl (fun w' hw' K' hK'=>?_) ?_
    ·have hE:=hw'.1
     go_step
     refine (HT.out w' ((Ext.drew _).trans hE)).mono ?_
     rintro _ w2 ⟨rfl,hx⟩
     exact hK' _ _ ⟨_,rfl,rfl⟩ hx
    rintro _ w6 _ rfl
    simp only [Act.put,sT1,sT2,sT3]
    refine wpE_cat L TX rfl rfl rfl rfl (by have:=HLT.out;simp;omega) ?_
    simp only [Act.put,sT1,sT2,sT3]
    refine wpE_call 25 rfl (by simp) rfl (fun w' hw' K' hK'=>?_) ?_
    ·have hE:=hw'.1
     go_step
     exact hK' _ _ ⟨_,rfl,_,rfl,BS.new' w' _ [.int .u8 10] [10] rfl 1 rfl (by unfold maxLen;decide)⟩ ((Ext.refl w').alloc _)
    rintro _ w25 hE25 ⟨g25,rfl,hbs25⟩
    simp only [Act.put,sT1,sT2,sT3]
    refine wpE_op rfl rfl (fun w' hw' K' hK'=>?_)
    have hE:=hw'.1
    have hcv:=run_str (P:=Tryz.prog) w' 32 9 5 _ [10] Tryz.underlying32 Tryz.underlying5 Tryz.underlying9 (hbs25.ext (hw'.2 25 w25 (by simp [adds]) (by decide)))
    go_step
    refine hK' _ ⟨_,rfl⟩ ?_
    clear hK' K' hcv hE hw' w'
    refine wpE_cat (L++TX) [10] rfl rfl rfl rfl (by have:=HLT.out;simp;omega) ?_
    simp only [Act.put,sT1,sT2,sT3]
    refine wpE_op rfl rfl (fun w' hw' K' hK'=>?_)
    have hE:=hw'.1
    go_step
    refine hK' _ ⟨_,rfl⟩ ?_
    clear hK' K' hE hw' w'
    refine wpE_nil (fun W hW=>?_)
    have HXW:=Lib.hid (HX2.out.trans ((Ext.drew _).trans hW.1))
    clear hW
    go_wp2_with fail
    go_roundw
    case rel=>exact ⟨k+1,by omega,by go_num,by rw [HLS.out],HOK2,HXW⟩
    case measure=>simp [intOf];omega
  ·obtain rfl:k=n:=by omega
   have HAL:=Lib.hid (show logR (xs.map FV.fct) (xs.all fun x=>x.fct.ok)=.tuple #[.string ⟨(logT ((xs.map FV.fct).take k)).toArray⟩,.int .i64 0] by
    have h1:(xs.map FV.fct).take k=xs.map FV.fct:=List.take_of_length_le (by rw [List.length_map,HN.out];exact Nat.le_refl _)
    have h2:=HOK.out
    rw [h1] at h2 ⊢
    rw [all_ok.2 h2]
    rfl)
   generalize logT ((xs.map FV.fct).take k)=L at *
   go_wp2_with fail
   go_ret2
   exact ⟨by rw [HAL.out];rfl,HX.out⟩
end Go.Proofs.YtnjmndofcpnmeaaGreatDoor
