/- Pa46. -/
import Derived.Test.YtnjmndofcpnmeaaGreatDoorPa40
import Derived.Test.YtnjmndofcpnmeaaGreatDoorPa23
import Derived.Test.YtnjmndofcpnmeaaGreatDoorPa7
import Derived.Test.YtnjmndofcpnmeaaGreatDoorPa17
import Derived.Test.YtnjmndofcpnmeaaGreatDoorPa5
import Derived.Test.YtnjmndofcpnmeaaGreatDoorPa21
import Derived.IntWalk
namespace Go.Proofs.YtnjmndofcpnmeaaGreatDoor
open Go Go.RowKit
set_option linter.unusedVariables false
theorem decB_len {n:Nat}(h:n≤2000000000000000):(Lib.decDigits n).length≤21:=by
 have:=Lib.itoa_length_le (n:Int) (by omega) (by omega)
 rwa [Lib.itoa_nonneg] at this
set_option maxRecDepth 100000 in
theorem RDecB_at (n:Nat) (h1:n≤2000000000000000) (w:World):
  Calls Tryz.prog 86 #[.int .i64 (n:Int)] w fun e w'=>e=.returned (.string ⟨(Lib.decDigits n).toArray⟩)∧Ext w w':=by
 induction n using Nat.strongRecOn generalizing w with
 | _ n ih=>
  by_cases hlt:n<10
  ·obtain ⟨d,hd⟩:∃ d,UInt8.ofNat (48+n)=d:=⟨_,rfl⟩
   have hdn:(d.toNat:Int)=48+(n:Int):=by rw [← hd,u8_dig _ (by omega)];omega
   have hcv:(convert 32 9 (.slice (some ⟨w.heap.size,0,none⟩) 1 1)).run Tryz.prog (w.alloc (.cells #[.int .u8 (48+(n:Int))] 5))=.ok (.string ⟨#[d]⟩) (w.alloc (.cells #[.int .u8 (48+(n:Int))] 5)):=
    run_str _ _ _ 5 _ [d] Tryz.underlying32 Tryz.underlying5 Tryz.underlying9 (OB.lit w 5 0 [.int .u8 (48+(n:Int))] [d] (by simp [bv,hdn]) 1 rfl (by simp [maxLen]) (by omega)).bs
   have hm:(48+(n:Int)) % 256=48+(n:Int):=by omega
   have HD:=Lib.hid (show Lib.decDigits n=[d] by rw [dec_lo _ hlt,hd])
   have hlt':(n:Int)<10:=by omega
   clear hd hdn ih hlt
   go_enter Tryz.func86,Tryz.ntmps86
   go_wp2_with fail
   go_ret
   refine ⟨?_,(Ext.refl w).alloc _⟩
   rw [HD.out];rfl
  ·have i1:=ih (n / 10) (by omega) (by omega) w
   have i2:=fun (W:World)=>ih (n % 10) (by omega) (by omega) W
   rw [show ((n / 10:Nat):Int)=(n:Int) / 10 by omega] at i1
   simp only [show ((n % 10:Nat):Int)=(n:Int) % 10 by omega] at i2
   have I1:=Lib.hid i1;have I2:=Lib.hid i2
   have HD:=Lib.hid (show Lib.decDigits n=Lib.decDigits (n / 10)++Lib.decDigits (n % 10) by rw [dec_hi _ (by omega),dec_lo (n % 10) (by omega)])
   have l1:(Lib.decDigits (n / 10)).length≤21:=decB_len (by omega)
   have l2:(Lib.decDigits (n % 10)).length≤21:=decB_len (by omega)
   have hlt':10≤(n:Int):=by omega
   clear ih i1 i2 hlt
   go_enter Tryz.func86,Tryz.ntmps86
   go_wp2_with fail
   refine I1.out.mono ?_
   rintro e w2 ⟨rfl,hx2⟩
   have HX2:=Lib.hid hx2;clear hx2
   go_wp2_with fail
   refine (I2.out w2).mono ?_
   rintro e w3 ⟨rfl,hx3⟩
   have HX3:=Lib.hid (HX2.out.trans hx3);clear hx3
   go_wp2_with fail
   go_ret
   refine ⟨?_,HX3.out⟩
   rw [HD.out,← baA_append];rfl
theorem conv_one (w:World)(d:UInt8)(x:Int)(h:(d.toNat:Int)=x):(convert 32 9 (.slice (some ⟨w.heap.size,0,none⟩) 1 1)).run Tryz.prog (w.alloc (.cells #[.int .u8 x] 5))=.ok (.string ⟨#[d]⟩) (w.alloc (.cells #[.int .u8 x] 5)):=
 run_str _ _ _ 5 _ [d] Tryz.underlying32 Tryz.underlying5 Tryz.underlying9 (OB.lit w 5 0 [.int .u8 x] [d] (by simp [bv,h]) 1 rfl (by simp [maxLen]) (by omega)).bs
theorem baR_list (S:ByteArray):(⟨S.data.toList.toArray⟩:ByteArray)=S:=by apply ByteArray.ext;simp
set_option maxRecDepth 100000 in
set_option maxHeartbeats 1600000 in
theorem RName_at2 (A:Option Addr) (c:Nat) (ps:List ByteArray) (r:ByteArray) (w:World) (hR:RS w (.slice A ps.length c) (sv ps)) (hv:nameB (dat ps) r.data.toList=true):
  Calls Tryz.prog 139 #[.agg #[.slice A ps.length c,.string r]] w fun e w'=>e=.returned (.string ⟨(textN (dat ps) r.data.toList).toArray⟩)∧Ext w w':=by
 obtain ⟨v1,v2,v3,v4⟩:=nameB_parts hv
 rw [dat_length] at v2 v3
 have hr32:r.size≤32:=by rw [← size_list];exact realmB_len v4
 have HV1:=Lib.hid v1
 have hT:RW (w.alloc (.cells #[.slice A ps.length c,.string r] 37)) w.heap.size 37 #[.slice A ps.length c,.string r]:=heap_alloc_new w _
 have hX:=(Ext.refl w).alloc (.cells #[.slice A ps.length c,.string r] 37)
 obtain ⟨wb,hwb⟩:∃ wb,w.alloc (.cells #[.slice A ps.length c,.string r] 37)=wb:=⟨_,rfl⟩
 rw [hwb] at hT hX
 have HX:=Lib.hid hX;have HT:=Lib.hid hT
 have HRS:=Lib.hid (hR.ext hX)
 clear hT hX hR hv v1 v4
 go_enter Tryz.func139,Tryz.ntmps139
 go_wp2_with fail
 clear hwb
 go_loopw [3,4,5,6] (fun s i _ _ wr=>∃ (k:Nat) (S:ByteArray),k≤ps.length∧i=.int .i64 k∧s=.string S∧Hid (S.data.toList=partsT ((dat ps).take k))∧Hid (Ext wb wr)) (fun _ i _ _ _=>ps.length-(intOf i).toNat)
 case atStart=>exact ⟨0,⟨#[]⟩,Nat.zero_le _,rfl,rfl,Lib.hid (by simp [partsT]),Lib.hid (Ext.refl wb)⟩
 case round=>
  obtain ⟨k,S,hk,rfl,rfl,HS,HXK⟩:=hrel
  obtain ⟨wo,rfl⟩:∃ wo:World,wo=wr:=⟨_,rfl⟩
  have hS:S.size≤260:=by
   have h1:=partsT_len ((dat ps).take k) (by
    rw [List.all_eq_true]
    intro x hx
    exact List.all_eq_true.1 HV1.out x (List.mem_of_mem_take hx))
   rw [List.length_take,dat_length] at h1
   rw [← size_list,HS.out]
   omega
  obtain ⟨q0,q1⟩:=rwp (HT.out.ext HXK.out)
  by_cases hlt:k<ps.length
  ·obtain ⟨p,hp⟩:∃ p,ps[k]=p:=⟨_,rfl⟩
   have hp32:p.size≤32:=by rw [← hp];exact part_len HV1.out hlt
   have HPR:=Lib.hid (show partsT ((dat ps).take (k+1))=(if k=0 then [] else partsT ((dat ps).take k)++[47])++esc p.data.toList by
    rw [text_step _ k (by rw [dat_length];exact hlt)]
    simp [dat,hp])
   have HCK:=Lib.hid (show ∃ ad,A=some ad∧∀ W,Ext wb W→W.cell? (ad.add k)=some (.string p) by
    obtain ⟨A',c',he,e1,e2,e3⟩:=HRS.out
    rw [sv_length] at e1 e3 he
    injection he with z1 _ z3
    subst z1;subst z3
    obtain ⟨ad,rfl,hblt,hcell⟩:=e3 (by omega)
    exact ⟨ad,rfl,fun W hW=>hW.cell (by rw [hcell k _ (sv_get ps k hlt),hp])⟩)
   obtain ⟨ad,hA,hcl⟩:=HCK.out
   have HCL:=Lib.hid hcl
   clear HCK hcl
   subst hA
   have hck:=HCL.out _ HXK.out
   clear hp
   by_cases hk0:k=0
   ·have hgt:(k:Int)≤0:=by omega
    rw [if_pos hk0] at HPR
    obtain ⟨pref,hpref⟩:∃ pref:List UInt8,pref=[]:=⟨_,rfl⟩
    rw [← hpref] at HPR
    have HPF:=Lib.hid (show S.data.toList=pref by have:=HS.out;rw [hk0,List.take_zero] at this;rw [hpref];exact this)
    have HPL:=Lib.hid (show pref.length≤300 by rw [hpref];simp)
    clear hpref hk0
    go_wp2_with fail
    go_loopw [3,5,6] (fun s i _ wr=>∃ (j:Nat) (S:ByteArray),j≤p.size∧i=.int .i64 j∧s=.string S∧Hid (S.data.toList=pref++esc (p.data.toList.take j))∧Hid (Ext wb wr)) (fun _ i _ _=>p.size-(intOf i).toNat)
    case atStart=>exact ⟨0,_,Nat.zero_le _,rfl,rfl,Lib.hid (by simp [HPF.out,esc]),HXK⟩
    case round=>
     obtain ⟨j,Z,hj,rfl,rfl,HZ,HXJ⟩:=hrel
     clear hck q0 q1
     have hck:=HCL.out _ HXJ.out
     obtain ⟨q0,q1⟩:=rwp (HT.out.ext HXJ.out)
     have hZ:Z.size≤400:=by
      have hle:=esc_len (p.data.toList.take j)
      have hlt2:(p.data.toList.take j).length≤32:=by rw [List.length_take,size_list];omega
      rw [← size_list,HZ.out,List.length_append]
      have:=HPL.out
      omega
     by_cases hlj:j<p.size
     ·have hcv0:=conv_one wr p[j] _ rfl
      have hcv1:=conv_one wr 92 92 rfl
      have hcv2:=conv_one (wr.alloc (.cells #[.int .u8 92] 5)) p[j] _ rfl
      rw [World.size_alloc] at hcv2
      by_cases h1:p[j].toNat=47
      ·have e1:((p[j].toNat:Int)==47)=true:=by rw [h1];rfl
       have HTK:=Lib.hid (show esc (p.data.toList.take (j+1))=esc (p.data.toList.take j)++[92,p[j]] by rw [take_at p j hlj,esc_append,esc_spc (by unfold spc;exact decide_eq_true (.inl h1))])
       clear h1
       clear hcv0
       go_wp2_with fail
       go_roundw
       case rel=>exact ⟨j+1,_,by omega,by go_num,rfl,Lib.hid (by rw [HTK.out];simp [HZ.out]),Lib.hid ((HXJ.out.alloc _).alloc _)⟩
       case measure=>simp [intOf];omega
      ·have e1:((p[j].toNat:Int)==47)=false:=by rw [beq_eq_false_iff_ne];omega
       by_cases h2:p[j].toNat=64
       ·have e2:((p[j].toNat:Int)==64)=true:=by rw [h2];rfl
        have HTK:=Lib.hid (show esc (p.data.toList.take (j+1))=esc (p.data.toList.take j)++[92,p[j]] by rw [take_at p j hlj,esc_append,esc_spc (by unfold spc;exact decide_eq_true (.inr (.inl h2)))])
        clear h1 h2
        clear hcv0
        go_wp2_with fail
        go_roundw
        case rel=>exact ⟨j+1,_,by omega,by go_num,rfl,Lib.hid (by rw [HTK.out];simp [HZ.out]),Lib.hid ((HXJ.out.alloc _).alloc _)⟩
        case measure=>simp [intOf];omega
       ·have e2:((p[j].toNat:Int)==64)=false:=by rw [beq_eq_false_iff_ne];omega
        by_cases h3:p[j].toNat=92
        ·have e3:((p[j].toNat:Int)==92)=true:=by rw [h3];rfl
         have HTK:=Lib.hid (show esc (p.data.toList.take (j+1))=esc (p.data.toList.take j)++[92,p[j]] by rw [take_at p j hlj,esc_append,esc_spc (by unfold spc;exact decide_eq_true (.inr (.inr h3)))])
         clear h1 h2 h3
         clear hcv0
         go_wp2_with fail
         go_roundw
         case rel=>exact ⟨j+1,_,by omega,by go_num,rfl,Lib.hid (by rw [HTK.out];simp [HZ.out]),Lib.hid ((HXJ.out.alloc _).alloc _)⟩
         case measure=>simp [intOf];omega
        ·have e3:((p[j].toNat:Int)==92)=false:=by rw [beq_eq_false_iff_ne];omega
         have HTK:=Lib.hid (show esc (p.data.toList.take (j+1))=esc (p.data.toList.take j)++[p[j]] by rw [take_at p j hlj,esc_append,esc_one (by rw [show spc p[j]=false from (by unfold spc;exact decide_eq_false (by omega))];simp)])
         clear h1 h2 h3 hcv1 hcv2
         go_wp2_with fail
         go_roundw
         case rel=>exact ⟨j+1,_,by omega,by go_num,rfl,Lib.hid (by rw [HTK.out];simp [HZ.out]),Lib.hid (HXJ.out.alloc _)⟩
         case measure=>simp [intOf];omega
     ·have HFE:=Lib.hid (show esc (p.data.toList.take j)=esc p.data.toList by rw [List.take_of_length_le (by rw [size_list];omega)])
      go_wp2_with fail
      go_roundw
      case rel=>exact ⟨k+1,_,by omega,by go_num,rfl,Lib.hid (by rw [HPR.out,← HFE.out,HZ.out]),HXJ⟩
      case measure=>simp [intOf];omega
   ·have hgt:0<(k:Int):=by omega
    rw [if_neg hk0] at HPR
    obtain ⟨pref,hpref⟩:∃ pref:List UInt8,pref=partsT ((dat ps).take k)++[47]:=⟨_,rfl⟩
    rw [← hpref] at HPR
    have HPF:=Lib.hid (show (S++⟨#[47]⟩:ByteArray).data.toList=pref by rw [hpref,← HS.out];simp)
    have HPL:=Lib.hid (show pref.length≤300 by rw [hpref,← HS.out,List.length_append,size_list];simp;omega)
    clear hpref hk0
    go_wp2_with fail
    go_loopw [3,5,6] (fun s i _ wr=>∃ (j:Nat) (S:ByteArray),j≤p.size∧i=.int .i64 j∧s=.string S∧Hid (S.data.toList=pref++esc (p.data.toList.take j))∧Hid (Ext wb wr)) (fun _ i _ _=>p.size-(intOf i).toNat)
    case atStart=>exact ⟨0,_,Nat.zero_le _,rfl,rfl,Lib.hid (by rw [HPF.out];simp [esc]),HXK⟩
    case round=>
     obtain ⟨j,Z,hj,rfl,rfl,HZ,HXJ⟩:=hrel
     clear hck q0 q1
     have hck:=HCL.out _ HXJ.out
     obtain ⟨q0,q1⟩:=rwp (HT.out.ext HXJ.out)
     have hZ:Z.size≤400:=by
      have hle:=esc_len (p.data.toList.take j)
      have hlt2:(p.data.toList.take j).length≤32:=by rw [List.length_take,size_list];omega
      rw [← size_list,HZ.out,List.length_append]
      have:=HPL.out
      omega
     by_cases hlj:j<p.size
     ·have hcv0:=conv_one wr p[j] _ rfl
      have hcv1:=conv_one wr 92 92 rfl
      have hcv2:=conv_one (wr.alloc (.cells #[.int .u8 92] 5)) p[j] _ rfl
      rw [World.size_alloc] at hcv2
      by_cases h1:p[j].toNat=47
      ·have e1:((p[j].toNat:Int)==47)=true:=by rw [h1];rfl
       have HTK:=Lib.hid (show esc (p.data.toList.take (j+1))=esc (p.data.toList.take j)++[92,p[j]] by rw [take_at p j hlj,esc_append,esc_spc (by unfold spc;exact decide_eq_true (.inl h1))])
       clear h1
       clear hcv0
       go_wp2_with fail
       go_roundw
       case rel=>exact ⟨j+1,_,by omega,by go_num,rfl,Lib.hid (by rw [HTK.out];simp [HZ.out]),Lib.hid ((HXJ.out.alloc _).alloc _)⟩
       case measure=>simp [intOf];omega
      ·have e1:((p[j].toNat:Int)==47)=false:=by rw [beq_eq_false_iff_ne];omega
       by_cases h2:p[j].toNat=64
       ·have e2:((p[j].toNat:Int)==64)=true:=by rw [h2];rfl
        have HTK:=Lib.hid (show esc (p.data.toList.take (j+1))=esc (p.data.toList.take j)++[92,p[j]] by rw [take_at p j hlj,esc_append,esc_spc (by unfold spc;exact decide_eq_true (.inr (.inl h2)))])
        clear h1 h2
        clear hcv0
        go_wp2_with fail
        go_roundw
        case rel=>exact ⟨j+1,_,by omega,by go_num,rfl,Lib.hid (by rw [HTK.out];simp [HZ.out]),Lib.hid ((HXJ.out.alloc _).alloc _)⟩
        case measure=>simp [intOf];omega
       ·have e2:((p[j].toNat:Int)==64)=false:=by rw [beq_eq_false_iff_ne];omega
        by_cases h3:p[j].toNat=92
        ·have e3:((p[j].toNat:Int)==92)=true:=by rw [h3];rfl
         have HTK:=Lib.hid (show esc (p.data.toList.take (j+1))=esc (p.data.toList.take j)++[92,p[j]] by rw [take_at p j hlj,esc_append,esc_spc (by unfold spc;exact decide_eq_true (.inr (.inr h3)))])
         clear h1 h2 h3
         clear hcv0
         go_wp2_with fail
         go_roundw
         case rel=>exact ⟨j+1,_,by omega,by go_num,rfl,Lib.hid (by rw [HTK.out];simp [HZ.out]),Lib.hid ((HXJ.out.alloc _).alloc _)⟩
         case measure=>simp [intOf];omega
        ·have e3:((p[j].toNat:Int)==92)=false:=by rw [beq_eq_false_iff_ne];omega
         have HTK:=Lib.hid (show esc (p.data.toList.take (j+1))=esc (p.data.toList.take j)++[p[j]] by rw [take_at p j hlj,esc_append,esc_one (by rw [show spc p[j]=false from (by unfold spc;exact decide_eq_false (by omega))];simp)])
         clear h1 h2 h3 hcv1 hcv2
         go_wp2_with fail
         go_roundw
         case rel=>exact ⟨j+1,_,by omega,by go_num,rfl,Lib.hid (by rw [HTK.out];simp [HZ.out]),Lib.hid (HXJ.out.alloc _)⟩
         case measure=>simp [intOf];omega
     ·have HFE:=Lib.hid (show esc (p.data.toList.take j)=esc p.data.toList by rw [List.take_of_length_le (by rw [size_list];omega)])
      go_wp2_with fail
      go_roundw
      case rel=>exact ⟨k+1,_,by omega,by go_num,rfl,Lib.hid (by rw [HPR.out,← HFE.out,HZ.out]),HXJ⟩
      case measure=>simp [intOf];omega
  ·have HFE:=Lib.hid (show S.data.toList=partsT (dat ps) by rw [HS.out,List.take_of_length_le (by rw [dat_length];omega)])
   go_wp2_with fail
   go_ret
   refine ⟨?_,HX.out.trans HXK.out⟩
   rw [textN,← HFE.out,← cat_realm,baR_list];rfl
set_option maxRecDepth 100000 in
theorem RWord_at (A:Option Addr) (c:Nat) (ps:List ByteArray) (r:ByteArray) (w:World) (hR:RS w (.slice A ps.length c) (sv ps)) (hv:prsB (dat ps) r.data.toList=true):
  Calls Tryz.prog 87 #[.agg #[.slice A ps.length c,.string r]] w fun e w'=>e=.returned (.string ⟨(prsW (dat ps) r.data.toList).toArray⟩)∧Ext w w':=by
 have hT:RW (w.alloc (.cells #[.slice A ps.length c,.string r] 37)) w.heap.size 37 #[.slice A ps.length c,.string r]:=heap_alloc_new w _
 have hX:=(Ext.refl w).alloc (.cells #[.slice A ps.length c,.string r] 37)
 obtain ⟨wb,hwb⟩:∃ wb,w.alloc (.cells #[.slice A ps.length c,.string r] 37)=wb:=⟨_,rfl⟩
 rw [hwb] at hT hX
 have HX:=Lib.hid hX;have HT:=Lib.hid hT
 have HNO:=Lib.hid (RNone_at A ps.length c r wb)
 rw [none_dec] at HNO
 obtain ⟨q0,q1⟩:=rwp hT
 unfold prsW
 obtain ⟨a,ha⟩:∃ a,noneN (dat ps) r.data.toList=a:=⟨_,rfl⟩
 rw [ha] at HNO ⊢
 have HNM:=Lib.hid (fun (h:a=false) W (hx:Ext wb W)=>RName_at2 A c ps r W (hR.ext (hX.trans hx)) (by unfold prsB at hv;rw [ha,h,Bool.false_or] at hv;exact hv))
 clear ha hT hX hR hv
 go_enter Tryz.func87,Tryz.ntmps87
 go_wp2_with fail
 refine HNO.out.mono ?_
 rintro _ w2 ⟨rfl,hx2⟩
 have HX2:=Lib.hid hx2
 clear hx2 q0 q1
 obtain ⟨q0,q1⟩:=rwp (HT.out.ext HX2.out)
 cases a with
 | true=>
  go_wp2_with fail
  go_ret
  exact ⟨rfl,HX.out.trans HX2.out⟩
 | false=>
  go_wp2_with fail
  refine (HNM.out (by first | rfl | trivial) _ HX2.out).mono ?_
  rintro _ w3 ⟨rfl,hx3⟩
  have HX3:=Lib.hid (HX2.out.trans hx3)
  clear hx3
  go_wp2_with fail
  go_ret
  exact ⟨rfl,HX.out.trans HX3.out⟩
theorem flag_row:∀ k,k<12→(#[.string ⟨#[102,111,114,119,97,114,100,97,98,108,101]⟩,.string ⟨#[102,111,114,119,97,114,100,101,100]⟩,.string ⟨#[112,114,111,120,105,97,98,108,101]⟩,.string ⟨#[112,114,111,120,121]⟩,.string ⟨#[109,97,121,45,112,111,115,116,100,97,116,101]⟩,.string ⟨#[112,111,115,116,100,97,116,101,100]⟩,.string ⟨#[105,110,118,97,108,105,100]⟩,.string ⟨#[114,101,110,101,119,97,98,108,101]⟩,.string ⟨#[105,110,105,116,105,97,108]⟩,.string ⟨#[112,114,101,45,97,117,116,104]⟩,.string ⟨#[116,114,97,110,115,105,116,101,100]⟩,.string ⟨#[100,101,108,101,103,97,116,101]⟩]:Array Value)[k]? = some (.string (nmS k)):=by
 intro k hk
 rcases (show k=0∨k=1∨k=2∨k=3∨k=4∨k=5∨k=6∨k=7∨k=8∨k=9∨k=10∨k=11 by omega) with rfl | rfl | rfl | rfl | rfl | rfl | rfl | rfl | rfl | rfl | rfl | rfl<;>kernel_rfl
set_option maxRecDepth 100000 in
theorem RFlag_at (k:Nat) (hk:k<12) (w:World):
  Calls Tryz.prog 94 #[.int .i64 (k:Int)] w fun e w'=>e=.returned (.string (nmS k))∧Ext w w':=by
 have hg:=heap_alloc_new w (.cells #[.string ⟨#[102,111,114,119,97,114,100,97,98,108,101]⟩,.string ⟨#[102,111,114,119,97,114,100,101,100]⟩,.string ⟨#[112,114,111,120,105,97,98,108,101]⟩,.string ⟨#[112,114,111,120,121]⟩,.string ⟨#[109,97,121,45,112,111,115,116,100,97,116,101]⟩,.string ⟨#[112,111,115,116,100,97,116,101,100]⟩,.string ⟨#[105,110,118,97,108,105,100]⟩,.string ⟨#[114,101,110,101,119,97,98,108,101]⟩,.string ⟨#[105,110,105,116,105,97,108]⟩,.string ⟨#[112,114,101,45,97,117,116,104]⟩,.string ⟨#[116,114,97,110,115,105,116,101,100]⟩,.string ⟨#[100,101,108,101,103,97,116,101]⟩] 9)
 have hx:=(Ext.refl w).alloc (.cells #[.string ⟨#[102,111,114,119,97,114,100,97,98,108,101]⟩,.string ⟨#[102,111,114,119,97,114,100,101,100]⟩,.string ⟨#[112,114,111,120,105,97,98,108,101]⟩,.string ⟨#[112,114,111,120,121]⟩,.string ⟨#[109,97,121,45,112,111,115,116,100,97,116,101]⟩,.string ⟨#[112,111,115,116,100,97,116,101,100]⟩,.string ⟨#[105,110,118,97,108,105,100]⟩,.string ⟨#[114,101,110,101,119,97,98,108,101]⟩,.string ⟨#[105,110,105,116,105,97,108]⟩,.string ⟨#[112,114,101,45,97,117,116,104]⟩,.string ⟨#[116,114,97,110,115,105,116,101,100]⟩,.string ⟨#[100,101,108,101,103,97,116,101]⟩] 9)
 obtain ⟨W,eW⟩:∃ W,w.alloc (.cells #[.string ⟨#[102,111,114,119,97,114,100,97,98,108,101]⟩,.string ⟨#[102,111,114,119,97,114,100,101,100]⟩,.string ⟨#[112,114,111,120,105,97,98,108,101]⟩,.string ⟨#[112,114,111,120,121]⟩,.string ⟨#[109,97,121,45,112,111,115,116,100,97,116,101]⟩,.string ⟨#[112,111,115,116,100,97,116,101,100]⟩,.string ⟨#[105,110,118,97,108,105,100]⟩,.string ⟨#[114,101,110,101,119,97,98,108,101]⟩,.string ⟨#[105,110,105,116,105,97,108]⟩,.string ⟨#[112,114,101,45,97,117,116,104]⟩,.string ⟨#[116,114,97,110,115,105,116,101,100]⟩,.string ⟨#[100,101,108,101,103,97,116,101]⟩] 9)=W:=⟨_,rfl⟩
 rw [eW] at hg hx
 have hc:W.cell? ⟨w.heap.size,k,none⟩=some (.string (nmS k)):=by rw [cell_of_row _ _ _ _ _ (0,0) hg];exact flag_row k hk
 have hc2:W.cell? ((⟨w.heap.size,0,none⟩:Addr).add k)=some (.string (nmS k)):=by rw [add0];exact hc
 have HX:=Lib.hid hx
 have hk12:(k:Int)<12:=by omega
 clear hg hx
 go_enter Tryz.func94,Tryz.ntmps94
 go_wp2_with fail
 go_ret
 exact ⟨rfl,HX.out⟩
end Go.Proofs.YtnjmndofcpnmeaaGreatDoor
