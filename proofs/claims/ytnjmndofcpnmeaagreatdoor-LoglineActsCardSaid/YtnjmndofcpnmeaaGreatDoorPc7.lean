/- Pc7. -/
import Derived.Test.YtnjmndofcpnmeaaGreatDoorPc6
import Derived.Test.YtnjmndofcpnmeaaGreatDoorPc0
import Derived.Test.YtnjmndofcpnmeaaGreatDoorPc1
namespace Go.Proofs.YtnjmndofcpnmeaaGreatDoor
open Go Go.RowKit
set_option linter.unusedVariables false
theorem u8info':(Tryz.prog.info? 5).map (fun i=>(i.zero,i.size,i.bytes))=some (some (.int .u8 0),1,1):=by kernel_rfl
theorem esc_len (l:List UInt8):(esc l).length≤2*l.length:=by
 induction l with
 | nil=>simp [esc]
 | cons c r ih=>
  rw [esc]
  split<;>simp<;>omega
theorem PB.lt {w:World}{g:Nat}{v:Value}{r:ByteArray}(h:PB w g v r):g+1≤w.heap.size:=(Array.getElem?_eq_some_iff.1 h).1
theorem own_step {w wr X:World}{v:Value}{r:ByteArray}{row:Option Nat}(hP:PB wr w.heap.size v r)(hx:Ext w wr)(o:Obj)(hg:(wr.alloc o).grownBy X row)(hrow:∀ k,row=some k→w.heap.size+1≤k):PB X w.heap.size v r∧Ext w X:=by
 have h1:=hP.ext ((Ext.refl wr).alloc o)
 exact ⟨(hg.block w.heap.size (Array.getElem?_eq_some_iff.1 h1).1 (fun e=>by have:=hrow _ e.symm;omega)).trans h1,(hx.alloc o).grown hg (fun k hk=>by have:=hrow k hk;omega)⟩
theorem text_step (ls:List (List UInt8))(k:Nat)(h:k<ls.length):partsT (ls.take (k+1))=(if k=0 then [] else partsT (ls.take k)++[47])++esc ls[k]:=by
 rw [List.take_succ_eq_append_getElem h,partsT_snoc]
 by_cases hk:k=0
 ·subst hk;simp
 ·have h2:(ls.take k).length=k:=by rw [List.length_take];omega
  rw [if_neg (by intro e;rw [e] at h2;simp at h2;omega),if_neg hk]
  simp
theorem partsT_len:∀ (ls:List (List UInt8)),ls.all partB=true→(partsT ls).length≤65*ls.length
 | [],_=>by simp [partsT]
 | [p],h=>by
  have hp:p.length≤32:=by simp [partB,sizedB] at h;omega
  have:=esc_len p
  simp [partsT];omega
 | p::q::r,h=>by
  have hp:p.length≤32:=by simp [partB,sizedB] at h;omega
  have h2:=partsT_len (q::r) (by rw [List.all_cons,Bool.and_eq_true] at h;exact h.2)
  have:=esc_len p
  rw [partsT]
  simp only [List.length_append,List.length_cons] at h2 ⊢
  omega
theorem nameB_parts {ls:List (List UInt8)}{r:List UInt8}(h:nameB ls r=true):ls.all partB=true∧1≤ls.length∧ls.length≤4∧realmB r=true:=by
 unfold nameB at h
 simp only [Bool.and_eq_true,decide_eq_true_eq] at h
 exact ⟨h.2,h.1.1.1,h.1.1.2,h.1.2⟩
theorem realmB_len {r:List UInt8}(h:realmB r=true):r.length≤32:=by
 unfold realmB sizedB at h
 simp only [Bool.and_eq_true,decide_eq_true_eq] at h
 exact h.1.2
theorem part_len {ps:List ByteArray}(h:(dat ps).all partB=true){k:Nat}(hk:k<ps.length):ps[k].size≤32:=by
 have:=List.all_eq_true.1 h ps[k].data.toList (List.mem_map.2 ⟨ps[k],List.getElem_mem hk,rfl⟩)
 unfold partB sizedB at this
 simp only [Bool.and_eq_true,decide_eq_true_eq] at this
 have h2:=this.1.2
 rw [size_list] at h2
 exact h2
theorem cat_realm (L:List UInt8)(r:ByteArray):((⟨L.toArray⟩:ByteArray)++⟨#[64]⟩)++r=⟨(L++64::r.data.toList).toArray⟩:=by
 apply ByteArray.ext
 simp [ByteArray.data_append]
set_option maxRecDepth 100000 in
set_option maxHeartbeats 4000000 in
theorem NText_yes (A:Option Addr) (c:Nat) (ps:List ByteArray) (r:ByteArray) (w:World) (hR:RS w (.slice A ps.length c) (sv ps)) (hv:nameB (dat ps) r.data.toList=true):
  Calls Tryz.prog 117 #[.agg #[.slice A ps.length c,.string r]] w fun e w'=>e=.returned (.tuple #[.string ⟨(textN (dat ps) r.data.toList).toArray⟩,.int .i64 0])∧Ext w w':=by
 obtain ⟨i0,hi,hz0,hz1,hz2⟩:=info_parts u8info'
 obtain ⟨v1,v2,v3,v4⟩:=nameB_parts hv
 rw [dat_length] at v2 v3
 have hr32:r.size≤32:=by rw [← size_list];exact realmB_len v4
 have HV1:=Lib.hid v1
 have hT:=heap_alloc_new w (.cells #[.slice A ps.length c,.string r] 37)
 have hX:=(Ext.refl w).alloc (.cells #[.slice A ps.length c,.string r] 37)
 obtain ⟨wb,hwb⟩:∃ wb,wb=w.alloc (.cells #[.slice A ps.length c,.string r] 37):=⟨_,rfl⟩
 rw [← hwb] at hT hX
 have HT:Hid (PB wb w.heap.size (.slice A ps.length c) r):=Lib.hid hT
 have HX:=Lib.hid hX;have HRS:=Lib.hid hR
 have hV:=NValid_at A c ps r (fun p hp=>by obtain ⟨k,hk,rfl⟩:=List.getElem_of_mem hp;have:=part_len v1 hk;omega) (by omega) wb (hR.ext hX)
 rw [hv] at hV
 have HV:=Lib.hid hV
 obtain ⟨q0,q1⟩:=HT.out.cells
 clear hT hX hV hv hR v1 v4
 go_enter Tryz.func117,Tryz.ntmps117
 go_wp2_with fail
 rw [← hwb]
 clear hwb
 refine HV.out.mono ?_
 rintro _ w1 ⟨rfl,hx1⟩
 have HX1:=Lib.hid (HX.out.trans hx1);have HT1:=Lib.hid (HT.out.ext hx1);clear hx1
 obtain ⟨q0,q1⟩:=HT1.out.cells
 go_wp2_with fail
 clear q0 q1
 go_loopw [4,5,6,7,14,26] (fun v _ _ _ i _ wr=>∃ k:Nat,k≤ps.length∧i=.int .i64 k∧OB 5 wr (w.heap.size+1) v (partsT ((dat ps).take k))∧PB wr w.heap.size (.slice A ps.length c) r∧Ext w wr) (fun _ _ _ _ i _ _=>ps.length-(intOf i).toNat)
 case atStart=>exact ⟨0,Nat.zero_le _,rfl,OB.nil _ _ _,HT1.out,HX1.out⟩
 case round=>
  obtain ⟨k,hk,rfl,hbk,hpk,hxk⟩:=hrel
  have HBK:=Lib.hid hbk;have HPK:=Lib.hid hpk;have HXK:=Lib.hid hxk
  have HLK:=Lib.hid (show (partsT ((dat ps).take k)).length≤260 by
   have h1:=partsT_len ((dat ps).take k) (by
    rw [List.all_eq_true]
    intro x hx
    exact List.all_eq_true.1 HV1.out x (List.mem_of_mem_take hx))
   rw [List.length_take,dat_length] at h1
   omega)
  clear hbk hpk hxk
  by_cases hlt:k<ps.length
  ·obtain ⟨p,hp⟩:∃ p,ps[k]=p:=⟨_,rfl⟩
   have hp32:p.size≤32:=by rw [← hp];exact part_len HV1.out hlt
   obtain ⟨pv,hpv⟩:∃ pv,Value.slice A ps.length c=pv:=⟨_,rfl⟩
   have HPV:=Lib.hid hpv
   have HPQ:Hid (PB wr w.heap.size pv r):=Lib.hid (by rw [← hpv];exact HPK.out)
   clear hpv
   obtain ⟨A',c',he,e1,e2,e3⟩:=HRS.out.ext HXK.out
   rw [sv_length] at e1 e3 he
   injection he with z1 _ z3
   subst z1;subst z3
   obtain ⟨ad,rfl,hblt,hcell⟩:=e3 (by omega)
   have hck:=hcell k _ (sv_get ps k hlt)
   rw [hp] at hck
   have HPR:=Lib.hid (show partsT ((dat ps).take (k+1))=(if k=0 then [] else partsT ((dat ps).take k)++[47])++esc p.data.toList by
    rw [text_step _ k (by rw [dat_length];exact hlt)]
    simp [dat,hp])
   clear hcell e3 e2 e1 hblt hp
   by_cases hk0:k=0
   ·have hgt:(k:Int)≤0:=by omega
    rw [if_pos hk0] at HPR
    obtain ⟨pref,hpref⟩:∃ pref:List UInt8,pref=[]:=⟨_,rfl⟩
    rw [← hpref] at HPR
    have HBI:=Lib.hid (show OB 5 wr (w.heap.size+1) u4 pref by
     have h:=HBK.out
     rw [hk0,List.take_zero] at h
     rw [hpref];exact h)
    have HPL:=Lib.hid (show pref.length≤400 by rw [hpref];simp)
    have HPI:=HPQ;have HXI:=HXK
    clear hpref hk0
    go_wp2_with fail
    go_loopw [4,7,26] (fun v _ i wr=>∃ j:Nat,j≤p.size∧i=.int .i64 j∧OB 5 wr (w.heap.size+1) v (pref++esc (p.data.toList.take j))∧PB wr w.heap.size pv r∧Ext w wr) (fun _ _ i _=>p.size-(intOf i).toNat)
    case atStart=>exact ⟨0,Nat.zero_le _,rfl,by simpa [esc] using HBI.out,HPI.out,HXI.out⟩
    case round=>
     obtain ⟨j,hj,rfl,hbj,hpj,hxj⟩:=hrel
     have HBJ:=Lib.hid hbj;have HXJ:=Lib.hid hxj;have HPJ:=Lib.hid hpj
     clear hbj hxj hpj
     by_cases hlj:j<p.size
     ·have hle:=esc_len (p.data.toList.take j)
      have hlt2:(p.data.toList.take j).length≤32:=by rw [List.length_take,size_list];omega
      have HLL:=Lib.hid (show (pref++esc (p.data.toList.take j)).length≤10000 by rw [List.length_append];have:=HPL.out;omega)
      have HSP:=Lib.hid (special_at p[j] wr)
      clear hle hlt2
      cases hs:spc p[j] with
      | true=>
       have HTK:=Lib.hid (show esc (p.data.toList.take (j+1))=esc (p.data.toList.take j)++[92,p[j]] by rw [take_at p j hlj,esc_append,esc_spc hs])
       rw [hs] at HSP
       clear hs
       go_wp2_with fail
       refine HSP.out.mono ?_
       rintro _ w' ⟨rfl,rfl⟩
       go_wp2_with (first | (at_builtin;refine wpList_append_bs _ rfl (.tmp 33) (.tmp 34) 32 rfl (w.heap.size+1) 5 i0 (.int .u8 0) Tryz.underlying32 hi hz0 hz1 hz2 rfl _ _ rfl (HBJ.out.ext ((Ext.refl _).alloc _)) _ [92] rfl (BS.new' _ 5 [.int .u8 92] [92] rfl 1 rfl (by simp [maxLen])) ?hla3 ?hma3 ?_;rotate_right;intro va3 wa3 howna3 hga3 _) | (at_builtin;refine wpList_append_bs _ rfl (.tmp 36) (.tmp 40) 32 rfl (w.heap.size+1) 5 i0 (.int .u8 0) Tryz.underlying32 hi hz0 hz1 hz2 rfl _ _ rfl (howna3.ext ((Ext.refl _).alloc _)) _ [p[j]] rfl (BS.new' _ 5 [.int .u8 (p[j].toNat:Int)] [p[j]] rfl 1 rfl (by simp [maxLen])) ?hla4 ?hma4 ?_;rotate_right;intro va4 wa4 howna4 hga4 _))
       case hla3=>first | (have h0:=HLL.out;omega) | (have h0:=HLL.out;simp only [List.length_append] at h0;omega) | (have h0:=HLL.out;simp only [List.length_append,List.length_cons,List.length_nil] at h0 ⊢;omega)
       case hma3=>first | exact Nat.le_of_succ_le HPJ.out.lt | exact Nat.le_trans HPJ.out.lt (by simp)
       case hla4=>have h0:=HLL.out;simp only [List.length_append,List.length_cons,List.length_nil] at h0 ⊢;omega
       case hma4=>have hz:=(own_step HPJ.out HXJ.out (.cells #[.int .u8 92] 5) hga3 (fun k hk=>OB.lt HBJ.out k hk)).1.lt;first | exact Nat.le_of_succ_le hz | exact Nat.le_trans hz (by simp)
       have HSa3:=Lib.hid (own_step HPJ.out HXJ.out (.cells #[.int .u8 92] 5) hga3 (fun k hk=>OB.lt HBJ.out k hk))
       have HBa3:=Lib.hid howna3;have HPa3:=Lib.hid HSa3.out.1;have HXa3:=Lib.hid HSa3.out.2;clear hga3 howna3 HSa3
       have HSa4:=Lib.hid (own_step HPa3.out HXa3.out (.cells #[.int .u8 (p[j].toNat:Int)] 5) hga4 (fun k hk=>OB.lt HBa3.out k hk))
       have HBa4:=Lib.hid howna4;have HPa4:=Lib.hid HSa4.out.1;have HXa4:=Lib.hid HSa4.out.2;clear hga4 howna4 HSa4
       go_roundw
       case rel=>exact ⟨j+1,by omega,by go_num,by rw [HTK.out];simpa using HBa4.out,HPa4.out,HXa4.out⟩
       case measure=>simp [intOf];omega
      | false=>
       have HTK:=Lib.hid (show esc (p.data.toList.take (j+1))=esc (p.data.toList.take j)++[p[j]] by rw [take_at p j hlj,esc_append,esc_one (by rw [hs];simp)])
       rw [hs] at HSP
       clear hs
       go_wp2_with fail
       refine HSP.out.mono ?_
       rintro _ w' ⟨rfl,rfl⟩
       go_wp2_with (at_builtin;refine wpList_append_bs _ rfl (.tmp 36) (.tmp 40) 32 rfl (w.heap.size+1) 5 i0 (.int .u8 0) Tryz.underlying32 hi hz0 hz1 hz2 rfl _ _ rfl (HBJ.out.ext ((Ext.refl _).alloc _)) _ [p[j]] rfl (BS.new' _ 5 [.int .u8 (p[j].toNat:Int)] [p[j]] rfl 1 rfl (by simp [maxLen])) ?hla5 ?hma5 ?_;rotate_right;intro va5 wa5 howna5 hga5 _)
       case hla5=>first | (have h0:=HLL.out;omega) | (have h0:=HLL.out;simp only [List.length_append] at h0;omega) | (have h0:=HLL.out;simp only [List.length_append,List.length_cons,List.length_nil] at h0 ⊢;omega)
       case hma5=>first | exact Nat.le_of_succ_le HPJ.out.lt | exact Nat.le_trans HPJ.out.lt (by simp)
       have HSa5:=Lib.hid (own_step HPJ.out HXJ.out (.cells #[.int .u8 (p[j].toNat:Int)] 5) hga5 (fun k hk=>OB.lt HBJ.out k hk))
       have HBa5:=Lib.hid howna5;have HPa5:=Lib.hid HSa5.out.1;have HXa5:=Lib.hid HSa5.out.2;clear hga5 howna5 HSa5
       go_roundw
       case rel=>exact ⟨j+1,by omega,by go_num,by rw [HTK.out];simpa using HBa5.out,HPa5.out,HXa5.out⟩
       case measure=>simp [intOf];omega
     ·have HFE:=Lib.hid (show esc (p.data.toList.take j)=esc p.data.toList by rw [List.take_of_length_le (by rw [size_list];omega)])
      go_wp2_with fail
      go_roundw
      case rel=>exact ⟨k+1,by omega,by go_num,by rw [HPR.out,← HFE.out];exact HBJ.out,by rw [HPV.out];exact HPJ.out,HXJ.out⟩
      case measure=>simp [intOf];omega
   ·have hgt:0<(k:Int):=by omega
    rw [if_neg hk0] at HPR
    clear hk0
    have HLL:=HLK
    go_wp2_with (at_builtin;refine wpList_append_bs _ rfl (.tmp 21) (.tmp 22) 32 rfl (w.heap.size+1) 5 i0 (.int .u8 0) Tryz.underlying32 hi hz0 hz1 hz2 rfl _ (partsT ((dat ps).take k)) rfl (HBK.out.ext ((Ext.refl _).alloc _)) _ [47] rfl (BS.new' _ 5 [.int .u8 47] [47] rfl 1 rfl (by simp [maxLen])) ?hl2 ?hm2 ?_;rotate_right;intro v2 w2 hown2 hg2 _)
    case hl2=>first | (have h0:=HLL.out;omega) | (have h0:=HLL.out;simp only [List.length_append] at h0;omega) | (have h0:=HLL.out;simp only [List.length_append,List.length_cons,List.length_nil] at h0 ⊢;omega)
    case hm2=>first | exact Nat.le_of_succ_le HPQ.out.lt | exact Nat.le_trans HPQ.out.lt (by simp)
    have HS2:=Lib.hid (own_step HPQ.out HXK.out (.cells #[.int .u8 47] 5) hg2 (fun k hk=>OB.lt HBK.out k hk))
    have HB2:=Lib.hid hown2;have HP2:=Lib.hid HS2.out.1;have HX2:=Lib.hid HS2.out.2;clear hg2 hown2 HS2
    obtain ⟨pref,hpref⟩:∃ pref,pref=partsT ((dat ps).take k)++[47]:=⟨_,rfl⟩
    rw [← hpref] at HPR HB2
    have HPL:=Lib.hid (show pref.length≤400 by rw [hpref,List.length_append,List.length_singleton];have:=HLK.out;omega)
    have HBI:=HB2;have HPI:=HP2;have HXI:=HX2
    clear hpref
    go_wp2_with fail
    go_loopw [4,7,26] (fun v _ i wr=>∃ j:Nat,j≤p.size∧i=.int .i64 j∧OB 5 wr (w.heap.size+1) v (pref++esc (p.data.toList.take j))∧PB wr w.heap.size pv r∧Ext w wr) (fun _ _ i _=>p.size-(intOf i).toNat)
    case atStart=>exact ⟨0,Nat.zero_le _,rfl,by simpa [esc] using HBI.out,HPI.out,HXI.out⟩
    case round=>
     obtain ⟨j,hj,rfl,hbj,hpj,hxj⟩:=hrel
     have HBJ:=Lib.hid hbj;have HXJ:=Lib.hid hxj;have HPJ:=Lib.hid hpj
     clear hbj hxj hpj
     by_cases hlj:j<p.size
     ·have hle:=esc_len (p.data.toList.take j)
      have hlt2:(p.data.toList.take j).length≤32:=by rw [List.length_take,size_list];omega
      have HLL:=Lib.hid (show (pref++esc (p.data.toList.take j)).length≤10000 by rw [List.length_append];have:=HPL.out;omega)
      have HSP:=Lib.hid (special_at p[j] wr)
      clear hle hlt2
      cases hs:spc p[j] with
      | true=>
       have HTK:=Lib.hid (show esc (p.data.toList.take (j+1))=esc (p.data.toList.take j)++[92,p[j]] by rw [take_at p j hlj,esc_append,esc_spc hs])
       rw [hs] at HSP
       clear hs
       go_wp2_with fail
       refine HSP.out.mono ?_
       rintro _ w' ⟨rfl,rfl⟩
       go_wp2_with (first | (at_builtin;refine wpList_append_bs _ rfl (.tmp 33) (.tmp 34) 32 rfl (w.heap.size+1) 5 i0 (.int .u8 0) Tryz.underlying32 hi hz0 hz1 hz2 rfl _ _ rfl (HBJ.out.ext ((Ext.refl _).alloc _)) _ [92] rfl (BS.new' _ 5 [.int .u8 92] [92] rfl 1 rfl (by simp [maxLen])) ?hlb3 ?hmb3 ?_;rotate_right;intro vb3 wb3 hownb3 hgb3 _) | (at_builtin;refine wpList_append_bs _ rfl (.tmp 36) (.tmp 40) 32 rfl (w.heap.size+1) 5 i0 (.int .u8 0) Tryz.underlying32 hi hz0 hz1 hz2 rfl _ _ rfl (hownb3.ext ((Ext.refl _).alloc _)) _ [p[j]] rfl (BS.new' _ 5 [.int .u8 (p[j].toNat:Int)] [p[j]] rfl 1 rfl (by simp [maxLen])) ?hlb4 ?hmb4 ?_;rotate_right;intro vb4 wb4 hownb4 hgb4 _))
       case hlb3=>first | (have h0:=HLL.out;omega) | (have h0:=HLL.out;simp only [List.length_append] at h0;omega) | (have h0:=HLL.out;simp only [List.length_append,List.length_cons,List.length_nil] at h0 ⊢;omega)
       case hmb3=>first | exact Nat.le_of_succ_le HPJ.out.lt | exact Nat.le_trans HPJ.out.lt (by simp)
       case hlb4=>have h0:=HLL.out;simp only [List.length_append,List.length_cons,List.length_nil] at h0 ⊢;omega
       case hmb4=>have hz:=(own_step HPJ.out HXJ.out (.cells #[.int .u8 92] 5) hgb3 (fun k hk=>OB.lt HBJ.out k hk)).1.lt;first | exact Nat.le_of_succ_le hz | exact Nat.le_trans hz (by simp)
       have HSb3:=Lib.hid (own_step HPJ.out HXJ.out (.cells #[.int .u8 92] 5) hgb3 (fun k hk=>OB.lt HBJ.out k hk))
       have HBb3:=Lib.hid hownb3;have HPb3:=Lib.hid HSb3.out.1;have HXb3:=Lib.hid HSb3.out.2;clear hgb3 hownb3 HSb3
       have HSb4:=Lib.hid (own_step HPb3.out HXb3.out (.cells #[.int .u8 (p[j].toNat:Int)] 5) hgb4 (fun k hk=>OB.lt HBb3.out k hk))
       have HBb4:=Lib.hid hownb4;have HPb4:=Lib.hid HSb4.out.1;have HXb4:=Lib.hid HSb4.out.2;clear hgb4 hownb4 HSb4
       go_roundw
       case rel=>exact ⟨j+1,by omega,by go_num,by rw [HTK.out];simpa using HBb4.out,HPb4.out,HXb4.out⟩
       case measure=>simp [intOf];omega
      | false=>
       have HTK:=Lib.hid (show esc (p.data.toList.take (j+1))=esc (p.data.toList.take j)++[p[j]] by rw [take_at p j hlj,esc_append,esc_one (by rw [hs];simp)])
       rw [hs] at HSP
       clear hs
       go_wp2_with fail
       refine HSP.out.mono ?_
       rintro _ w' ⟨rfl,rfl⟩
       go_wp2_with (at_builtin;refine wpList_append_bs _ rfl (.tmp 36) (.tmp 40) 32 rfl (w.heap.size+1) 5 i0 (.int .u8 0) Tryz.underlying32 hi hz0 hz1 hz2 rfl _ _ rfl (HBJ.out.ext ((Ext.refl _).alloc _)) _ [p[j]] rfl (BS.new' _ 5 [.int .u8 (p[j].toNat:Int)] [p[j]] rfl 1 rfl (by simp [maxLen])) ?hlb5 ?hmb5 ?_;rotate_right;intro vb5 wb5 hownb5 hgb5 _)
       case hlb5=>first | (have h0:=HLL.out;omega) | (have h0:=HLL.out;simp only [List.length_append] at h0;omega) | (have h0:=HLL.out;simp only [List.length_append,List.length_cons,List.length_nil] at h0 ⊢;omega)
       case hmb5=>first | exact Nat.le_of_succ_le HPJ.out.lt | exact Nat.le_trans HPJ.out.lt (by simp)
       have HSb5:=Lib.hid (own_step HPJ.out HXJ.out (.cells #[.int .u8 (p[j].toNat:Int)] 5) hgb5 (fun k hk=>OB.lt HBJ.out k hk))
       have HBb5:=Lib.hid hownb5;have HPb5:=Lib.hid HSb5.out.1;have HXb5:=Lib.hid HSb5.out.2;clear hgb5 hownb5 HSb5
       go_roundw
       case rel=>exact ⟨j+1,by omega,by go_num,by rw [HTK.out];simpa using HBb5.out,HPb5.out,HXb5.out⟩
       case measure=>simp [intOf];omega
     ·have HFE:=Lib.hid (show esc (p.data.toList.take j)=esc p.data.toList by rw [List.take_of_length_le (by rw [size_list];omega)])
      go_wp2_with fail
      go_roundw
      case rel=>exact ⟨k+1,by omega,by go_num,by rw [HPR.out,← HFE.out];exact HBJ.out,by rw [HPV.out];exact HPJ.out,HXJ.out⟩
      case measure=>simp [intOf];omega
  ·have HFE:=Lib.hid (show partsT ((dat ps).take k)=partsT (dat ps) by rw [List.take_of_length_le (by rw [dat_length];omega)])
   have hb:=HBK.out
   rw [HFE.out] at hb
   obtain ⟨A5,c5,rfl⟩:=hb.shape
   have hcv:=run_str (P:=Tryz.prog) wr 32 9 5 _ _ Tryz.underlying32 Tryz.underlying5 Tryz.underlying9 hb.bs
   have hlen:(partsT (dat ps)).length≤260:=by rw [← HFE.out];exact HLK.out
   obtain ⟨q0,q1⟩:=HPK.out.cells
   clear hb
   go_wp2_with fail
   go_ret2
   refine ⟨?_,HXK.out⟩
   rw [textN,← cat_realm];rfl
theorem sinfo':(Tryz.prog.info? 9).map (fun i=>(i.zero,i.size,i.bytes))=some (some (.string ⟨#[]⟩),1,16):=by kernel_rfl
structure NPS (w0 W:World) (pv qv:Value) (parts:List ByteArray) (part:List UInt8):Prop where
 r0:W.heap[w0.heap.size]? = some (.cells #[.slice none 0 0,.string ⟨#[]⟩] 37 (0,0))
 r1:W.heap[w0.heap.size+1]? = some (.cells #[pv,.string ⟨#[]⟩] 37 (0,0))
 r2:W.heap[w0.heap.size+1+1]? = some (.cells #[qv] 32 (0,0))
 ow:W.ownsRow (w0.heap.size+3) 9 1 pv (sv parts).length (sv parts)
 ob:OB 5 W (w0.heap.size+3) qv part
 ex:Ext w0 W
theorem ownsRow_ext8 {w w':World}{B:Nat}{e:TypeId}{v:Value}{n:Nat}{xs:List Value}(h:w.ownsRow B e 1 v n xs)(he:Ext w w'):w'.ownsRow B e 1 v n xs:=
 h.kept (he.but none) (by cases hv:v.ownBlock<;>simp)
theorem NPS.ext {w0 W W':World}{pv qv:Value}{parts:List ByteArray}{part:List UInt8}(h:NPS w0 W pv qv parts part)(hx:Ext W W'):NPS w0 W' pv qv parts part:=
 ⟨hx.heap h.r0,hx.heap h.r1,hx.heap h.r2,ownsRow_ext8 h.ow hx,h.ob.ext hx,h.ex.trans hx⟩
theorem NPS.lt {w0 W:World}{pv qv:Value}{parts:List ByteArray}{part:List UInt8}(h:NPS w0 W pv qv parts part):w0.heap.size+3≤W.heap.size:=(Array.getElem?_eq_some_iff.1 h.r2).1
theorem row_type {W:World}{B:Nat}{e:TypeId}{v:Value}{n:Nat}{xs:List Value}(h:W.ownsRow B e 1 v n xs){k:Nat}(hk:v.ownBlock=some k):∃ cur,W.heap[k]? = some (.cells cur e (0,0)):=by
 rcases h.2 with ⟨rfl,_⟩ | ⟨g,cap,cur,rfl,hb,hg,_⟩
 ·simp [Value.ownBlock] at hk
 ·have:g=k:=Option.some.inj hk
  subst this
  exact ⟨cur,hg⟩
theorem NPS.apart {w0 W:World}{pv qv:Value}{parts:List ByteArray}{part:List UInt8}(h:NPS w0 W pv qv parts part):∀ k,pv.ownBlock=some k→qv.ownBlock≠some k:=fun k hp hq=>by
 obtain ⟨c1,e1⟩:=row_type h.ow hp
 have hob:W.ownsRow (w0.heap.size+3) 5 1 qv part.length (bv part):=h.ob
 obtain ⟨c2,e2⟩:=row_type hob hq
 rw [e1] at e2
 injection e2 with e3
 injection e3 with _ e4 _
 exact absurd e4 (by decide)
theorem keep_far {W W':World}{row:Option Nat}{k B:Nat}{o:Obj}(hg:W.grownBy W' row)(hrow:∀ j,row=some j→B≤j)(hk:k<B)(h:W.heap[k]? = some o):W'.heap[k]? = some o:=
 (hg.block k (Array.getElem?_eq_some_iff.1 h).1 (fun e=>by have:=hrow k e.symm;omega)).trans h
theorem ob_kept {w w':World}{B:Nat}{v:Value}{l:List UInt8}{row:Option Nat}(h:OB 5 w B v l)(hg:w.grownBy w' row)(hne:v.ownBlock=none∨v.ownBlock≠row):OB 5 w' B v l:=World.ownsRow.kept h hg hne
theorem ne_of_apart {a b:Option Nat}(h:∀ k,a=some k→b≠some k):a=none∨a≠b:=by
 cases a with
 | none=>exact .inl rfl
 | some k=>exact .inr (fun e=>h k rfl e.symm)
theorem ne_far {a:Option Nat}{B k:Nat}(h:∀ j,a=some j→B≤j)(hk:k<B):a=none∨a≠some k:=by
 cases a with
 | none=>exact .inl rfl
 | some j=>exact .inr (fun e=>by have:=h j rfl;injection e with e;omega)
theorem NPS.byte {w0 W W1 W2:World} {pv qv qv':Value} {parts:List ByteArray} {part part':List UInt8} (h:NPS w0 W pv qv parts part) (hx:Ext W W1) (hg:W1.grownBy W2 qv.ownBlock) (ho:OB 5 W2 (w0.heap.size+3) qv' part'):
  NPS w0 (W2.setCell ⟨w0.heap.size+1+1,0,none⟩ qv') pv qv' parts part':=by
 have h1:=h.ext hx
 have hq:∀ j,qv.ownBlock=some j→w0.heap.size+3≤j:=fun j hj=>OB.lt h1.ob j hj
 have hp:∀ j,pv.ownBlock=some j→w0.heap.size+3≤j:=fun j hj=>(World.ownsRow.lt h1.ow j hj).1
 have hq':∀ j,qv'.ownBlock=some j→w0.heap.size+3≤j:=fun j hj=>OB.lt ho j hj
 have g0:=keep_far hg hq (by omega) h1.r0
 have g1:=keep_far hg hq (by omega) h1.r1
 have g2:=keep_far hg hq (by omega) h1.r2
 have gs:=grown_set1 W2 (w0.heap.size+1+1) qv'
 exact ⟨heap_far gs g0 (by omega),heap_far gs g1 (by omega),row1_set _ g2,(h1.ow.kept hg (ne_of_apart h1.apart)).kept gs (ne_far hp (by omega)),ob_kept ho gs (ne_far hq' (by omega)),(h1.ex.grown hg (fun k hk=>by have:=hq k hk;omega)).setCell (p:=⟨w0.heap.size+1+1,0,none⟩) (show w0.heap.size≤w0.heap.size+1+1 by omega) _⟩
theorem NPS.comp {w0 W W1 W2:World} {pv qv pv':Value} {parts parts':List ByteArray} {part:List UInt8} (h:NPS w0 W pv qv parts part) (hx:Ext W W1) (hg:W1.grownBy W2 pv.ownBlock) (ho:W2.ownsRow (w0.heap.size+3) 9 1 pv' (sv parts').length (sv parts')):
  NPS w0 ((W2.setCell ⟨w0.heap.size+1,0,none⟩ pv').setCell ⟨w0.heap.size+1+1,0,none⟩ (.slice none 0 0)) pv' (.slice none 0 0) parts' []:=by
 have h1:=h.ext hx
 have hp:∀ j,pv.ownBlock=some j→w0.heap.size+3≤j:=fun j hj=>(World.ownsRow.lt h1.ow j hj).1
 have hp':∀ j,pv'.ownBlock=some j→w0.heap.size+3≤j:=fun j hj=>(World.ownsRow.lt ho j hj).1
 have g0:=keep_far hg hp (by omega) h1.r0
 have g1:=keep_far hg hp (by omega) h1.r1
 have g2:=keep_far hg hp (by omega) h1.r2
 have gs:=grown_set1 W2 (w0.heap.size+1) pv'
 have gt:=grown_set1 (W2.setCell ⟨w0.heap.size+1,0,none⟩ pv') (w0.heap.size+1+1) (.slice none 0 0)
 have k1:(W2.setCell ⟨w0.heap.size+1,0,none⟩ pv').heap[w0.heap.size+1]? = some (.cells #[pv',.string ⟨#[]⟩] 37 (0,0)):=by rw [heap_setCell_same W2 _ 0 _ _ _ g1];rfl
 exact ⟨heap_far gt (heap_far gs g0 (by omega)) (by omega),heap_far gt k1 (by omega),row1_set _ (heap_far gs g2 (by omega)),(ho.kept gs (ne_far hp' (by omega))).kept gt (ne_far hp' (by omega)),OB.nil _ _ _,((h1.ex.grown hg (fun k hk=>by have:=hp k hk;omega)).setCell (p:=⟨w0.heap.size+1,0,none⟩) (show w0.heap.size≤w0.heap.size+1 by omega) _).setCell (p:=⟨w0.heap.size+1+1,0,none⟩) (show w0.heap.size≤w0.heap.size+1+1 by omega) _⟩
theorem shape_app {W:World}{B:Nat}{e:TypeId}{v:Value}{xs:List Value}{x:Value}(h:W.ownsRow B e 1 v (xs++[x]).length (xs++[x])):∃ g cap,v=.slice (some ⟨g,0,none⟩) (xs.length+1) cap:=by
 rcases h.2 with ⟨_,h0⟩ | ⟨g,cap,cur,rfl,_⟩
 ·simp at h0
 ·exact ⟨g,cap,by rw [List.length_append];rfl⟩
theorem end_cells {w0 W W1 W2:World} {pv qv:Value} {parts:List ByteArray} {part:List UInt8} (h:NPS w0 W pv qv parts part) (hx:Ext W W1) (hg:W1.grownBy W2 pv.ownBlock):
  W2.cell? ⟨w0.heap.size+1,0,none⟩=some pv∧W2.frozen? ⟨w0.heap.size+1,0,none⟩=false∧W2.cell? ⟨w0.heap.size+1+1,0,none⟩=some qv∧W2.frozen? ⟨w0.heap.size+1+1,0,none⟩=false:=by
 have h1:=h.ext hx
 have hp:∀ j,pv.ownBlock=some j→w0.heap.size+3≤j:=fun j hj=>(World.ownsRow.lt h1.ow j hj).1
 have g1:=keep_far hg hp (by omega) h1.r1
 have g2:=keep_far hg hp (by omega) h1.r2
 exact ⟨by rw [cell_of_row _ _ 0 _ _ (0,0) g1];rfl,frozen_of_row W2 _ 0 _ _ g1,(row1 g2).1,(row1 g2).2⟩
theorem byte_cells {w0 W W1 W2:World} {pv qv:Value} {parts:List ByteArray} {part:List UInt8} (h:NPS w0 W pv qv parts part) (hx:Ext W W1) (hg:W1.grownBy W2 qv.ownBlock):
  W2.cell? ⟨w0.heap.size+1+1,0,none⟩=some qv∧W2.frozen? ⟨w0.heap.size+1+1,0,none⟩=false:=by
 have h1:=h.ext hx
 have hq:∀ j,qv.ownBlock=some j→w0.heap.size+3≤j:=fun j hj=>OB.lt h1.ob j hj
 exact row1 (keep_far hg hq (by omega) h1.r2)
set_option maxRecDepth 100000 in
set_option maxHeartbeats 1000000 in
theorem NEnd_at (w0:World) (pv qv:Value) (parts:List ByteArray) (part:List UInt8) (hn:parts.length≤3000) (hm:part.length≤3000) (W:World) (h:NPS w0 W pv qv parts part):
  Calls Tryz.prog 148 #[.pointer (some ⟨w0.heap.size+1,0,none⟩),.pointer (some ⟨w0.heap.size+1+1,0,none⟩)] W fun e W'=>e=.returned (.tuple #[])∧∃ pv',NPS w0 W' pv' (.slice none 0 0) (parts++[⟨part.toArray⟩]) []:=by
 obtain ⟨i0,hi,hz0,hz1,hz2⟩:=info_parts sinfo'
 have H:=Lib.hid h
 have k1:W.cell? ⟨w0.heap.size+1,0,none⟩=some pv:=by rw [cell_of_row _ _ 0 _ _ (0,0) h.r1];rfl
 have k2:W.cell? ⟨w0.heap.size+1+1,0,none⟩=some qv:=by rw [cell_of_row _ _ 0 _ _ (0,0) h.r2];rfl
 have hcv:(convert 32 9 qv).run Tryz.prog W=.ok (.string ⟨part.toArray⟩) W:=run_str _ _ _ 5 _ _ Tryz.underlying32 Tryz.underlying5 Tryz.underlying9 h.ob.bs
 clear h
 go_enter Tryz.func148,Tryz.ntmps148
 go_wp2_with (at_builtin;refine wpList_append_rs _ rfl (.tmp 3) (.tmp 6) 35 rfl (w0.heap.size+3) 9 i0 (.string ⟨#[]⟩) 16 Tryz.underlying35 hi hz0 hz1 hz2 rfl _ (sv parts) rfl (ownsRow_ext8 H.out.ow ((Ext.refl W).alloc _)) _ [.string ⟨part.toArray⟩] rfl (RS.one _ _ _) (by simp [Value.oneCell']) ?hb (by omega) ?hm ?_;rotate_right;intro v4 w4 hown4 hg4 _;obtain ⟨g4,cap4,rfl⟩:=shape_app hown4;obtain ⟨c1,f1,c2,f2⟩:=end_cells H.out ((Ext.refl W).alloc (.cells #[.string ⟨part.toArray⟩] 9)) hg4)
 case hb=>rw [sv_length];simp;omega
 case hm=>exact Nat.le_trans H.out.lt (by simp)
 have e:sv parts++[Value.string ⟨part.toArray⟩]=sv (parts++[⟨part.toArray⟩]):=by simp [sv]
 rw [e] at hown4
 have hp:∀ j,pv.ownBlock=some j→w0.heap.size+3≤j:=fun j hj=>(World.ownsRow.lt H.out.ow j hj).1
 have hx:=(Ext.refl W).alloc (.cells #[.string ⟨part.toArray⟩] 9)
 have HF:=Lib.hid (H.out.comp hx hg4 hown4)
 clear hown4 hg4 e hp hx hcv k1 k2
 go_end0
 exact ⟨rfl,_,HF.out⟩
end Go.Proofs.YtnjmndofcpnmeaaGreatDoor
