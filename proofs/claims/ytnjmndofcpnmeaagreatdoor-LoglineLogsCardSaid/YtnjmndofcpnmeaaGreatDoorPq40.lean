/- Pq40. -/
import Derived.Test.YtnjmndofcpnmeaaGreatDoorPq34
import Derived.Test.YtnjmndofcpnmeaaGreatDoorPq39
import Derived.Test.YtnjmndofcpnmeaaGreatDoorPq29
import Derived.Deep.CutBlock
import Derived.Deep.DeepCutAuto
namespace Go.Proofs.YtnjmndofcpnmeaaGreatDoor
open Go Go.RowKit
set_option linter.unusedVariables false
theorem wru_u8 (p:Nat)(h:p<256):IntKind.u8.wrap (p:Int)=(p:Int):=by
 show (if (false&&decide ((p:Int) % 256 ≥ 128))=true then (p:Int) % 256-256 else (p:Int) % 256)=_
 rw [if_neg (by simp)];omega
theorem wrp_u8 (p:Nat)(h:p<256):IntKind.u8.wrap (IntKind.i64.wrap (p:Int))=(p:Int):=by
 have h1:IntKind.i64.wrap (p:Int)=(p:Int):=by
  show (if (true&&decide ((p:Int) % 18446744073709551616 ≥ 9223372036854775808))=true then (p:Int) % 18446744073709551616-18446744073709551616 else (p:Int) % 18446744073709551616)=_
  rw [if_neg (by simp;omega)];omega
 rw [h1,wru_u8 p h]
def slLen:Value→Nat
 | .slice _ n _=>n
 | _=>0
def Apart (a b:Value):Prop:=∀ g,a.ownBlock=some g→b.ownBlock≠some g
theorem OwI.lt2 {w:World}{B:Nat}{v:Value}{l:List Nat}(h:OwI w B v l):∀ k,v.ownBlock=some k→B≤k∧k<w.heap.size:=World.ownsRow.lt h
def W6 (s:ByteArray)(w w1:World)(vb va vd:Value)(wc:World):Prop:=∃ (bf af:List Nat) (db:Bool) (A A':Option Addr) (c c':Nat),vb=.slice A bf.length c∧va=.slice A' af.length c'∧vd=.bool db∧bf.length+af.length≤9∧Hid (OwI wc (w.heap.size+2) (.slice A bf.length c) bf)∧Hid (OwI wc (w.heap.size+2) (.slice A' af.length c') af)∧Hid (Apart (.slice A bf.length c) (.slice A' af.length c'))∧Hid (rcnd s.data.toList=some (24,wbs (pad6 bf af db)))∧Hid (∀ x∈bf++af,x<65536)∧Hid (Ext w1 wc)
def W6b (s:ByteArray)(w w1:World)(va:Value)(af:List Nat)(vb:Value)(wc:World):Prop:=∃ (bf:List Nat) (A:Option Addr) (c:Nat),vb=.slice A bf.length c∧bf.length+af.length≤9∧Hid (OwI wc (w.heap.size+2) (.slice A bf.length c) bf)∧Hid (OwI wc (w.heap.size+2) va af)∧Hid (rcnd s.data.toList=some (24,wbs (bf++af)))∧Hid (∀ x∈bf++af,x<65536)∧Hid (Ext w1 wc)
set_option maxRecDepth 100000 in
set_option maxHeartbeats 8000000 in
theorem RAParse6_at (s:ByteArray) (hs:s.size≤3000) (w:World) (hp:hostP.isPrefixOf s.data.toList=false) (hq:([91]:List UInt8).isPrefixOf s.data.toList=true):
  Calls Tryz.prog 93 #[.string s] w fun e w'=>PAr s.data.toList e w'∧Ext w w':=by
 obtain ⟨i0,hi,hz0,hz1,hz2'⟩:=info_parts u8inf
 obtain ⟨i1,hi1,hy0,hy1,hy2⟩:=info_parts i64inf
 have hsz:s.data.toList.length=s.size:=by rw [Array.length_toList];rfl
 have h0:=heap_alloc_new w (.cells #[.int .i64 0,.slice none 0 0] 34)
 have h1:=heap_alloc_new (w.alloc (.cells #[.int .i64 0,.slice none 0 0] 34)) (.cells #[.int .i64 0,.slice none 0 0] 34)
 have x1:=(Ext.refl (w.alloc (.cells #[.int .i64 0,.slice none 0 0] 34))).alloc (.cells #[.int .i64 0,.slice none 0 0] 34)
 have x0:=(Ext.refl w).alloc (.cells #[.int .i64 0,.slice none 0 0] 34)
 rw [World.size_alloc] at h1
 obtain ⟨w1,hw1⟩:∃ w1,(w.alloc (.cells #[.int .i64 0,.slice none 0 0] 34)).alloc (.cells #[.int .i64 0,.slice none 0 0] 34)=w1:=⟨_,rfl⟩
 have h01:=x1.heap h0
 have x01:=x0.trans x1
 rw [hw1] at h1 h01 x01
 have HR1:=Lib.hid (show AB w1 w.heap.size 0 none 0 0 from h01);have HB1:=Lib.hid (show AB w1 (w.heap.size+1) 0 none 0 0 from h1);have HX1:=Lib.hid x01;have HS:=Lib.hid hs;have HSZ:=Lib.hid hsz
 clear h0 h1 x0 x1 h01 x01 hs hsz
 have HW1:=Lib.hid (show w1.heap.size=w.heap.size+2 by rw [← hw1];simp)
 have hn0:0<s.size:=by
  rcases Nat.eq_zero_or_pos s.size with h | h
  ·have:s.data.toList=[]:=List.eq_nil_of_length_eq_zero (by rw [HSZ.out];exact h)
   rw [this] at hq;cases hq
  ·exact h
 have hd0:=drop_byteA s 0 hn0
 rw [List.drop_zero] at hd0
 have h91:s[0].toNat=91:=by
  rw [hd0] at hq
  have:(91:UInt8)=s[0]:=by simpa [List.isPrefixOf] using hq.symm
  rw [← this];rfl
 have hix:=idx_run s 0 hn0 91 (by omega)
 rw [show (((0:Nat)):Int)=0 from rfl] at hix
 have HRC:=Lib.hid (show rcnd s.data.toList=(match rd6 (s.data.toList.drop 1) false [] [] with | none=>none | some (bf,af,db)=>some (24,wbs (pad6 bf af db))) by unfold rcnd;rw [hp,hq];rfl)
 have hct:=host_cut s
 rw [hp] at hct
 have h5p:(0:Int)<(s.size:Int):=by omega
 have hn1:1≤s.size:=hn0
 clear hp hq h91 hd0 hn0
 go_enter Tryz.func93,Tryz.ntmps93
 go_upto_region 11 with fail
 go_cut [41] (fun v wc=>v=.bool false∧w1=wc)
 case first=>
  have hin:s.size<5∨5≤s.size:=by omega
  rcases hin with h5 | h5
  ·have h5':(s.size:Int)<5:=by omega
   clear h5 hct
   go_wp2_with fail
   go_meet
   case rel=>exact ⟨rfl,rfl⟩
  ·have h5':(5:Int)≤(s.size:Int):=by omega
   have hsl:=take_run s h5
   obtain ⟨M,hM⟩:∃ M,s.data.toList.take 5=M:=⟨_,rfl⟩
   rw [hM] at hct hsl
   clear h5 hM
   go_wp2_with fail
   go_meet
   case rel=>exact ⟨rfl,rfl⟩
 case rest=>
 obtain ⟨rfl,hwc⟩:=hcut
 subst hwc
 clear hct
 go_upto_block 3 with fail
 clear hix
 go_cut [5,6,7,8] (fun vb va _ vd wx=>W6 s w w1 vb va vd wx)
 case first=>
  go_wp2_with fail
  go_loopw [5,6,7,8] (fun vb va vi vd wr=>∃ (k:Nat) (bf af:List Nat) (db:Bool) (A A':Option Addr) (c c':Nat),vb=.slice A bf.length c∧va=.slice A' af.length c'∧vi=.int .i64 (k:Int)∧vd=.bool db∧k≤s.size∧bf.length+af.length≤9∧Hid (OwI wr (w.heap.size+2) (.slice A bf.length c) bf)∧Hid (OwI wr (w.heap.size+2) (.slice A' af.length c') af)∧Hid (Apart (.slice A bf.length c) (.slice A' af.length c'))∧Hid (rd6 (s.data.toList.drop 1) false [] []=rd6 (s.data.toList.drop k) db bf af)∧Hid (∀ x∈bf++af,x<65536)∧Hid (Ext w1 wr)) (fun _ _ vi _ _=>s.size-(intOf vi).toNat)
  case atStart=>exact ⟨1,[],[],false,none,none,0,0,rfl,rfl,rfl,rfl,hn1,by simp,Lib.hid (OwI.nil _ _),Lib.hid (OwI.nil _ _),Lib.hid (fun g hg=>by cases hg),Lib.hid rfl,Lib.hid (fun x hx=>by simp at hx),Lib.hid (Ext.refl _)⟩
  case round=>
   obtain ⟨k,bf,af,db,A,A',c,c',rfl,rfl,rfl,rfl,hk,hle,HB,HA,HD,HRD,HLT,HX⟩:=hrel
   clear hn1
   have hs9:s.size≤3000:=HS.out
   by_cases hks:k<s.size
   ·have hdk:=drop_byteA s k hks
    obtain ⟨x,hx⟩:∃ x,s[k].toNat=x:=⟨_,rfl⟩
    have hix:=idx_run s k hks (x:Int) (by omega)
    by_cases h93:x=93
    ·have HST:=Lib.hid (HRD.out.trans (rd6_stop hdk db bf af (.inl (UInt8.toNat.inj (by rw [hx,h93];rfl)))))
     have hxq:((x:Int)==93)=true:=by rw [beq_iff_eq];omega
     have hxn:((x:Int) != 93)=false:=by rw [bne,hxq];rfl
     clear hdk hx h93
     go_wp2_with fail
     go_meet
     case rel=>exact ⟨bf,af,db,A,A',c,c',rfl,rfl,rfl,hle,HB,HA,HD,Lib.hid (by rw [HRC.out,HST.out]),HLT,HX⟩
    ·have hxq:((x:Int)==93)=false:=by rw [beq_eq_false_iff_ne];omega
     have hxn:((x:Int) != 93)=true:=by rw [bne,hxq];rfl
     have hc93:s[k]≠93:=fun e=>h93 (by rw [← hx,e];rfl)
     by_cases h9:bf.length+af.length<9
     ·have h9i:(bf.length:Int)+(af.length:Int)<9:=by omega
      by_cases h58:x=58
      ·have hxc:((x:Int)==58)=true:=by rw [beq_iff_eq];omega
       have hc58:s[k]=58:=UInt8.toNat.inj (by rw [hx,h58];rfl)
       rw [hc58] at hdk
       have hst:=HRD.out.trans (rd6_col hdk db bf af h9)
       clear hc58 hdk hx h58 h93 hc93 h9
       cases db with
       | true=>
        have HST:=Lib.hid (show rd6 (s.data.toList.drop 1) false [] []=rd6 (s.data.toList.drop (k+1)) true bf af from hst)
        clear hst
        go_wp2_with fail
        go_roundw
        case rel=>exact ⟨k+1,bf,af,true,A,A',c,c',rfl,rfl,by go_num,rfl,by omega,hle,HB,HA,HD,HST,HLT,HX⟩
        case measure=>simp [intOf];omega
       | false=>
        by_cases hk1:k+1<s.size
        ·have hk1i:(k:Int)+1<(s.size:Int):=by omega
         have hdk1:=drop_byteA s (k+1) hk1
         obtain ⟨y,hy⟩:∃ y,s[k+1].toNat=y:=⟨_,rfl⟩
         have hix1:=idx_run s (k+1) hk1 (y:Int) (by omega)
         rw [show (((k+1:Nat)):Int)=(k:Int)+1 from by omega] at hix1
         rw [hdk1] at hst
         by_cases hy58:y=58
         ·have hyc:((y:Int)==58)=true:=by rw [beq_iff_eq];omega
          have hcy:s[k+1]=58:=UInt8.toNat.inj (by rw [hy,hy58];rfl)
          have HST:=Lib.hid (show rd6 (s.data.toList.drop 1) false [] []=rd6 (s.data.toList.drop (k+1)) true bf af by rw [hst,hdk1,hcy];rfl)
          clear hst hdk1 hy hy58 hcy
          go_wp2_with fail
          go_roundw
          case rel=>exact ⟨k+1,bf,af,true,A,A',c,c',rfl,rfl,by go_num,rfl,by omega,hle,HB,HA,HD,HST,HLT,HX⟩
          case measure=>simp [intOf];omega
         ·have hyc:((y:Int)==58)=false:=by rw [beq_eq_false_iff_ne];omega
          have hcy:(s[k+1]==(58:UInt8))=false:=by rw [beq_eq_false_iff_ne];intro e;exact hy58 (by rw [← hy,e];rfl)
          have HST:=Lib.hid (show rd6 (s.data.toList.drop 1) false [] []=rd6 (s.data.toList.drop (k+1)) false bf af by rw [hst,hdk1];simp [hcy])
          clear hst hdk1 hy hy58 hcy
          go_wp2_with fail
          go_roundw
          case rel=>exact ⟨k+1,bf,af,false,A,A',c,c',rfl,rfl,by go_num,rfl,by omega,hle,HB,HA,HD,HST,HLT,HX⟩
          case measure=>simp [intOf];omega
        ·have hk1i:(s.size:Int)≤(k:Int)+1:=by omega
         have HST:=Lib.hid (show rd6 (s.data.toList.drop 1) false [] []=rd6 (s.data.toList.drop (k+1)) false bf af by
          rw [hst,List.drop_eq_nil_of_le (show s.data.toList.length≤k+1 by rw [Array.length_toList];show s.size≤k+1;omega)];rfl)
         clear hst
         go_wp2_with fail
         go_roundw
         case rel=>exact ⟨k+1,bf,af,false,A,A',c,c',rfl,rfl,by go_num,rfl,by omega,hle,HB,HA,HD,HST,HLT,HX⟩
         case measure=>simp [intOf];omega
      ·have hxc:((x:Int)==58)=false:=by rw [beq_eq_false_iff_ne];omega
       have hc58:s[k]≠58:=fun e=>h58 (by rw [← hx,e];rfl)
       obtain ⟨v,e,hd,hae,hes⟩:=dgs_at 16 s k hk
       have hdi:=RAdigits16_at s HS.out k hk wr
       rw [hd] at hdi
       dsimp only at hdi
       rw [size_drop s e hes] at hdi
       have hde:(s.data.toList.drop e).length=s.size-e:=by rw [List.length_drop,Array.length_toList];rfl
       have hdk':(s.data.toList.drop k).length=s.size-k:=by rw [List.length_drop,Array.length_toList];rfl
       by_cases hek:e=k
       ·have HN:=Lib.hid (HRD.out.trans (rd6_fail hdk db bf af hc93 h9 hc58 hd (by rw [hde,hdk',hek];omega)))
        have HP:=Lib.hid (rp_no0 (l:=s.data.toList) (by rw [HRC.out,HN.out]))
        have hekq:((e:Int)==(k:Int))=true:=by rw [beq_iff_eq];omega
        have HDI:=Lib.hid hdi
        obtain ⟨z0,z1⟩:=(HR1.out.ext HX.out).cells
        have s0:=(HR1.out.ext HX.out).soft 0;have s1:=(HR1.out.ext HX.out).soft 1
        obtain ⟨y0,y1⟩:=((HR1.out.ext HX.out).set 0 none 0 0).cells
        have HXF:=Lib.hid ((HX1.out.trans HX.out).set2 (g:=w.heap.size) (Nat.le_refl _) (.int .i64 0) (.slice none 0 0))
        have Y0:=Lib.hid y0;have Y1:=Lib.hid y1
        clear y0 y1 hdi hd hde hdk' hdk hek hx h58 h93 hc58 hc93 h9
        go_wp2_with fail
        refine HDI.out.mono ?_
        rintro _ w3 ⟨rfl,rfl⟩
        go_wp2_with fail
        have y0:=Y0.out;have y1:=Y1.out
        refine bodyPost_ret (v:=.tuple #[adv 0 none 0 0,.int .i64 6]) (by simp [results,Tryz.results93,go_sem,y0,y1,adv];try rfl) rfl ?_
        exact ⟨.inr ⟨HP.out,rfl⟩,HXF.out⟩
       ·have hekq:((e:Int)==(k:Int))=false:=by rw [beq_eq_false_iff_ne];omega
        have hlt:(s.data.toList.drop e).length<(s.data.toList.drop k).length:=by rw [hde,hdk'];omega
        obtain ⟨z,hz⟩:∃ z,v % 65536=z:=⟨_,rfl⟩
        have hzl:z<65536:=by omega
        have hzi:(v:Int) % 65536=(z:Int):=by omega
        have HZL:=Lib.hid hzl
        have HDI:=Lib.hid hdi
        have hke:k<e:=by omega
        cases db with
        | true=>
         have HST:=Lib.hid (HRD.out.trans (rd6_af hdk bf af hc93 h9 hc58 hd hlt))
         rw [hz] at HST
         have hx4:=(Ext.refl wr).alloc (.cells #[.int .i64 (z:Int)] 3)
         have HX4:=Lib.hid hx4
         have HRS:=Lib.hid (show RS (wr.alloc (.cells #[.int .i64 (z:Int)] 3)) (.slice (some ⟨wr.heap.size,0,none⟩) 1 1) (iv [z]) from RS.new wr 3 (iv [z]) (by simp [iv,maxLen]))
         have HOV:=Lib.hid (HA.out.ext hx4)
         clear hx4
         clear hdi hd hde hdk' hdk hx h58 h93 hc58 hc93 hlt hek hz hzl hae
         go_wp2_with fail
         refine HDI.out.mono ?_
         rintro _ w3 ⟨rfl,rfl⟩
         go_wp2_with (at_builtin;refine wpList_append_iv _ rfl (.tmp 114) (.tmp 117) 126 rfl (w.heap.size+2) i1 Tryz.underlying126 hi1 hy0 hy1 hy2 _ af rfl HOV.out _ [z] rfl HRS.out ?hb ?hm ?_;rotate_right;intro v4 w4 hown4 hg4 hat4;obtain ⟨m4,hm4⟩:∃ x,af++[z]=x:=⟨_,rfl⟩;rw [hm4] at hown4;obtain ⟨A4,c4,rfl,hk4,hk5⟩:=OwI.shape hown4;have HM4:=Lib.hid hm4;have HL4:=Lib.hid (show m4.length=af.length+1 by rw [← hm4];simp);have HO4:=Lib.hid hown4;have HG4:=Lib.hid hg4;have HAT4:=Lib.hid hat4;clear hm4 hown4 hg4 hat4 hk4 hk5)
         case hb=>simp;omega
         case hm=>have h1:=HX4.out.size;have h2:=HX.out.size;have h3:=HW1.out;omega
         have HT5:=Lib.hid (show OwI w4 (w.heap.size+2) (.slice A bf.length c) bf from (HB.out.ext HX4.out).off HG4.out (fun g k9 hg hk9 e9=>HD.out k9 hk9 (e9 ▸ hg)))
         have HD5:Hid (Apart (.slice A bf.length c) (.slice A4 m4.length c4)):=Lib.hid (fun g hg=>by
          rcases HAT4.out with h | h
          ·rw [h];exact HD.out g hg
          ·rw [h];intro e9;injection e9 with e9;have h1:=(HB.out.lt2 g hg).2;rw [World.size_alloc] at e9;omega)
         have HLT5:Hid (∀ y∈bf++m4,y<65536):=Lib.hid (fun y hy=>by
          rw [← HM4.out,List.mem_append,List.mem_append,List.mem_singleton] at hy
          rcases hy with hy | hy | hy
          ·exact HLT.out y (List.mem_append_left _ hy)
          ·exact HLT.out y (List.mem_append_right _ hy)
          ·rw [hy];exact HZL.out)
         have HX5:=Lib.hid (show Ext w1 w4 from (HX.out.trans HX4.out).grown HG4.out (fun j hj=>by have h1:=(HA.out.lt2 j hj).1;have h2:=HW1.out;omega))
         go_roundw
         case rel=>exact ⟨e,bf,m4,true,A,A4,c,c4,rfl,rfl,by go_num,rfl,hes,by have:=HL4.out;omega,HT5,HO4,HD5,Lib.hid (by rw [HST.out,HM4.out]),HLT5,HX5⟩
         case measure=>simp [intOf];omega
        | false=>
         have HST:=Lib.hid (HRD.out.trans (rd6_bf hdk bf af hc93 h9 hc58 hd hlt))
         rw [hz] at HST
         have hx4:=(Ext.refl wr).alloc (.cells #[.int .i64 (z:Int)] 3)
         have HX4:=Lib.hid hx4
         have HRS:=Lib.hid (show RS (wr.alloc (.cells #[.int .i64 (z:Int)] 3)) (.slice (some ⟨wr.heap.size,0,none⟩) 1 1) (iv [z]) from RS.new wr 3 (iv [z]) (by simp [iv,maxLen]))
         have HOV:=Lib.hid (HB.out.ext hx4)
         clear hx4
         clear hdi hd hde hdk' hdk hx h58 h93 hc58 hc93 hlt hek hz hzl hae
         go_wp2_with fail
         refine HDI.out.mono ?_
         rintro _ w3 ⟨rfl,rfl⟩
         go_wp2_with (at_builtin;refine wpList_append_iv _ rfl (.tmp 119) (.tmp 122) 126 rfl (w.heap.size+2) i1 Tryz.underlying126 hi1 hy0 hy1 hy2 _ bf rfl HOV.out _ [z] rfl HRS.out ?hb ?hm ?_;rotate_right;intro v4 w4 hown4 hg4 hat4;obtain ⟨m4,hm4⟩:∃ x,bf++[z]=x:=⟨_,rfl⟩;rw [hm4] at hown4;obtain ⟨A4,c4,rfl,hk4,hk5⟩:=OwI.shape hown4;have HM4:=Lib.hid hm4;have HL4:=Lib.hid (show m4.length=bf.length+1 by rw [← hm4];simp);have HO4:=Lib.hid hown4;have HG4:=Lib.hid hg4;have HAT4:=Lib.hid hat4;clear hm4 hown4 hg4 hat4 hk4 hk5)
         case hb=>simp;omega
         case hm=>have h1:=HX4.out.size;have h2:=HX.out.size;have h3:=HW1.out;omega
         have HT5:=Lib.hid (show OwI w4 (w.heap.size+2) (.slice A' af.length c') af from (HA.out.ext HX4.out).off HG4.out (fun g k9 hg hk9 e9=>HD.out g hg (e9 ▸ hk9)))
         have HD5:Hid (Apart (.slice A4 m4.length c4) (.slice A' af.length c')):=Lib.hid (fun g hg=>by
          rcases HAT4.out with h | h
          ·rw [h] at hg;exact HD.out g hg
          ·rw [h] at hg;injection hg with hg;intro e9;have h1:=(HA.out.lt2 g e9).2;rw [World.size_alloc] at hg;omega)
         have HLT5:Hid (∀ y∈m4++af,y<65536):=Lib.hid (fun y hy=>by
          rw [← HM4.out,List.mem_append,List.mem_append,List.mem_singleton] at hy
          rcases hy with (hy | hy) | hy
          ·exact HLT.out y (List.mem_append_left _ hy)
          ·rw [hy];exact HZL.out
          ·exact HLT.out y (List.mem_append_right _ hy))
         have HX5:=Lib.hid (show Ext w1 w4 from (HX.out.trans HX4.out).grown HG4.out (fun j hj=>by have h1:=(HB.out.lt2 j hj).1;have h2:=HW1.out;omega))
         go_roundw
         case rel=>exact ⟨e,m4,af,false,A4,A',c4,c',rfl,rfl,by go_num,rfl,hes,by have:=HL4.out;omega,HO4,HT5,HD5,Lib.hid (by rw [HST.out,HM4.out]),HLT5,HX5⟩
         case measure=>simp [intOf];omega
     ·have h9i:(9:Int)≤(bf.length:Int)+(af.length:Int):=by omega
      have HST:=Lib.hid (HRD.out.trans (rd6_stop hdk db bf af (.inr h9)))
      clear hdk hx h93 hc93
      go_wp2_with fail
      go_meet
      case rel=>exact ⟨bf,af,db,A,A',c,c',rfl,rfl,rfl,hle,HB,HA,HD,Lib.hid (by rw [HRC.out,HST.out]),HLT,HX⟩
   ·have hks':(s.size:Int)≤(k:Int):=by omega
    have HST:=Lib.hid (show rd6 (s.data.toList.drop 1) false [] []=some (bf,af,db) by
     rw [HRD.out,List.drop_eq_nil_of_le (show s.data.toList.length≤k by rw [Array.length_toList];show s.size≤k;omega),rd6_nil])
    go_wp2_with fail
    go_meet
    case rel=>exact ⟨bf,af,db,A,A',c,c',rfl,rfl,rfl,hle,HB,HA,HD,Lib.hid (by rw [HRC.out,HST.out]),HLT,HX⟩
 case rest=>
 obtain ⟨bf0,af,db,A0,A',c0,c',rfl,rfl,rfl,hle0,HB0,HA0,HD0,HRC0,HLT0,HX0⟩:=hcut
 go_upto_block 5 with fail
 go_cut [5] (fun vb wx=>W6b s w w1 (.slice A' af.length c') af vb wx)
 case first=>
  go_wp2_with fail
  go_loopw [5] (fun vb wr=>∃ (bf:List Nat) (A:Option Addr) (c:Nat),vb=.slice A bf.length c∧bf.length+af.length≤9∧Hid (OwI wr (w.heap.size+2) (.slice A bf.length c) bf)∧Hid (OwI wr (w.heap.size+2) (.slice A' af.length c') af)∧Hid (Apart (.slice A bf.length c) (.slice A' af.length c'))∧Hid (rcnd s.data.toList=some (24,wbs (pad6 bf af db)))∧Hid (∀ x∈bf++af,x<65536)∧Hid (Ext w1 wr)) (fun vb _=>9-slLen vb)
  case atStart=>exact ⟨bf0,A0,c0,rfl,hle0,HB0,HA0,HD0,HRC0,HLT0,HX0⟩
  case round=>
   obtain ⟨bf,A,c,rfl,hle,HB,HA,HD,HRC6,HLT,HX⟩:=hrel
   clear HB0 HA0 HD0 HRC0 HLT0 HX0 hle0
   cases db with
   | false=>
    go_wp2_with fail
    go_meet
    case rel=>exact ⟨bf,A,c,rfl,hle,HB,HA,Lib.hid (by rw [HRC6.out,pad6_no]),HLT,HX⟩
   | true=>
    by_cases h8:bf.length+af.length<8
    ·have h8i:(bf.length:Int)+(af.length:Int)<8:=by omega
     have HR6:=Lib.hid (show rcnd s.data.toList=some (24,wbs (pad6 (bf++[0]) af true)) by rw [HRC6.out,pad6_step bf af h8])
     have hx4:=(Ext.refl wr).alloc (.cells #[.int .i64 0] 3)
     have HX4:=Lib.hid hx4
     have HRS:=Lib.hid (show RS (wr.alloc (.cells #[.int .i64 0] 3)) (.slice (some ⟨wr.heap.size,0,none⟩) 1 1) (iv [0]) from RS.new wr 3 (iv [0]) (by simp [iv,maxLen]))
     have HOV:=Lib.hid (HB.out.ext hx4)
     clear hx4
     go_wp2_with (at_builtin;refine wpList_append_iv _ rfl (.tmp 133) (.tmp 134) 126 rfl (w.heap.size+2) i1 Tryz.underlying126 hi1 hy0 hy1 hy2 _ bf rfl HOV.out _ [0] rfl HRS.out ?hb ?hm ?_;rotate_right;intro v4 w4 hown4 hg4 hat4;obtain ⟨m4,hm4⟩:∃ x,bf++[0]=x:=⟨_,rfl⟩;rw [hm4] at hown4;obtain ⟨A4,c4,rfl,hk4,hk5⟩:=OwI.shape hown4;have HM4:=Lib.hid hm4;have HL4:=Lib.hid (show m4.length=bf.length+1 by rw [← hm4];simp);have HO4:=Lib.hid hown4;have HG4:=Lib.hid hg4;have HAT4:=Lib.hid hat4;clear hm4 hown4 hg4 hat4 hk4 hk5)
     case hb=>simp;omega
     case hm=>have h1:=HX4.out.size;have h2:=HX.out.size;have h3:=HW1.out;omega
     have HT5:=Lib.hid (show OwI w4 (w.heap.size+2) (.slice A' af.length c') af from (HA.out.ext HX4.out).off HG4.out (fun g k9 hg hk9 e9=>HD.out g hg (e9 ▸ hk9)))
     have HD5:Hid (Apart (.slice A4 m4.length c4) (.slice A' af.length c')):=Lib.hid (fun g hg=>by
      rcases HAT4.out with h | h
      ·rw [h] at hg;exact HD.out g hg
      ·rw [h] at hg;injection hg with hg;intro e9;have h1:=(HA.out.lt2 g e9).2;rw [World.size_alloc] at hg;omega)
     have HLT5:Hid (∀ y∈m4++af,y<65536):=Lib.hid (fun y hy=>by
      rw [← HM4.out,List.mem_append,List.mem_append,List.mem_singleton] at hy
      rcases hy with (hy | hy) | hy
      ·exact HLT.out y (List.mem_append_left _ hy)
      ·omega
      ·exact HLT.out y (List.mem_append_right _ hy))
     have HX5:=Lib.hid (show Ext w1 w4 from (HX.out.trans HX4.out).grown HG4.out (fun j hj=>by have h1:=(HB.out.lt2 j hj).1;have h2:=HW1.out;omega))
     go_roundw
     case rel=>exact ⟨m4,A4,c4,rfl,by have:=HL4.out;omega,HO4,HT5,HD5,Lib.hid (by rw [HR6.out,HM4.out]),HLT5,HX5⟩
     case measure=>have:=HL4.out;simp [slLen];omega
    ·have h8i:(8:Int)≤(bf.length:Int)+(af.length:Int):=by omega
     go_wp2_with fail
     go_meet
     case rel=>exact ⟨bf,A,c,rfl,hle,HB,HA,Lib.hid (by rw [HRC6.out,pad6_full bf af h8]),HLT,HX⟩
 case rest=>
 obtain ⟨bf,A,c,rfl,hle,HB,HA,HC6,HLT,HX⟩:=hcut
 clear HB0 HA0 HD0 HRC0 HLT0 HX0 hle0
 have HRS:=Lib.hid HA.out.rs
 obtain ⟨G,hG⟩:∃ G,bf++af=G:=⟨_,rfl⟩
 have hGl:G.length≤9:=by rw [← hG];simp;omega
 rw [hG] at HC6 HLT
 have HGG:=Lib.hid hG
 clear hG
 go_upto_region 30 with (at_builtin;refine wpList_append_iv _ rfl (.tmp 136) (.tmp 137) 126 rfl (w.heap.size+2) i1 Tryz.underlying126 hi1 hy0 hy1 hy2 _ bf rfl HB.out _ af rfl HRS.out ?hb ?hm ?_;rotate_right;intro v4 w4 hown4 hg4 _;rw [HGG.out] at hown4;obtain ⟨A4,c4,rfl,hk4,hk5⟩:=OwI.shape hown4;have HO4:=Lib.hid hown4;have HX4:=Lib.hid (show Ext w1 w4 from HX.out.grown hg4 (fun j hj=>by have h1:=(HB.out.lt2 j hj).1;have h2:=HW1.out;omega));have hb4:=HB1.out.ext HX4.out;have f0:=hb4.soft 0;obtain ⟨k0,k1⟩:=hb4.cells;obtain ⟨w5,hw5⟩:∃ W,w4.setCell ⟨w.heap.size+1,0,none⟩ (.int .i64 24)=W:=⟨_,rfl⟩;clear hown4 hk4 hk5 hg4)
 case hb=>omega
 case hm=>have h1:=HX.out.size;have h2:=HW1.out;omega
 have hb5:=hb4.set0 24
 have hr5:AB (w4.setCell ⟨w.heap.size+1,0,none⟩ (.int .i64 24)) w.heap.size 0 none 0 0:=heap_far (grown_set (grown_refl w4 _) 0 _) (HR1.out.ext HX4.out) (by omega)
 have hx5:=(HX1.out.trans HX4.out).setCell (p:=⟨w.heap.size+1,0,none⟩) (by show w.heap.size≤w.heap.size+1;omega) (.int .i64 24)
 have hi5:OwI (w4.setCell ⟨w.heap.size+1,0,none⟩ (.int .i64 24)) (w.heap.size+2) (.slice A4 G.length c4) G:=HO4.out.off (grown_set (grown_refl w4 _) 0 (.int .i64 24)) (fun g k9 hg hk9 e9=>by injection hg with hg;have h1:=(HO4.out.lt2 k9 hk9).1;omega)
 rw [hw5] at hb5 hr5 hx5 hi5
 have HB5:=Lib.hid hb5;have HR5:=Lib.hid hr5;have HX5:=Lib.hid hx5;have HI5:=Lib.hid hi5
 clear hb4 hb5 hr5 hx5 hi5 HO4 HX4 HB HA HX HRS hle
 go_upto_block 7 with fail
 clear hw5 f0 k0 k1
 go_wp2_with fail
 go_loopw [11] (fun vi wr=>∃ (k:Nat) (acc:List UInt8) (A:Option Addr) (c:Nat),vi=.int .i64 (k:Int)∧k≤G.length∧Hid (acc=wbs (G.take k))∧Hid (AB wr (w.heap.size+1) 24 A acc.length c)∧Hid (OB 5 wr w5.heap.size (.slice A acc.length c) acc)∧Hid (AB wr w.heap.size 0 none 0 0)∧Hid (OwI wr (w.heap.size+2) (.slice A4 G.length c4) G)∧Hid (Ext w wr)∧Hid (w5.heap.size≤wr.heap.size)) (fun vi _=>G.length-(intOf vi).toNat)
 case atStart=>exact ⟨0,[],none,0,rfl,Nat.zero_le _,Lib.hid rfl,HB5,Lib.hid (OB.nil _ _ _),HR5,HI5,HX5,Lib.hid (Nat.le_refl _)⟩
 case round=>
  obtain ⟨k,acc,A,c,rfl,hk,HL,HB,HO,HR,HI,HX,HS5⟩:=hrel
  by_cases hlt:k<G.length
  ·have hki:(k:Int)<(G.length:Int):=by omega
   have hxl:=HLT.out G[k] (List.getElem_mem hlt)
   have HTK:=Lib.hid (show wbs (G.take (k+1))=wbs (G.take k)++[UInt8.ofNat (G[k] / 256),UInt8.ofNat (G[k] % 256)] by rw [List.take_succ_eq_append_getElem hlt,wbs_snoc3])
   have hget:=iv_get G k hlt
   obtain ⟨A5,c5,he,h1,h2,h3⟩:=HI.out.rs.open_
   rw [iv_length] at he h1 h3
   injection he with e1 e2 e3
   subst e1;subst e3
   obtain ⟨ad,rfl,_,h4⟩:=h3 (by omega)
   have hcell:=h4 k _ hget
   obtain ⟨x,hx⟩:∃ x,G[k]=x:=⟨_,rfl⟩
   rw [hx] at hxl HTK hcell
   obtain ⟨p,hp⟩:∃ p,x / 256=p:=⟨_,rfl⟩
   obtain ⟨q,hq⟩:∃ q,x % 256=q:=⟨_,rfl⟩
   rw [hp,hq] at HTK
   have hpi:(x:Int) / 256=(p:Int):=by omega
   have hpi2:(p:Int) % 256=(p:Int):=by omega
   have hqi:(x:Int) % 256=(q:Int):=by omega
   have hqi2:(q:Int) % 256=(q:Int):=by omega
   have hacl:acc.length≤18:=by rw [HL.out,wbs_length,List.length_take];omega
   have HAC:=Lib.hid hacl
   have hxd:=Ext.drew wr
   have hxa:=((Ext.refl wr).alloc (.cells #[.int .u8 (p:Int),.int .u8 (q:Int)] 5)).trans (Ext.drew _)
   have C1:=hxd.cell hcell
   obtain ⟨d0,d1⟩:=(HB.out.ext hxd).cells
   obtain ⟨u0,u1⟩:=(HB.out.ext hxa).cells
   have HXA:=Lib.hid hxa
   have hp8:((UInt8.ofNat p).toNat:Int)=(p:Int):=by rw [UInt8.toNat_ofNat',Nat.mod_eq_of_lt (by omega)]
   have hq8:((UInt8.ofNat q).toNat:Int)=(q:Int):=by rw [UInt8.toNat_ofNat',Nat.mod_eq_of_lt (by omega)]
   have HBS:=Lib.hid (show BS (wr.alloc (.cells #[.int .u8 (p:Int),.int .u8 (q:Int)] 5)).drew (.slice (some ⟨wr.heap.size,0,none⟩) 2 2) [UInt8.ofNat p,UInt8.ofNat q] from (BS.new' wr 5 [.int .u8 (p:Int),.int .u8 (q:Int)] _ (by simp only [bv,List.map_cons,List.map_nil,hp8,hq8]) 2 rfl (by simp [maxLen])).ext (Ext.drew _))
   have hpw:IntKind.u8.wrap (IntKind.i64.wrap (p:Int))=(p:Int):=wrp_u8 p (by omega)
   have hqw:IntKind.u8.wrap ((x:Int).tmod 256)=(q:Int):=by rw [Int.tmod_eq_emod_of_nonneg (by omega),hqi];exact wru_u8 q (by omega)
   have HOV:=Lib.hid (HO.out.ext hxa)
   have HLT2:=Lib.hid hxl
   clear hp8 hq8 hxd hxa hget h3 h4 h1 h2 hx hp hq hxl hacl
   go_upto_region 34 with fail
   go_region_law (refine step_append_bs _ (by rfl) (.tmp 147) (.tmp 160) 32 (by rfl) w5.heap.size 5 i0 (.int .u8 0) Tryz.underlying32 hi hz0 hz1 hz2' (by rfl) _ acc (by rfl) HOV.out _ [UInt8.ofNat p,UInt8.ofNat q] (by rfl) HBS.out (by have:=HAC.out;simp;omega) (by have:=HXA.out.size;have:=HS5.out;omega) ?_;intro v5 w6 ho6 hg6;obtain ⟨acc2,ha2⟩:∃ x,acc++[UInt8.ofNat p,UInt8.ofNat q]=x:=⟨_,rfl⟩;rw [ha2] at ho6;obtain ⟨A6,c6,rfl⟩:=OB.shape ho6;have hb6:=(HB.out.ext HXA.out).own hg6 (fun j hj=>OB.lt HO.out j hj) (by have:=HB5.out.lt;omega);have f0:=hb6.soft 0;have f1:=hb6.soft 1;obtain ⟨k0,k1⟩:=hb6.cells;obtain ⟨w7,hw7⟩:∃ W,w6.setCell ⟨w.heap.size+1,1,none⟩ (.slice A6 acc2.length c6)=W:=⟨_,rfl⟩;have HA2:=Lib.hid ha2;clear ha2)
   all_goals
    focus
     have hr6:AB (w6.setCell ⟨w.heap.size+1,1,none⟩ (.slice A6 acc2.length c6)) w.heap.size 0 none 0 0:=heap_far (grown_set (grown_refl w6 _) 1 _) ((HR.out.ext HXA.out).own hg6 (fun j hj=>OB.lt HO.out j hj) (by have:=HB5.out.lt;omega)) (by omega)
     have hx6:=((HX.out.trans HXA.out).grown hg6 (fun j hj=>by have h1:=OB.lt HO.out j hj;have h2:=HB5.out.lt;omega)).setCell (p:=⟨w.heap.size+1,1,none⟩) (by show w.heap.size≤w.heap.size+1;omega) (.slice A6 acc2.length c6)
     have ho7:=ho6.far (grown_set (grown_refl w6 _) 1 (.slice A6 acc2.length c6)) (show w.heap.size+1<w5.heap.size from HB5.out.lt)
     have hi7:OwI (w6.setCell ⟨w.heap.size+1,1,none⟩ (.slice A6 acc2.length c6)) (w.heap.size+2) (.slice (some ad) G.length c4) G:=((HI.out.ext HXA.out).off hg6 (fun g k9 hg hk9 e9=>by have h1:=OB.lt HO.out g hg;have h2:=(HI5.out.lt2 k9 hk9).2;omega)).off (grown_set (grown_refl w6 _) 1 _) (fun g k9 hg hk9 e9=>by injection hg with hg;have h1:=(HI.out.lt2 k9 hk9).1;omega)
     have hb7:=hb6.set1 A6 acc2.length c6
     have hs7:w5.heap.size≤(w6.setCell ⟨w.heap.size+1,1,none⟩ (.slice A6 acc2.length c6)).heap.size:=by have h1:=(grown_set (grown_refl w6 _) 1 (.slice A6 acc2.length c6) (g:=w.heap.size+1)).size;have h2:=hg6.size;have h3:=HXA.out.size;have h4:=HS5.out;omega
     rw [hw7] at hr6 hx6 ho7 hi7 hb7 hs7
     have HL7:=Lib.hid (show acc2=wbs (G.take (k+1)) by rw [HTK.out,← HL.out,HA2.out])
     have HB7:=Lib.hid hb7;have HR7:=Lib.hid hr6;have HX7:=Lib.hid hx6;have HO7:=Lib.hid ho7;have HI7:=Lib.hid hi7;have HS7:=Lib.hid hs7
     clear hr6 hx6 ho7 hi7 hb7 hs7 hb6 f0 f1 k0 k1 ho6 hg6
     go_wp2_with fail
     go_roundw
     case rel=>exact ⟨k+1,acc2,A6,c6,by go_num,by omega,HL7,HB7,HO7,HR7,HI7,HX7,HS7⟩
     case measure=>simp [intOf];omega
  ·have hkl:k=G.length:=by omega
   have HF:=Lib.hid (show acc=wbs G by rw [HL.out,hkl,List.take_length])
   have hki:(G.length:Int)≤(k:Int):=by omega
   obtain ⟨c0,c1⟩:=HB.out.cells
   have HXZ:=HX
   have HAB:=HB
   have HBZ:=Lib.hid HO.out.bs
   have HC:=Lib.hid (show rcnd s.data.toList=some (24,acc) by rw [HC6.out,HF.out])
   clear hkl
   go_upto_region 35 with fail
   have hxv:=RAValid_at 24 acc A c wr HBZ.out
   cases hok:okA 24 acc with
   | false=>
    rw [hok] at hxv
    have HV:=Lib.hid hxv
    have HP:=Lib.hid (rp_no1 HC.out hok)
    unfold adv at HV
    clear hok hxv
    go_wp2_with fail
    refine HV.out.mono ?_
    rintro _ wt ⟨rfl,hxt⟩
    obtain ⟨z0,z1⟩:=(HR.out.ext hxt).cells
    have s0:=(HR.out.ext hxt).soft 0;have s1:=(HR.out.ext hxt).soft 1
    obtain ⟨y0,y1⟩:=((HR.out.ext hxt).set 0 none 0 0).cells
    have HXF:=Lib.hid ((HXZ.out.trans hxt).set2 (g:=w.heap.size) (Nat.le_refl _) (.int .i64 0) (.slice none 0 0))
    have Y0:=Lib.hid y0;have Y1:=Lib.hid y1
    clear y0 y1
    clear hxt c0 c1
    go_wp2_with fail
    have y0:=Y0.out;have y1:=Y1.out
    refine bodyPost_ret (v:=.tuple #[adv 0 none 0 0,.int .i64 6]) (by simp [results,Tryz.results93,go_sem,y0,y1,adv];try rfl) rfl ?_
    exact ⟨.inr ⟨HP.out,rfl⟩,HXF.out⟩
   | true=>
    rw [hok] at hxv
    have HV:=Lib.hid hxv
    have hxt0:=fun W hx=>RAText_at 24 acc A c W (HBZ.out.ext hx) hok
    obtain ⟨X,hX⟩:∃ X,txtA 24 acc=X:=⟨_,rfl⟩
    rw [hX] at hxt0
    have HT:=Lib.hid hxt0
    unfold adv at HV HT
    clear hxv hxt0
    by_cases heq:X=s.data.toList
    ·have q1:(X==s.toList)=true:=by rw [ByteArray.toList_eq,heq];exact beq_self_eq_true _
     have q2:(X != s.toList)=false:=by rw [bne,q1];rfl
     have HP:=Lib.hid (rp_ok HC.out hok (hX.trans heq))
     clear hok hX heq
     go_wp2_with fail
     refine HV.out.mono ?_
     rintro _ wv ⟨rfl,hxv⟩
     have HXV:=Lib.hid hxv
     obtain ⟨d0,d1⟩:=(HAB.out.ext hxv).cells
     clear hxv c0 c1
     go_wp2_with fail
     refine (HT.out _ HXV.out).mono ?_
     rintro _ wt ⟨rfl,hxt⟩
     have hxt2:=HXV.out.trans hxt
     obtain ⟨b0,b1⟩:=(HAB.out.ext hxt2).cells
     obtain ⟨z0,z1⟩:=(HR.out.ext hxt2).cells
     have s0:=(HR.out.ext hxt2).soft 0;have s1:=(HR.out.ext hxt2).soft 1
     obtain ⟨y0,y1⟩:=((HR.out.ext hxt2).set (24) A (acc).length c).cells
     have HXF:=Lib.hid ((HXZ.out.trans hxt2).set2 (g:=w.heap.size) (Nat.le_refl _) (.int .i64 24) (.slice A (acc).length c))
     have HBF:=Lib.hid ((HBZ.out.ext hxt2).set2 (HR.out.ext hxt2) (.int .i64 24) (.slice A (acc).length c))
     have Y0:=Lib.hid y0;have Y1:=Lib.hid y1
     clear hxt hxt2 d0 d1 y0 y1
     go_wp2_with fail
     have y0:=Y0.out;have y1:=Y1.out
     refine bodyPost_ret (v:=.tuple #[adv 24 A (acc).length c,.int .i64 0]) (by simp [results,Tryz.results93,go_sem,y0,y1,adv];try rfl) rfl ?_
     exact ⟨.inl ⟨_,_,_,_,HP.out,rfl,HBF.out⟩,HXF.out⟩
    ·have q1:(X==s.toList)=false:=by rw [ByteArray.toList_eq,beq_eq_false_iff_ne];exact heq
     have q2:(X != s.toList)=true:=by rw [bne,q1];rfl
     have HP:=Lib.hid (rp_no2 HC.out (fun h=>heq (hX.symm.trans h)))
     clear hok hX heq
     go_wp2_with fail
     refine HV.out.mono ?_
     rintro _ wv ⟨rfl,hxv⟩
     have HXV:=Lib.hid hxv
     obtain ⟨d0,d1⟩:=(HAB.out.ext hxv).cells
     clear hxv c0 c1
     go_wp2_with fail
     refine (HT.out _ HXV.out).mono ?_
     rintro _ wt ⟨rfl,hxt⟩
     have hxt2:=HXV.out.trans hxt
     obtain ⟨z0,z1⟩:=(HR.out.ext hxt2).cells
     have s0:=(HR.out.ext hxt2).soft 0;have s1:=(HR.out.ext hxt2).soft 1
     obtain ⟨y0,y1⟩:=((HR.out.ext hxt2).set 0 none 0 0).cells
     have HXF:=Lib.hid ((HXZ.out.trans hxt2).set2 (g:=w.heap.size) (Nat.le_refl _) (.int .i64 0) (.slice none 0 0))
     have Y0:=Lib.hid y0;have Y1:=Lib.hid y1
     clear y0 y1
     clear hxt hxt2 d0 d1
     go_wp2_with fail
     have y0:=Y0.out;have y1:=Y1.out
     refine bodyPost_ret (v:=.tuple #[adv 0 none 0 0,.int .i64 6]) (by simp [results,Tryz.results93,go_sem,y0,y1,adv];try rfl) rfl ?_
     exact ⟨.inr ⟨HP.out,rfl⟩,HXF.out⟩
theorem RAParse_at (s:ByteArray) (hs:s.size≤3000) (w:World):
  Calls Tryz.prog 93 #[.string s] w fun e w'=>PAr s.data.toList e w'∧Ext w w':=by
 cases hp:hostP.isPrefixOf s.data.toList with
 | true=>exact RAParseH_at s hs w hp
 | false=>
  cases hq:([91]:List UInt8).isPrefixOf s.data.toList with
  | true=>exact RAParse6_at s hs w hp hq
  | false=>exact RAParse4_at s hs w hp hq
end Go.Proofs.YtnjmndofcpnmeaaGreatDoor
