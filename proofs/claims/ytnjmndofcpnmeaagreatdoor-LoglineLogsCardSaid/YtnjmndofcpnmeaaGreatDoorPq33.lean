/- Pq33. -/
import Derived.Test.YtnjmndofcpnmeaaGreatDoorPq32
import Derived.Test.YtnjmndofcpnmeaaGreatDoorPq16
namespace Go.Proofs.YtnjmndofcpnmeaaGreatDoor
open Go Go.RowKit
set_option linter.unusedVariables false
theorem dgs_suf (base:Nat):∀ (l:List UInt8) (v:Nat),∃ j,j≤l.length∧(dgs base l v).2=l.drop j
 | [],v=>⟨0,Nat.le_refl _,rfl⟩
 | c::r,v=>by
  rw [dgs]
  split
  ·obtain ⟨j,h1,h2⟩:=dgs_suf base r (base*v+dgv c)
   exact ⟨j+1,by simp;omega,by rw [h2,List.drop_succ_cons]⟩
  ·exact ⟨0,Nat.zero_le _,rfl⟩
theorem dgs_at (base:Nat)(s:ByteArray)(i:Nat)(hi:i≤s.size):∃ v e,dgs base (s.data.toList.drop i) 0=(v,s.data.toList.drop e)∧i≤e∧e≤s.size:=by
 obtain ⟨j,h1,h2⟩:=dgs_suf base (s.data.toList.drop i) 0
 rw [List.length_drop,Array.length_toList] at h1
 have h3:j≤s.size-i:=h1
 rw [List.drop_drop] at h2
 exact ⟨_,i+j,Prod.ext rfl h2,by omega,by omega⟩
theorem AB.set0 {w:World}{g:Nat}{k:Int}{A:Option Addr}{n c:Nat}(h:AB w g k A n c)(k':Int):AB (w.setCell ⟨g,0,none⟩ (.int .i64 k')) g k' A n c:=by
 unfold AB at h ⊢
 rw [heap_setCell_same w g 0 _ _ _ h];rfl
theorem AB.set1 {w:World}{g:Nat}{k:Int}{A:Option Addr}{n c:Nat}(h:AB w g k A n c)(A':Option Addr)(n' c':Nat):AB (w.setCell ⟨g,1,none⟩ (.slice A' n' c')) g k A' n' c':=by
 unfold AB at h ⊢
 rw [heap_setCell_same w g 1 _ _ _ h];rfl
theorem AB.lt {w:World}{g:Nat}{k:Int}{A:Option Addr}{n c:Nat}(h:AB w g k A n c):g<w.heap.size:=(Array.getElem?_eq_some_iff.1 h).1
theorem AB.own {w w':World}{g:Nat}{k:Int}{A:Option Addr}{n c B:Nat}{row:Option Nat}(h:AB w g k A n c)(hg:w.grownBy w' row)(hr:∀ j,row=some j→B≤j)(hlt:g<B):AB w' g k A n c:=by
 unfold AB at h ⊢
 rw [hg.block g (Array.getElem?_eq_some_iff.1 h).1 (by intro e;have:=hr g e.symm;omega)]
 exact h
theorem rd4_go (f:Nat)(l r:List UInt8)(v:Nat)(c:UInt8)(h:dgs 10 l 0=(v,c::r)):rd4 (f+1) l=UInt8.ofNat (v % 256)::rd4 f r:=by rw [rd4,h]
theorem rd4_end (f:Nat)(l:List UInt8)(v:Nat)(h:dgs 10 l 0=(v,[])):rd4 (f+1) l=[UInt8.ofNat (v % 256)]:=by rw [rd4,h]
set_option maxRecDepth 100000 in
set_option maxHeartbeats 8000000 in
theorem RAParse4_at (s:ByteArray) (hs:s.size≤3000) (w:World) (hp:hostP.isPrefixOf s.data.toList=false) (hq:([91]:List UInt8).isPrefixOf s.data.toList=false):
  Calls Tryz.prog 93 #[.string s] w fun e w'=>PAr s.data.toList e w'∧Ext w w':=by
 obtain ⟨i0,hi,hz0,hz1,hz2'⟩:=info_parts u8inf
 have hsz:s.data.toList.length=s.size:=by rw [Array.length_toList];rfl
 have h0:=heap_alloc_new w (.cells #[.int .i64 0,.slice none 0 0] 34)
 have h1:=heap_alloc_new (w.alloc (.cells #[.int .i64 0,.slice none 0 0] 34)) (.cells #[.int .i64 0,.slice none 0 0] 34)
 have x1:=(Ext.refl (w.alloc (.cells #[.int .i64 0,.slice none 0 0] 34))).alloc (.cells #[.int .i64 0,.slice none 0 0] 34)
 have x0:=(Ext.refl w).alloc (.cells #[.int .i64 0,.slice none 0 0] 34)
 rw [World.size_alloc] at h1
 obtain ⟨w1,hw1⟩:∃ w1,(w.alloc (.cells #[.int .i64 0,.slice none 0 0] 34)).alloc (.cells #[.int .i64 0,.slice none 0 0] 34)=w1:=⟨_,rfl⟩
 have h01:=x1.heap h0
 have x01:=x0.trans x1
 rw [hw1] at h1 h01 x01
 have HR1:=Lib.hid (show AB w1 w.heap.size 0 none 0 0 from h01);have HB1:=Lib.hid (show AB w1 (w.heap.size+1) 0 none 0 0 from h1);have HX1:=Lib.hid x01;have HS:=Lib.hid hs;have HSZ:=Lib.hid hsz
 clear h0 h1 x0 x1 h01 x01 hs hsz
 have HRC:=Lib.hid (show rcnd s.data.toList=some (2,rd4 4 s.data.toList) by unfold rcnd;rw [hp,hq];rfl)
 obtain ⟨b0,b1⟩:=HB1.out.cells
 have g0:=HB1.out.soft 0;have g1:=HB1.out.soft 1
 have hct:=host_cut s
 rw [hp] at hct
 go_enter Tryz.func93,Tryz.ntmps93
 have hin:s.size=0∨(0<s.size∧s.size<5)∨5≤s.size:=by omega
 rcases hin with h5 | ⟨h5,h5b⟩ | h5
 ·have h5':(s.size:Int)<5:=by omega
  have h5p:(s.size:Int)≤0:=by omega
  clear hp hq h5 hct
  have hb0:=HB1.out.set0 2
  have hr0:AB (w1.setCell ⟨w.heap.size+1,0,none⟩ (.int .i64 2)) w.heap.size 0 none 0 0:=heap_far (grown_set (grown_refl w1 _) 0 (.int .i64 2)) HR1.out (by omega)
  have hx0:=HX1.out.setCell (p:=⟨w.heap.size+1,0,none⟩) (by show w.heap.size≤w.heap.size+1;omega) (.int .i64 2)
  obtain ⟨w2,hw2⟩:∃ W,w1.setCell ⟨w.heap.size+1,0,none⟩ (.int .i64 2)=W:=⟨_,rfl⟩
  rw [hw2] at hb0 hr0 hx0
  have HB2:=Lib.hid hb0;have HR2:=Lib.hid hr0;have HX2:=Lib.hid hx0
  clear hb0 hr0 hx0
  go_wp2_with fail
  clear hw2 hw1 b0 b1 g0 g1
  go_loopw [12,13] (fun va vn wr=>∃ (m at_:Nat) (acc:List UInt8) (A:Option Addr) (c:Nat),va=.int .i64 (at_:Int)∧vn=.int .i64 (m:Int)∧m≤4∧at_≤s.size∧Hid (acc.length=m)∧Hid (rd4 4 s.data.toList=acc++rd4 (4-m) (s.data.toList.drop at_))∧Hid (AB wr (w.heap.size+1) 2 A acc.length c)∧Hid (OB 5 wr (w.heap.size+2) (.slice A acc.length c) acc)∧Hid (AB wr w.heap.size 0 none 0 0)∧Hid (Ext w wr)) (fun _ vn _=>4-(intOf vn).toNat)
  case atStart=>exact ⟨0,0,[],none,0,rfl,rfl,by omega,Nat.zero_le _,Lib.hid rfl,Lib.hid rfl,HB2,Lib.hid (OB.nil _ _ _),HR2,HX2⟩
  case round=>
   obtain ⟨m,at_,acc,A,c,rfl,rfl,hm,hat,HL,HRD,HB,HO,HR,HX⟩:=hrel
   by_cases hm4:m<4
   ·have hmi:(m:Int)<4:=by omega
    obtain ⟨v,e,hd,hae,hes⟩:=dgs_at 10 s at_ hat
    have hdi:=RAdigits10_at s HS.out at_ hat wr
    rw [hd] at hdi
    dsimp only at hdi
    rw [size_drop s e hes] at hdi
    obtain ⟨z,hz⟩:∃ z,v % 256=z:=⟨_,rfl⟩
    have hzi:(v:Int) % 256=(z:Int):=by omega
    have hz2:(z:Int) % 256=(z:Int):=by omega
    have hz8:z<256:=by omega
    have he1:(e:Int)≤3000:=by have:=HS.out;omega
    have HDI:=Lib.hid hdi;have HD:=Lib.hid hd;have HZ:=Lib.hid hz
    obtain ⟨c0,c1⟩:=HB.out.cells
    clear hdi hd hz
    go_wp2_with fail
    refine HDI.out.mono ?_
    rintro _ w3 ⟨rfl,rfl⟩
    have hx4:=(Ext.refl wr).alloc (.cells #[.int .u8 (z:Int)] 5)
    have hbs:BS (wr.alloc (.cells #[.int .u8 (z:Int)] 5)) (.slice (some ⟨wr.heap.size,0,none⟩) 1 1) [UInt8.ofNat z]:=
     BS.new' wr 5 [.int .u8 (z:Int)] _ (by simp only [bv,List.map_cons,List.map_nil,UInt8.toNat_ofNat'];congr 2;omega) 1 rfl (by simp [maxLen])
    have HBS:=Lib.hid hbs;have HX4:=Lib.hid hx4
    have HOV:=Lib.hid (HO.out.ext hx4)
    have hB4:=HB.out.ext hx4;have hR4:=HR.out.ext hx4
    have HB4:=Lib.hid hB4;have HR4:=Lib.hid hR4
    clear hbs hx4 hB4 hR4
    go_upto_region 9 with (at_builtin;refine wpList_append_bs _ rfl (.tmp 28) (.tmp 32) 32 rfl (w.heap.size+2) 5 i0 (.int .u8 0) Tryz.underlying32 hi hz0 hz1 hz2' rfl _ acc rfl HOV.out _ [UInt8.ofNat z] rfl HBS.out ?hb ?hm ?_;rotate_right;intro v4 w4 hown4 hg4 _;obtain ⟨acc2,ha2⟩:∃ x,acc++[UInt8.ofNat z]=x:=⟨_,rfl⟩;rw [ha2] at hown4;obtain ⟨A4,c4,rfl⟩:=OB.shape hown4;have hb5:=HB4.out.own hg4 (fun j hj=>OB.lt HOV.out j hj) (by omega);have f0:=hb5.soft 0;have f1:=hb5.soft 1;obtain ⟨k0,k1⟩:=hb5.cells;obtain ⟨w6,hw6⟩:∃ W,w4.setCell ⟨w.heap.size+1,1,none⟩ (.slice A4 acc2.length c4)=W:=⟨_,rfl⟩;have HA2:=Lib.hid ha2;have HL6:=Lib.hid (show acc2.length=m+1 by rw [← ha2,List.length_append,HL.out];rfl);clear ha2)
    case hb=>have:=HL.out;simp;omega
    case hm=>have h1:=HB4.out.lt;omega
    have hr5:=HR4.out.own hg4 (fun j hj=>OB.lt HOV.out j hj) (by omega)
    have hx5:=((HX.out.trans HX4.out).grown hg4 (fun j hj=>by have:=OB.lt HOV.out j hj;omega))
    have hb6:=hb5.set1 A4 acc2.length c4
    have hr6:AB (w4.setCell ⟨w.heap.size+1,1,none⟩ (.slice A4 acc2.length c4)) w.heap.size 0 none 0 0:=heap_far (grown_set (grown_refl w4 _) 1 _) hr5 (by omega)
    have hx6:=hx5.setCell (p:=⟨w.heap.size+1,1,none⟩) (by show w.heap.size≤w.heap.size+1;omega) (.slice A4 acc2.length c4)
    have ho6:=OB.off hown4 (grown_set (grown_refl w4 _) 1 (.slice A4 acc2.length c4)) (show w.heap.size+1<w.heap.size+2 by omega)
    rw [hw6] at hb6 hr6 hx6 ho6
    have HB6:=Lib.hid hb6;have HR6:=Lib.hid hr6;have HX6:=Lib.hid hx6;have HO6:=Lib.hid ho6
    clear hb5 hr5 hx5 hb6 hr6 hx6 ho6 hown4 hg4 f0 f1 k0 k1 hw6
    by_cases hend:e<s.size
    ·omega
    ·have hee:e=s.size:=by omega
     have hge:(s.size:Int)<(e:Int)+1:=by omega
     have HF:=Lib.hid (show rd4 4 s.data.toList=acc2 by
      have h1:=HD.out
      rw [List.drop_eq_nil_of_le (show s.data.toList.length≤e by rw [Array.length_toList];show s.size≤e;omega)] at h1
      rw [HRD.out,show 4-m=4-(m+1)+1 by omega,rd4_end _ _ _ h1,HZ.out,← HA2.out])
     have HAB:=HB6
     have HXZ:=HX6
     have HBZ:=Lib.hid HO6.out.bs
     clear HB HR HX
     have HR:=HR6
     have HC:=Lib.hid (show rcnd s.data.toList=some (2,acc2) by rw [HRC.out,HF.out])
     clear hae hes hee hend c0 c1
     obtain ⟨c0,c1⟩:=HAB.out.cells
     go_upto_region 35 with fail
     have hxv:=RAValid_at 2 acc2 A4 c4 w6 HBZ.out
     cases hok:okA 2 acc2 with
     | false=>
      rw [hok] at hxv
      have HV:=Lib.hid hxv
      have HP:=Lib.hid (rp_no1 HC.out hok)
      unfold adv at HV
      clear hok hxv
      go_wp2_with fail
      refine HV.out.mono ?_
      rintro _ wt ⟨rfl,hxt⟩
      obtain ⟨z0,z1⟩:=(HR.out.ext hxt).cells
      have s0:=(HR.out.ext hxt).soft 0;have s1:=(HR.out.ext hxt).soft 1
      obtain ⟨y0,y1⟩:=((HR.out.ext hxt).set 0 none 0 0).cells
      have HXF:=Lib.hid ((HXZ.out.trans hxt).set2 (g:=w.heap.size) (Nat.le_refl _) (.int .i64 0) (.slice none 0 0))
      have Y0:=Lib.hid y0;have Y1:=Lib.hid y1
      clear y0 y1
      clear hxt c0 c1
      go_wp2_with fail
      have y0:=Y0.out;have y1:=Y1.out
      refine bodyPost_ret (v:=.tuple #[adv 0 none 0 0,.int .i64 6]) (by simp [results,Tryz.results93,go_sem,y0,y1,adv];try rfl) rfl ?_
      exact ⟨.inr ⟨HP.out,rfl⟩,HXF.out⟩
     | true=>
      rw [hok] at hxv
      have HV:=Lib.hid hxv
      have hxt0:=fun W hx=>RAText_at 2 acc2 A4 c4 W (HBZ.out.ext hx) hok
      obtain ⟨X,hX⟩:∃ X,txtA 2 acc2=X:=⟨_,rfl⟩
      rw [hX] at hxt0
      have HT:=Lib.hid hxt0
      unfold adv at HV HT
      clear hxv hxt0
      by_cases heq:X=s.data.toList
      ·have q1:(X==s.toList)=true:=by rw [ByteArray.toList_eq,heq];exact beq_self_eq_true _
       have q2:(X != s.toList)=false:=by rw [bne,q1];rfl
       have HP:=Lib.hid (rp_ok HC.out hok (hX.trans heq))
       clear hok hX heq
       go_wp2_with fail
       refine HV.out.mono ?_
       rintro _ wv ⟨rfl,hxv⟩
       have HXV:=Lib.hid hxv
       obtain ⟨d0,d1⟩:=(HAB.out.ext hxv).cells
       clear hxv c0 c1
       go_wp2_with fail
       refine (HT.out _ HXV.out).mono ?_
       rintro _ wt ⟨rfl,hxt⟩
       have hxt2:=HXV.out.trans hxt
       obtain ⟨b0,b1⟩:=(HAB.out.ext hxt2).cells
       obtain ⟨z0,z1⟩:=(HR.out.ext hxt2).cells
       have s0:=(HR.out.ext hxt2).soft 0;have s1:=(HR.out.ext hxt2).soft 1
       obtain ⟨y0,y1⟩:=((HR.out.ext hxt2).set (2) A4 (acc2).length c4).cells
       have HXF:=Lib.hid ((HXZ.out.trans hxt2).set2 (g:=w.heap.size) (Nat.le_refl _) (.int .i64 2) (.slice A4 (acc2).length c4))
       have HBF:=Lib.hid ((HBZ.out.ext hxt2).set2 (HR.out.ext hxt2) (.int .i64 2) (.slice A4 (acc2).length c4))
       have Y0:=Lib.hid y0;have Y1:=Lib.hid y1
       clear hxt hxt2 d0 d1 y0 y1
       go_wp2_with fail
       have y0:=Y0.out;have y1:=Y1.out
       refine bodyPost_ret (v:=.tuple #[adv 2 A4 (acc2).length c4,.int .i64 0]) (by simp [results,Tryz.results93,go_sem,y0,y1,adv];try rfl) rfl ?_
       exact ⟨.inl ⟨_,_,_,_,HP.out,rfl,HBF.out⟩,HXF.out⟩
      ·have q1:(X==s.toList)=false:=by rw [ByteArray.toList_eq,beq_eq_false_iff_ne];exact heq
       have q2:(X != s.toList)=true:=by rw [bne,q1];rfl
       have HP:=Lib.hid (rp_no2 HC.out (fun h=>heq (hX.symm.trans h)))
       clear hok hX heq
       go_wp2_with fail
       refine HV.out.mono ?_
       rintro _ wv ⟨rfl,hxv⟩
       have HXV:=Lib.hid hxv
       obtain ⟨d0,d1⟩:=(HAB.out.ext hxv).cells
       clear hxv c0 c1
       go_wp2_with fail
       refine (HT.out _ HXV.out).mono ?_
       rintro _ wt ⟨rfl,hxt⟩
       have hxt2:=HXV.out.trans hxt
       obtain ⟨z0,z1⟩:=(HR.out.ext hxt2).cells
       have s0:=(HR.out.ext hxt2).soft 0;have s1:=(HR.out.ext hxt2).soft 1
       obtain ⟨y0,y1⟩:=((HR.out.ext hxt2).set 0 none 0 0).cells
       have HXF:=Lib.hid ((HXZ.out.trans hxt2).set2 (g:=w.heap.size) (Nat.le_refl _) (.int .i64 0) (.slice none 0 0))
       have Y0:=Lib.hid y0;have Y1:=Lib.hid y1
       clear y0 y1
       clear hxt hxt2 d0 d1
       go_wp2_with fail
       have y0:=Y0.out;have y1:=Y1.out
       refine bodyPost_ret (v:=.tuple #[adv 0 none 0 0,.int .i64 6]) (by simp [results,Tryz.results93,go_sem,y0,y1,adv];try rfl) rfl ?_
       exact ⟨.inr ⟨HP.out,rfl⟩,HXF.out⟩
   ·have hmi:4≤(m:Int):=by omega
    have hm4':m=4:=by omega
    have HF:=Lib.hid (show rd4 4 s.data.toList=acc by rw [HRD.out,hm4'];simp [rd4])
    obtain ⟨c0,c1⟩:=HB.out.cells
    have HXZ:=HX
    have HAB:=HB
    have HBZ:=Lib.hid HO.out.bs
    have HC:=Lib.hid (show rcnd s.data.toList=some (2,acc) by rw [HRC.out,HF.out])
    clear hm4'
    go_upto_region 35 with fail
    have hxv:=RAValid_at 2 acc A c wr HBZ.out
    cases hok:okA 2 acc with
    | false=>
     rw [hok] at hxv
     have HV:=Lib.hid hxv
     have HP:=Lib.hid (rp_no1 HC.out hok)
     unfold adv at HV
     clear hok hxv
     go_wp2_with fail
     refine HV.out.mono ?_
     rintro _ wt ⟨rfl,hxt⟩
     obtain ⟨z0,z1⟩:=(HR.out.ext hxt).cells
     have s0:=(HR.out.ext hxt).soft 0;have s1:=(HR.out.ext hxt).soft 1
     obtain ⟨y0,y1⟩:=((HR.out.ext hxt).set 0 none 0 0).cells
     have HXF:=Lib.hid ((HXZ.out.trans hxt).set2 (g:=w.heap.size) (Nat.le_refl _) (.int .i64 0) (.slice none 0 0))
     have Y0:=Lib.hid y0;have Y1:=Lib.hid y1
     clear y0 y1
     clear hxt c0 c1
     go_wp2_with fail
     have y0:=Y0.out;have y1:=Y1.out
     refine bodyPost_ret (v:=.tuple #[adv 0 none 0 0,.int .i64 6]) (by simp [results,Tryz.results93,go_sem,y0,y1,adv];try rfl) rfl ?_
     exact ⟨.inr ⟨HP.out,rfl⟩,HXF.out⟩
    | true=>
     rw [hok] at hxv
     have HV:=Lib.hid hxv
     have hxt0:=fun W hx=>RAText_at 2 acc A c W (HBZ.out.ext hx) hok
     obtain ⟨X,hX⟩:∃ X,txtA 2 acc=X:=⟨_,rfl⟩
     rw [hX] at hxt0
     have HT:=Lib.hid hxt0
     unfold adv at HV HT
     clear hxv hxt0
     by_cases heq:X=s.data.toList
     ·have q1:(X==s.toList)=true:=by rw [ByteArray.toList_eq,heq];exact beq_self_eq_true _
      have q2:(X != s.toList)=false:=by rw [bne,q1];rfl
      have HP:=Lib.hid (rp_ok HC.out hok (hX.trans heq))
      clear hok hX heq
      go_wp2_with fail
      refine HV.out.mono ?_
      rintro _ wv ⟨rfl,hxv⟩
      have HXV:=Lib.hid hxv
      obtain ⟨d0,d1⟩:=(HAB.out.ext hxv).cells
      clear hxv c0 c1
      go_wp2_with fail
      refine (HT.out _ HXV.out).mono ?_
      rintro _ wt ⟨rfl,hxt⟩
      have hxt2:=HXV.out.trans hxt
      obtain ⟨b0,b1⟩:=(HAB.out.ext hxt2).cells
      obtain ⟨z0,z1⟩:=(HR.out.ext hxt2).cells
      have s0:=(HR.out.ext hxt2).soft 0;have s1:=(HR.out.ext hxt2).soft 1
      obtain ⟨y0,y1⟩:=((HR.out.ext hxt2).set (2) A (acc).length c).cells
      have HXF:=Lib.hid ((HXZ.out.trans hxt2).set2 (g:=w.heap.size) (Nat.le_refl _) (.int .i64 2) (.slice A (acc).length c))
      have HBF:=Lib.hid ((HBZ.out.ext hxt2).set2 (HR.out.ext hxt2) (.int .i64 2) (.slice A (acc).length c))
      have Y0:=Lib.hid y0;have Y1:=Lib.hid y1
      clear hxt hxt2 d0 d1 y0 y1
      go_wp2_with fail
      have y0:=Y0.out;have y1:=Y1.out
      refine bodyPost_ret (v:=.tuple #[adv 2 A (acc).length c,.int .i64 0]) (by simp [results,Tryz.results93,go_sem,y0,y1,adv];try rfl) rfl ?_
      exact ⟨.inl ⟨_,_,_,_,HP.out,rfl,HBF.out⟩,HXF.out⟩
     ·have q1:(X==s.toList)=false:=by rw [ByteArray.toList_eq,beq_eq_false_iff_ne];exact heq
      have q2:(X != s.toList)=true:=by rw [bne,q1];rfl
      have HP:=Lib.hid (rp_no2 HC.out (fun h=>heq (hX.symm.trans h)))
      clear hok hX heq
      go_wp2_with fail
      refine HV.out.mono ?_
      rintro _ wv ⟨rfl,hxv⟩
      have HXV:=Lib.hid hxv
      obtain ⟨d0,d1⟩:=(HAB.out.ext hxv).cells
      clear hxv c0 c1
      go_wp2_with fail
      refine (HT.out _ HXV.out).mono ?_
      rintro _ wt ⟨rfl,hxt⟩
      have hxt2:=HXV.out.trans hxt
      obtain ⟨z0,z1⟩:=(HR.out.ext hxt2).cells
      have s0:=(HR.out.ext hxt2).soft 0;have s1:=(HR.out.ext hxt2).soft 1
      obtain ⟨y0,y1⟩:=((HR.out.ext hxt2).set 0 none 0 0).cells
      have HXF:=Lib.hid ((HXZ.out.trans hxt2).set2 (g:=w.heap.size) (Nat.le_refl _) (.int .i64 0) (.slice none 0 0))
      have Y0:=Lib.hid y0;have Y1:=Lib.hid y1
      clear y0 y1
      clear hxt hxt2 d0 d1
      go_wp2_with fail
      have y0:=Y0.out;have y1:=Y1.out
      refine bodyPost_ret (v:=.tuple #[adv 0 none 0 0,.int .i64 6]) (by simp [results,Tryz.results93,go_sem,y0,y1,adv];try rfl) rfl ?_
      exact ⟨.inr ⟨HP.out,rfl⟩,HXF.out⟩
 ·have h5':(s.size:Int)<5:=by omega
  have h5p:(0:Int)<(s.size:Int):=by omega
  clear hct
  have h91:s[0]≠91:=by
   intro h
   have hd:=drop_byteA s 0 (by omega)
   rw [List.drop_zero] at hd
   rw [hd,h] at hq
   simp [List.isPrefixOf] at hq
  have h91n:s[0].toNat≠91:=fun h=>h91 (UInt8.toNat.inj (by have h2:(91:UInt8).toNat=91:=rfl;rw [h2];omega))
  obtain ⟨x,hx⟩:∃ x,s[0].toNat=x:=⟨_,rfl⟩
  have hix:=idx_run s 0 (by omega) (x:Int) (by omega)
  rw [show (((0:Nat)):Int)=0 from rfl] at hix
  have hxq:((x:Int)==91)=false:=by rw [beq_eq_false_iff_ne];omega
  clear hp hq h91 h91n hx
  clear h5 h5b
  have hb0:=HB1.out.set0 2
  have hr0:AB (w1.setCell ⟨w.heap.size+1,0,none⟩ (.int .i64 2)) w.heap.size 0 none 0 0:=heap_far (grown_set (grown_refl w1 _) 0 (.int .i64 2)) HR1.out (by omega)
  have hx0:=HX1.out.setCell (p:=⟨w.heap.size+1,0,none⟩) (by show w.heap.size≤w.heap.size+1;omega) (.int .i64 2)
  obtain ⟨w2,hw2⟩:∃ W,w1.setCell ⟨w.heap.size+1,0,none⟩ (.int .i64 2)=W:=⟨_,rfl⟩
  rw [hw2] at hb0 hr0 hx0
  have HB2:=Lib.hid hb0;have HR2:=Lib.hid hr0;have HX2:=Lib.hid hx0
  clear hb0 hr0 hx0
  go_wp2_with fail
  clear hw2 hw1 b0 b1 g0 g1
  go_loopw [12,13] (fun va vn wr=>∃ (m at_:Nat) (acc:List UInt8) (A:Option Addr) (c:Nat),va=.int .i64 (at_:Int)∧vn=.int .i64 (m:Int)∧m≤4∧at_≤s.size∧Hid (acc.length=m)∧Hid (rd4 4 s.data.toList=acc++rd4 (4-m) (s.data.toList.drop at_))∧Hid (AB wr (w.heap.size+1) 2 A acc.length c)∧Hid (OB 5 wr (w.heap.size+2) (.slice A acc.length c) acc)∧Hid (AB wr w.heap.size 0 none 0 0)∧Hid (Ext w wr)) (fun _ vn _=>4-(intOf vn).toNat)
  case atStart=>exact ⟨0,0,[],none,0,rfl,rfl,by omega,Nat.zero_le _,Lib.hid rfl,Lib.hid rfl,HB2,Lib.hid (OB.nil _ _ _),HR2,HX2⟩
  case round=>
   obtain ⟨m,at_,acc,A,c,rfl,rfl,hm,hat,HL,HRD,HB,HO,HR,HX⟩:=hrel
   by_cases hm4:m<4
   ·have hmi:(m:Int)<4:=by omega
    obtain ⟨v,e,hd,hae,hes⟩:=dgs_at 10 s at_ hat
    have hdi:=RAdigits10_at s HS.out at_ hat wr
    rw [hd] at hdi
    dsimp only at hdi
    rw [size_drop s e hes] at hdi
    obtain ⟨z,hz⟩:∃ z,v % 256=z:=⟨_,rfl⟩
    have hzi:(v:Int) % 256=(z:Int):=by omega
    have hz2:(z:Int) % 256=(z:Int):=by omega
    have hz8:z<256:=by omega
    have he1:(e:Int)≤3000:=by have:=HS.out;omega
    have HDI:=Lib.hid hdi;have HD:=Lib.hid hd;have HZ:=Lib.hid hz
    obtain ⟨c0,c1⟩:=HB.out.cells
    clear hdi hd hz
    go_wp2_with fail
    refine HDI.out.mono ?_
    rintro _ w3 ⟨rfl,rfl⟩
    have hx4:=(Ext.refl wr).alloc (.cells #[.int .u8 (z:Int)] 5)
    have hbs:BS (wr.alloc (.cells #[.int .u8 (z:Int)] 5)) (.slice (some ⟨wr.heap.size,0,none⟩) 1 1) [UInt8.ofNat z]:=
     BS.new' wr 5 [.int .u8 (z:Int)] _ (by simp only [bv,List.map_cons,List.map_nil,UInt8.toNat_ofNat'];congr 2;omega) 1 rfl (by simp [maxLen])
    have HBS:=Lib.hid hbs;have HX4:=Lib.hid hx4
    have HOV:=Lib.hid (HO.out.ext hx4)
    have hB4:=HB.out.ext hx4;have hR4:=HR.out.ext hx4
    have HB4:=Lib.hid hB4;have HR4:=Lib.hid hR4
    clear hbs hx4 hB4 hR4
    go_upto_region 9 with (at_builtin;refine wpList_append_bs _ rfl (.tmp 28) (.tmp 32) 32 rfl (w.heap.size+2) 5 i0 (.int .u8 0) Tryz.underlying32 hi hz0 hz1 hz2' rfl _ acc rfl HOV.out _ [UInt8.ofNat z] rfl HBS.out ?hb ?hm ?_;rotate_right;intro v4 w4 hown4 hg4 _;obtain ⟨acc2,ha2⟩:∃ x,acc++[UInt8.ofNat z]=x:=⟨_,rfl⟩;rw [ha2] at hown4;obtain ⟨A4,c4,rfl⟩:=OB.shape hown4;have hb5:=HB4.out.own hg4 (fun j hj=>OB.lt HOV.out j hj) (by omega);have f0:=hb5.soft 0;have f1:=hb5.soft 1;obtain ⟨k0,k1⟩:=hb5.cells;obtain ⟨w6,hw6⟩:∃ W,w4.setCell ⟨w.heap.size+1,1,none⟩ (.slice A4 acc2.length c4)=W:=⟨_,rfl⟩;have HA2:=Lib.hid ha2;have HL6:=Lib.hid (show acc2.length=m+1 by rw [← ha2,List.length_append,HL.out];rfl);clear ha2)
    case hb=>have:=HL.out;simp;omega
    case hm=>have h1:=HB4.out.lt;omega
    have hr5:=HR4.out.own hg4 (fun j hj=>OB.lt HOV.out j hj) (by omega)
    have hx5:=((HX.out.trans HX4.out).grown hg4 (fun j hj=>by have:=OB.lt HOV.out j hj;omega))
    have hb6:=hb5.set1 A4 acc2.length c4
    have hr6:AB (w4.setCell ⟨w.heap.size+1,1,none⟩ (.slice A4 acc2.length c4)) w.heap.size 0 none 0 0:=heap_far (grown_set (grown_refl w4 _) 1 _) hr5 (by omega)
    have hx6:=hx5.setCell (p:=⟨w.heap.size+1,1,none⟩) (by show w.heap.size≤w.heap.size+1;omega) (.slice A4 acc2.length c4)
    have ho6:=OB.off hown4 (grown_set (grown_refl w4 _) 1 (.slice A4 acc2.length c4)) (show w.heap.size+1<w.heap.size+2 by omega)
    rw [hw6] at hb6 hr6 hx6 ho6
    have HB6:=Lib.hid hb6;have HR6:=Lib.hid hr6;have HX6:=Lib.hid hx6;have HO6:=Lib.hid ho6
    clear hb5 hr5 hx5 hb6 hr6 hx6 ho6 hown4 hg4 f0 f1 k0 k1 hw6
    by_cases hend:e<s.size
    ·have hge:(e:Int)+1≤(s.size:Int):=by omega
     have HRD6:=Lib.hid (show rd4 4 s.data.toList=acc2++rd4 (4-(m+1)) (s.data.toList.drop (e+1)) by
      have h1:=HD.out
      rw [drop_byteA s e hend] at h1
      rw [HRD.out,show 4-m=4-(m+1)+1 by omega,rd4_go _ _ _ _ _ h1,HZ.out,← HA2.out,List.append_assoc]
      rfl)
     clear hae hes
     go_wp2_with fail
     go_roundw
     case rel=>exact ⟨m+1,e+1,acc2,A4,c4,by go_num,by go_num,by omega,by omega,HL6,HRD6,HB6,HO6,HR6,HX6⟩
     case measure=>simp [intOf];omega
    ·have hee:e=s.size:=by omega
     have hge:(s.size:Int)<(e:Int)+1:=by omega
     have HF:=Lib.hid (show rd4 4 s.data.toList=acc2 by
      have h1:=HD.out
      rw [List.drop_eq_nil_of_le (show s.data.toList.length≤e by rw [Array.length_toList];show s.size≤e;omega)] at h1
      rw [HRD.out,show 4-m=4-(m+1)+1 by omega,rd4_end _ _ _ h1,HZ.out,← HA2.out])
     have HAB:=HB6
     have HXZ:=HX6
     have HBZ:=Lib.hid HO6.out.bs
     clear HB HR HX
     have HR:=HR6
     have HC:=Lib.hid (show rcnd s.data.toList=some (2,acc2) by rw [HRC.out,HF.out])
     clear hae hes hee hend c0 c1
     obtain ⟨c0,c1⟩:=HAB.out.cells
     go_upto_region 35 with fail
     have hxv:=RAValid_at 2 acc2 A4 c4 w6 HBZ.out
     cases hok:okA 2 acc2 with
     | false=>
      rw [hok] at hxv
      have HV:=Lib.hid hxv
      have HP:=Lib.hid (rp_no1 HC.out hok)
      unfold adv at HV
      clear hok hxv
      go_wp2_with fail
      refine HV.out.mono ?_
      rintro _ wt ⟨rfl,hxt⟩
      obtain ⟨z0,z1⟩:=(HR.out.ext hxt).cells
      have s0:=(HR.out.ext hxt).soft 0;have s1:=(HR.out.ext hxt).soft 1
      obtain ⟨y0,y1⟩:=((HR.out.ext hxt).set 0 none 0 0).cells
      have HXF:=Lib.hid ((HXZ.out.trans hxt).set2 (g:=w.heap.size) (Nat.le_refl _) (.int .i64 0) (.slice none 0 0))
      have Y0:=Lib.hid y0;have Y1:=Lib.hid y1
      clear y0 y1
      clear hxt c0 c1
      go_wp2_with fail
      have y0:=Y0.out;have y1:=Y1.out
      refine bodyPost_ret (v:=.tuple #[adv 0 none 0 0,.int .i64 6]) (by simp [results,Tryz.results93,go_sem,y0,y1,adv];try rfl) rfl ?_
      exact ⟨.inr ⟨HP.out,rfl⟩,HXF.out⟩
     | true=>
      rw [hok] at hxv
      have HV:=Lib.hid hxv
      have hxt0:=fun W hx=>RAText_at 2 acc2 A4 c4 W (HBZ.out.ext hx) hok
      obtain ⟨X,hX⟩:∃ X,txtA 2 acc2=X:=⟨_,rfl⟩
      rw [hX] at hxt0
      have HT:=Lib.hid hxt0
      unfold adv at HV HT
      clear hxv hxt0
      by_cases heq:X=s.data.toList
      ·have q1:(X==s.toList)=true:=by rw [ByteArray.toList_eq,heq];exact beq_self_eq_true _
       have q2:(X != s.toList)=false:=by rw [bne,q1];rfl
       have HP:=Lib.hid (rp_ok HC.out hok (hX.trans heq))
       clear hok hX heq
       go_wp2_with fail
       refine HV.out.mono ?_
       rintro _ wv ⟨rfl,hxv⟩
       have HXV:=Lib.hid hxv
       obtain ⟨d0,d1⟩:=(HAB.out.ext hxv).cells
       clear hxv c0 c1
       go_wp2_with fail
       refine (HT.out _ HXV.out).mono ?_
       rintro _ wt ⟨rfl,hxt⟩
       have hxt2:=HXV.out.trans hxt
       obtain ⟨b0,b1⟩:=(HAB.out.ext hxt2).cells
       obtain ⟨z0,z1⟩:=(HR.out.ext hxt2).cells
       have s0:=(HR.out.ext hxt2).soft 0;have s1:=(HR.out.ext hxt2).soft 1
       obtain ⟨y0,y1⟩:=((HR.out.ext hxt2).set (2) A4 (acc2).length c4).cells
       have HXF:=Lib.hid ((HXZ.out.trans hxt2).set2 (g:=w.heap.size) (Nat.le_refl _) (.int .i64 2) (.slice A4 (acc2).length c4))
       have HBF:=Lib.hid ((HBZ.out.ext hxt2).set2 (HR.out.ext hxt2) (.int .i64 2) (.slice A4 (acc2).length c4))
       have Y0:=Lib.hid y0;have Y1:=Lib.hid y1
       clear hxt hxt2 d0 d1 y0 y1
       go_wp2_with fail
       have y0:=Y0.out;have y1:=Y1.out
       refine bodyPost_ret (v:=.tuple #[adv 2 A4 (acc2).length c4,.int .i64 0]) (by simp [results,Tryz.results93,go_sem,y0,y1,adv];try rfl) rfl ?_
       exact ⟨.inl ⟨_,_,_,_,HP.out,rfl,HBF.out⟩,HXF.out⟩
      ·have q1:(X==s.toList)=false:=by rw [ByteArray.toList_eq,beq_eq_false_iff_ne];exact heq
       have q2:(X != s.toList)=true:=by rw [bne,q1];rfl
       have HP:=Lib.hid (rp_no2 HC.out (fun h=>heq (hX.symm.trans h)))
       clear hok hX heq
       go_wp2_with fail
       refine HV.out.mono ?_
       rintro _ wv ⟨rfl,hxv⟩
       have HXV:=Lib.hid hxv
       obtain ⟨d0,d1⟩:=(HAB.out.ext hxv).cells
       clear hxv c0 c1
       go_wp2_with fail
       refine (HT.out _ HXV.out).mono ?_
       rintro _ wt ⟨rfl,hxt⟩
       have hxt2:=HXV.out.trans hxt
       obtain ⟨z0,z1⟩:=(HR.out.ext hxt2).cells
       have s0:=(HR.out.ext hxt2).soft 0;have s1:=(HR.out.ext hxt2).soft 1
       obtain ⟨y0,y1⟩:=((HR.out.ext hxt2).set 0 none 0 0).cells
       have HXF:=Lib.hid ((HXZ.out.trans hxt2).set2 (g:=w.heap.size) (Nat.le_refl _) (.int .i64 0) (.slice none 0 0))
       have Y0:=Lib.hid y0;have Y1:=Lib.hid y1
       clear y0 y1
       clear hxt hxt2 d0 d1
       go_wp2_with fail
       have y0:=Y0.out;have y1:=Y1.out
       refine bodyPost_ret (v:=.tuple #[adv 0 none 0 0,.int .i64 6]) (by simp [results,Tryz.results93,go_sem,y0,y1,adv];try rfl) rfl ?_
       exact ⟨.inr ⟨HP.out,rfl⟩,HXF.out⟩
   ·have hmi:4≤(m:Int):=by omega
    have hm4':m=4:=by omega
    have HF:=Lib.hid (show rd4 4 s.data.toList=acc by rw [HRD.out,hm4'];simp [rd4])
    obtain ⟨c0,c1⟩:=HB.out.cells
    have HXZ:=HX
    have HAB:=HB
    have HBZ:=Lib.hid HO.out.bs
    have HC:=Lib.hid (show rcnd s.data.toList=some (2,acc) by rw [HRC.out,HF.out])
    clear hm4'
    go_upto_region 35 with fail
    have hxv:=RAValid_at 2 acc A c wr HBZ.out
    cases hok:okA 2 acc with
    | false=>
     rw [hok] at hxv
     have HV:=Lib.hid hxv
     have HP:=Lib.hid (rp_no1 HC.out hok)
     unfold adv at HV
     clear hok hxv
     go_wp2_with fail
     refine HV.out.mono ?_
     rintro _ wt ⟨rfl,hxt⟩
     obtain ⟨z0,z1⟩:=(HR.out.ext hxt).cells
     have s0:=(HR.out.ext hxt).soft 0;have s1:=(HR.out.ext hxt).soft 1
     obtain ⟨y0,y1⟩:=((HR.out.ext hxt).set 0 none 0 0).cells
     have HXF:=Lib.hid ((HXZ.out.trans hxt).set2 (g:=w.heap.size) (Nat.le_refl _) (.int .i64 0) (.slice none 0 0))
     have Y0:=Lib.hid y0;have Y1:=Lib.hid y1
     clear y0 y1
     clear hxt c0 c1
     go_wp2_with fail
     have y0:=Y0.out;have y1:=Y1.out
     refine bodyPost_ret (v:=.tuple #[adv 0 none 0 0,.int .i64 6]) (by simp [results,Tryz.results93,go_sem,y0,y1,adv];try rfl) rfl ?_
     exact ⟨.inr ⟨HP.out,rfl⟩,HXF.out⟩
    | true=>
     rw [hok] at hxv
     have HV:=Lib.hid hxv
     have hxt0:=fun W hx=>RAText_at 2 acc A c W (HBZ.out.ext hx) hok
     obtain ⟨X,hX⟩:∃ X,txtA 2 acc=X:=⟨_,rfl⟩
     rw [hX] at hxt0
     have HT:=Lib.hid hxt0
     unfold adv at HV HT
     clear hxv hxt0
     by_cases heq:X=s.data.toList
     ·have q1:(X==s.toList)=true:=by rw [ByteArray.toList_eq,heq];exact beq_self_eq_true _
      have q2:(X != s.toList)=false:=by rw [bne,q1];rfl
      have HP:=Lib.hid (rp_ok HC.out hok (hX.trans heq))
      clear hok hX heq
      go_wp2_with fail
      refine HV.out.mono ?_
      rintro _ wv ⟨rfl,hxv⟩
      have HXV:=Lib.hid hxv
      obtain ⟨d0,d1⟩:=(HAB.out.ext hxv).cells
      clear hxv c0 c1
      go_wp2_with fail
      refine (HT.out _ HXV.out).mono ?_
      rintro _ wt ⟨rfl,hxt⟩
      have hxt2:=HXV.out.trans hxt
      obtain ⟨b0,b1⟩:=(HAB.out.ext hxt2).cells
      obtain ⟨z0,z1⟩:=(HR.out.ext hxt2).cells
      have s0:=(HR.out.ext hxt2).soft 0;have s1:=(HR.out.ext hxt2).soft 1
      obtain ⟨y0,y1⟩:=((HR.out.ext hxt2).set (2) A (acc).length c).cells
      have HXF:=Lib.hid ((HXZ.out.trans hxt2).set2 (g:=w.heap.size) (Nat.le_refl _) (.int .i64 2) (.slice A (acc).length c))
      have HBF:=Lib.hid ((HBZ.out.ext hxt2).set2 (HR.out.ext hxt2) (.int .i64 2) (.slice A (acc).length c))
      have Y0:=Lib.hid y0;have Y1:=Lib.hid y1
      clear hxt hxt2 d0 d1 y0 y1
      go_wp2_with fail
      have y0:=Y0.out;have y1:=Y1.out
      refine bodyPost_ret (v:=.tuple #[adv 2 A (acc).length c,.int .i64 0]) (by simp [results,Tryz.results93,go_sem,y0,y1,adv];try rfl) rfl ?_
      exact ⟨.inl ⟨_,_,_,_,HP.out,rfl,HBF.out⟩,HXF.out⟩
     ·have q1:(X==s.toList)=false:=by rw [ByteArray.toList_eq,beq_eq_false_iff_ne];exact heq
      have q2:(X != s.toList)=true:=by rw [bne,q1];rfl
      have HP:=Lib.hid (rp_no2 HC.out (fun h=>heq (hX.symm.trans h)))
      clear hok hX heq
      go_wp2_with fail
      refine HV.out.mono ?_
      rintro _ wv ⟨rfl,hxv⟩
      have HXV:=Lib.hid hxv
      obtain ⟨d0,d1⟩:=(HAB.out.ext hxv).cells
      clear hxv c0 c1
      go_wp2_with fail
      refine (HT.out _ HXV.out).mono ?_
      rintro _ wt ⟨rfl,hxt⟩
      have hxt2:=HXV.out.trans hxt
      obtain ⟨z0,z1⟩:=(HR.out.ext hxt2).cells
      have s0:=(HR.out.ext hxt2).soft 0;have s1:=(HR.out.ext hxt2).soft 1
      obtain ⟨y0,y1⟩:=((HR.out.ext hxt2).set 0 none 0 0).cells
      have HXF:=Lib.hid ((HXZ.out.trans hxt2).set2 (g:=w.heap.size) (Nat.le_refl _) (.int .i64 0) (.slice none 0 0))
      have Y0:=Lib.hid y0;have Y1:=Lib.hid y1
      clear y0 y1
      clear hxt hxt2 d0 d1
      go_wp2_with fail
      have y0:=Y0.out;have y1:=Y1.out
      refine bodyPost_ret (v:=.tuple #[adv 0 none 0 0,.int .i64 6]) (by simp [results,Tryz.results93,go_sem,y0,y1,adv];try rfl) rfl ?_
      exact ⟨.inr ⟨HP.out,rfl⟩,HXF.out⟩
 ·have h5':(5:Int)≤(s.size:Int):=by omega
  have h5p:(0:Int)<(s.size:Int):=by omega
  have hsl:=take_run s h5
  obtain ⟨M,hM⟩:∃ M,s.data.toList.take 5=M:=⟨_,rfl⟩
  rw [hM] at hct hsl
  have h91:s[0]≠91:=by
   intro h
   have hd:=drop_byteA s 0 (by omega)
   rw [List.drop_zero] at hd
   rw [hd,h] at hq
   simp [List.isPrefixOf] at hq
  have h91n:s[0].toNat≠91:=fun h=>h91 (UInt8.toNat.inj (by have h2:(91:UInt8).toNat=91:=rfl;rw [h2];omega))
  obtain ⟨x,hx⟩:∃ x,s[0].toNat=x:=⟨_,rfl⟩
  have hix:=idx_run s 0 (by omega) (x:Int) (by omega)
  rw [show (((0:Nat)):Int)=0 from rfl] at hix
  have hxq:((x:Int)==91)=false:=by rw [beq_eq_false_iff_ne];omega
  clear hp hq h91 h91n hx
  clear h5 hM
  have hb0:=HB1.out.set0 2
  have hr0:AB (w1.setCell ⟨w.heap.size+1,0,none⟩ (.int .i64 2)) w.heap.size 0 none 0 0:=heap_far (grown_set (grown_refl w1 _) 0 (.int .i64 2)) HR1.out (by omega)
  have hx0:=HX1.out.setCell (p:=⟨w.heap.size+1,0,none⟩) (by show w.heap.size≤w.heap.size+1;omega) (.int .i64 2)
  obtain ⟨w2,hw2⟩:∃ W,w1.setCell ⟨w.heap.size+1,0,none⟩ (.int .i64 2)=W:=⟨_,rfl⟩
  rw [hw2] at hb0 hr0 hx0
  have HB2:=Lib.hid hb0;have HR2:=Lib.hid hr0;have HX2:=Lib.hid hx0
  clear hb0 hr0 hx0
  go_wp2_with fail
  clear hw2 hw1 b0 b1 g0 g1
  go_loopw [12,13] (fun va vn wr=>∃ (m at_:Nat) (acc:List UInt8) (A:Option Addr) (c:Nat),va=.int .i64 (at_:Int)∧vn=.int .i64 (m:Int)∧m≤4∧at_≤s.size∧Hid (acc.length=m)∧Hid (rd4 4 s.data.toList=acc++rd4 (4-m) (s.data.toList.drop at_))∧Hid (AB wr (w.heap.size+1) 2 A acc.length c)∧Hid (OB 5 wr (w.heap.size+2) (.slice A acc.length c) acc)∧Hid (AB wr w.heap.size 0 none 0 0)∧Hid (Ext w wr)) (fun _ vn _=>4-(intOf vn).toNat)
  case atStart=>exact ⟨0,0,[],none,0,rfl,rfl,by omega,Nat.zero_le _,Lib.hid rfl,Lib.hid rfl,HB2,Lib.hid (OB.nil _ _ _),HR2,HX2⟩
  case round=>
   obtain ⟨m,at_,acc,A,c,rfl,rfl,hm,hat,HL,HRD,HB,HO,HR,HX⟩:=hrel
   by_cases hm4:m<4
   ·have hmi:(m:Int)<4:=by omega
    obtain ⟨v,e,hd,hae,hes⟩:=dgs_at 10 s at_ hat
    have hdi:=RAdigits10_at s HS.out at_ hat wr
    rw [hd] at hdi
    dsimp only at hdi
    rw [size_drop s e hes] at hdi
    obtain ⟨z,hz⟩:∃ z,v % 256=z:=⟨_,rfl⟩
    have hzi:(v:Int) % 256=(z:Int):=by omega
    have hz2:(z:Int) % 256=(z:Int):=by omega
    have hz8:z<256:=by omega
    have he1:(e:Int)≤3000:=by have:=HS.out;omega
    have HDI:=Lib.hid hdi;have HD:=Lib.hid hd;have HZ:=Lib.hid hz
    obtain ⟨c0,c1⟩:=HB.out.cells
    clear hdi hd hz
    go_wp2_with fail
    refine HDI.out.mono ?_
    rintro _ w3 ⟨rfl,rfl⟩
    have hx4:=(Ext.refl wr).alloc (.cells #[.int .u8 (z:Int)] 5)
    have hbs:BS (wr.alloc (.cells #[.int .u8 (z:Int)] 5)) (.slice (some ⟨wr.heap.size,0,none⟩) 1 1) [UInt8.ofNat z]:=
     BS.new' wr 5 [.int .u8 (z:Int)] _ (by simp only [bv,List.map_cons,List.map_nil,UInt8.toNat_ofNat'];congr 2;omega) 1 rfl (by simp [maxLen])
    have HBS:=Lib.hid hbs;have HX4:=Lib.hid hx4
    have HOV:=Lib.hid (HO.out.ext hx4)
    have hB4:=HB.out.ext hx4;have hR4:=HR.out.ext hx4
    have HB4:=Lib.hid hB4;have HR4:=Lib.hid hR4
    clear hbs hx4 hB4 hR4
    go_upto_region 9 with (at_builtin;refine wpList_append_bs _ rfl (.tmp 28) (.tmp 32) 32 rfl (w.heap.size+2) 5 i0 (.int .u8 0) Tryz.underlying32 hi hz0 hz1 hz2' rfl _ acc rfl HOV.out _ [UInt8.ofNat z] rfl HBS.out ?hb ?hm ?_;rotate_right;intro v4 w4 hown4 hg4 _;obtain ⟨acc2,ha2⟩:∃ x,acc++[UInt8.ofNat z]=x:=⟨_,rfl⟩;rw [ha2] at hown4;obtain ⟨A4,c4,rfl⟩:=OB.shape hown4;have hb5:=HB4.out.own hg4 (fun j hj=>OB.lt HOV.out j hj) (by omega);have f0:=hb5.soft 0;have f1:=hb5.soft 1;obtain ⟨k0,k1⟩:=hb5.cells;obtain ⟨w6,hw6⟩:∃ W,w4.setCell ⟨w.heap.size+1,1,none⟩ (.slice A4 acc2.length c4)=W:=⟨_,rfl⟩;have HA2:=Lib.hid ha2;have HL6:=Lib.hid (show acc2.length=m+1 by rw [← ha2,List.length_append,HL.out];rfl);clear ha2)
    case hb=>have:=HL.out;simp;omega
    case hm=>have h1:=HB4.out.lt;omega
    have hr5:=HR4.out.own hg4 (fun j hj=>OB.lt HOV.out j hj) (by omega)
    have hx5:=((HX.out.trans HX4.out).grown hg4 (fun j hj=>by have:=OB.lt HOV.out j hj;omega))
    have hb6:=hb5.set1 A4 acc2.length c4
    have hr6:AB (w4.setCell ⟨w.heap.size+1,1,none⟩ (.slice A4 acc2.length c4)) w.heap.size 0 none 0 0:=heap_far (grown_set (grown_refl w4 _) 1 _) hr5 (by omega)
    have hx6:=hx5.setCell (p:=⟨w.heap.size+1,1,none⟩) (by show w.heap.size≤w.heap.size+1;omega) (.slice A4 acc2.length c4)
    have ho6:=OB.off hown4 (grown_set (grown_refl w4 _) 1 (.slice A4 acc2.length c4)) (show w.heap.size+1<w.heap.size+2 by omega)
    rw [hw6] at hb6 hr6 hx6 ho6
    have HB6:=Lib.hid hb6;have HR6:=Lib.hid hr6;have HX6:=Lib.hid hx6;have HO6:=Lib.hid ho6
    clear hb5 hr5 hx5 hb6 hr6 hx6 ho6 hown4 hg4 f0 f1 k0 k1 hw6
    by_cases hend:e<s.size
    ·have hge:(e:Int)+1≤(s.size:Int):=by omega
     have HRD6:=Lib.hid (show rd4 4 s.data.toList=acc2++rd4 (4-(m+1)) (s.data.toList.drop (e+1)) by
      have h1:=HD.out
      rw [drop_byteA s e hend] at h1
      rw [HRD.out,show 4-m=4-(m+1)+1 by omega,rd4_go _ _ _ _ _ h1,HZ.out,← HA2.out,List.append_assoc]
      rfl)
     clear hae hes
     go_wp2_with fail
     go_roundw
     case rel=>exact ⟨m+1,e+1,acc2,A4,c4,by go_num,by go_num,by omega,by omega,HL6,HRD6,HB6,HO6,HR6,HX6⟩
     case measure=>simp [intOf];omega
    ·have hee:e=s.size:=by omega
     have hge:(s.size:Int)<(e:Int)+1:=by omega
     have HF:=Lib.hid (show rd4 4 s.data.toList=acc2 by
      have h1:=HD.out
      rw [List.drop_eq_nil_of_le (show s.data.toList.length≤e by rw [Array.length_toList];show s.size≤e;omega)] at h1
      rw [HRD.out,show 4-m=4-(m+1)+1 by omega,rd4_end _ _ _ h1,HZ.out,← HA2.out])
     have HAB:=HB6
     have HXZ:=HX6
     have HBZ:=Lib.hid HO6.out.bs
     clear HB HR HX
     have HR:=HR6
     have HC:=Lib.hid (show rcnd s.data.toList=some (2,acc2) by rw [HRC.out,HF.out])
     clear hae hes hee hend c0 c1
     obtain ⟨c0,c1⟩:=HAB.out.cells
     go_upto_region 35 with fail
     have hxv:=RAValid_at 2 acc2 A4 c4 w6 HBZ.out
     cases hok:okA 2 acc2 with
     | false=>
      rw [hok] at hxv
      have HV:=Lib.hid hxv
      have HP:=Lib.hid (rp_no1 HC.out hok)
      unfold adv at HV
      clear hok hxv
      go_wp2_with fail
      refine HV.out.mono ?_
      rintro _ wt ⟨rfl,hxt⟩
      obtain ⟨z0,z1⟩:=(HR.out.ext hxt).cells
      have s0:=(HR.out.ext hxt).soft 0;have s1:=(HR.out.ext hxt).soft 1
      obtain ⟨y0,y1⟩:=((HR.out.ext hxt).set 0 none 0 0).cells
      have HXF:=Lib.hid ((HXZ.out.trans hxt).set2 (g:=w.heap.size) (Nat.le_refl _) (.int .i64 0) (.slice none 0 0))
      have Y0:=Lib.hid y0;have Y1:=Lib.hid y1
      clear y0 y1
      clear hxt c0 c1
      go_wp2_with fail
      have y0:=Y0.out;have y1:=Y1.out
      refine bodyPost_ret (v:=.tuple #[adv 0 none 0 0,.int .i64 6]) (by simp [results,Tryz.results93,go_sem,y0,y1,adv];try rfl) rfl ?_
      exact ⟨.inr ⟨HP.out,rfl⟩,HXF.out⟩
     | true=>
      rw [hok] at hxv
      have HV:=Lib.hid hxv
      have hxt0:=fun W hx=>RAText_at 2 acc2 A4 c4 W (HBZ.out.ext hx) hok
      obtain ⟨X,hX⟩:∃ X,txtA 2 acc2=X:=⟨_,rfl⟩
      rw [hX] at hxt0
      have HT:=Lib.hid hxt0
      unfold adv at HV HT
      clear hxv hxt0
      by_cases heq:X=s.data.toList
      ·have q1:(X==s.toList)=true:=by rw [ByteArray.toList_eq,heq];exact beq_self_eq_true _
       have q2:(X != s.toList)=false:=by rw [bne,q1];rfl
       have HP:=Lib.hid (rp_ok HC.out hok (hX.trans heq))
       clear hok hX heq
       go_wp2_with fail
       refine HV.out.mono ?_
       rintro _ wv ⟨rfl,hxv⟩
       have HXV:=Lib.hid hxv
       obtain ⟨d0,d1⟩:=(HAB.out.ext hxv).cells
       clear hxv c0 c1
       go_wp2_with fail
       refine (HT.out _ HXV.out).mono ?_
       rintro _ wt ⟨rfl,hxt⟩
       have hxt2:=HXV.out.trans hxt
       obtain ⟨b0,b1⟩:=(HAB.out.ext hxt2).cells
       obtain ⟨z0,z1⟩:=(HR.out.ext hxt2).cells
       have s0:=(HR.out.ext hxt2).soft 0;have s1:=(HR.out.ext hxt2).soft 1
       obtain ⟨y0,y1⟩:=((HR.out.ext hxt2).set (2) A4 (acc2).length c4).cells
       have HXF:=Lib.hid ((HXZ.out.trans hxt2).set2 (g:=w.heap.size) (Nat.le_refl _) (.int .i64 2) (.slice A4 (acc2).length c4))
       have HBF:=Lib.hid ((HBZ.out.ext hxt2).set2 (HR.out.ext hxt2) (.int .i64 2) (.slice A4 (acc2).length c4))
       have Y0:=Lib.hid y0;have Y1:=Lib.hid y1
       clear hxt hxt2 d0 d1 y0 y1
       go_wp2_with fail
       have y0:=Y0.out;have y1:=Y1.out
       refine bodyPost_ret (v:=.tuple #[adv 2 A4 (acc2).length c4,.int .i64 0]) (by simp [results,Tryz.results93,go_sem,y0,y1,adv];try rfl) rfl ?_
       exact ⟨.inl ⟨_,_,_,_,HP.out,rfl,HBF.out⟩,HXF.out⟩
      ·have q1:(X==s.toList)=false:=by rw [ByteArray.toList_eq,beq_eq_false_iff_ne];exact heq
       have q2:(X != s.toList)=true:=by rw [bne,q1];rfl
       have HP:=Lib.hid (rp_no2 HC.out (fun h=>heq (hX.symm.trans h)))
       clear hok hX heq
       go_wp2_with fail
       refine HV.out.mono ?_
       rintro _ wv ⟨rfl,hxv⟩
       have HXV:=Lib.hid hxv
       obtain ⟨d0,d1⟩:=(HAB.out.ext hxv).cells
       clear hxv c0 c1
       go_wp2_with fail
       refine (HT.out _ HXV.out).mono ?_
       rintro _ wt ⟨rfl,hxt⟩
       have hxt2:=HXV.out.trans hxt
       obtain ⟨z0,z1⟩:=(HR.out.ext hxt2).cells
       have s0:=(HR.out.ext hxt2).soft 0;have s1:=(HR.out.ext hxt2).soft 1
       obtain ⟨y0,y1⟩:=((HR.out.ext hxt2).set 0 none 0 0).cells
       have HXF:=Lib.hid ((HXZ.out.trans hxt2).set2 (g:=w.heap.size) (Nat.le_refl _) (.int .i64 0) (.slice none 0 0))
       have Y0:=Lib.hid y0;have Y1:=Lib.hid y1
       clear y0 y1
       clear hxt hxt2 d0 d1
       go_wp2_with fail
       have y0:=Y0.out;have y1:=Y1.out
       refine bodyPost_ret (v:=.tuple #[adv 0 none 0 0,.int .i64 6]) (by simp [results,Tryz.results93,go_sem,y0,y1,adv];try rfl) rfl ?_
       exact ⟨.inr ⟨HP.out,rfl⟩,HXF.out⟩
   ·have hmi:4≤(m:Int):=by omega
    have hm4':m=4:=by omega
    have HF:=Lib.hid (show rd4 4 s.data.toList=acc by rw [HRD.out,hm4'];simp [rd4])
    obtain ⟨c0,c1⟩:=HB.out.cells
    have HXZ:=HX
    have HAB:=HB
    have HBZ:=Lib.hid HO.out.bs
    have HC:=Lib.hid (show rcnd s.data.toList=some (2,acc) by rw [HRC.out,HF.out])
    clear hm4'
    go_upto_region 35 with fail
    have hxv:=RAValid_at 2 acc A c wr HBZ.out
    cases hok:okA 2 acc with
    | false=>
     rw [hok] at hxv
     have HV:=Lib.hid hxv
     have HP:=Lib.hid (rp_no1 HC.out hok)
     unfold adv at HV
     clear hok hxv
     go_wp2_with fail
     refine HV.out.mono ?_
     rintro _ wt ⟨rfl,hxt⟩
     obtain ⟨z0,z1⟩:=(HR.out.ext hxt).cells
     have s0:=(HR.out.ext hxt).soft 0;have s1:=(HR.out.ext hxt).soft 1
     obtain ⟨y0,y1⟩:=((HR.out.ext hxt).set 0 none 0 0).cells
     have HXF:=Lib.hid ((HXZ.out.trans hxt).set2 (g:=w.heap.size) (Nat.le_refl _) (.int .i64 0) (.slice none 0 0))
     have Y0:=Lib.hid y0;have Y1:=Lib.hid y1
     clear y0 y1
     clear hxt c0 c1
     go_wp2_with fail
     have y0:=Y0.out;have y1:=Y1.out
     refine bodyPost_ret (v:=.tuple #[adv 0 none 0 0,.int .i64 6]) (by simp [results,Tryz.results93,go_sem,y0,y1,adv];try rfl) rfl ?_
     exact ⟨.inr ⟨HP.out,rfl⟩,HXF.out⟩
    | true=>
     rw [hok] at hxv
     have HV:=Lib.hid hxv
     have hxt0:=fun W hx=>RAText_at 2 acc A c W (HBZ.out.ext hx) hok
     obtain ⟨X,hX⟩:∃ X,txtA 2 acc=X:=⟨_,rfl⟩
     rw [hX] at hxt0
     have HT:=Lib.hid hxt0
     unfold adv at HV HT
     clear hxv hxt0
     by_cases heq:X=s.data.toList
     ·have q1:(X==s.toList)=true:=by rw [ByteArray.toList_eq,heq];exact beq_self_eq_true _
      have q2:(X != s.toList)=false:=by rw [bne,q1];rfl
      have HP:=Lib.hid (rp_ok HC.out hok (hX.trans heq))
      clear hok hX heq
      go_wp2_with fail
      refine HV.out.mono ?_
      rintro _ wv ⟨rfl,hxv⟩
      have HXV:=Lib.hid hxv
      obtain ⟨d0,d1⟩:=(HAB.out.ext hxv).cells
      clear hxv c0 c1
      go_wp2_with fail
      refine (HT.out _ HXV.out).mono ?_
      rintro _ wt ⟨rfl,hxt⟩
      have hxt2:=HXV.out.trans hxt
      obtain ⟨b0,b1⟩:=(HAB.out.ext hxt2).cells
      obtain ⟨z0,z1⟩:=(HR.out.ext hxt2).cells
      have s0:=(HR.out.ext hxt2).soft 0;have s1:=(HR.out.ext hxt2).soft 1
      obtain ⟨y0,y1⟩:=((HR.out.ext hxt2).set (2) A (acc).length c).cells
      have HXF:=Lib.hid ((HXZ.out.trans hxt2).set2 (g:=w.heap.size) (Nat.le_refl _) (.int .i64 2) (.slice A (acc).length c))
      have HBF:=Lib.hid ((HBZ.out.ext hxt2).set2 (HR.out.ext hxt2) (.int .i64 2) (.slice A (acc).length c))
      have Y0:=Lib.hid y0;have Y1:=Lib.hid y1
      clear hxt hxt2 d0 d1 y0 y1
      go_wp2_with fail
      have y0:=Y0.out;have y1:=Y1.out
      refine bodyPost_ret (v:=.tuple #[adv 2 A (acc).length c,.int .i64 0]) (by simp [results,Tryz.results93,go_sem,y0,y1,adv];try rfl) rfl ?_
      exact ⟨.inl ⟨_,_,_,_,HP.out,rfl,HBF.out⟩,HXF.out⟩
     ·have q1:(X==s.toList)=false:=by rw [ByteArray.toList_eq,beq_eq_false_iff_ne];exact heq
      have q2:(X != s.toList)=true:=by rw [bne,q1];rfl
      have HP:=Lib.hid (rp_no2 HC.out (fun h=>heq (hX.symm.trans h)))
      clear hok hX heq
      go_wp2_with fail
      refine HV.out.mono ?_
      rintro _ wv ⟨rfl,hxv⟩
      have HXV:=Lib.hid hxv
      obtain ⟨d0,d1⟩:=(HAB.out.ext hxv).cells
      clear hxv c0 c1
      go_wp2_with fail
      refine (HT.out _ HXV.out).mono ?_
      rintro _ wt ⟨rfl,hxt⟩
      have hxt2:=HXV.out.trans hxt
      obtain ⟨z0,z1⟩:=(HR.out.ext hxt2).cells
      have s0:=(HR.out.ext hxt2).soft 0;have s1:=(HR.out.ext hxt2).soft 1
      obtain ⟨y0,y1⟩:=((HR.out.ext hxt2).set 0 none 0 0).cells
      have HXF:=Lib.hid ((HXZ.out.trans hxt2).set2 (g:=w.heap.size) (Nat.le_refl _) (.int .i64 0) (.slice none 0 0))
      have Y0:=Lib.hid y0;have Y1:=Lib.hid y1
      clear y0 y1
      clear hxt hxt2 d0 d1
      go_wp2_with fail
      have y0:=Y0.out;have y1:=Y1.out
      refine bodyPost_ret (v:=.tuple #[adv 0 none 0 0,.int .i64 6]) (by simp [results,Tryz.results93,go_sem,y0,y1,adv];try rfl) rfl ?_
      exact ⟨.inr ⟨HP.out,rfl⟩,HXF.out⟩
end Go.Proofs.YtnjmndofcpnmeaaGreatDoor
