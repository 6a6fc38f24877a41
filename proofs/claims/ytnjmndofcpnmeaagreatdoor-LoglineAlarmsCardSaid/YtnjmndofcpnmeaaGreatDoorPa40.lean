/- Pa40. -/
import Derived.Test.YtnjmndofcpnmeaaGreatDoorPa39
import Derived.Test.YtnjmndofcpnmeaaGreatDoorPa11
import Derived.Test.YtnjmndofcpnmeaaGreatDoorPa12
import Derived.Test.YtnjmndofcpnmeaaGreatDoorPa23
namespace Go.Proofs.YtnjmndofcpnmeaaGreatDoor
open Go Go.RowKit
set_option linter.unusedVariables false
theorem rwp {w:World}{g:Nat}{t:TypeId}{a b:Value}(h:RW w g t #[a,b]):w.cell? ⟨g,0,none⟩=some a∧w.cell? ⟨g,1,none⟩=some b:=⟨by rw [cell_of_row _ _ _ _ _ (0,0) h];rfl,by rw [cell_of_row _ _ _ _ _ (0,0) h];rfl⟩
set_option maxRecDepth 100000 in
set_option maxHeartbeats 1600000 in
theorem RERealm_at (s:ByteArray) (hs:s.size≤4294967280) (w:World):
  Calls Tryz.prog 184 #[.string s] w fun e w'=>e=.returned (.bool (realmB s.data.toList))∧w'=w:=by
 obtain ⟨b,hb⟩:∃ b,realmB s.data.toList=b:=⟨_,rfl⟩
 have HB:=Lib.hid (show (sizedB s.data.toList&&labB 0 s.data.toList)=b from hb)
 rw [hb];clear hb
 have HZ:Hid (sizedB s.data.toList=decide (1≤s.size∧s.size≤32)):=Lib.hid (by unfold sizedB;rw [size_list])
 go_enter Tryz.func184,Tryz.ntmps184
 go_wp2_with fail
 go_loopw [3,4] (fun i _ wr=>∃ k n:Nat,k≤s.size∧n≤k∧i=.int .i64 k∧Hid (labB 0 s.data.toList=labB n (s.data.toList.drop k))∧Hid (k=s.size→0<k→0<n)∧Hid (∀ j (hj:j<s.size),j+1=k→(n=0 ↔ s[j].toNat=46))∧wr=w) (fun i _ _=>s.size-(intOf i).toNat)
 case atStart=>exact ⟨0,0,Nat.zero_le _,Nat.le_refl _,rfl,Lib.hid rfl,Lib.hid (fun _ h=>absurd h (Nat.lt_irrefl 0)),Lib.hid (fun j hj h=>by omega),rfl⟩
 case round=>
  obtain ⟨k,n,hk,hn,rfl,HL,HLast,HPrev,rfl⟩:=hrel
  by_cases hlt:k<s.size
  ·have HD:=Lib.hid (drop_byte s k hlt)
   by_cases h46:s[k].toNat=46
   ·have e46:((s[k].toNat:Int)==46)=true:=by rw [h46];rfl
    have f46:((s[k].toNat:Int) != 46)=false:=by rw [h46];rfl
    rcases Nat.eq_zero_or_pos k with rfl | hk0
    ·obtain rfl:n=0:=by omega
     have HX:=Lib.hid (show false=b by rw [← HB.out,show labB 0 s.data.toList=false by rw [HL.out,HD.out];exact labB_dot0 h46,Bool.and_false])
     clear h46
     go_wp2_with fail
     go_ret
     refine ⟨?_,rfl⟩
     rw [← HX.out];rfl
    ·obtain ⟨j,rfl⟩:∃ j,k=j+1:=⟨k-1,by omega⟩
     by_cases hl:j+2=s.size
     ·have e1:((j:Int)+1==(s.size:Int)-1)=true:=by rw [beq_iff_eq];omega
      have hn0:labB n (46::([]:List UInt8))=false:=by rw [labB];simp [labB]
      have HX:=Lib.hid (show false=b by rw [← HB.out,show labB 0 s.data.toList=false by
       rw [HL.out,HD.out,drop_end s (j+1+1) (by omega)]
       rw [labB,if_pos h46]
       show (decide (0<n)&&labB 0 [])=false
       rw [show labB 0 []=false from rfl,Bool.and_false],Bool.and_false])
      clear h46 hn0
      go_wp2_with fail
      go_ret
      refine ⟨?_,rfl⟩
      rw [← HX.out];rfl
     ·have e1:((j:Int)+1==(s.size:Int)-1)=false:=by rw [beq_eq_false_iff_ne];omega
      have hjs:j<s.size:=by omega
      have hp:=HPrev.out j hjs rfl
      by_cases hj46:s[j].toNat=46
      ·have e2:((s[j].toNat:Int)==46)=true:=by rw [hj46];rfl
       obtain rfl:n=0:=hp.2 hj46
       have HX:=Lib.hid (show false=b by rw [← HB.out,show labB 0 s.data.toList=false by rw [HL.out,HD.out];exact labB_dot0 h46,Bool.and_false])
       clear h46 hj46 hp
       go_wp2_with fail
       go_ret
       refine ⟨?_,rfl⟩
       rw [← HX.out];rfl
      ·have e2:((s[j].toNat:Int)==46)=false:=by rw [beq_eq_false_iff_ne];omega
       have hn1:0<n:=by
        rcases Nat.eq_zero_or_pos n with h | h
        ·exact absurd (hp.1 h) hj46
        ·exact h
       have HX:=Lib.hid (show labB 0 s.data.toList=labB 0 (s.data.toList.drop (j+1+1)) by rw [HL.out,HD.out];exact labB_dot h46 hn1)
       have H46:=Lib.hid h46;have HNL:=Lib.hid hl
       clear h46 hj46 hp hn1 hl
       go_wp2_with fail
       go_roundw
       case rel=>exact ⟨j+1+1,0,by omega,Nat.zero_le _,by go_num,HX,Lib.hid (fun h _=>absurd (show j+2=s.size by omega) HNL.out),Lib.hid (fun i hi h=>by obtain rfl:i=j+1:=(by omega);exact ⟨fun _=>H46.out,fun _=>rfl⟩),trivial⟩
       case measure=>simp [intOf];omega
   ·have e46:((s[k].toNat:Int)==46)=false:=by rw [beq_eq_false_iff_ne];omega
    have f46:((s[k].toNat:Int) != 46)=true:=by rw [bne_iff_ne];omega
    have H46:=Lib.hid h46
    rcases (show (s[k].toNat:Int)<48∧(s[k].toNat:Int)≠45∨(s[k].toNat:Int)=45∨(48≤(s[k].toNat:Int)∧(s[k].toNat:Int)≤57)∨(57<(s[k].toNat:Int)∧(s[k].toNat:Int)<65)∨(65≤(s[k].toNat:Int)∧(s[k].toNat:Int)≤90)∨90<(s[k].toNat:Int) by omega) with ⟨g1,g2⟩ | g1 | ⟨g1,g2⟩ | ⟨g1,g2⟩ | ⟨g1,g2⟩ | g1
    ·have g3:(s[k].toNat:Int)<65:=by omega
     have g4:((s[k].toNat:Int)==45)=false:=by rw [beq_eq_false_iff_ne];exact g2
     have d57:decide ((s[k].toNat:Int)≤57)=true:=decide_eq_true (by omega)
     have d90:decide ((s[k].toNat:Int)≤90)=true:=decide_eq_true (by omega)
     have f4:((s[k].toNat:Int) != 45)=true:=by rw [bne_iff_ne];exact g2
     have HX:=Lib.hid (show false=b by rw [← HB.out,show labB 0 s.data.toList=false by rw [HL.out,HD.out];exact labB_bad h46 (okc_no (by omega)),Bool.and_false])
     clear h46
     go_wp2_with fail
     go_ret
     refine ⟨?_,rfl⟩
     rw [← HX.out];rfl
    ·have g4:((s[k].toNat:Int)==45)=true:=by rw [g1];rfl
     have d57:decide ((s[k].toNat:Int)≤57)=true:=decide_eq_true (by omega)
     have d90:decide ((s[k].toNat:Int)≤90)=true:=decide_eq_true (by omega)
     have f4:((s[k].toNat:Int) != 45)=false:=by rw [g1];rfl
     have HX:=Lib.hid (show labB 0 s.data.toList=labB (n+1) (s.data.toList.drop (k+1)) by rw [HL.out,HD.out];exact labB_ok h46 (okc_yes (by omega)))
     clear h46
     clear g1
     go_wp2_with fail
     go_roundw
     case rel=>exact ⟨k+1,n+1,by omega,by omega,by go_num,HX,Lib.hid (fun _ _=>Nat.succ_pos n),Lib.hid (fun j hj h=>⟨fun e=>by omega,fun e=>by obtain rfl:j=k:=(by omega);exact absurd e H46.out⟩),trivial⟩
     case measure=>simp [intOf];omega
    ·have g3:(s[k].toNat:Int)<65:=by omega
     have g4:((s[k].toNat:Int)==45)=false:=by rw [beq_eq_false_iff_ne];omega
     have d57:decide ((s[k].toNat:Int)≤57)=true:=decide_eq_true (by omega)
     have d90:decide ((s[k].toNat:Int)≤90)=true:=decide_eq_true (by omega)
     have f4:((s[k].toNat:Int) != 45)=true:=by rw [bne_iff_ne];omega
     have HX:=Lib.hid (show labB 0 s.data.toList=labB (n+1) (s.data.toList.drop (k+1)) by rw [HL.out,HD.out];exact labB_ok h46 (okc_yes (by omega)))
     clear h46
     go_wp2_with fail
     go_roundw
     case rel=>exact ⟨k+1,n+1,by omega,by omega,by go_num,HX,Lib.hid (fun _ _=>Nat.succ_pos n),Lib.hid (fun j hj h=>⟨fun e=>by omega,fun e=>by obtain rfl:j=k:=(by omega);exact absurd e H46.out⟩),trivial⟩
     case measure=>simp [intOf];omega
    ·have g3:48≤(s[k].toNat:Int):=by omega
     have g4:((s[k].toNat:Int)==45)=false:=by rw [beq_eq_false_iff_ne];omega
     have d57:decide ((s[k].toNat:Int)≤57)=false:=decide_eq_false (by omega)
     have d90:decide ((s[k].toNat:Int)≤90)=true:=decide_eq_true (by omega)
     have f4:((s[k].toNat:Int) != 45)=true:=by rw [bne_iff_ne];omega
     have HX:=Lib.hid (show false=b by rw [← HB.out,show labB 0 s.data.toList=false by rw [HL.out,HD.out];exact labB_bad h46 (okc_no (by omega)),Bool.and_false])
     clear h46
     go_wp2_with fail
     go_ret
     refine ⟨?_,rfl⟩
     rw [← HX.out];rfl
    ·have g4:((s[k].toNat:Int)==45)=false:=by rw [beq_eq_false_iff_ne];omega
     have d57:decide ((s[k].toNat:Int)≤57)=false:=decide_eq_false (by omega)
     have d90:decide ((s[k].toNat:Int)≤90)=true:=decide_eq_true (by omega)
     have f4:((s[k].toNat:Int) != 45)=true:=by rw [bne_iff_ne];omega
     have HX:=Lib.hid (show labB 0 s.data.toList=labB (n+1) (s.data.toList.drop (k+1)) by rw [HL.out,HD.out];exact labB_ok h46 (okc_yes (by omega)))
     clear h46
     go_wp2_with fail
     go_roundw
     case rel=>exact ⟨k+1,n+1,by omega,by omega,by go_num,HX,Lib.hid (fun _ _=>Nat.succ_pos n),Lib.hid (fun j hj h=>⟨fun e=>by omega,fun e=>by obtain rfl:j=k:=(by omega);exact absurd e H46.out⟩),trivial⟩
     case measure=>simp [intOf];omega
    ·have g2:65≤(s[k].toNat:Int):=by omega
     have g3:48≤(s[k].toNat:Int):=by omega
     have g5:57<(s[k].toNat:Int):=by omega
     have g4:((s[k].toNat:Int)==45)=false:=by rw [beq_eq_false_iff_ne];omega
     have d57:decide ((s[k].toNat:Int)≤57)=false:=decide_eq_false (by omega)
     have d90:decide ((s[k].toNat:Int)≤90)=false:=decide_eq_false (by omega)
     have f4:((s[k].toNat:Int) != 45)=true:=by rw [bne_iff_ne];omega
     have HX:=Lib.hid (show false=b by rw [← HB.out,show labB 0 s.data.toList=false by rw [HL.out,HD.out];exact labB_bad h46 (okc_no (by omega)),Bool.and_false])
     clear h46
     go_wp2_with fail
     go_ret
     refine ⟨?_,rfl⟩
     rw [← HX.out];rfl
  ·obtain rfl:k=s.size:=by omega
   have HE:=Lib.hid (show (decide (1≤s.size∧s.size≤32)&&decide (0<n))=b by rw [← HB.out,HL.out,drop_end s s.size hlt,HZ.out];rfl)
   have hpos:=HLast.out rfl
   by_cases h1:1≤s.size
   ·have g1:decide (1≤(s.size:Int))=true:=decide_eq_true (by omega)
    by_cases h2:s.size≤32
    ·have g2:decide ((s.size:Int)≤32)=true:=decide_eq_true (by omega)
     have HT:=Lib.hid (show true=b by have:=HE.out;rwa [decide_eq_true ⟨h1,h2⟩,decide_eq_true (hpos h1)] at this)
     clear h1 h2 hpos
     go_wp2_with fail
     go_ret
     refine ⟨?_,rfl⟩
     rw [← HT.out];rfl
    ·have g2:decide ((s.size:Int)≤32)=false:=decide_eq_false (by omega)
     have HT:=Lib.hid (show false=b by have:=HE.out;rwa [decide_eq_false (fun h=>h2 h.2),Bool.false_and] at this)
     clear h1 h2 hpos
     go_wp2_with fail
     go_ret
     refine ⟨?_,rfl⟩
     rw [← HT.out];rfl
   ·have g1:decide (1≤(s.size:Int))=false:=decide_eq_false (by omega)
    have HT:=Lib.hid (show false=b by have:=HE.out;rwa [decide_eq_false (fun h=>h1 h.1),Bool.false_and] at this)
    clear h1 hpos
    go_wp2_with fail
    go_ret
    refine ⟨?_,rfl⟩
    rw [← HT.out];rfl
theorem nameB_prefix {ps:List ByteArray}{r:List UInt8}{k:Nat}(hk:ps.length≤k)(ha:(ps.take k).all (fun p=>partB p.data.toList)=true):nameB (dat ps) r=(decide (1≤ps.length∧ps.length≤4)&&realmB r):=by
 rw [List.take_of_length_le hk] at ha
 unfold nameB
 rw [dat_length,show (dat ps).all partB=ps.all (fun p=>partB p.data.toList) by unfold dat;rw [List.all_map];rfl,ha,Bool.and_true]
theorem nameB_bad {ps:List ByteArray}{r:List UInt8}{p:ByteArray}(h:p∈ps)(hb:partB p.data.toList=false):nameB (dat ps) r=false:=by
 unfold nameB
 rw [show (dat ps).all partB=false from List.all_eq_false.2 ⟨p.data.toList,List.mem_map.2 ⟨p,h,rfl⟩,by rw [hb];simp⟩,Bool.and_false]
theorem svR_len (ps:List ByteArray):(sv ps).length=ps.length:=by unfold sv;simp
theorem svR_at (ps:List ByteArray)(k:Nat)(h:k<ps.length):(sv ps)[k]? = some (.string ps[k]):=by unfold sv;simp [h]
set_option maxRecDepth 100000 in
set_option maxHeartbeats 1600000 in
theorem VPrin_at (A:Option Addr) (c:Nat) (ps:List ByteArray) (r:ByteArray) (hr:r.size≤4294967280) (w:World) (hR:RS w (.slice A ps.length c) (sv ps)):
  Calls Tryz.prog 138 #[.agg #[.slice A ps.length c,.string r]] w fun e w'=>e=.returned (.bool (nameB (dat ps) r.data.toList))∧Ext w w':=by
 have hT:RW (w.alloc (.cells #[.slice A ps.length c,.string r] 37)) w.heap.size 37 #[.slice A ps.length c,.string r]:=heap_alloc_new w _
 have hX:=(Ext.refl w).alloc (.cells #[.slice A ps.length c,.string r] 37)
 obtain ⟨wb,hwb⟩:∃ wb,w.alloc (.cells #[.slice A ps.length c,.string r] 37)=wb:=⟨_,rfl⟩
 rw [hwb] at hT hX
 have HX:=Lib.hid hX
 have HRS:=Lib.hid (hR.ext hX)
 obtain ⟨q0,q1⟩:=rwp hT
 obtain ⟨b,hb⟩:∃ b,nameB (dat ps) r.data.toList=b:=⟨_,rfl⟩
 have HB:=Lib.hid hb
 rw [hb]
 have HRM:=Lib.hid (RERealm_at r hr wb)
 have hlen:ps.length≤9223372036854775807:=by
  obtain ⟨A',c',he,h1,h2,_⟩:=hR
  rw [svR_len] at h1
  unfold maxLen at h2
  omega
 clear hT hX hR hb
 go_enter Tryz.func138,Tryz.ntmps138
 go_wp2_with fail
 clear hwb
 go_loopw [3] (fun i wr=>∃ k:Nat,k≤ps.length∧i=.int .i64 k∧Hid ((ps.take k).all (fun p=>partB p.data.toList)=true)∧wr=wb) (fun i _=>ps.length-(intOf i).toNat)
 case atStart=>exact ⟨0,Nat.zero_le _,rfl,Lib.hid rfl,rfl⟩
 case round=>
  obtain ⟨k,hk,rfl,HA,rfl⟩:=hrel
  by_cases hlt:k<ps.length
  ·obtain ⟨A',c',he,e1,e2,e3⟩:=HRS.out
   rw [svR_len] at e1 e3 he
   injection he with z1 _ z3
   subst z1;subst z3
   obtain ⟨ad,rfl,hblt,hcell⟩:=e3 (by omega)
   have hck:=hcell k _ (svR_at ps k hlt)
   have HTK:=Lib.hid (show (ps.take (k+1)).all (fun p=>partB p.data.toList)=partB ps[k].data.toList by
    rw [List.take_succ_eq_append_getElem hlt,List.all_append,HA.out];simp)
   have HIN:=Lib.hid (List.getElem_mem hlt)
   obtain ⟨p,hp⟩:∃ p,ps[k]=p:=⟨_,rfl⟩
   rw [hp] at hck HTK HIN
   have HZ:Hid (partB p.data.toList=(decide (1≤p.size∧p.size≤32)&&p.data.toList.all visB)):=Lib.hid (by unfold partB sizedB;rw [size_list];rfl)
   clear hcell e3 e2 e1 hblt hp
   by_cases h1:1≤p.size
   ·have g1:1≤(p.size:Int):=by omega
    by_cases h2:p.size≤32
    ·have g2:(p.size:Int)≤32:=by omega
     obtain ⟨vb,hvb⟩:∃ vb,p.data.toList.all visB=vb:=⟨_,rfl⟩
     have HV:=Lib.hid (RVisible_at p (by omega) wr vb hvb)
     have HP:=Lib.hid (show partB p.data.toList=vb by rw [HZ.out,decide_eq_true ⟨h1,h2⟩,hvb];rfl)
     clear h1 h2 hvb
     go_wp2_with fail
     refine HV.out.mono ?_
     rintro _ w2 ⟨rfl,rfl⟩
     cases vb with
     | true=>
      have HT2:=Lib.hid (HTK.out.trans HP.out)
      go_wp2_with fail
      go_roundw
      case rel=>exact ⟨k+1,by omega,by go_num,HT2,trivial⟩
      case measure=>simp [intOf];omega
     | false=>
      have HBT:=Lib.hid (show false=b by rw [← HB.out];exact (nameB_bad HIN.out HP.out).symm)
      go_wp2_with fail
      go_ret
      refine ⟨?_,HX.out⟩
      rw [← HBT.out];rfl
    ·have g2:32<(p.size:Int):=by omega
     have HBT:=Lib.hid (show false=b by rw [← HB.out];exact (nameB_bad HIN.out (by rw [HZ.out,decide_eq_false (fun h=>h2 h.2),Bool.false_and])).symm)
     clear h1 h2
     go_wp2_with fail
     go_ret
     refine ⟨?_,HX.out⟩
     rw [← HBT.out];rfl
   ·have g1:(p.size:Int)<1:=by omega
    have HBT:=Lib.hid (show false=b by rw [← HB.out];exact (nameB_bad HIN.out (by rw [HZ.out,decide_eq_false (fun h=>h1 h.1),Bool.false_and])).symm)
    clear h1
    go_wp2_with fail
    go_ret
    refine ⟨?_,HX.out⟩
    rw [← HBT.out];rfl
  ·have HF:=Lib.hid (show (decide (1≤ps.length∧ps.length≤4)&&realmB r.data.toList)=b by rw [← HB.out];exact (nameB_prefix (by omega) HA.out).symm)
   by_cases h1:1≤ps.length
   ·have g1:decide (1≤(ps.length:Int))=true:=decide_eq_true (by omega)
    by_cases h2:ps.length≤4
    ·have g2:decide ((ps.length:Int)≤4)=true:=decide_eq_true (by omega)
     have HT:=Lib.hid (show realmB r.data.toList=b by have:=HF.out;rwa [decide_eq_true ⟨h1,h2⟩,Bool.true_and] at this)
     clear h1 h2
     go_wp2_with fail
     refine HRM.out.mono ?_
     rintro _ w2 ⟨rfl,rfl⟩
     go_wp2_with fail
     go_ret
     refine ⟨?_,HX.out⟩
     rw [← HT.out];rfl
    ·have g2:decide ((ps.length:Int)≤4)=false:=decide_eq_false (by omega)
     have HT:=Lib.hid (show false=b by have:=HF.out;rwa [decide_eq_false (fun h=>h2 h.2),Bool.false_and] at this)
     clear h1 h2
     go_wp2_with fail
     go_ret
     refine ⟨?_,HX.out⟩
     rw [← HT.out];rfl
   ·have g1:decide (1≤(ps.length:Int))=false:=decide_eq_false (by omega)
    have HT:=Lib.hid (show false=b by have:=HF.out;rwa [decide_eq_false (fun h=>h1 h.1),Bool.false_and] at this)
    clear h1
    go_wp2_with fail
    go_ret
    refine ⟨?_,HX.out⟩
    rw [← HT.out];rfl
theorem none_dec (ps:List ByteArray)(r:ByteArray):(decide (ps.length=0)&&r.toList.isEmpty)=noneN (dat ps) r.data.toList:=by
 rw [ByteArray.toList_eq]
 unfold noneN dat
 cases ps<;>simp
set_option maxRecDepth 100000 in
theorem Person_at (A:Option Addr) (c:Nat) (ps:List ByteArray) (r:ByteArray) (hr:r.size≤4294967280) (w:World) (hR:RS w (.slice A ps.length c) (sv ps)):
  Calls Tryz.prog 85 #[.agg #[.slice A ps.length c,.string r]] w fun e w'=>e=.returned (.bool (prsB (dat ps) r.data.toList))∧Ext w w':=by
 have hT:RW (w.alloc (.cells #[.slice A ps.length c,.string r] 37)) w.heap.size 37 #[.slice A ps.length c,.string r]:=heap_alloc_new w _
 have hX:=(Ext.refl w).alloc (.cells #[.slice A ps.length c,.string r] 37)
 obtain ⟨wb,hwb⟩:∃ wb,w.alloc (.cells #[.slice A ps.length c,.string r] 37)=wb:=⟨_,rfl⟩
 rw [hwb] at hT hX
 have HX:=Lib.hid hX;have HT:=Lib.hid hT
 have HNO:=Lib.hid (RNone_at A ps.length c r wb)
 rw [none_dec] at HNO
 have HVP:=Lib.hid (fun W (hx:Ext wb W)=>VPrin_at A c ps r hr W (hR.ext (hX.trans hx)))
 obtain ⟨q0,q1⟩:=rwp hT
 have hpb:prsB (dat ps) r.data.toList=(noneN (dat ps) r.data.toList||nameB (dat ps) r.data.toList):=rfl
 rw [hpb]
 obtain ⟨a,ha⟩:∃ a,noneN (dat ps) r.data.toList=a:=⟨_,rfl⟩
 obtain ⟨b,hb⟩:∃ a,nameB (dat ps) r.data.toList=a:=⟨_,rfl⟩
 rw [ha] at HNO ⊢
 rw [hb] at HVP ⊢
 clear hpb ha hb hT hX hR
 go_enter Tryz.func85,Tryz.ntmps85
 go_wp2_with fail
 refine HNO.out.mono ?_
 rintro _ w2 ⟨rfl,hx2⟩
 have HX2:=Lib.hid hx2
 clear hx2 q0 q1
 obtain ⟨q0,q1⟩:=rwp (HT.out.ext HX2.out)
 cases a with
 | true=>
  go_wp2_with fail
  go_ret
  exact ⟨rfl,HX.out.trans HX2.out⟩
 | false=>
  go_wp2_with fail
  refine (HVP.out _ HX2.out).mono ?_
  rintro _ w3 ⟨rfl,hx3⟩
  have HX3:=Lib.hid (HX2.out.trans hx3)
  clear hx3
  go_wp2_with fail
  go_ret
  exact ⟨rfl,HX.out.trans HX3.out⟩
end Go.Proofs.YtnjmndofcpnmeaaGreatDoor
