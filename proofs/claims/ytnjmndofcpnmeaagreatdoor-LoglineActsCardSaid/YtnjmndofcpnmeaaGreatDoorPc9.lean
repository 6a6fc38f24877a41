/- Pc9. -/
import Derived.Test.YtnjmndofcpnmeaaGreatDoorPc4
import Derived.Test.YtnjmndofcpnmeaaGreatDoorPc8
import Derived.MapKept
import Derived.RangeFuncRecord
import Derived.Test.YtnjmndofcpnmeaaGreatDoorPc0
import Derived.Laws.Concat
namespace Go.Proofs.YtnjmndofcpnmeaaGreatDoor
open Go Go.RowKit
set_option linter.unusedVariables false
theorem eq_none (ps:List ByteArray)(r:ByteArray):decide (dat ps=dat []∧r.data.toList=(ByteArray.mk #[]).data.toList)=noneN (dat ps) r.data.toList:=by
 unfold noneN
 rw [Bool.eq_iff_iff,decide_eq_true_eq,Bool.and_eq_true,List.isEmpty_iff,List.isEmpty_iff]
 exact Iff.rfl
set_option maxRecDepth 100000 in
theorem noName_at (A:Option Addr) (c:Nat) (ps:List ByteArray) (r:ByteArray) (hn:ps.length≤1000) (w:World) (hR:RS w (.slice A ps.length c) (sv ps)):
  Calls Tryz.prog 70 #[.agg #[.slice A ps.length c,.string r]] w fun e w'=>e=.returned (.bool (noneN (dat ps) r.data.toList))∧Ext w w':=by
 have hg:=heap_alloc_new w (.cells #[.slice A ps.length c,.string r] 37)
 have hx:=(Ext.refl w).alloc (.cells #[.slice A ps.length c,.string r] 37)
 obtain ⟨W1,e1⟩:∃ W,w.alloc (.cells #[.slice A ps.length c,.string r] 37)=W:=⟨_,rfl⟩
 rw [e1] at hg hx
 have c0:W1.cell? ⟨w.heap.size,0,none⟩=some (.slice A ps.length c):=by rw [cell_of_row _ w.heap.size 0 _ _ (0,0) hg];rfl
 have c1:W1.cell? ⟨w.heap.size,1,none⟩=some (.string r):=by rw [cell_of_row _ w.heap.size 1 _ _ (0,0) hg];rfl
 have HQ:=Lib.hid (NEqual_at A c ps r none 0 [] (ByteArray.mk #[]) hn (by simp) W1 (hR.ext hx) (RS.nil _))
 rw [eq_none] at HQ
 have HX:=Lib.hid hx
 clear hg hx hR
 generalize noneN (dat ps) r.data.toList=q at *
 go_enter Tryz.func70,Tryz.ntmps70
 go_wp2_with fail
 refine HQ.out.mono ?_
 rintro _ w2 ⟨rfl,hx2⟩
 have HX2:=Lib.hid (HX.out.trans hx2)
 clear hx2
 go_wp2_with fail
 go_ret
 exact ⟨rfl,HX2.out⟩
def tx6 (m:List UInt8):List UInt8:=match m with | [a,b]=>hexD (256*a.toNat+b.toNat) | _=>[]
theorem gst6:∀ (n:Nat) (b:List UInt8),b.length=2*n→(chk 2 n b).map tx6=(wds b).map hexD
 | 0,b,h=>by
  have:b=[]:=List.eq_nil_of_length_eq_zero (by omega)
  subst this;rfl
 | n+1,b,h=>by
  match b,h with
  | a::c::r,h=>
   have ih:=gst6 n r (by simp at h;omega)
   show hexD _::(chk 2 n r).map tx6=hexD _::(wds r).map hexD
   rw [ih]
  | [_],h=>simp at h;omega
theorem hexD_zero (x:Nat):hexD x=[48] ↔ x=0:=by
 constructor
 ·intro h
  by_cases h16:x<16
  ·rw [hexD_lo h16] at h
   have h1:hxc x=48:=by simpa using h
   have h2:=hxc_lt x h16
   rw [h1] at h2
   have h3:(48:UInt8).toNat=48:=rfl
   rw [h3] at h2
   split at h2<;>omega
  ·rw [hexD_hi h16] at h
   have h1:=congrArg List.length h
   rw [List.length_append] at h1
   have h2:=List.length_pos_iff.2 (hexD_ne (x / 16))
   have h4:([48]:List UInt8).length=1:=rfl
   have h5:([hxc (x % 16)]:List UInt8).length=1:=rfl
   omega
 ·rintro rfl;rw [hexD_lo (by omega)];rfl
theorem zrs_step:∀ (l:List Nat) (m:Nat),m≤zrs l→(l[m]? = some 0→m+1≤zrs l)∧(l[m]?≠some 0→m=zrs l)
 | [],m,h=>⟨fun h=>by simp at h,fun _=>by simp [zrs] at h ⊢;omega⟩
 | 0::r,0,h=>⟨fun _=>by rw [zrs];omega,fun hn=>absurd rfl hn⟩
 | 0::r,m+1,h=>by
  have ih:=zrs_step r m (by rw [zrs] at h;omega)
  rw [zrs]
  refine ⟨fun h'=>?_,fun h'=>?_⟩
  ·have:=ih.1 (by simpa using h');omega
  ·have:=ih.2 (by simpa using h');omega
 | (n+1)::r,m,h=>by
  have hm:m=0:=by simp [zrs] at h;omega
  subst hm
  exact ⟨fun h'=>by simp at h',fun _=>by simp [zrs]⟩
section
variable {P:Program}
theorem run_words_h (t:TypeId) (g n cap hi:Nat) (h1:hi≤n) (h2:n≤cap) (ht:P.underlying t=some (.slice (P.elem t))) (hs:∃ i,P.info? (P.elem t)=some i∧i.size=1) (W:World):
  (Instr.slice t (.slice (some ⟨g,0,none⟩) n cap) none (some (.int .i64 (hi:Int))) none).run P W=.ok (.slice (some ⟨g,0,none⟩) hi cap) W:=by
 obtain ⟨i,hi0,hi1⟩:=hs
 rw [run_slice_h W t (some ⟨g,0,none⟩) n cap ht .i64 hi (by omega) (by omega)]
 simp [sizeOf,typeInfo,hi0,hi1,sliced,Addr.add]
theorem run_words_l (t:TypeId) (g n cap lo:Nat) (h1:lo≤n) (h2:n≤cap) (ht:P.underlying t=some (.slice (P.elem t))) (hs:∃ i,P.info? (P.elem t)=some i∧i.size=1):
  ∃ o,(n=lo∨o=lo)∧∀ W:World,(Instr.slice t (.slice (some ⟨g,0,none⟩) n cap) (some (.int .i64 (lo:Int))) none none).run P W=.ok (.slice (some ⟨g,o,none⟩) (n-lo) (cap-lo)) W:=by
 obtain ⟨i,hi0,hi1⟩:=hs
 refine ⟨if cap=lo then 0 else lo,?_,fun W=>?_⟩
 ·by_cases h:cap=lo
  ·exact .inl (by omega)
  ·rw [if_neg h];exact .inr rfl
 ·rw [run_slice_l W t (some ⟨g,0,none⟩) n cap ht .i64 lo (by omega) (by omega)]
  simp only [sizeOf,typeInfo]
  simp [hi0,hi1,sliced]
  by_cases h:cap=lo
  ·simp [h]
  ·rw [if_neg (by omega),if_neg h]
   unfold Addr.add
   split<;>simp_all
end
set_option maxRecDepth 100000 in
theorem text6_no (b:List UInt8) (A:Option Addr) (c:Nat) (w:World) (h:b.length≠16):
  Calls Tryz.prog 198 #[.slice A b.length c] w fun e w'=>e=.returned (.tuple #[.string ⟨#[]⟩,.bool false])∧Ext w w':=by
 have h4:((b.length:Int)==16)=false:=by rw [beq_eq_false_iff_ne];omega
 have h4':((b.length:Int) != 16)=true:=by rw [bne,h4];rfl
 clear h
 go_enter Tryz.func198,Tryz.ntmps198
 go_wp2_with fail
 go_ret2
 exact ⟨rfl,Ext.refl _⟩
set_option maxRecDepth 100000 in
set_option maxHeartbeats 2000000 in
theorem text6_at (b:List UInt8) (A:Option Addr) (c:Nat) (w:World) (hb:BS w (.slice A b.length c) b) (hE:EnvA w) (h:b.length=16):
  Calls Tryz.prog 198 #[.slice A b.length c] w fun e w'=>e=.returned (.tuple #[.string ⟨(txt6 b).toArray⟩,.bool true])∧Ext w w':=by
 have HG:=Lib.hid (groups_at 2 231 tx6 (by omega) b A c w hb 8 (by omega) (by omega) (Go.Proofs.enters_of Tryz.func231 (by kernel_rfl) rfl) (fun m A c W hm hx hbm=>by
  match m,hm with
  | [x,y],_=>exact tx6_at x y A c W hbm (hE.deb.ext hx)))
 have hg6:=gst6 8 b (by omega)
 have hGl:=wds_length b 8 (by omega)
 have hGt:=wds_lt b
 have hT:txt6 b=txt6w (wds b) (bst 0 (wds b) 0 0).1 (bst 0 (wds b) 0 0).2:=rfl
 obtain ⟨ho1,ho2⟩:=bst_ok (wds b) (wds b) 0 0 0 rfl (by omega) rfl
 obtain ⟨S,hS⟩:∃ S,txt6 b=S:=⟨_,rfl⟩
 rw [hS] at hT ⊢
 unfold gst at HG
 rw [hg6] at HG
 obtain ⟨G,hGG⟩:∃ G,wds b=G:=⟨_,rfl⟩
 rw [hGG] at HG hGl hGt hT ho1 ho2
 rw [h] at HG ⊢
 have HT:=Lib.hid hT;have HGT:=Lib.hid hGt;have HO1:=Lib.hid ho1;have HGL:=Lib.hid hGl
 clear hb hE h hS hg6 hGG hT ho1 ho2 hGt hGl
 go_enter Tryz.func198,Tryz.ntmps198
 go_wp2_with fail
 refine HG.out.mono ?_
 rintro _ w1 ⟨v,rfl,hr,hx⟩
 obtain ⟨g,cap,rfl,hsw⟩:=SWR.of_own (ls:=G.map hexD) hr (by rw [List.length_map,HGL.out]) (by intro e;have:=congrArg List.length e;rw [List.length_map,HGL.out] at this;cases this)
 have HX:=Lib.hid hx;have HS:=Lib.hid hsw
 rw [List.length_map,HGL.out]
 clear hr hx hsw
 go_wp2_with fail
 go_loopw [5,6,16] (fun vb vl vi wr=>∃ (k bg ln:Nat),vb=.int .i64 (bg:Int)∧vl=.int .i64 (ln:Int)∧vi=.int .i64 (k:Int)∧k≤8∧bg≤8∧ln≤8∧Hid (bst 0 G 0 0=bst k (G.drop k) bg ln)∧Hid (w1=wr)) (fun _ _ vi _=>8-(intOf vi).toNat)
 case atStart=>exact ⟨0,0,0,rfl,rfl,rfl,by omega,by omega,by omega,Lib.hid rfl,Lib.hid rfl⟩
 case round=>
  obtain ⟨k,bg,ln,rfl,rfl,rfl,hk,hbg,hln,HB,HWR⟩:=hrel
  obtain rfl:=HWR.out
  clear HWR
  by_cases hk8:k<8
  ·have hik:(k:Int)<8:=by omega
   go_wp2_with fail
   go_loopw [8] (fun vn wr=>∃ m:Nat,vn=.int .i64 (m:Int)∧k+m≤8∧Hid (m≤zrs (G.drop k))∧Hid (w1=wr)) (fun vn _=>8-(intOf vn).toNat)
   case atStart=>exact ⟨0,rfl,by omega,Lib.hid (Nat.zero_le _),Lib.hid rfl⟩
   case round=>
    obtain ⟨m,rfl,hkm,HM,HWR⟩:=hrel
    obtain rfl:=HWR.out
    clear HWR
    have hzl:=Lib.hid (zrs_le (G.drop k))
    have hGd:(G.drop k)[m]? = G[k+m]?:=List.getElem?_drop
    by_cases hlt:k+m<8
    ·have hx:G[k+m]? = some (G[k+m]'(by rw [HGL.out];exact hlt)):=List.getElem?_eq_getElem _
     obtain ⟨x,hxx⟩:∃ x,G[k+m]'(by rw [HGL.out];exact hlt)=x:=⟨_,rfl⟩
     rw [hxx] at hx
     have hc:=HS.out.cell (k+m) (hexD x) (by rw [List.getElem?_map,hx];rfl)
     have hik2:(k:Int)+(m:Int)<8:=by omega
     obtain ⟨D,hD⟩:∃ D,hexD x=D:=⟨_,rfl⟩
     by_cases h0:x=0
     ·have HM2:=Lib.hid ((zrs_step (G.drop k) m HM.out).1 (by rw [hGd,hx,h0]))
      have q:(D==[48])=true:=by rw [← hD,(hexD_zero x).2 h0];rfl
      rw [hD] at hc
      clear hx hxx hGd hD h0
      go_wp2_with fail
      go_roundw
      case rel=>exact ⟨m+1,by go_num,by omega,HM2,(by first | exact Lib.hid rfl | exact Lib.hid trivial)⟩
      case measure=>simp [intOf];omega
     ·have HM2:=Lib.hid ((zrs_step (G.drop k) m HM.out).2 (by rw [hGd,hx];intro e;injection e with e;exact h0 e))
      have q:(D==[48])=false:=by rw [beq_eq_false_iff_ne,← hD];exact fun e=>h0 ((hexD_zero x).1 e)
      rw [hD] at hc
      clear hx hxx hGd hD h0
      have hbs:bst k (G.drop k) bg ln=if ln<zrs (G.drop k) then bst (k+1) (G.drop (k+1)) k (zrs (G.drop k)) else bst (k+1) (G.drop (k+1)) bg ln:=by
       rw [List.drop_eq_getElem_cons (show k<G.length by rw [HGL.out];exact hk8),bst]
      by_cases hgt:ln<m
      ·have HB2:=Lib.hid (show bst 0 G 0 0=bst (k+1) (G.drop (k+1)) k m by rw [HB.out,hbs,← HM2.out,if_pos hgt])
       have hgi:(ln:Int)<(m:Int):=by omega
       clear hbs hgt
       go_wp2_with fail
       go_roundw
       case rel=>exact ⟨k+1,k,m,rfl,rfl,by go_num,by omega,by omega,by omega,HB2,(by first | exact Lib.hid rfl | exact Lib.hid trivial)⟩
       case measure=>simp [intOf];omega
      ·have HB2:=Lib.hid (show bst 0 G 0 0=bst (k+1) (G.drop (k+1)) bg ln by rw [HB.out,hbs,← HM2.out,if_neg hgt])
       have hgi:(m:Int)≤(ln:Int):=by omega
       clear hbs hgt
       go_wp2_with fail
       go_roundw
       case rel=>exact ⟨k+1,bg,ln,rfl,rfl,by go_num,by omega,by omega,by omega,HB2,(by first | exact Lib.hid rfl | exact Lib.hid trivial)⟩
       case measure=>simp [intOf];omega
    ·have HM2:=Lib.hid ((zrs_step (G.drop k) m HM.out).2 (by rw [hGd,List.getElem?_eq_none (by rw [HGL.out];omega)];simp))
     have hik2:(8:Int)≤(k:Int)+(m:Int):=by omega
     clear hGd
     have hbs:bst k (G.drop k) bg ln=if ln<zrs (G.drop k) then bst (k+1) (G.drop (k+1)) k (zrs (G.drop k)) else bst (k+1) (G.drop (k+1)) bg ln:=by
      rw [List.drop_eq_getElem_cons (show k<G.length by rw [HGL.out];exact hk8),bst]
     by_cases hgt:ln<m
     ·have HB2:=Lib.hid (show bst 0 G 0 0=bst (k+1) (G.drop (k+1)) k m by rw [HB.out,hbs,← HM2.out,if_pos hgt])
      have hgi:(ln:Int)<(m:Int):=by omega
      clear hbs hgt
      go_wp2_with fail
      go_roundw
      case rel=>exact ⟨k+1,k,m,rfl,rfl,by go_num,by omega,by omega,by omega,HB2,(by first | exact Lib.hid rfl | exact Lib.hid trivial)⟩
      case measure=>simp [intOf];omega
     ·have HB2:=Lib.hid (show bst 0 G 0 0=bst (k+1) (G.drop (k+1)) bg ln by rw [HB.out,hbs,← HM2.out,if_neg hgt])
      have hgi:(m:Int)≤(ln:Int):=by omega
      clear hbs hgt
      go_wp2_with fail
      go_roundw
      case rel=>exact ⟨k+1,bg,ln,rfl,rfl,by go_num,by omega,by omega,by omega,HB2,(by first | exact Lib.hid rfl | exact Lib.hid trivial)⟩
      case measure=>simp [intOf];omega
  ·obtain rfl:k=8:=by omega
   have hfin:bst 0 G 0 0=(bg,ln):=by rw [HB.out,List.drop_eq_nil_of_le (by rw [HGL.out];exact Nat.le_refl _)];rfl
   have ho:=HO1.out
   rw [hfin] at ho
   simp only at ho
   rw [HGL.out] at ho
   have hT:=HT.out
   rw [hfin] at hT
   unfold txt6w at hT
   have hGt:=HGT.out
   by_cases h2:ln<2
   ·rw [if_pos h2] at hT
    have i2:(ln:Int)<2:=by omega
    have hlen:=hjoin_len G hGt
    rw [HGL.out] at hlen
    have HJ:=Lib.hid (joinA_at 58 (G.map hexD) g 0 cap 8 w1 HS.out.lt (fun j l hj=>by rw [Nat.zero_add];exact HS.out.cell j l hj) (by rw [List.length_map,HGL.out]) (by have:=HS.out.le;rwa [List.length_map,HGL.out] at this) (by omega) (by show (hjoin G).length≤1000;omega))
    rw [show Lib.join (G.map hexD) [58]=hjoin G from rfl] at HJ
    obtain ⟨L,hL⟩:∃ L,hjoin G=L:=⟨_,rfl⟩
    rw [hL] at hT HJ hlen
    have HTT:=Lib.hid hT
    clear hT hL h2 hfin ho hGt HB hk hbg hln hk8
    go_wp2_with fail
    refine HJ.out.mono ?_
    rintro _ w2 ⟨rfl,hx2⟩
    have HX2:=Lib.hid (HX.out.trans hx2)
    clear hx2
    go_wp2_with fail
    go_ret2
    refine ⟨?_,HX2.out⟩
    rw [HTT.out]
    show Ending.returned (.tuple #[.string ((⟨#[91]⟩++⟨L.toArray⟩)++⟨#[93]⟩),.bool true])=_
    rw [show ((⟨#[91]⟩:ByteArray)++⟨L.toArray⟩)++⟨#[93]⟩=⟨([91]++(L++[93])).toArray⟩ from by apply ByteArray.ext;simp [ByteArray.data_append]]
   ·rw [if_neg h2] at hT
    have i2:(2:Int)≤(ln:Int):=by omega
    have hla:=hjoin_len (G.take bg) (fun x hx=>hGt x (List.mem_of_mem_take hx))
    have hlc:=hjoin_len (G.drop (bg+ln)) (fun x hx=>hGt x (List.mem_of_mem_drop hx))
    have la:(G.take bg).length=bg:=by rw [List.length_take,HGL.out];omega
    have lc:(G.drop (bg+ln)).length=8-(bg+ln):=by rw [List.length_drop,HGL.out]
    have hcap:=HS.out.le
    rw [List.length_map,HGL.out] at hcap
    have hsA:=run_words_h (P:=Tryz.prog) 35 g 8 cap bg (by omega) hcap Tryz.underlying35 (info_parts strinfo |>.elim fun i hi=>⟨i,hi.1,hi.2.2.1⟩)
    obtain ⟨o,hoo,hsC⟩:=run_words_l (P:=Tryz.prog) 35 g 8 cap (bg+ln) ho hcap Tryz.underlying35 (info_parts strinfo |>.elim fun i hi=>⟨i,hi.1,hi.2.2.1⟩)
    have HJA:=Lib.hid (fun W hx=>joinA_at 58 ((G.take bg).map hexD) g 0 cap bg W (HS.out.ext hx).lt (fun j l hj=>by
     rw [Nat.zero_add]
     rw [List.map_take] at hj
     have hjl:=(List.getElem?_eq_some_iff.1 hj).1
     rw [List.getElem?_take,if_pos (by simp at hjl;omega)] at hj
     exact (HS.out.ext hx).cell j l hj) (by rw [List.length_map,la]) (by omega) (by omega) (by show (hjoin _).length≤1000;omega))
    have HJC:=Lib.hid (fun W hx=>joinA_at 58 ((G.drop (bg+ln)).map hexD) g o (cap-(bg+ln)) (8-(bg+ln)) W (HS.out.ext hx).lt (fun j l hj=>by
     rw [List.map_drop,List.getElem?_drop] at hj
     have hjl:=(List.getElem?_eq_some_iff.1 hj).1
     rw [List.length_map,HGL.out] at hjl
     rcases hoo with h | h
     ·omega
     ·rw [h];exact (HS.out.ext hx).cell _ l hj) (by rw [List.length_map,lc]) (by omega) (by omega) (by show (hjoin _).length≤1000;omega))
    rw [la] at hla
    rw [lc] at hlc
    rw [show Lib.join ((G.take bg).map hexD) [58]=hjoin (G.take bg) from rfl] at HJA
    rw [show Lib.join ((G.drop (bg+ln)).map hexD) [58]=hjoin (G.drop (bg+ln)) from rfl] at HJC
    obtain ⟨LA,hLA⟩:∃ L,hjoin (G.take bg)=L:=⟨_,rfl⟩
    obtain ⟨LC,hLC⟩:∃ L,hjoin (G.drop (bg+ln))=L:=⟨_,rfl⟩
    rw [hLA] at hT HJA hla
    rw [hLC] at hT HJC hlc
    have hla':LA.length≤40:=by omega
    have hlc':LC.length≤40:=by omega
    simp only [Int.natCast_add] at hsC
    have HTT:=Lib.hid hT
    clear hT hLA hLC h2 hfin hGt HB hk hk8 hla hlc la lc hoo
    go_wp2_with fail
    refine wp_region_ext (fun i v' w'=>match i with | 3=>v'=.string ⟨LA.toArray⟩ | 11=>v'=.string ⟨LC.toArray⟩ | _=>False) (by kernel_rfl) (by kernel_rfl) ?_
    refine wpE_op rfl rfl (fun w' hw' K' hK'=>?_)
    have hE:=hw'.1
    go_step
    refine hK' _ ⟨_,rfl⟩ ?_
    clear hK' K' hE hw' w'
    refine wpE_op rfl rfl (fun w' hw' K' hK'=>?_)
    have hE:=hw'.1
    go_step
    refine hK' _ ⟨_,rfl⟩ ?_
    clear hK' K' hE hw' w'
    refine wpE_op rfl rfl (fun w' hw' K' hK'=>?_)
    have hE:=hw'.1
    go_step
    refine hK' _ ⟨_,rfl⟩ ?_
    clear hK' K' hE hw' w'
    refine wpE_call 51 rfl (by simp) rfl (fun w' hw' K' hK'=>?_) ?_
    ·have hE:=hw'.1
     go_step
     refine (HJA.out w' ((Ext.drew _).trans hE)).mono ?_
     rintro _ w2 ⟨rfl,hx⟩
     exact hK' _ _ ⟨_,rfl,rfl⟩ hx
    rintro _ w6 _ rfl
    simp only [Act.put,sT1,sT2,sT3]
    refine wpE_op rfl rfl (fun w' hw' K' hK'=>?_)
    have hE:=hw'.1
    go_step
    refine hK' _ ⟨_,rfl⟩ ?_
    clear hK' K' hE hw' w'
    refine wpE_op rfl rfl (fun w' hw' K' hK'=>?_)
    have hE:=hw'.1
    go_step
    refine hK' _ ⟨_,rfl⟩ ?_
    clear hK' K' hE hw' w'
    refine wpE_op rfl rfl (fun w' hw' K' hK'=>?_)
    have hE:=hw'.1
    go_step
    refine hK' _ ⟨_,rfl⟩ ?_
    clear hK' K' hE hw' w'
    refine wpE_op rfl rfl (fun w' hw' K' hK'=>?_)
    have hE:=hw'.1
    go_step
    refine hK' _ ⟨_,rfl⟩ ?_
    clear hK' K' hE hw' w'
    refine wpE_op rfl rfl (fun w' hw' K' hK'=>?_)
    have hE:=hw'.1
    go_step
    refine hK' _ ⟨_,rfl⟩ ?_
    clear hK' K' hE hw' w'
    refine wpE_op rfl rfl (fun w' hw' K' hK'=>?_)
    have hE:=hw'.1
    go_step
    refine hK' _ ⟨_,rfl⟩ ?_
    clear hK' K' hE hw' w'
    refine wpE_op rfl rfl (fun w' hw' K' hK'=>?_)
    have hE:=hw'.1
    go_step
    refine hK' _ ⟨_,rfl⟩ ?_
    clear hK' K' hE hw' w'
    refine wpE_call 59 rfl (by simp) rfl (fun w' hw' K' hK'=>?_) ?_
    ·have hE:=hw'.1
     go_step
     refine (HJC.out w' ((Ext.drew _).trans hE)).mono ?_
     rintro _ w2 ⟨rfl,hx⟩
     exact hK' _ _ ⟨_,rfl,rfl⟩ hx
    rintro _ w6 _ rfl
    simp only [Act.put,sT1,sT2,sT3]
    refine wpE_op rfl rfl (fun w' hw' K' hK'=>?_)
    have hE:=hw'.1
    go_step
    refine hK' _ ⟨_,rfl⟩ ?_
    clear hK' K' hE hw' w'
    refine wpE_op rfl rfl (fun w' hw' K' hK'=>?_)
    have hE:=hw'.1
    go_step
    refine hK' _ ⟨_,rfl⟩ ?_
    clear hK' K' hE hw' w'
    refine wpE_op rfl rfl (fun w' hw' K' hK'=>?_)
    have hE:=hw'.1
    go_step
    refine hK' _ ⟨_,rfl⟩ ?_
    clear hK' K' hE hw' w'
    refine wpE_op rfl rfl (fun w' hw' K' hK'=>?_)
    have hE:=hw'.1
    go_step
    refine hK' _ ⟨_,rfl⟩ ?_
    clear hK' K' hE hw' w'
    refine wpE_nil (fun w2 hw2=>?_)
    have HX2:=Lib.hid (HX.out.trans ((Ext.drew w1).trans hw2.1))
    clear hw2
    go_wp2_with fail
    go_ret2
    refine ⟨?_,HX2.out⟩
    rw [HTT.out]
    show Ending.returned (.tuple #[.string ((((⟨#[91]⟩++⟨LA.toArray⟩)++⟨#[58,58]⟩)++⟨LC.toArray⟩)++⟨#[93]⟩),.bool true])=_
    rw [show ((((⟨#[91]⟩:ByteArray)++⟨LA.toArray⟩)++⟨#[58,58]⟩)++⟨LC.toArray⟩)++⟨#[93]⟩=⟨([91]++(LA++([58,58]++(LC++[93])))).toArray⟩ from by apply ByteArray.ext;simp [ByteArray.data_append]]
end Go.Proofs.YtnjmndofcpnmeaaGreatDoor
namespace Go.Proofs.YtnjmndofcpnmeaaGreatDoor
open Go Go.RowKit
set_option linter.unusedVariables false
def kindsL:List (Int × Value):=[(2,.func (.func 196) #[] #[]),(20,.func (.func 197) #[] #[]),(24,.func (.func 198) #[] #[])]
def entsA (i:Nat):List MapEntry:=((kindsL.take i).zipIdx).map fun x=>{ key:=.int .i64 x.1.1,val:=x.1.2,born:=x.2 }
def KM (W:World)(b:Nat):Prop:=W.heap[b]? = some (.map (entsA 3).toArray 3)
theorem KM.ext {W W':World}{b:Nat}(h:KM W b)(hx:Ext W W'):KM W' b:=hx.heap h
theorem run_mapNewA {P:Program} {W:World} {T K E b n:Nat} {d:TypeDesc} {es:Array MapEntry} {k v:Value} (hT:P.underlying T=some (.map K E)) (hK:P.underlying K=some d) (hk:MapKept.IsKey d k) (h:W.heap[b]? = some (.map es n)) (hf:Instr.findNow d k es.toList 0=some none):
  (Instr.mapUpdate T (.map (some b)) k v).run P W=.ok () (W.putObj b (.map (es.push { key:=k,val:=v,born:=n }) (n+1))):=by
 simp [Instr.mapUpdate,run_underlying hT,MapKept.run_getObj_map h,MapKept.run_checkKey hK hk,MapKept.run_findKey hK hf,MapKept.run_setObj_map _ h,Result.andThen,World.putObj]
theorem put_sameA {W:World}{b:Nat}{o o':Obj}(h:W.heap[b]? = some o):(W.putObj b o').heap[b]? = some o':=World.putObj_heap_same (Array.getElem?_eq_some_iff.1 h).1
theorem ext_putA {w W:World}{b:Nat}{o:Obj}(h:Ext w W)(hb:w.heap.size≤b):Ext w (W.putObj b o):=
 ⟨h.os,h.tape,h.output,Nat.le_trans h.size (by simp [World.putObj]),fun k hk=>(World.putObj_heap_other (by omega)).trans (h.block k hk)⟩
theorem insA0 (W:World)(b:Nat)(h:W.heap[b]? = some (.map (entsA 0).toArray 0)):(Instr.mapUpdate 203 (.map (some b)) (.int .i64 2) (.func (.func 196) #[] #[])).run Tryz.prog W=.ok () (W.putObj b (.map (entsA 1).toArray 1)):=
 run_mapNewA (k:=.int .i64 2) Tryz.underlying203 Tryz.underlying3 (d:=.int .i64) rfl h (by kernel_rfl)
theorem insA1 (W:World)(b:Nat)(h:W.heap[b]? = some (.map (entsA 1).toArray 1)):(Instr.mapUpdate 203 (.map (some b)) (.int .i64 20) (.func (.func 197) #[] #[])).run Tryz.prog W=.ok () (W.putObj b (.map (entsA 2).toArray 2)):=
 run_mapNewA (k:=.int .i64 20) Tryz.underlying203 Tryz.underlying3 (d:=.int .i64) rfl h (by kernel_rfl)
theorem insA2 (W:World)(b:Nat)(h:W.heap[b]? = some (.map (entsA 2).toArray 2)):(Instr.mapUpdate 203 (.map (some b)) (.int .i64 24) (.func (.func 198) #[] #[])).run Tryz.prog W=.ok () (W.putObj b (.map (entsA 3).toArray 3)):=
 run_mapNewA (k:=.int .i64 24) Tryz.underlying203 Tryz.underlying3 (d:=.int .i64) rfl h (by kernel_rfl)
set_option maxRecDepth 100000 in
theorem kinds_at (w:World):
  Calls Tryz.prog 155 #[] w fun e w'=>e=.returned (.map (some w.heap.size))∧KM w' w.heap.size∧Ext w w':=by
 have hmm:=@run_makeMap Tryz.prog
 have g0:(w.alloc (.map #[] 0)).heap[w.heap.size]? = some (.map (entsA 0).toArray 0):=heap_alloc_new w _
 have x0:=(Ext.refl w).alloc (.map #[] 0)
 obtain ⟨W0,hW0⟩:∃ W,w.alloc (.map #[] 0)=W:=⟨_,rfl⟩
 rw [hW0] at g0 x0
 have h0:=insA0 W0 _ g0
 have g1:=put_sameA (o':=.map (entsA 1).toArray 1) g0
 have x1:=ext_putA (o:=.map (entsA 1).toArray 1) x0 (Nat.le_refl _)
 obtain ⟨W1,hW1⟩:∃ W,W0.putObj w.heap.size (.map (entsA 1).toArray 1)=W:=⟨_,rfl⟩
 rw [hW1] at h0 g1 x1
 clear hW1
 have h1:=insA1 W1 _ g1
 have g2:=put_sameA (o':=.map (entsA 2).toArray 2) g1
 have x2:=ext_putA (o:=.map (entsA 2).toArray 2) x1 (Nat.le_refl _)
 obtain ⟨W2,hW2⟩:∃ W,W1.putObj w.heap.size (.map (entsA 2).toArray 2)=W:=⟨_,rfl⟩
 rw [hW2] at h1 g2 x2
 clear hW2
 have h2:=insA2 W2 _ g2
 have g3:=put_sameA (o':=.map (entsA 3).toArray 3) g2
 have x3:=ext_putA (o:=.map (entsA 3).toArray 3) x2 (Nat.le_refl _)
 obtain ⟨W3,hW3⟩:∃ W,W2.putObj w.heap.size (.map (entsA 3).toArray 3)=W:=⟨_,rfl⟩
 rw [hW3] at h2 g3 x3
 clear hW3
 have G:=Lib.hid g3;have X:=Lib.hid x3
 clear g0 x0 g1 x1 g2 x2 g3 x3
 go_enter Tryz.func155,Tryz.ntmps155
 go_wp2
 go_ret
 exact ⟨rfl,G.out,X.out⟩
theorem run_lookA {P:Program} {W:World} {T K E b n:Nat} {d:TypeDesc} {es:Array MapEntry} {k z v:Value} {r:Option (Nat × Value)} {ok:Bool} (hT:P.underlying T=some (.map K E)) (hK:P.underlying K=some d) (hk:MapKept.IsKey d k) (h:W.heap[b]? = some (.map es n)) (hz:(zeroValue E).run P W=.ok z W) (hf:Instr.findNow d k es.toList 0=some r)
  (hr:v=(match r with | some x=>x.2 | none=>z)) (hok:ok=r.isSome):(Instr.lookup T (.map (some b)) k true).run P W=.ok (.tuple #[v,.bool ok]) W:=by
 subst hr;subst hok
 cases r with
 | none=>simp [Instr.lookup,run_underlying hT,MapKept.run_getObj_map h,MapKept.run_checkKey hK hk,MapKept.run_findKey hK hf,hz,Result.andThen]
 | some x=>simp [Instr.lookup,run_underlying hT,MapKept.run_getObj_map h,MapKept.run_checkKey hK hk,MapKept.run_findKey hK hf,Result.andThen]
theorem zeroF (W:World):(zeroValue 201).run Tryz.prog W=.ok .nilFunc W:=by kernel_rfl
theorem look_no (k:Int)(h2:k≠2)(h20:k≠20)(h24:k≠24)(W:World)(b:Nat)(h:KM W b):(Instr.lookup 203 (.map (some b)) (.int .i64 k) true).run Tryz.prog W=.ok (.tuple #[.nilFunc,.bool false]) W:=by
 have hf:Instr.findNow (.int .i64) (.int .i64 k) (entsA 3) 0=some none:=by
  rcases MapKept.findNow_spec (d:=.int .i64) (k:=.int .i64 k) rfl (entsA 3) 0 (by intro x hx;simp [entsA,kindsL] at hx;rcases hx with rfl | rfl | rfl<;>rfl) with ⟨h1,_⟩ | ⟨j,e,_,h2',h3⟩
  ·exact h1
  ·have hm:=List.mem_of_getElem? h2'
   simp [entsA,kindsL] at hm
   rcases hm with rfl | rfl | rfl<;>(injection h3 with _ h3;omega)
 exact run_lookA (k:=.int .i64 k) Tryz.underlying203 Tryz.underlying3 (d:=.int .i64) rfl h (zeroF W) (r:=none) (by simpa using hf) rfl rfl
theorem look_2 (W:World)(b:Nat)(h:KM W b):(Instr.lookup 203 (.map (some b)) (.int .i64 2) true).run Tryz.prog W=.ok (.tuple #[.func (.func 196) #[] #[],.bool true]) W:=
 run_lookA (k:=.int .i64 2) Tryz.underlying203 Tryz.underlying3 (d:=.int .i64) rfl h (zeroF W) (r:=some (0,.func (.func 196) #[] #[])) (by kernel_rfl) rfl rfl
theorem look_20 (W:World)(b:Nat)(h:KM W b):(Instr.lookup 203 (.map (some b)) (.int .i64 20) true).run Tryz.prog W=.ok (.tuple #[.func (.func 197) #[] #[],.bool true]) W:=
 run_lookA (k:=.int .i64 20) Tryz.underlying203 Tryz.underlying3 (d:=.int .i64) rfl h (zeroF W) (r:=some (1,.func (.func 197) #[] #[])) (by kernel_rfl) rfl rfl
theorem look_24 (W:World)(b:Nat)(h:KM W b):(Instr.lookup 203 (.map (some b)) (.int .i64 24) true).run Tryz.prog W=.ok (.tuple #[.func (.func 198) #[] #[],.bool true]) W:=
 run_lookA (k:=.int .i64 24) Tryz.underlying203 Tryz.underlying3 (d:=.int .i64) rfl h (zeroF W) (r:=some (2,.func (.func 198) #[] #[])) (by kernel_rfl) rfl rfl
def AB (w:World)(g:Nat)(k:Int)(A:Option Addr)(n c:Nat):Prop:=w.heap[g]? = some (.cells #[.int .i64 k,.slice A n c] 34 (0,0))
theorem AB.ext {w w':World}{g:Nat}{k:Int}{A:Option Addr}{n c:Nat}(h:AB w g k A n c)(hx:Ext w w'):AB w' g k A n c:=hx.heap h
theorem AB.cells {w:World}{g:Nat}{k:Int}{A:Option Addr}{n c:Nat}(h:AB w g k A n c):w.cell? ⟨g,0,none⟩=some (.int .i64 k)∧w.cell? ⟨g,1,none⟩=some (.slice A n c):=
 ⟨by rw [cell_of_row w g 0 _ _ (0,0) h];rfl,by rw [cell_of_row w g 1 _ _ (0,0) h];rfl⟩
theorem AB.new (w:World)(k:Int)(A:Option Addr)(n c:Nat):AB (w.alloc (.cells #[.int .i64 k,.slice A n c] 34)) w.heap.size k A n c:=heap_alloc_new w _
def adv (k:Int)(A:Option Addr)(n c:Nat):Value:=.agg #[.int .i64 k,.slice A n c]
set_option maxRecDepth 100000 in
set_option maxHeartbeats 1000000 in
theorem text_of (k:Int) (f:Nat) (A:Option Addr) (n c:Nat) (vb:Bool) (l:List UInt8) (w:World) (eg:∀ args w,(callFunc f args).run Tryz.prog w=.ok (.enter f args) w)
  (HL:∀ (W:World) (b:Nat),KM W b→(Instr.lookup 203 (.map (some b)) (.int .i64 k) true).run Tryz.prog W=.ok (.tuple #[.func (.func f) #[] #[],.bool true]) W)
  (HF:∀ W,Ext w W→Calls Tryz.prog f #[.slice A n c] W fun e W'=>e=.returned (resA vb l)∧Ext W W'):
  Calls Tryz.prog 107 #[adv k A n c] w fun e w'=>e=.returned (resA vb l)∧Ext w w':=by
 have h0:=AB.new w k A n c
 obtain ⟨W1,e1⟩:∃ W,w.alloc (.cells #[.int .i64 k,.slice A n c] 34)=W:=⟨_,rfl⟩
 have x1:Ext w W1:=e1 ▸ (Ext.refl w).alloc _
 rw [e1] at h0
 obtain ⟨c0,c1⟩:=h0.cells
 have HB:=Lib.hid h0;have HX:=Lib.hid x1;have HLL:=Lib.hid HL;have HFF:=Lib.hid HF
 unfold resA at HFF ⊢
 obtain ⟨S,hS⟩:∃ S,(⟨(if vb=true then l else []).toArray⟩:ByteArray)=S:=⟨_,rfl⟩
 rw [hS] at HFF ⊢
 clear h0 x1 HL HF hS
 unfold adv
 go_enter Tryz.func107,Tryz.ntmps107
 go_wp2_with fail
 refine wp_region_ext (fun i v' w'=>match i with | 0=>∃ g,v'=.map (some g)∧KM w' g | _=>False) (by kernel_rfl) (by kernel_rfl) ?_
 refine wpE_call 7 rfl (by simp) rfl (fun w' hw' K' hK'=>?_) ?_
 ·have hE:=hw'.1
  go_step
  refine (kinds_at w').mono ?_
  rintro _ w2 ⟨rfl,hn,hx⟩
  exact hK' _ _ ⟨_,rfl,⟨_,rfl,hn⟩⟩ hx
 rintro v7 w7 hE7 ⟨g7,rfl,hn7⟩
 have HN7:=Lib.hid hn7
 clear hn7
 simp only [Act.put,sT1,sT2,sT3]
 refine wpE_op rfl rfl (fun w' hw' K' hK'=>?_)
 have hE:=hw'.1
 go_step
 refine hK' _ ⟨_,rfl⟩ ?_
 clear hK' K' hE hw' w'
 refine wpE_op rfl rfl (fun w' hw' K' hK'=>?_)
 have hE:=hw'.1
 have u0:=((Ext.drew _).trans hE).cell c0
 go_step
 refine hK' _ ⟨_,rfl⟩ ?_
 clear hK' K' u0 hE hw' w'
 refine wpE_op rfl rfl (fun w' hw' K' hK'=>?_)
 have hE:=hw'.1
 have hM:Ext w7 w':=hw'.2 7 w7 (by simp [adds]) (by decide)
 have hlk:=HLL.out w' g7 (HN7.out.ext hM)
 go_step
 refine hK' _ ⟨_,rfl⟩ ?_
 clear hK' K' hM hlk hE hw' w'
 refine wpE_op rfl rfl (fun w' hw' K' hK'=>?_)
 have hE:=hw'.1
 go_step
 refine hK' _ ⟨_,rfl⟩ ?_
 clear hK' K' hE hw' w'
 refine wpE_op rfl rfl (fun w' hw' K' hK'=>?_)
 have hE:=hw'.1
 go_step
 refine hK' _ ⟨_,rfl⟩ ?_
 clear hK' K' hE hw' w'
 refine wpE_op rfl rfl (fun w' hw' K' hK'=>?_)
 have hE:=hw'.1
 go_step
 refine hK' _ ⟨_,rfl⟩ ?_
 clear hK' K' hE hw' w'
 refine wpE_op rfl rfl (fun w' hw' K' hK'=>?_)
 have hE:=hw'.1
 go_step
 refine hK' _ ⟨_,rfl⟩ ?_
 clear hK' K' hE hw' w'
 refine wpE_op rfl rfl (fun w' hw' K' hK'=>?_)
 have hE:=hw'.1
 go_step
 refine hK' _ ⟨_,rfl⟩ ?_
 clear hK' K' hE hw' w'
 refine wpE_nil (fun w2 hw2=>?_)
 have hx2:=(Ext.drew W1).trans hw2.1
 have HX2:=Lib.hid (HX.out.trans hx2)
 obtain ⟨d0,d1⟩:=(HB.out.ext hx2).cells
 clear hw2 hx2 c0 c1 e1
 go_wp2_with fail
 refine (HFF.out _ HX2.out).mono ?_
 rintro _ w3 ⟨rfl,hx3⟩
 have HX3:=Lib.hid (HX2.out.trans hx3)
 clear hx3
 go_wp2_with fail
 go_ret2
 exact ⟨rfl,HX3.out⟩
set_option maxRecDepth 100000 in
set_option maxHeartbeats 1000000 in
theorem text_miss (k:Int) (h2:k≠2) (h20:k≠20) (h24:k≠24) (A:Option Addr) (n c:Nat) (w:World):
  Calls Tryz.prog 107 #[adv k A n c] w fun e w'=>e=.returned (.tuple #[.string ⟨#[]⟩,.bool false])∧Ext w w':=by
 have h0:=AB.new w k A n c
 obtain ⟨W1,e1⟩:∃ W,w.alloc (.cells #[.int .i64 k,.slice A n c] 34)=W:=⟨_,rfl⟩
 have x1:Ext w W1:=e1 ▸ (Ext.refl w).alloc _
 rw [e1] at h0
 obtain ⟨c0,c1⟩:=h0.cells
 have HB:=Lib.hid h0;have HX:=Lib.hid x1;have HLL:=Lib.hid (look_no k h2 h20 h24)
 clear h0 x1 h2 h20 h24
 unfold adv
 go_enter Tryz.func107,Tryz.ntmps107
 go_wp2_with fail
 refine wp_region_ext (fun i v' w'=>match i with | 0=>∃ g,v'=.map (some g)∧KM w' g | _=>False) (by kernel_rfl) (by kernel_rfl) ?_
 refine wpE_call 7 rfl (by simp) rfl (fun w' hw' K' hK'=>?_) ?_
 ·have hE:=hw'.1
  go_step
  refine (kinds_at w').mono ?_
  rintro _ w2 ⟨rfl,hn,hx⟩
  exact hK' _ _ ⟨_,rfl,⟨_,rfl,hn⟩⟩ hx
 rintro v7 w7 hE7 ⟨g7,rfl,hn7⟩
 have HN7:=Lib.hid hn7
 clear hn7
 simp only [Act.put,sT1,sT2,sT3]
 refine wpE_op rfl rfl (fun w' hw' K' hK'=>?_)
 have hE:=hw'.1
 go_step
 refine hK' _ ⟨_,rfl⟩ ?_
 clear hK' K' hE hw' w'
 refine wpE_op rfl rfl (fun w' hw' K' hK'=>?_)
 have hE:=hw'.1
 have u0:=((Ext.drew _).trans hE).cell c0
 go_step
 refine hK' _ ⟨_,rfl⟩ ?_
 clear hK' K' u0 hE hw' w'
 refine wpE_op rfl rfl (fun w' hw' K' hK'=>?_)
 have hE:=hw'.1
 have hM:Ext w7 w':=hw'.2 7 w7 (by simp [adds]) (by decide)
 have hlk:=HLL.out w' g7 (HN7.out.ext hM)
 go_step
 refine hK' _ ⟨_,rfl⟩ ?_
 clear hK' K' hM hlk hE hw' w'
 refine wpE_op rfl rfl (fun w' hw' K' hK'=>?_)
 have hE:=hw'.1
 go_step
 refine hK' _ ⟨_,rfl⟩ ?_
 clear hK' K' hE hw' w'
 refine wpE_op rfl rfl (fun w' hw' K' hK'=>?_)
 have hE:=hw'.1
 go_step
 refine hK' _ ⟨_,rfl⟩ ?_
 clear hK' K' hE hw' w'
 refine wpE_op rfl rfl (fun w' hw' K' hK'=>?_)
 have hE:=hw'.1
 go_step
 refine hK' _ ⟨_,rfl⟩ ?_
 clear hK' K' hE hw' w'
 refine wpE_op rfl rfl (fun w' hw' K' hK'=>?_)
 have hE:=hw'.1
 go_step
 refine hK' _ ⟨_,rfl⟩ ?_
 clear hK' K' hE hw' w'
 refine wpE_op rfl rfl (fun w' hw' K' hK'=>?_)
 have hE:=hw'.1
 go_step
 refine hK' _ ⟨_,rfl⟩ ?_
 clear hK' K' hE hw' w'
 refine wpE_nil (fun w2 hw2=>?_)
 have hx2:=(Ext.drew W1).trans hw2.1
 have HX2:=Lib.hid (HX.out.trans hx2)
 clear hw2 hx2 c0 c1 e1
 go_wp2_with fail
 go_ret2
 exact ⟨rfl,HX2.out⟩
theorem resA_false (l:List UInt8):resA false l=.tuple #[.string ⟨#[]⟩,.bool false]:=rfl
theorem resA_true (l:List UInt8):resA true l=.tuple #[.string ⟨l.toArray⟩,.bool true]:=rfl
theorem text_at (k:Int) (b:List UInt8) (A:Option Addr) (c:Nat) (w:World) (hb:BS w (.slice A b.length c) b) (hE:EnvA w):
  Calls Tryz.prog 107 #[adv k A b.length c] w fun e w'=>e=.returned (resA (okA k b) (txtA k b))∧Ext w w':=by
 by_cases h2:k=2
 ·subst h2
  refine text_of 2 196 A b.length c (okA 2 b) (txtA 2 b) w (Go.Proofs.enters_of Tryz.func196 (by kernel_rfl) rfl) look_2 (fun W hx=>?_)
  by_cases h4:b.length=4
  ·rw [show okA 2 b=true by simp [okA,h4],resA_true]
   exact text4_at b A c W (hb.ext hx) (hE.ext hx) h4
  ·rw [show okA 2 b=false by simp [okA,h4],resA_false]
   exact text4_no b A c W h4
 by_cases h24:k=24
 ·subst h24
  refine text_of 24 198 A b.length c (okA 24 b) (txtA 24 b) w (Go.Proofs.enters_of Tryz.func198 (by kernel_rfl) rfl) look_24 (fun W hx=>?_)
  by_cases h4:b.length=16
  ·rw [show okA 24 b=true by simp [okA,h4],resA_true]
   exact text6_at b A c W (hb.ext hx) (hE.ext hx) h4
  ·rw [show okA 24 b=false by simp [okA,h4],resA_false]
   exact text6_no b A c W h4
 by_cases h20:k=20
 ·subst h20
  refine text_of 20 197 A b.length c (okA 20 b) (txtA 20 b) w (Go.Proofs.enters_of Tryz.func197 (by kernel_rfl) rfl) look_20 (fun W hx=>?_)
  by_cases hl:1≤b.length∧b.length≤16
  ·have e:okA 20 b=b.all visB:=by
    show (decide (1≤b.length∧b.length≤16)&&b.all visB)=_
    rw [decide_eq_true hl,Bool.true_and]
   rw [e]
   exact textH_at b A c W (hb.ext hx) hl.1 hl.2 _ rfl
  ·have e:okA 20 b=false:=by
    show (decide (1≤b.length∧b.length≤16)&&b.all visB)=_
    rw [decide_eq_false hl,Bool.false_and]
   rw [e,resA_false]
   exact textH_len b A c W (by omega)
 ·have e:okA k b=false:=by unfold okA;rw [if_neg h2,if_neg h24,if_neg h20]
  rw [e,resA_false]
  exact text_miss k h2 h20 h24 A b.length c w
theorem Valid_at' (k:Int) (b:List UInt8) (A:Option Addr) (c:Nat) (w:World) (hb:BS w (.slice A b.length c) b) (hE:EnvA w):
  Calls Tryz.prog 81 #[adv k A b.length c] w fun e w'=>e=.returned (.bool (okA k b))∧Ext w w':=by
 have h0:=AB.new w k A b.length c
 obtain ⟨W1,e1⟩:∃ W,w.alloc (.cells #[.int .i64 k,.slice A b.length c] 34)=W:=⟨_,rfl⟩
 have x1:Ext w W1:=e1 ▸ (Ext.refl w).alloc _
 rw [e1] at h0
 obtain ⟨c0,c1⟩:=h0.cells
 have HX:=Lib.hid x1;have HT:=Lib.hid (text_at k b A c W1 (hb.ext x1) (hE.ext x1))
 unfold resA at HT
 obtain ⟨S,hS⟩:∃ S,(⟨(if okA k b=true then txtA k b else []).toArray⟩:ByteArray)=S:=⟨_,rfl⟩
 rw [hS] at HT
 clear h0 x1 hb hE hS
 unfold adv at HT ⊢
 go_enter Tryz.func81,Tryz.ntmps81
 go_wp2_with fail
 refine HT.out.mono ?_
 rintro _ w2 ⟨rfl,hx2⟩
 have HX2:=Lib.hid (HX.out.trans hx2)
 clear hx2
 go_wp2_with fail
 go_ret
 exact ⟨rfl,HX2.out⟩
theorem AText_at (k:Int) (b:List UInt8) (A:Option Addr) (c:Nat) (w:World) (hb:BS w (.slice A b.length c) b) (hE:EnvA w) (vb:Bool) (hv:okA k b=vb):
  Calls Tryz.prog 55 #[adv k A b.length c] w fun e w'=>e=.returned (.tuple #[.string ⟨(if vb then txtA k b else []).toArray⟩,.int .i64 (if vb then 0 else 2)])∧Ext w w':=by
 have h0:=AB.new w k A b.length c
 obtain ⟨W1,e1⟩:∃ W,w.alloc (.cells #[.int .i64 k,.slice A b.length c] 34)=W:=⟨_,rfl⟩
 have x1:Ext w W1:=e1 ▸ (Ext.refl w).alloc _
 rw [e1] at h0
 obtain ⟨c0,c1⟩:=h0.cells
 have ht:=text_at k b A c W1 (hb.ext x1) (hE.ext x1)
 rw [hv] at ht
 have HX:=Lib.hid x1;have HT:=Lib.hid ht
 clear h0 x1 hb hE hv ht
 unfold adv at HT ⊢
 cases vb with
 | true=>
  rw [resA_true] at HT
  simp only [if_true]
  obtain ⟨L,hL⟩:∃ L,txtA k b=L:=⟨_,rfl⟩
  rw [hL] at HT ⊢
  clear hL
  go_enter Tryz.func55,Tryz.ntmps55
  go_wp2_with fail
  refine HT.out.mono ?_
  rintro _ w2 ⟨rfl,hx2⟩
  have HX2:=Lib.hid (HX.out.trans hx2)
  clear hx2
  go_wp2_with fail
  go_ret2
  exact ⟨rfl,HX2.out⟩
 | false=>
  rw [resA_false] at HT
  simp only [Bool.false_eq_true,if_false]
  go_enter Tryz.func55,Tryz.ntmps55
  go_wp2_with fail
  refine HT.out.mono ?_
  rintro _ w2 ⟨rfl,hx2⟩
  have HX2:=Lib.hid (HX.out.trans hx2)
  clear hx2
  go_wp2_with fail
  go_ret2
  exact ⟨rfl,HX2.out⟩
section
variable {P:Program} {ops:Array Oper} {Vs:Nat→Value→World→Prop} {w0:World}
theorem wpE_sym {Q:Act→World→Prop} {k:Nat} {o:Oper} {rest:List Oper} {a:Act} {Ws:Marks'} (c:Bool) (v:Value) (hwd:Region.wanted o (yielded ops a.tmps)=c) (hp:plainOp o.op=true)
  (h:c=true→∀ w,okw ops w0 Ws o w→∀ K:Act→World→Prop,K (a.put o.dst v) w→o.wp P a w K (fun _ _ _=>False))
  (h2:wpE P ops Vs w0 Q (k+1) rest (a.put o.dst (bif c then v else undef)) Ws):wpE P ops Vs w0 Q k (o::rest) a Ws:=by
 cases c with
 | true=>
  rw [cond_true] at h2
  exact wpE_op hwd hp fun w hw K hK=>h rfl w hw K (hK _ ⟨v,rfl⟩ h2)
 | false=>
  rw [cond_false] at h2
  unfold wpE
  rw [hwd,if_neg (by decide)]
  exact h2
theorem wpE_val {Q:Act→World→Prop} {k:Nat} {o:Oper} {rest:List Oper} {a:Act} {Ws:Marks'} (v:Value) (hwd:Region.wanted o (yielded ops a.tmps)=true) (hp:plainOp o.op=true)
  (h:∀ w,okw ops w0 Ws o w→∀ K:Act→World→Prop,K (a.put o.dst v) w→o.wp P a w K (fun _ _ _=>False))
  (h2:wpE P ops Vs w0 Q (k+1) rest (a.put o.dst v) Ws):wpE P ops Vs w0 Q k (o::rest) a Ws:=
 wpE_op hwd hp fun w hw K hK=>h w hw K (hK _ ⟨v,rfl⟩ h2)
theorem wpE_cat {Q:Act→World→Prop} {k:Nat} {o:Oper} {rest:List Oper} {a:Act} {Ws:Marks'} (l m:List UInt8) {t:TypeId} {x y:Operand} {b:TypeId} (ho:o.op=.binOp .add t x y b) (hwd:Region.wanted o (yielded ops a.tmps)=true)
  (hx:a.eval x=.string ⟨l.toArray⟩) (hy:a.eval y=.string ⟨m.toArray⟩) (hs:l.length+m.length≤9223372036854775807)
  (h2:wpE P ops Vs w0 Q (k+1) rest (a.put o.dst (.string ⟨(l++m).toArray⟩)) Ws):wpE P ops Vs w0 Q k (o::rest) a Ws:=by
 refine wpE_val _ hwd (by rw [ho];rfl) (fun w hw K hK=>?_) h2
 unfold Oper.wp execOp
 rw [ho]
 have hr:=run_string_add_sum (P:=P) w ⟨l.toArray⟩ ⟨m.toArray⟩ (by simpa [ByteArray.size] using hs)
 rw [ByteArray.mk_append_mk] at hr
 generalize (⟨(l++m).toArray⟩:ByteArray)=r at *
 simp only [hx,hy]
 simp [binOp,eqGuard,hr,Oper.upon,Result.andThen]
 exact hK
theorem wpE_symcall {Q:Act→World→Prop} {k:Nat} {o:Oper} {rest:List Oper} {a:Act} {Ws:Marks'} (d:Tmp) (ho:o.dst=some d) (hd:d<a.tmps.size) (c:Bool) (v:Value) (hwd:Region.wanted o (yielded ops a.tmps)=c) (hv:∀ v' w',Vs k v' w'→v'=v)
  (h:c=true→∀ w,okw ops w0 Ws o w→∀ K:Act→World→Prop,(∀ v' w',Vs k v' w'→Ext w w'→K (a.put o.dst v') w')→o.wp P a w K (fun _ _ _=>False))
  (h2:wpE P ops Vs w0 Q (k+1) rest (a.put o.dst (bif c then v else undef)) Ws):wpE P ops Vs w0 Q k (o::rest) a Ws:=by
 cases c with
 | true=>
  rw [cond_true] at h2
  refine wpE_call d ho hd hwd (fun w hw K hK=>h rfl w hw K fun v' w' hv' hx=>hK _ _ ⟨v',rfl,hv'⟩ hx) fun v' w' _ hv'=>?_
  obtain rfl:=hv v' w' hv'
  exact wpE_mono rest (k+1) _ _ _ (stronger_adds _ _ _) h2
 | false=>
  rw [cond_false] at h2
  unfold wpE
  rw [hwd,if_neg (by decide)]
  exact h2
end
section
variable {P:Program} {ops:Array Oper}
theorem wpL_sym {Q:Exit→Act→World→Prop} {o:Oper} {rest:List Oper} {a:Act} {w:World} (c:Bool) (v:Value) (hwd:Region.wanted o (yielded ops a.tmps)=c)
  (h:c=true→∀ K:Act→World→Prop,K (a.put o.dst v) w→o.wp P a w K Q)
  (h2:wpList P ops Q rest (a.put o.dst (bif c then v else undef)) w):wpList P ops Q (o::rest) a w:=by
 cases c with
 | true=>exact wpList_step fun K hK=>by rw [hwd,if_pos rfl];exact h rfl K (hK _ _ h2)
 | false=>exact wpList_step fun K hK=>by rw [hwd,if_neg (by decide)];exact hK _ _ h2
theorem wpL_symcall {Q:Exit→Act→World→Prop} {o:Oper} {rest:List Oper} {a:Act} {w:World} (c:Bool) (v:Value) (hwd:Region.wanted o (yielded ops a.tmps)=c)
  (h:c=true→∀ K:Act→World→Prop,(∀ w',Ext w w'→K (a.put o.dst v) w')→o.wp P a w K Q)
  (h2:∀ w',Ext w w'→wpList P ops Q rest (a.put o.dst (bif c then v else undef)) w'):wpList P ops Q (o::rest) a w:=by
 cases c with
 | true=>exact wpList_step fun K hK=>by rw [hwd,if_pos rfl];exact h rfl K fun w' hx=>hK _ _ (h2 w' hx)
 | false=>exact wpList_step fun K hK=>by rw [hwd,if_neg (by decide)];exact hK _ _ (h2 w (Ext.refl w))
theorem wpL_val {Q:Exit→Act→World→Prop} {o:Oper} {rest:List Oper} {a:Act} {w:World} (v:Value) (hwd:Region.wanted o (yielded ops a.tmps)=true)
  (h:∀ K:Act→World→Prop,K (a.put o.dst v) w→o.wp P a w K Q)
  (h2:wpList P ops Q rest (a.put o.dst v) w):wpList P ops Q (o::rest) a w:=
 wpL_sym true v hwd (fun _=>h) h2
end
end Go.Proofs.YtnjmndofcpnmeaaGreatDoor
