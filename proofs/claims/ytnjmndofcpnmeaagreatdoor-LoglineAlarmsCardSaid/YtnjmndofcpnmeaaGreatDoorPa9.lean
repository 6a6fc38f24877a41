/- Pa9. -/
import Derived.Test.YtnjmndofcpnmeaaGreatDoorPa0
import Derived.Test.YtnjmndofcpnmeaaGreatDoorPa8
import Derived.Test.YtnjmndofcpnmeaaGreatDoorPa4
namespace Go.Proofs.YtnjmndofcpnmeaaGreatDoor
open Go Go.RowKit
set_option linter.unusedVariables false
theorem still_all {P:Program} {id:Nat} {Q:Exit→Act→World→Prop} {a:Act} {w:World} {l:List Oper} (hm:P.follows .mixedOrders=true) (hB:Region.lexB .any l.toArray=true)
  (h:wpStill P l.toArray w.drew (fun a'=>Q .normal a' w.drew) l a):(Code.region id l.toArray true).wp P Q a w:=wp_region_still_lit hm hB h
theorem eqL_drop {la lb:List (List UInt8)}{k:Nat}(h1:k<la.length)(h2:k<lb.length):(la.drop k=lb.drop k) ↔ (la[k]=lb[k]∧la.drop (k+1)=lb.drop (k+1)):=by
 rw [List.drop_eq_getElem_cons h1,List.drop_eq_getElem_cons h2,List.cons.injEq]
set_option maxRecDepth 100000 in
set_option maxHeartbeats 1000000 in
theorem sEqual_at (A:Option Addr) (c:Nat) (ps:List ByteArray) (B:Option Addr) (d:Nat) (qs:List ByteArray) (hn:ps.length≤1000) (hm:qs.length≤1000) (w:World) (hR:RS w (.slice A ps.length c) (sv ps)) (hQ:RS w (.slice B qs.length d) (sv qs)):
  Calls Tryz.prog 170 #[.slice A ps.length c,.slice B qs.length d] w fun e w'=>e=.returned (.bool (decide (dat ps=dat qs)))∧Ext w w':=by
 obtain ⟨X,hX⟩:∃ X,decide (dat ps=dat qs)=X:=⟨_,rfl⟩
 rw [hX]
 have HX:=Lib.hid (show decide ((dat ps).drop 0=(dat qs).drop 0)=X by rw [List.drop_zero,List.drop_zero];exact hX)
 have HR:=Lib.hid hR;have HQ:=Lib.hid hQ
 by_cases hl:ps.length=qs.length
 ·clear hX hR hQ
  have HL:=Lib.hid hl
  obtain ⟨n,hn0⟩:∃ n,qs.length=n:=⟨_,rfl⟩
  have HN:=Lib.hid hn0
  rw [hn0] at hl HQ hm ⊢
  rw [hl] at HR ⊢
  clear hl hn0 hn
  go_enter Tryz.func170,Tryz.ntmps170
  go_wp2_with fail
  go_loopw [13] (fun i wr=>∃ k:Nat,k≤n∧i=.int .i64 k∧Hid (decide ((dat ps).drop k=(dat qs).drop k)=X)∧Hid (Ext w wr)) (fun i _=>n-(intOf i).toNat)
  case atStart=>exact ⟨0,Nat.zero_le _,rfl,HX,Lib.hid (Ext.refl _)⟩
  case round=>
   obtain ⟨k,hk1,rfl,HC,HE⟩:=hrel
   by_cases h1:k<n
   ·have hp:k<ps.length:=by have:=HL.out;have:=HN.out;omega
    have hq:k<qs.length:=by have:=HN.out;omega
    obtain ⟨A',c',he,e1,e2,e3⟩:=(HR.out.ext HE.out).ext (Ext.drew wr)
    obtain ⟨B',d',he',e1',e2',e3'⟩:=(HQ.out.ext HE.out).ext (Ext.drew wr)
    rw [sv_length,HL.out,HN.out] at he
    rw [sv_length,HN.out] at he'
    injection he with z1 _ z3
    injection he' with z1' _ z3'
    subst z1;subst z3;subst z1';subst z3'
    obtain ⟨ad,rfl,_,hcell⟩:=e3 (by rw [sv_length];omega)
    obtain ⟨bd,rfl,_,hcell'⟩:=e3' (by rw [sv_length];omega)
    have g1:=hcell k _ (sv_get ps k hp)
    have g2:=hcell' k _ (sv_get qs k hq)
    have HD:=Lib.hid (show decide (ps[k].data.toList=qs[k].data.toList∧(dat ps).drop (k+1)=(dat qs).drop (k+1))=X by
     rw [← HC.out]
     apply decide_eq_decide.2
     rw [eqL_drop (k:=k) (la:=dat ps) (lb:=dat qs) (by rw [dat_length];exact hp) (by rw [dat_length];exact hq)]
     simp [dat])
    clear hcell hcell' e1 e2 e3 e1' e2' e3'
    generalize hpk:ps[k]=p at g1 HD
    generalize hqk:qs[k]=q at g2 HD
    clear hpk hqk hp hq
    by_cases hz:p.data.toList=q.data.toList
    ·have e0:(p.toList==q.toList)=true:=by rw [ByteArray.toList_eq,ByteArray.toList_eq,hz];exact beq_self_eq_true _
     have HD2:=Lib.hid (show decide ((dat ps).drop (k+1)=(dat qs).drop (k+1))=X by
      rw [← HD.out];apply decide_eq_decide.2;exact ⟨fun h=>⟨hz,h⟩,fun h=>h.2⟩)
     clear hz
     go_wp2_with fail
     refine still_all (by kernel_rfl) (by kernel_rfl) ?_
     repeat still_step
     refine wpStill_nil ?_
     go_wp2_with fail
     go_roundw
     case rel=>exact ⟨k+1,by omega,by go_num,HD2,Lib.hid (HE.out.trans (Ext.drew wr))⟩
     case measure=>simp [intOf];omega
    ·have e0:(p.toList==q.toList)=false:=by
      rw [ByteArray.toList_eq,ByteArray.toList_eq,beq_eq_false_iff_ne];exact hz
     have HD2:=Lib.hid (show false=X by
      rw [← HD.out];symm;apply decide_eq_false;exact fun h=>hz h.1)
     clear hz
     go_wp2_with fail
     refine still_all (by kernel_rfl) (by kernel_rfl) ?_
     repeat still_step
     refine wpStill_nil ?_
     go_wp2_with fail
     go_ret
     refine ⟨?_,HE.out.trans (Ext.drew wr)⟩
     rw [← HD2.out];rfl
   ·have hkp:k=n:=by omega
    subst hkp
    have HF:=Lib.hid (show true=X by
     rw [← HC.out];symm;apply decide_eq_true
     rw [List.drop_eq_nil_of_le (by rw [dat_length,HL.out,HN.out];exact Nat.le_refl _),List.drop_eq_nil_of_le (by rw [dat_length,HN.out];exact Nat.le_refl _)])
    go_wp2_with fail
    go_ret
    refine ⟨?_,HE.out⟩
    rw [← HF.out];rfl
 ·have HF:=Lib.hid (show false=X by
   rw [← hX];symm;apply decide_eq_false
   intro h
   have:=congrArg List.length h
   rw [dat_length,dat_length] at this
   exact hl this)
  have hz:((ps.length:Int) != (qs.length:Int))=true:=by rw [bne_iff_ne];omega
  clear hX hR hQ hl
  go_enter Tryz.func170,Tryz.ntmps170
  go_wp2_with fail
  go_ret
  refine ⟨?_,Ext.refl _⟩
  rw [← HF.out];rfl
set_option maxRecDepth 100000 in
set_option maxHeartbeats 1000000 in
theorem NEqual_at (A:Option Addr) (c:Nat) (ps:List ByteArray) (r:ByteArray) (B:Option Addr) (d:Nat) (qs:List ByteArray) (t:ByteArray) (hn:ps.length≤1000) (hm:qs.length≤1000) (w:World) (hR:RS w (.slice A ps.length c) (sv ps)) (hQ:RS w (.slice B qs.length d) (sv qs)):
  Calls Tryz.prog 126 #[.agg #[.slice A ps.length c,.string r],.agg #[.slice B qs.length d,.string t]] w fun e w'=>e=.returned (.bool (decide (dat ps=dat qs∧r.data.toList=t.data.toList)))∧Ext w w':=by
 have hT:=heap_alloc_new w (.cells #[.slice A ps.length c,.string r] 37)
 have hU:=heap_alloc_new (w.alloc (.cells #[.slice A ps.length c,.string r] 37)) (.cells #[.slice B qs.length d,.string t] 37)
 rw [World.size_alloc] at hU
 have x1:=(Ext.refl w).alloc (.cells #[.slice A ps.length c,.string r] 37)
 have x2:=(Ext.refl (w.alloc (.cells #[.slice A ps.length c,.string r] 37))).alloc (.cells #[.slice B qs.length d,.string t] 37)
 have hT2:=x2.heap hT
 have hx:=x1.trans x2
 obtain ⟨wb,hwb⟩:∃ wb,wb=(w.alloc (.cells #[.slice A ps.length c,.string r] 37)).alloc (.cells #[.slice B qs.length d,.string t] 37):=⟨_,rfl⟩
 rw [← hwb] at hT2 hU hx
 have HT:Hid (PB wb w.heap.size (.slice A ps.length c) r):=Lib.hid hT2
 have HU:Hid (PB wb (w.heap.size+1) (.slice B qs.length d) t):=Lib.hid hU
 have HXB:=Lib.hid hx
 have HC:=Lib.hid (sEqual_at A c ps B d qs hn hm wb (hR.ext hx) (hQ.ext hx))
 obtain ⟨q0,q1⟩:=HT.out.cells
 obtain ⟨q2,q3⟩:=HU.out.cells
 obtain ⟨X,hX⟩:∃ X,decide (dat ps=dat qs)=X:=⟨_,rfl⟩
 rw [hX] at HC
 obtain ⟨b,hb⟩:∃ b,decide (dat ps=dat qs∧r.data.toList=t.data.toList)=b:=⟨_,rfl⟩
 rw [hb]
 clear hT hT2 hU hx x1 x2 hR hQ
 by_cases hz:r.data.toList=t.data.toList
 ·have e0:(r.toList==t.toList)=true:=by rw [ByteArray.toList_eq,ByteArray.toList_eq,hz];exact beq_self_eq_true _
  have HBT:=Lib.hid (show X=b by
   rw [← hb,← hX];apply decide_eq_decide.2;exact ⟨fun h=>⟨h,hz⟩,fun h=>h.1⟩)
  clear hb hX hz
  go_enter Tryz.func126,Tryz.ntmps126
  go_wp2_with fail
  rw [← hwb]
  clear hwb
  refine HC.out.mono ?_
  rintro _ w2 ⟨rfl,hx2⟩
  have HX2:=Lib.hid (HXB.out.trans hx2);clear hx2
  go_wp2_with fail
  go_ret
  refine ⟨?_,HX2.out⟩
  rw [← HBT.out];rfl
 ·have e0:(r.toList==t.toList)=false:=by
   rw [ByteArray.toList_eq,ByteArray.toList_eq,beq_eq_false_iff_ne];exact hz
  have HBT:=Lib.hid (show b=false by rw [← hb];exact decide_eq_false (fun h=>hz h.2))
  clear hb hX hz
  go_enter Tryz.func126,Tryz.ntmps126
  go_wp2_with fail
  go_ret
  refine ⟨?_,hwb ▸ HXB.out⟩
  rw [HBT.out];rfl
theorem eq_none (ps:List ByteArray)(r:ByteArray):decide (dat ps=dat []∧r.data.toList=(ByteArray.mk #[]).data.toList)=noneN (dat ps) r.data.toList:=by
 unfold noneN
 rw [Bool.eq_iff_iff,decide_eq_true_eq,Bool.and_eq_true,List.isEmpty_iff,List.isEmpty_iff]
 exact Iff.rfl
set_option maxRecDepth 100000 in
theorem noName_at (A:Option Addr) (c:Nat) (ps:List ByteArray) (r:ByteArray) (hn:ps.length≤1000) (w:World) (hR:RS w (.slice A ps.length c) (sv ps)):
  Calls Tryz.prog 70 #[.agg #[.slice A ps.length c,.string r]] w fun e w'=>e=.returned (.bool (noneN (dat ps) r.data.toList))∧Ext w w':=by
 have hg:=heap_alloc_new w (.cells #[.slice A ps.length c,.string r] 37)
 have hx:=(Ext.refl w).alloc (.cells #[.slice A ps.length c,.string r] 37)
 obtain ⟨W1,e1⟩:∃ W,w.alloc (.cells #[.slice A ps.length c,.string r] 37)=W:=⟨_,rfl⟩
 rw [e1] at hg hx
 have c0:W1.cell? ⟨w.heap.size,0,none⟩=some (.slice A ps.length c):=by rw [cell_of_row _ w.heap.size 0 _ _ (0,0) hg];rfl
 have c1:W1.cell? ⟨w.heap.size,1,none⟩=some (.string r):=by rw [cell_of_row _ w.heap.size 1 _ _ (0,0) hg];rfl
 have HQ:=Lib.hid (NEqual_at A c ps r none 0 [] (ByteArray.mk #[]) hn (by simp) W1 (hR.ext hx) (RS.nil _))
 rw [eq_none] at HQ
 have HX:=Lib.hid hx
 clear hg hx hR
 generalize noneN (dat ps) r.data.toList=q at *
 go_enter Tryz.func70,Tryz.ntmps70
 go_wp2_with fail
 refine HQ.out.mono ?_
 rintro _ w2 ⟨rfl,hx2⟩
 have HX2:=Lib.hid (HX.out.trans hx2)
 clear hx2
 go_wp2_with fail
 go_ret
 exact ⟨rfl,HX2.out⟩
def tx6 (m:List UInt8):List UInt8:=match m with | [a,b]=>hexD (256*a.toNat+b.toNat) | _=>[]
theorem gst6:∀ (n:Nat) (b:List UInt8),b.length=2*n→(chk 2 n b).map tx6=(wds b).map hexD
 | 0,b,h=>by
  have:b=[]:=List.eq_nil_of_length_eq_zero (by omega)
  subst this;rfl
 | n+1,b,h=>by
  match b,h with
  | a::c::r,h=>
   have ih:=gst6 n r (by simp at h;omega)
   show hexD _::(chk 2 n r).map tx6=hexD _::(wds r).map hexD
   rw [ih]
  | [_],h=>simp at h;omega
theorem hexD_zero (x:Nat):hexD x=[48] ↔ x=0:=by
 constructor
 ·intro h
  by_cases h16:x<16
  ·rw [hexD_lo h16] at h
   have h1:hxc x=48:=by simpa using h
   have h2:=hxc_lt x h16
   rw [h1] at h2
   have h3:(48:UInt8).toNat=48:=rfl
   rw [h3] at h2
   split at h2<;>omega
  ·rw [hexD_hi h16] at h
   have h1:=congrArg List.length h
   rw [List.length_append] at h1
   have h2:=List.length_pos_iff.2 (hexD_ne (x / 16))
   have h4:([48]:List UInt8).length=1:=rfl
   have h5:([hxc (x % 16)]:List UInt8).length=1:=rfl
   omega
 ·rintro rfl;rw [hexD_lo (by omega)];rfl
theorem zrs_step:∀ (l:List Nat) (m:Nat),m≤zrs l→(l[m]? = some 0→m+1≤zrs l)∧(l[m]?≠some 0→m=zrs l)
 | [],m,h=>⟨fun h=>by simp at h,fun _=>by simp [zrs] at h ⊢;omega⟩
 | 0::r,0,h=>⟨fun _=>by rw [zrs];omega,fun hn=>absurd rfl hn⟩
 | 0::r,m+1,h=>by
  have ih:=zrs_step r m (by rw [zrs] at h;omega)
  rw [zrs]
  refine ⟨fun h'=>?_,fun h'=>?_⟩
  ·have:=ih.1 (by simpa using h');omega
  ·have:=ih.2 (by simpa using h');omega
 | (n+1)::r,m,h=>by
  have hm:m=0:=by simp [zrs] at h;omega
  subst hm
  exact ⟨fun h'=>by simp at h',fun _=>by simp [zrs]⟩
section
variable {P:Program}
theorem run_words_h (t:TypeId) (g n cap hi:Nat) (h1:hi≤n) (h2:n≤cap) (ht:P.underlying t=some (.slice (P.elem t))) (hs:∃ i,P.info? (P.elem t)=some i∧i.size=1) (W:World):
  (Instr.slice t (.slice (some ⟨g,0,none⟩) n cap) none (some (.int .i64 (hi:Int))) none).run P W=.ok (.slice (some ⟨g,0,none⟩) hi cap) W:=by
 obtain ⟨i,hi0,hi1⟩:=hs
 rw [run_slice_h W t (some ⟨g,0,none⟩) n cap ht .i64 hi (by omega) (by omega)]
 simp [sizeOf,typeInfo,hi0,hi1,sliced,Addr.add]
theorem run_words_l (t:TypeId) (g n cap lo:Nat) (h1:lo≤n) (h2:n≤cap) (ht:P.underlying t=some (.slice (P.elem t))) (hs:∃ i,P.info? (P.elem t)=some i∧i.size=1):
  ∃ o,(n=lo∨o=lo)∧∀ W:World,(Instr.slice t (.slice (some ⟨g,0,none⟩) n cap) (some (.int .i64 (lo:Int))) none none).run P W=.ok (.slice (some ⟨g,o,none⟩) (n-lo) (cap-lo)) W:=by
 obtain ⟨i,hi0,hi1⟩:=hs
 refine ⟨if cap=lo then 0 else lo,?_,fun W=>?_⟩
 ·by_cases h:cap=lo
  ·exact .inl (by omega)
  ·rw [if_neg h];exact .inr rfl
 ·rw [run_slice_l W t (some ⟨g,0,none⟩) n cap ht .i64 lo (by omega) (by omega)]
  simp only [sizeOf,typeInfo]
  simp [hi0,hi1,sliced]
  by_cases h:cap=lo
  ·simp [h]
  ·rw [if_neg (by omega),if_neg h]
   unfold Addr.add
   split<;>simp_all
end
set_option maxRecDepth 100000 in
theorem text6_no (b:List UInt8) (A:Option Addr) (c:Nat) (w:World) (h:b.length≠16):
  Calls Tryz.prog 198 #[.slice A b.length c] w fun e w'=>e=.returned (.tuple #[.string ⟨#[]⟩,.bool false])∧Ext w w':=by
 have h4:((b.length:Int)==16)=false:=by rw [beq_eq_false_iff_ne];omega
 have h4':((b.length:Int) != 16)=true:=by rw [bne,h4];rfl
 clear h
 go_enter Tryz.func198,Tryz.ntmps198
 go_wp2_with fail
 go_ret2
 exact ⟨rfl,Ext.refl _⟩
set_option maxRecDepth 100000 in
set_option maxHeartbeats 2000000 in
theorem text6_at (b:List UInt8) (A:Option Addr) (c:Nat) (w:World) (hb:BS w (.slice A b.length c) b) (hE:EnvA w) (h:b.length=16):
  Calls Tryz.prog 198 #[.slice A b.length c] w fun e w'=>e=.returned (.tuple #[.string ⟨(txt6 b).toArray⟩,.bool true])∧Ext w w':=by
 have HG:=Lib.hid (groups_at 2 231 tx6 (by omega) b A c w hb 8 (by omega) (by omega) (Go.Proofs.enters_of Tryz.func231 (by kernel_rfl) rfl) (fun m A c W hm hx hbm=>by
  match m,hm with
  | [x,y],_=>exact tx6_at x y A c W hbm (hE.deb.ext hx)))
 have hg6:=gst6 8 b (by omega)
 have hGl:=wds_length b 8 (by omega)
 have hGt:=wds_lt b
 have hT:txt6 b=txt6w (wds b) (bst 0 (wds b) 0 0).1 (bst 0 (wds b) 0 0).2:=rfl
 obtain ⟨ho1,ho2⟩:=bst_ok (wds b) (wds b) 0 0 0 rfl (by omega) rfl
 obtain ⟨S,hS⟩:∃ S,txt6 b=S:=⟨_,rfl⟩
 rw [hS] at hT ⊢
 unfold gst at HG
 rw [hg6] at HG
 obtain ⟨G,hGG⟩:∃ G,wds b=G:=⟨_,rfl⟩
 rw [hGG] at HG hGl hGt hT ho1 ho2
 rw [h] at HG ⊢
 have HT:=Lib.hid hT;have HGT:=Lib.hid hGt;have HO1:=Lib.hid ho1;have HGL:=Lib.hid hGl
 clear hb hE h hS hg6 hGG hT ho1 ho2 hGt hGl
 go_enter Tryz.func198,Tryz.ntmps198
 go_wp2_with fail
 refine HG.out.mono ?_
 rintro _ w1 ⟨v,rfl,hr,hx⟩
 obtain ⟨g,cap,rfl,hsw⟩:=SWR.of_own (ls:=G.map hexD) hr (by rw [List.length_map,HGL.out]) (by intro e;have:=congrArg List.length e;rw [List.length_map,HGL.out] at this;cases this)
 have HX:=Lib.hid hx;have HS:=Lib.hid hsw
 rw [List.length_map,HGL.out]
 clear hr hx hsw
 go_wp2_with fail
 go_loopw [5,6,16] (fun vb vl vi wr=>∃ (k bg ln:Nat),vb=.int .i64 (bg:Int)∧vl=.int .i64 (ln:Int)∧vi=.int .i64 (k:Int)∧k≤8∧bg≤8∧ln≤8∧Hid (bst 0 G 0 0=bst k (G.drop k) bg ln)∧Hid (w1=wr)) (fun _ _ vi _=>8-(intOf vi).toNat)
 case atStart=>exact ⟨0,0,0,rfl,rfl,rfl,by omega,by omega,by omega,Lib.hid rfl,Lib.hid rfl⟩
 case round=>
  obtain ⟨k,bg,ln,rfl,rfl,rfl,hk,hbg,hln,HB,HWR⟩:=hrel
  obtain rfl:=HWR.out
  clear HWR
  by_cases hk8:k<8
  ·have hik:(k:Int)<8:=by omega
   go_wp2_with fail
   go_loopw [8] (fun vn wr=>∃ m:Nat,vn=.int .i64 (m:Int)∧k+m≤8∧Hid (m≤zrs (G.drop k))∧Hid (w1=wr)) (fun vn _=>8-(intOf vn).toNat)
   case atStart=>exact ⟨0,rfl,by omega,Lib.hid (Nat.zero_le _),Lib.hid rfl⟩
   case round=>
    obtain ⟨m,rfl,hkm,HM,HWR⟩:=hrel
    obtain rfl:=HWR.out
    clear HWR
    have hzl:=Lib.hid (zrs_le (G.drop k))
    have hGd:(G.drop k)[m]? = G[k+m]?:=List.getElem?_drop
    by_cases hlt:k+m<8
    ·have hx:G[k+m]? = some (G[k+m]'(by rw [HGL.out];exact hlt)):=List.getElem?_eq_getElem _
     obtain ⟨x,hxx⟩:∃ x,G[k+m]'(by rw [HGL.out];exact hlt)=x:=⟨_,rfl⟩
     rw [hxx] at hx
     have hc:=HS.out.cell (k+m) (hexD x) (by rw [List.getElem?_map,hx];rfl)
     have hik2:(k:Int)+(m:Int)<8:=by omega
     obtain ⟨D,hD⟩:∃ D,hexD x=D:=⟨_,rfl⟩
     by_cases h0:x=0
     ·have HM2:=Lib.hid ((zrs_step (G.drop k) m HM.out).1 (by rw [hGd,hx,h0]))
      have q:(D==[48])=true:=by rw [← hD,(hexD_zero x).2 h0];rfl
      rw [hD] at hc
      clear hx hxx hGd hD h0
      go_wp2_with fail
      go_roundw
      case rel=>exact ⟨m+1,by go_num,by omega,HM2,(by first | exact Lib.hid rfl | exact Lib.hid trivial)⟩
      case measure=>simp [intOf];omega
     ·have HM2:=Lib.hid ((zrs_step (G.drop k) m HM.out).2 (by rw [hGd,hx];intro e;injection e with e;exact h0 e))
      have q:(D==[48])=false:=by rw [beq_eq_false_iff_ne,← hD];exact fun e=>h0 ((hexD_zero x).1 e)
      rw [hD] at hc
      clear hx hxx hGd hD h0
      have hbs:bst k (G.drop k) bg ln=if ln<zrs (G.drop k) then bst (k+1) (G.drop (k+1)) k (zrs (G.drop k)) else bst (k+1) (G.drop (k+1)) bg ln:=by
       rw [List.drop_eq_getElem_cons (show k<G.length by rw [HGL.out];exact hk8),bst]
      by_cases hgt:ln<m
      ·have HB2:=Lib.hid (show bst 0 G 0 0=bst (k+1) (G.drop (k+1)) k m by rw [HB.out,hbs,← HM2.out,if_pos hgt])
       have hgi:(ln:Int)<(m:Int):=by omega
       clear hbs hgt
       go_wp2_with fail
       go_roundw
       case rel=>exact ⟨k+1,k,m,rfl,rfl,by go_num,by omega,by omega,by omega,HB2,(by first | exact Lib.hid rfl | exact Lib.hid trivial)⟩
       case measure=>simp [intOf];omega
      ·have HB2:=Lib.hid (show bst 0 G 0 0=bst (k+1) (G.drop (k+1)) bg ln by rw [HB.out,hbs,← HM2.out,if_neg hgt])
       have hgi:(m:Int)≤(ln:Int):=by omega
       clear hbs hgt
       go_wp2_with fail
       go_roundw
       case rel=>exact ⟨k+1,bg,ln,rfl,rfl,by go_num,by omega,by omega,by omega,HB2,(by first | exact Lib.hid rfl | exact Lib.hid trivial)⟩
       case measure=>simp [intOf];omega
    ·have HM2:=Lib.hid ((zrs_step (G.drop k) m HM.out).2 (by rw [hGd,List.getElem?_eq_none (by rw [HGL.out];omega)];simp))
     have hik2:(8:Int)≤(k:Int)+(m:Int):=by omega
     clear hGd
     have hbs:bst k (G.drop k) bg ln=if ln<zrs (G.drop k) then bst (k+1) (G.drop (k+1)) k (zrs (G.drop k)) else bst (k+1) (G.drop (k+1)) bg ln:=by
      rw [List.drop_eq_getElem_cons (show k<G.length by rw [HGL.out];exact hk8),bst]
     by_cases hgt:ln<m
     ·have HB2:=Lib.hid (show bst 0 G 0 0=bst (k+1) (G.drop (k+1)) k m by rw [HB.out,hbs,← HM2.out,if_pos hgt])
      have hgi:(ln:Int)<(m:Int):=by omega
      clear hbs hgt
      go_wp2_with fail
      go_roundw
      case rel=>exact ⟨k+1,k,m,rfl,rfl,by go_num,by omega,by omega,by omega,HB2,(by first | exact Lib.hid rfl | exact Lib.hid trivial)⟩
      case measure=>simp [intOf];omega
     ·have HB2:=Lib.hid (show bst 0 G 0 0=bst (k+1) (G.drop (k+1)) bg ln by rw [HB.out,hbs,← HM2.out,if_neg hgt])
      have hgi:(m:Int)≤(ln:Int):=by omega
      clear hbs hgt
      go_wp2_with fail
      go_roundw
      case rel=>exact ⟨k+1,bg,ln,rfl,rfl,by go_num,by omega,by omega,by omega,HB2,(by first | exact Lib.hid rfl | exact Lib.hid trivial)⟩
      case measure=>simp [intOf];omega
  ·obtain rfl:k=8:=by omega
   have hfin:bst 0 G 0 0=(bg,ln):=by rw [HB.out,List.drop_eq_nil_of_le (by rw [HGL.out];exact Nat.le_refl _)];rfl
   have ho:=HO1.out
   rw [hfin] at ho
   simp only at ho
   rw [HGL.out] at ho
   have hT:=HT.out
   rw [hfin] at hT
   unfold txt6w at hT
   have hGt:=HGT.out
   by_cases h2:ln<2
   ·rw [if_pos h2] at hT
    have i2:(ln:Int)<2:=by omega
    have hlen:=hjoin_len G hGt
    rw [HGL.out] at hlen
    have HJ:=Lib.hid (joinA_at 58 (G.map hexD) g 0 cap 8 w1 HS.out.lt (fun j l hj=>by rw [Nat.zero_add];exact HS.out.cell j l hj) (by rw [List.length_map,HGL.out]) (by have:=HS.out.le;rwa [List.length_map,HGL.out] at this) (by omega) (by show (hjoin G).length≤1000;omega))
    rw [show Lib.join (G.map hexD) [58]=hjoin G from rfl] at HJ
    obtain ⟨L,hL⟩:∃ L,hjoin G=L:=⟨_,rfl⟩
    rw [hL] at hT HJ hlen
    have HTT:=Lib.hid hT
    clear hT hL h2 hfin ho hGt HB hk hbg hln hk8
    go_wp2_with fail
    refine HJ.out.mono ?_
    rintro _ w2 ⟨rfl,hx2⟩
    have HX2:=Lib.hid (HX.out.trans hx2)
    clear hx2
    go_wp2_with fail
    go_ret2
    refine ⟨?_,HX2.out⟩
    rw [HTT.out]
    show Ending.returned (.tuple #[.string ((⟨#[91]⟩++⟨L.toArray⟩)++⟨#[93]⟩),.bool true])=_
    rw [show ((⟨#[91]⟩:ByteArray)++⟨L.toArray⟩)++⟨#[93]⟩=⟨([91]++(L++[93])).toArray⟩ from by apply ByteArray.ext;simp [ByteArray.data_append]]
   ·rw [if_neg h2] at hT
    have i2:(2:Int)≤(ln:Int):=by omega
    have hla:=hjoin_len (G.take bg) (fun x hx=>hGt x (List.mem_of_mem_take hx))
    have hlc:=hjoin_len (G.drop (bg+ln)) (fun x hx=>hGt x (List.mem_of_mem_drop hx))
    have la:(G.take bg).length=bg:=by rw [List.length_take,HGL.out];omega
    have lc:(G.drop (bg+ln)).length=8-(bg+ln):=by rw [List.length_drop,HGL.out]
    have hcap:=HS.out.le
    rw [List.length_map,HGL.out] at hcap
    have hsA:=run_words_h (P:=Tryz.prog) 35 g 8 cap bg (by omega) hcap Tryz.underlying35 (info_parts strinfo |>.elim fun i hi=>⟨i,hi.1,hi.2.2.1⟩)
    obtain ⟨o,hoo,hsC⟩:=run_words_l (P:=Tryz.prog) 35 g 8 cap (bg+ln) ho hcap Tryz.underlying35 (info_parts strinfo |>.elim fun i hi=>⟨i,hi.1,hi.2.2.1⟩)
    have HJA:=Lib.hid (fun W hx=>joinA_at 58 ((G.take bg).map hexD) g 0 cap bg W (HS.out.ext hx).lt (fun j l hj=>by
     rw [Nat.zero_add]
     rw [List.map_take] at hj
     have hjl:=(List.getElem?_eq_some_iff.1 hj).1
     rw [List.getElem?_take,if_pos (by simp at hjl;omega)] at hj
     exact (HS.out.ext hx).cell j l hj) (by rw [List.length_map,la]) (by omega) (by omega) (by show (hjoin _).length≤1000;omega))
    have HJC:=Lib.hid (fun W hx=>joinA_at 58 ((G.drop (bg+ln)).map hexD) g o (cap-(bg+ln)) (8-(bg+ln)) W (HS.out.ext hx).lt (fun j l hj=>by
     rw [List.map_drop,List.getElem?_drop] at hj
     have hjl:=(List.getElem?_eq_some_iff.1 hj).1
     rw [List.length_map,HGL.out] at hjl
     rcases hoo with h | h
     ·omega
     ·rw [h];exact (HS.out.ext hx).cell _ l hj) (by rw [List.length_map,lc]) (by omega) (by omega) (by show (hjoin _).length≤1000;omega))
    rw [la] at hla
    rw [lc] at hlc
    rw [show Lib.join ((G.take bg).map hexD) [58]=hjoin (G.take bg) from rfl] at HJA
    rw [show Lib.join ((G.drop (bg+ln)).map hexD) [58]=hjoin (G.drop (bg+ln)) from rfl] at HJC
    obtain ⟨LA,hLA⟩:∃ L,hjoin (G.take bg)=L:=⟨_,rfl⟩
    obtain ⟨LC,hLC⟩:∃ L,hjoin (G.drop (bg+ln))=L:=⟨_,rfl⟩
    rw [hLA] at hT HJA hla
    rw [hLC] at hT HJC hlc
    have hla':LA.length≤40:=by omega
    have hlc':LC.length≤40:=by omega
    simp only [Int.natCast_add] at hsC
    have HTT:=Lib.hid hT
    clear hT hLA hLC h2 hfin hGt HB hk hk8 hla hlc la lc hoo
    go_wp2_with fail
    refine wp_region_ext (fun i v' w'=>match i with | 3=>v'=.string ⟨LA.toArray⟩ | 11=>v'=.string ⟨LC.toArray⟩ | _=>False) (by kernel_rfl) (by kernel_rfl) ?_
    refine wpE_op rfl rfl (fun w' hw' K' hK'=>?_)
    have hE:=hw'.1
    go_step
    refine hK' _ ⟨_,rfl⟩ ?_
    clear hK' K' hE hw' w'
    refine wpE_op rfl rfl (fun w' hw' K' hK'=>?_)
    have hE:=hw'.1
    go_step
    refine hK' _ ⟨_,rfl⟩ ?_
    clear hK' K' hE hw' w'
    refine wpE_op rfl rfl (fun w' hw' K' hK'=>?_)
    have hE:=hw'.1
    go_step
    refine hK' _ ⟨_,rfl⟩ ?_
    clear hK' K' hE hw' w'
    refine wpE_call 51 rfl (by simp) rfl (fun w' hw' K' hK'=>?_) ?_
    ·have hE:=hw'.1
     go_step
     refine (HJA.out w' ((Ext.drew _).trans hE)).mono ?_
     rintro _ w2 ⟨rfl,hx⟩
     exact hK' _ _ ⟨_,rfl,rfl⟩ hx
    rintro _ w6 _ rfl
    simp only [Act.put,sT1,sT2,sT3]
    refine wpE_op rfl rfl (fun w' hw' K' hK'=>?_)
    have hE:=hw'.1
    go_step
    refine hK' _ ⟨_,rfl⟩ ?_
    clear hK' K' hE hw' w'
    refine wpE_op rfl rfl (fun w' hw' K' hK'=>?_)
    have hE:=hw'.1
    go_step
    refine hK' _ ⟨_,rfl⟩ ?_
    clear hK' K' hE hw' w'
    refine wpE_op rfl rfl (fun w' hw' K' hK'=>?_)
    have hE:=hw'.1
    go_step
    refine hK' _ ⟨_,rfl⟩ ?_
    clear hK' K' hE hw' w'
    refine wpE_op rfl rfl (fun w' hw' K' hK'=>?_)
    have hE:=hw'.1
    go_step
    refine hK' _ ⟨_,rfl⟩ ?_
    clear hK' K' hE hw' w'
    refine wpE_op rfl rfl (fun w' hw' K' hK'=>?_)
    have hE:=hw'.1
    go_step
    refine hK' _ ⟨_,rfl⟩ ?_
    clear hK' K' hE hw' w'
    refine wpE_op rfl rfl (fun w' hw' K' hK'=>?_)
    have hE:=hw'.1
    go_step
    refine hK' _ ⟨_,rfl⟩ ?_
    clear hK' K' hE hw' w'
    refine wpE_op rfl rfl (fun w' hw' K' hK'=>?_)
    have hE:=hw'.1
    go_step
    refine hK' _ ⟨_,rfl⟩ ?_
    clear hK' K' hE hw' w'
    refine wpE_call 59 rfl (by simp) rfl (fun w' hw' K' hK'=>?_) ?_
    ·have hE:=hw'.1
     go_step
     refine (HJC.out w' ((Ext.drew _).trans hE)).mono ?_
     rintro _ w2 ⟨rfl,hx⟩
     exact hK' _ _ ⟨_,rfl,rfl⟩ hx
    rintro _ w6 _ rfl
    simp only [Act.put,sT1,sT2,sT3]
    refine wpE_op rfl rfl (fun w' hw' K' hK'=>?_)
    have hE:=hw'.1
    go_step
    refine hK' _ ⟨_,rfl⟩ ?_
    clear hK' K' hE hw' w'
    refine wpE_op rfl rfl (fun w' hw' K' hK'=>?_)
    have hE:=hw'.1
    go_step
    refine hK' _ ⟨_,rfl⟩ ?_
    clear hK' K' hE hw' w'
    refine wpE_op rfl rfl (fun w' hw' K' hK'=>?_)
    have hE:=hw'.1
    go_step
    refine hK' _ ⟨_,rfl⟩ ?_
    clear hK' K' hE hw' w'
    refine wpE_op rfl rfl (fun w' hw' K' hK'=>?_)
    have hE:=hw'.1
    go_step
    refine hK' _ ⟨_,rfl⟩ ?_
    clear hK' K' hE hw' w'
    refine wpE_nil (fun w2 hw2=>?_)
    have HX2:=Lib.hid (HX.out.trans ((Ext.drew w1).trans hw2.1))
    clear hw2
    go_wp2_with fail
    go_ret2
    refine ⟨?_,HX2.out⟩
    rw [HTT.out]
    show Ending.returned (.tuple #[.string ((((⟨#[91]⟩++⟨LA.toArray⟩)++⟨#[58,58]⟩)++⟨LC.toArray⟩)++⟨#[93]⟩),.bool true])=_
    rw [show ((((⟨#[91]⟩:ByteArray)++⟨LA.toArray⟩)++⟨#[58,58]⟩)++⟨LC.toArray⟩)++⟨#[93]⟩=⟨([91]++(LA++([58,58]++(LC++[93])))).toArray⟩ from by apply ByteArray.ext;simp [ByteArray.data_append]]
end Go.Proofs.YtnjmndofcpnmeaaGreatDoor
