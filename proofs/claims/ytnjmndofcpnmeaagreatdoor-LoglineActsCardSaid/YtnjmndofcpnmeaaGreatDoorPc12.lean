/- Pc12. -/
import Derived.Test.YtnjmndofcpnmeaaGreatDoorPc11
import Derived.Lib.ParseIntBMem
import Derived.Test.YtnjmndofcpnmeaaGreatDoorPc0
import Derived.Test.YtnjmndofcpnmeaaGreatDoorPc3
import Derived.Test.YtnjmndofcpnmeaaGreatDoorPc4
import Derived.Test.YtnjmndofcpnmeaaGreatDoorPc5
namespace Go.Proofs.YtnjmndofcpnmeaaGreatDoor
open Go Go.RowKit
set_option linter.unusedVariables false
theorem pu8_ok:∀ (l:List UInt8) (acc:Nat),acc≤255→pu8 acc l=match Lib.parseUintM 255 acc l with | .ok v=>some v | _=>none
 | [],acc,h=>rfl
 | c::r,acc,h=>by
  rw [pu8,Lib.parseUintM]
  by_cases hd:48≤c.toNat∧c.toNat≤57
  ·rw [if_pos hd,if_pos hd,if_neg (show ¬ 1844674407370955162≤acc by omega)]
   by_cases ho:255<acc*10+(c.toNat-48)
   ·rw [if_pos ho,if_pos ho]
   ·rw [if_neg ho,if_neg ho]
    exact pu8_ok r _ (by omega)
  ·rw [if_neg hd,if_neg hd]
theorem ParseI8_at (t:ByteArray) (hmax:t.size≤3000) (w:World):
  Calls Tryz.prog 195 #[.string t,.int .i64 10,.int .i64 8] w fun e w'=>PUi (pu8w t.data.toList) e∧Ext w w':=by
 refine (Tryz.internal_strconv_ParseUint_10_at8 t (by omega) w).mono ?_
 rintro e w' ⟨rfl,hw⟩
 refine ⟨?_,?_⟩
 ·have he:pu8w t.data.toList=match Lib.parseUintB 8 t.data.toList with | .ok v=>some v | _=>none:=by
   unfold pu8w Lib.parseUintB
   by_cases hn:t.data.toList=[]
   ·rw [if_pos hn,if_pos hn]
   ·rw [if_neg hn,if_neg hn]
    exact pu8_ok _ 0 (by omega)
  rw [he]
  cases Lib.parseUintB 8 t.data.toList with
  | ok n=>exact .inl ⟨n,rfl,rfl⟩
  | range=>exact .inr ⟨rfl,_,_,.inl rfl,rfl⟩
  | _=>exact .inr ⟨rfl,_,_,.inr rfl,rfl⟩
 ·rcases hw with rfl | rfl
  ·exact Ext.refl _
  ·exact ext_bytesWorld _ _ _
theorem IfVar.cell {n:String}{g:Nat}{w:World}(h:IfVar n w)(hg:Tryz.prog.globalNamed n=some g):∃ tp p,w.cell? ⟨g,0,none⟩=some (.iface tp p):=by
 obtain ⟨tp,p,h⟩:=h
 exact ⟨tp,p,by have h0:=World.var?_cell hg h 0;simpa using h0⟩
theorem Parse_of (t:ByteArray) (ht:t.size≤3000) (B K:Int) (o:Option Nat) (HI:∀ w,Calls Tryz.prog 195 #[.string t,.int .i64 B,.int .i64 K] w fun e w'=>PUi o e∧Ext w w') (w:World) (hE:Env w):
  Calls Tryz.prog 154 #[.string t,.int .i64 B,.int .i64 K] w fun e w'=>PU o e∧Ext w w':=by
 have HI:=Lib.hid HI
 have HE:=Lib.hid hE
 clear hE
 go_enter Tryz.func154,Tryz.ntmps154
 go_wp2_with fail
 refine (HI.out _).mono ?_
 rintro e w1 ⟨hp,hx⟩
 have HX:=Lib.hid hx
 clear hx
 rcases hp with ⟨n,rfl,rfl⟩ | ⟨rfl,v,c,hc,rfl⟩
 ·go_wp2_with fail
  go_ret2
  exact ⟨.inl ⟨n,rfl,rfl⟩,HX.out⟩
 ·rcases hc with rfl | rfl
  ·obtain ⟨tp,p,hv⟩:=((HE.out.ext HX.out).rng).cell (g:=2) (by kernel_rfl)
   have HT:=Lib.hid (fun fn=>Tryz.strconv_toError_range fn t B K _ w1 (by omega) hv (.inr ⟨tp,p,rfl⟩))
   clear hv
   go_wp2_with fail
   refine (HT.out _).mono ?_
   rintro e w2 ⟨N,rfl,h1,h2,h3⟩
   have HX2:=Lib.hid (HX.out.trans h3)
   clear h1 h2 h3
   go_wp2_with fail
   go_ret2
   exact ⟨.inr ⟨rfl,_,_,rfl⟩,HX2.out⟩
  ·obtain ⟨tp,p,hv⟩:=((HE.out.ext HX.out).syn).cell (g:=1) (by kernel_rfl)
   have HT:=Lib.hid (fun fn=>Tryz.strconv_toError_syntax fn t B K _ w1 (by omega) hv (.inr ⟨tp,p,rfl⟩))
   clear hv
   go_wp2_with fail
   refine (HT.out _).mono ?_
   rintro e w2 ⟨N,rfl,h1,h2,h3⟩
   have HX2:=Lib.hid (HX.out.trans h3)
   clear h1 h2 h3
   go_wp2_with fail
   go_ret2
   exact ⟨.inr ⟨rfl,_,_,rfl⟩,HX2.out⟩
theorem Parse16_at (t:ByteArray) (ht:t.size≤3000) (w:World) (hE:Env w):
  Calls Tryz.prog 154 #[.string t,.int .i64 16,.int .i64 16] w fun e w'=>PU (pu16w t.data.toList) e∧Ext w w':=
 Parse_of t ht 16 16 _ (fun W=>ParseI16_at t ht W) w hE
theorem Parse8_at (t:ByteArray) (ht:t.size≤3000) (w:World) (hE:Env w):
  Calls Tryz.prog 154 #[.string t,.int .i64 10,.int .i64 8] w fun e w'=>PU (pu8w t.data.toList) e∧Ext w w':=
 Parse_of t ht 10 8 _ (fun W=>ParseI8_at t ht W) w hE
def B3 (T:TypeId)(w:World)(b:Nat)(x y z:Value):Prop:=w.heap[b]? = some (.cells #[x,y,z] T (0,0))
section
variable {T:TypeId} {w w':World} {b:Nat} {x y z:Value}
theorem B3.cells (h:B3 T w b x y z):w.cell? ⟨b,0,none⟩=some x∧w.cell? ⟨b,1,none⟩=some y∧w.cell? ⟨b,2,none⟩=some z:=
 ⟨by rw [cell_of_row w b 0 _ _ (0,0) h];rfl,by rw [cell_of_row w b 1 _ _ (0,0) h];rfl,by rw [cell_of_row w b 2 _ _ (0,0) h];rfl⟩
theorem B3.soft (h:B3 T w b x y z)(k:Nat):w.frozen? ⟨b,k,none⟩=false:=frozen_of_row w b k _ _ h
theorem B3.lt (h:B3 T w b x y z):b<w.heap.size:=(Array.getElem?_eq_some_iff.1 h).1
theorem B3.ext (h:B3 T w b x y z)(hx:Ext w w'):B3 T w' b x y z:=hx.heap h
theorem B3.far {g:Nat}(h:B3 T w b x y z)(hb:w.grownBy w' (some g))(hne:b≠g):B3 T w' b x y z:=(hb.block b h.lt (by intro e;cases e;exact hne rfl)).trans h
theorem B3.set2 (h:B3 T w b x y z)(v:Value):B3 T (w.setCell ⟨b,2,none⟩ v) b x y v:=by unfold B3;rw [heap_setCell_same w b 2 _ _ _ h];rfl
theorem B3.new (T:TypeId)(w:World)(x y z:Value):B3 T (w.alloc (.cells #[x,y,z] T)) w.heap.size x y z:=heap_alloc_new w _
end
theorem OB.off {e:TypeId}{w w':World}{B:Nat}{v:Value}{b:List UInt8}{g:Nat}(h:OB e w B v b)(hg:w.grownBy w' (some g))(hlt:g<B):OB e w' B v b:=by
 refine ⟨h.1,?_⟩
 rcases h.2 with hh | ⟨g',cap,cur,hv,hb,hh,r⟩
 ·exact .inl hh
 ·exact .inr ⟨g',cap,cur,hv,hb,(hg.block g' (Array.getElem?_eq_some_iff.1 hh).1 (by intro e;cases e;omega)).trans hh,r⟩
end Go.Proofs.YtnjmndofcpnmeaaGreatDoor
namespace Go.Proofs.YtnjmndofcpnmeaaGreatDoor
open Go Go.RowKit
set_option linter.unusedVariables false
theorem OB.put {e:TypeId}{W:World}{B D:Nat}{v:Value}{l:List UInt8}{x o:Obj}(h:OB e W B v l)(hd:W.heap[D]? = some x)(hx:x.isCells=false):OB e (W.putObj D o) B v l:=by
 refine ⟨h.1,?_⟩
 rcases h.2 with hh | ⟨g,cap,cur,hv,hb,hh,r⟩
 ·exact .inl hh
 ·refine .inr ⟨g,cap,cur,hv,hb,?_,r⟩
  have hne:D≠g:=by intro e;subst e;rw [hh] at hd;injection hd with hd;subst hd;cases hx
  exact (World.putObj_heap_other (by omega)).trans hh
theorem OB.setc {e:TypeId}{W:World}{B k:Nat}{v:Value}{l:List UInt8}(h:OB e W B v l)(hk:k<B)(u:Value):OB e (W.setCell ⟨k,0,none⟩ u) B v l:=own_set h u hk
def PGr (o:Option (List Nat))(e:Ending)(B:Nat)(w':World):Prop:=
 (∃ g A c,o=some g∧e=.returned (.tuple #[.slice A (wbs g).length c,.bool true])∧OB 5 w' B (.slice A (wbs g).length c) (wbs g))∨(o=none∧e=.returned (.tuple #[.slice none 0 0,.bool false]))
def PgI (w:World)(pre:List ByteArray)(W:World):Prop:=∃ v vs,W.heap[w.heap.size]? = some (.cells #[.slice none 0 0] 32 (0,0))∧W.heap[w.heap.size+1]? = some (.cells #[.bool false] 4 (0,0)) ∧
 W.heap[w.heap.size+2]? = some (.cells #[v] 32 (0,0))∧OB 5 W (w.heap.size+6) v (wbs vs)∧allP pu16w (dtb pre)=some vs∧vs.length≤pre.length∧Ext w W∧w.heap.size+6≤W.heap.size
def PgX (s:List UInt8)(w:World)(c:Code)(W:World):Prop:=c=.ret∧W.heap[w.heap.size]? = some (.cells #[.slice none 0 0] 32 (0,0))∧W.heap[w.heap.size+1]? = some (.cells #[.bool false] 4 (0,0))∧allP pu16w (splb 58 [] s)=none∧Ext w W
theorem PgI.stab {B0:Nat}{w:World}(h:w.heap.size≤B0)(pre:List ByteArray):Stab B0 (PgI w pre):=
 Stab.ex fun v=>Stab.ex fun vs=>(Stab.heap _ _ _ _).and ((Stab.heap _ _ _ _).and ((Stab.heap _ _ _ _).and ((Stab.own _ _ _ _ _).and ((Stab.pure _).and ((Stab.pure _).and ((Stab.ext w h).and (Stab.size _)))))))
theorem PgX.stab {B0:Nat}{w:World}(h:w.heap.size≤B0)(s:List UInt8)(c:Code):Stab B0 (PgX s w c):=(Stab.pure _).and ((Stab.heap _ _ _ _).and ((Stab.heap _ _ _ _).and ((Stab.pure _).and (Stab.ext w h))))
theorem own_farA {A B:World}{r:Option Nat}{b n k:Nat}{o:Obj}(hr:∀ k,r=some k→k=b)(hg:A.grownBy B r)(hb:n<b)(hk:k=n)(h:A.heap[k]? = some o):B.heap[k]? = some o:=
 (hg.block k (Array.getElem?_eq_some_iff.1 h).1 (fun e=>by have:=hr k e.symm;omega)).trans h
theorem own_extA {w A B:World}{r:Option Nat}{b:Nat}(hr:∀ k,r=some k→k=b)(hg:A.grownBy B r)(hb:w.heap.size≤b)(h:Ext w A):Ext w B:=h.grown hg (fun k hk=>by have:=hr k hk;omega)
theorem OB.offr {e:TypeId}{A B:World}{r:Option Nat}{b N:Nat}{v:Value}{l:List UInt8}(hr:∀ k,r=some k→k=b)(hg:A.grownBy B r)(hb:b<N)(h:OB e A N v l):OB e B N v l:=by
 refine ⟨h.1,?_⟩
 rcases h.2 with hh | ⟨g,cap,cur,hv,hbb,hh,q⟩
 ·exact .inl hh
 ·exact .inr ⟨g,cap,cur,hv,hbb,(hg.block g (Array.getElem?_eq_some_iff.1 hh).1 (fun e=>by have:=hr g e.symm;omega)).trans hh,q⟩
theorem splb_len (x:UInt8):∀ (l acc:List UInt8),(splb x acc l).length≤l.length+1
 | [],acc=>by simp [splb]
 | c::r,acc=>by
  rw [splb]
  split
  ·have:=splb_len x r [];simp;omega
  ·have:=splb_len x r (acc++[c]);simp;omega
theorem dtb_snoc (pre:List ByteArray)(x:ByteArray):dtb (pre++[x])=dtb pre++[x.data.toList]:=by simp [dtb]
theorem wbs_snoc (vs:List Nat)(n:Nat):wbs (vs++[n])=wbs vs++[UInt8.ofNat (n / 256),UInt8.ofNat (n % 256)]:=by rw [wbs_append];rfl
attribute [local go_sem] Oper.semAt_some
set_option maxRecDepth 100000 in
set_option maxHeartbeats 4000000 in
theorem pgroups_at (s:ByteArray) (hs:s.size≤3000) (w:World) (hE:EnvA w):
  Calls Tryz.prog 152 #[.string s] w fun e w'=>PGr (pgs s.data.toList) e w.heap.size w'∧Ext w w':=by
 obtain ⟨i0,hi,hz0,hz1,hz2⟩:=info_parts u8inf
 have HS:=Lib.hid hs;have HE:=Lib.hid hE
 clear hs hE
 refine calls_of_marks Tryz.func152 rfl ?_
 simp only [Tryz.ntmps152,List.size_toArray,List.length_cons,List.length_nil,Nat.reduceAdd,Nat.reduceSub,Array.replicate_succ,Array.replicate_zero,List.push_toArray,List.append_toArray,List.nil_append,List.cons_append]
 have h0:=heap_alloc_new w (.cells #[.slice none 0 0] 32)
 have h1:=heap_alloc_new (w.alloc (.cells #[.slice none 0 0] 32)) (.cells #[.bool false] 4)
 have x1:=(Ext.refl (w.alloc (.cells #[.slice none 0 0] 32))).alloc (.cells #[.bool false] 4)
 have x0:=(Ext.refl w).alloc (.cells #[.slice none 0 0] 32)
 rw [World.size_alloc] at h1
 obtain ⟨w1,hw1⟩:∃ w1,(w.alloc (.cells #[.slice none 0 0] 32)).alloc (.cells #[.bool false] 4)=w1:=⟨_,rfl⟩
 have hz1':w1.heap.size=w.heap.size+2:=by rw [← hw1];simp
 have h01:=x1.heap h0
 have x01:=x0.trans x1
 rw [hw1] at h1 h01 x01
 clear h0 x0 x1
 by_cases hemp:s.data.toList=[]
 ·have e1:s.toList=[]:=by rw [ByteArray.toList_eq];exact hemp
  have e2:s.toList.isEmpty=true:=by rw [e1];rfl
  have HP:=Lib.hid (show pgs s.data.toList=some [] by unfold pgs;rw [if_pos hemp])
  have f0:=(row1 h01).2;have f1:=(row1 h1).2
  have d0:=(row1 h01).1;have d1:=(row1 h1).1
  have q0:=(row1 (heap_far (grown_set1 (w1.setCell ⟨w.heap.size,0,none⟩ (.slice none 0 0)) (w.heap.size+1) (.bool true)) (row1_set (.slice none 0 0) h01) (by omega))).1
  have q1:=(row1 (row1_set (.bool true) (heap_far (grown_set1 w1 w.heap.size (.slice none 0 0)) h1 (by omega)))).1
  have HX:=Lib.hid ((x01.setCell (p:=⟨w.heap.size,0,none⟩) (Nat.le_refl _) (.slice none 0 0)).setCell (p:=⟨w.heap.size+1,0,none⟩) (by show w.heap.size≤w.heap.size+1;omega) (.bool true))
  clear hemp
  go_wp2_with fail
  exact ⟨.tuple #[.slice none 0 0,.bool true],by simp [results,Tryz.results152,go_sem,q0,q1];try rfl,.inl ⟨[],none,0,HP.out,rfl,OB.nil _ _ _⟩,HX.out⟩
 ·have e1:s.toList.isEmpty=false:=by rw [ByteArray.toList_eq];cases hx:s.data.toList with | nil=>exact absurd hx hemp | cons a b=>rfl
  have e2:s.toList≠[]:=by rw [ByteArray.toList_eq];exact hemp
  have HPG:=Lib.hid (show pgs s.data.toList=allP pu16w (splb 58 [] s.data.toList) by unfold pgs;rw [if_neg hemp])
  have h2:=heap_alloc_new w1 (.cells #[.slice none 0 0] 32)
  have xa:=(Ext.refl w1).alloc (.cells #[.slice none 0 0] 32)
  obtain ⟨wa,hwa⟩:∃ wa,w1.alloc (.cells #[.slice none 0 0] 32)=wa:=⟨_,rfl⟩
  have hza:wa.heap.size=w.heap.size+3:=by rw [← hwa];simp;omega
  rw [hz1'] at h2
  rw [hwa] at h2 xa
  have H0:=Lib.hid (xa.heap h01);have H1:=Lib.hid (xa.heap h1);have H2:=Lib.hid h2;have HXA:=Lib.hid (x01.trans xa);have HZA:=Lib.hid hza
  clear h01 h1 h2 x01 xa hza hemp
  go_wp2_with fail
  refine (SplitSeqB_at 58 s wa).mono ?_
  rintro _ wb ⟨rfl,hit,hzb,hxb⟩
  have hbz:wb.heap.size=w.heap.size+6:=by have:=HZA.out;omega
  have HIT:=Lib.hid hit;have HZB:=Lib.hid hbz;have HXB:=Lib.hid (HXA.out.trans hxb);have H0B:=Lib.hid (hxb.heap H0.out);have H1B:=Lib.hid (hxb.heap H1.out);have H2B:=Lib.hid (hxb.heap H2.out)
  clear hit hzb hxb hbz hwa hw1 H0 H1 H2 e1 e2
  go_wp2_with fail
  refine wpIn_wide.1 (wp_rangeP (gf:=199) (lb:=#[.pointer (some ⟨wa.heap.size+1,0,none⟩),.pointer (some ⟨wa.heap.size,0,none⟩),.pointer (some ⟨wa.heap.size+1+1,0,none⟩)]) rfl (Go.Proofs.enters_of Tryz.func199 (by kernel_rfl) rfl)
   (splitb_iter 58 s (by have:=HS.out;omega) wa.heap.size (wa.heap.size+1) (wa.heap.size+1+1) (by omega) (by omega)) (fun _=>rfl) (fun k hk=>by have:=HZB.out;have:=HZA.out;omega) HIT.out (fun pre=>SbIt.stab _ _ _ _ _ _ _)
   (fun pre W=>PgI w pre W) (fun cd pre W=>PgX s.data.toList w cd W) (fun pre=>PgI.stab HXB.out.size _) (fun cd pre=>PgX.stab HXB.out.size _ _)
   (fun pre X Y r hr hg h=>?_) (fun cd pre X Y r hr hg h=>?_) ⟨_,[],H0B.out,H1B.out,H2B.out,OB.nil _ _ _,rfl,Nat.le_refl _,HXB.out,by have:=HZB.out;omega⟩ ?_ ?_ ?_)
  ·obtain ⟨v,vs,k0,k1,k2,k3,k4,k5,k6,k7⟩:=h
   have hz:=HZA.out
   exact ⟨v,vs,own_farA hr hg (by omega) rfl k0,own_farA hr hg (by omega) rfl k1,own_farA hr hg (by omega) rfl k2,OB.offr hr hg (by omega) k3,k4,k5,own_extA hr hg (by omega) k6,Nat.le_trans k7 hg.size⟩
  ·obtain ⟨k0,k1,k2,k3,k4⟩:=h
   have hz:=HZA.out
   exact ⟨k0,own_farA hr hg (by omega) rfl k1,own_farA hr hg (by omega) rfl k2,k3,own_extA hr hg (by omega) k4⟩
  ·intro L pre x W hL hnL hzW hIW hitW hGW
   gi_wp2_with fail
   refine ⟨KeepsFrom.refl _ _,fun W2 hg2 hn2 hsz2=>?_⟩
   have hI2:=(PgI.stab (B0:=wb.heap.size) HXB.out.size pre) W W2 L hL hn2 hg2 hIW
   have hit2:=(SbIt.stab 58 wb.heap.size s wa.heap.size (wa.heap.size+1) (wa.heap.size+1+1) pre) W W2 L hL hn2 hg2 hitW
   obtain ⟨⟨rest,hrest⟩,hxs⟩:=hGW
   obtain ⟨v,vs,k0,k1,k2,k3,k4,k5,k6,k7⟩:=hI2
   have hx1:x.size≤3000:=Nat.le_trans hxs HS.out
   have HI:=Lib.hid (Parse16_at x hx1 W2 (HE.out.ext k6).env)
   have HR:=Lib.hid hrest;have HIT2:=Lib.hid hit2
   have c0:=(row1 k0).1;have f0:=(row1 k0).2;have c1:=(row1 k1).1;have f1:=(row1 k1).2;have c2:=(row1 k2).1;have f2:=(row1 k2).2
   have K0:=Lib.hid k0;have K1:=Lib.hid k1;have K2:=Lib.hid k2;have K3:=Lib.hid k3;have K4:=Lib.hid k4;have K5:=Lib.hid k5;have K6:=Lib.hid k6;have K7:=Lib.hid k7
   clear hIW hitW hg2 hn2 hnL hit2 hrest hxs hx1 k0 k1 k2 k3 k4 k5 k6 k7 hsz2
   gi_wp2_with fail
   refine wide_callR HI.out ?_
   rintro e W3 ⟨hp,hx3⟩
   have HX3:=Lib.hid hx3
   rcases hp with ⟨n,hn,rfl⟩ | ⟨hn,u,p,rfl⟩
   ·have hn16:(n:Int)≤65535:=by have:=pu16w_le hn;omega
    have hn0:0≤(n:Int):=by omega
    have hq1:(n:Int) / 256≤255:=by omega
    have hx4:=(Ext.refl W3).alloc (.cells #[.int .u8 ((n:Int) / 256),.int .u8 ((n:Int) % 256)] 5)
    have hbs:BS (W3.alloc (.cells #[.int .u8 ((n:Int) / 256),.int .u8 ((n:Int) % 256)] 5)) (.slice (some ⟨W3.heap.size,0,none⟩) 2 2) [UInt8.ofNat (n / 256),UInt8.ofNat (n % 256)]:=
     BS.new' W3 5 [.int .u8 ((n:Int) / 256),.int .u8 ((n:Int) % 256)] _ (by simp only [bv,List.map_cons,List.map_nil,UInt8.toNat_ofNat'];congr 2<;>(try congr 2)<;>omega) 2 rfl (by simp [maxLen])
    have hlen:(bv (wbs vs)).length+2≤140737488355328:=by
     rw [bv_length,wbs_length]
     have h1:=splb_len 58 s.data.toList []
     rw [HR.out,List.length_append,List.length_cons,show (dtb pre).length=pre.length by simp [dtb]] at h1
     have h2:s.data.toList.length=s.size:=by rw [Array.length_toList];rfl
     have:=K5.out;have:=HS.out;omega
    have HBS:=Lib.hid hbs;have HLEN:=Lib.hid hlen;have HX4:=Lib.hid hx4;have HN:=Lib.hid hn
    have hov:=K3.out.ext (HX3.out.trans hx4)
    have HOV:=Lib.hid hov
    have d2:=hx3.cell c2
    have HLT:=Lib.hid (show ∀ j,v.ownBlock=some j→w.heap.size+6≤j from fun j hj=>(K3.out.lt j hj))
    clear hx3 hx4 hbs hlen hn hov c0 f0 c1 f1 c2 f2
    gi_wp2_with (gi_at_builtin;refine wpListIn_append_rs _ rfl (.tmp 20) (.tmp 26) 32 rfl (w.heap.size+6) 5 i0 (.int .u8 0) 1 Tryz.underlying32 hi hz0 hz1 hz2 rfl v (bv (wbs vs)) rfl (by have h:=HOV.out;unfold OB at h;rw [bv_length];exact h) (.slice (some ⟨W3.heap.size,0,none⟩) 2 2) (bv [UInt8.ofNat (n / 256),UInt8.ofNat (n % 256)]) rfl HBS.out (bv_one _) (by have:=HLEN.out;rw [Nat.mul_one];exact this) (by omega) (by have:=K7.out;have:=HX3.out.size;have:=HX4.out.size;omega) ?_;intro v4 w4 hown4 hg4 _;obtain ⟨A4,c4,rfl,_⟩:=(RS.of_own hown4).open_;have HO4:=Lib.hid hown4;have HG4:=Lib.hid hg4;have HC2:=Lib.hid (own_keep hg4 HLT.out (by omega) (HX4.out.heap (HX3.out.heap K2.out)));have k4:=(row1 HC2.out).1;have f4:=(row1 HC2.out).2;clear hown4 hg4)
    have hlt:=HLT.out
    have hx3:=HX3.out.trans HX4.out
    have hob:OB 5 w4 (w.heap.size+6) (.slice A4 ((wbs vs).length+2) c4) (wbs (vs++[n])):=by
     unfold OB
     have hl:(wbs vs++[UInt8.ofNat (n / 256),UInt8.ofNat (n % 256)]).length=(wbs vs).length+2:=by simp
     have hl2:(bv (wbs vs)++bv [UInt8.ofNat (n / 256),UInt8.ofNat (n % 256)]).length=(wbs vs).length+2:=by simp
     have h:=HO4.out
     rw [hl2] at h
     rw [wbs_snoc,bv_append,hl]
     exact h
    refine ⟨((hx3.keepsOthers.trans (own_keepsOthers (by have h:=HOV.out;unfold OB at h;exact h) HG4.out)).trans (KeepsOthers.setCell w4 ⟨w.heap.size+2,0,none⟩ _)).from _,
     ?_,_,vs++[n],?_,?_,row1_set _ HC2.out,hob.setc (k:=w.heap.size+2) (by omega) _,?_,?_,?_,?_⟩
    ·have hz:=HZA.out
     have hit:=HIT2.out
     exact ⟨heap_far (grown_set1 _ _ _) (own_keep HG4.out hlt (by omega) (hx3.heap hit.1)) (by omega),heap_far (grown_set1 _ _ _) (own_keep HG4.out hlt (by omega) (hx3.heap hit.2.1)) (by omega),heap_far (grown_set1 _ _ _) (own_keep HG4.out hlt (by omega) (hx3.heap hit.2.2)) (by omega)⟩
    ·exact heap_far (grown_set1 _ _ _) (own_keep HG4.out hlt (by omega) (hx3.heap K0.out)) (by omega)
    ·exact heap_far (grown_set1 _ _ _) (own_keep HG4.out hlt (by omega) (hx3.heap K1.out)) (by omega)
    ·rw [dtb_snoc];exact allP_one K4.out HN.out
    ·have:=K5.out;simp;omega
    ·exact ((K6.out.trans hx3).grown HG4.out (fun j hj=>by have:=hlt j hj;omega)).setCell (p:=⟨w.heap.size+2,0,none⟩) (by show w.heap.size≤w.heap.size+2;omega) _
    ·have:=K7.out;have:=hx3.size;have:=HG4.out.size;simp;omega
   ·have d0:=hx3.cell c0;have g0:=(row1 (hx3.heap K0.out)).2;have d1:=hx3.cell c1;have g1:=(row1 (hx3.heap K1.out)).2
    have HN:=Lib.hid hn
    clear hx3 c0 f0 c1 f1 c2 f2 hn
    gi_wp2_with fail
    exact ⟨((HX3.out.keepsOthers.trans (KeepsOthers.setCell W3 ⟨w.heap.size,0,none⟩ _)).trans (KeepsOthers.setCell _ ⟨w.heap.size+1,0,none⟩ _)).from _,rfl,
     heap_far (grown_set1 _ _ _) (row1_set _ (HX3.out.heap K0.out)) (by omega),row1_set _ (heap_far (grown_set1 _ _ _) (HX3.out.heap K1.out) (by omega)),by rw [HR.out];exact allP_bad rest K4.out HN.out,
     ((K6.out.trans HX3.out).setCell (p:=⟨w.heap.size,0,none⟩) (Nat.le_refl _) _).setCell (p:=⟨w.heap.size+1,0,none⟩) (by show w.heap.size≤w.heap.size+1;omega) _⟩
  ·intro D xs W hDw hS hIW hD
   obtain ⟨v,vs,k0,k1,k2,k3,k4,k5,k6,k7⟩:=hIW
   have hz:=HZB.out
   obtain ⟨A,c,rfl⟩:=k3.shape
   have c0:=(row1 k0).1;have f0:=(row1 k0).2;have c1:=(row1 k1).1;have f1:=(row1 k1).2;have c2:=(row1 k2).1
   have hd2:((W.setCell ⟨w.heap.size,0,none⟩ (.slice A (wbs vs).length c)).setCell ⟨w.heap.size+1,0,none⟩ (.bool true)).heap[D]? = some (.deferred (some [])):=
    heap_far (grown_set1 _ _ _) (heap_far (grown_set1 _ _ _) hD (by omega)) (by omega)
   have r0:=(row1 (heap_far (grown_put (o':=.deferred none) hd2) (heap_far (grown_set1 _ (w.heap.size+1) (.bool true)) (row1_set (.slice A (wbs vs).length c) k0) (by omega)) (by omega))).1
   have r1:=(row1 (heap_far (grown_put (o':=.deferred none) hd2) (row1_set (.bool true) (heap_far (grown_set1 _ w.heap.size (.slice A (wbs vs).length c)) k1 (by omega))) (by omega))).1
   have HXF:=Lib.hid (Ext.of_grown ((k6.setCell (p:=⟨w.heap.size,0,none⟩) (Nat.le_refl _) (.slice A (wbs vs).length c)).setCell (p:=⟨w.heap.size+1,0,none⟩) (by show w.heap.size≤w.heap.size+1;omega) (.bool true)) (grown_put (o':=.deferred none) hd2) (by omega))
   have HOF:=Lib.hid ((((k3.setc (k:=w.heap.size) (by omega) (.slice A (wbs vs).length c)).setc (k:=w.heap.size+1) (by omega) (.bool true)).put (o:=.deferred none) hd2 rfl).mono (B':=w.heap.size) (by omega))
   have HP:=Lib.hid (show pgs s.data.toList=some vs by rw [HPG.out,← hS];exact k4)
   have HD2:=Lib.hid hd2;have R0:=Lib.hid r0;have R1:=Lib.hid r1
   clear k0 k1 k2 k3 k4 k5 k6 k7 hd2 r0 r1 hD hS hz hDw
   go_wp2_with fail
   refine ⟨by simp,.inl ⟨_,_,rfl,run_takeDeferred HD2.out,?_⟩⟩
   have q0:=R0.out;have q1:=R1.out
   exact ⟨.tuple #[.slice A (wbs vs).length c,.bool true],by simp [results,Tryz.results152,go_sem,q0,q1];try rfl,.inl ⟨vs,A,c,HP.out,rfl,HOF.out⟩,HXF.out⟩
  ·rintro D cd pre W hDw hS ⟨rfl,k0,k1,k2,k3⟩ hD
   have hz:=HZB.out
   have r0:=(row1 (heap_far (grown_put (o':=.deferred none) hD) k0 (by omega))).1
   have r1:=(row1 (heap_far (grown_put (o':=.deferred none) hD) k1 (by omega))).1
   have HXF:=Lib.hid (Ext.of_grown k3 (grown_put (o':=.deferred none) hD) (by omega))
   have HP:=Lib.hid (show pgs s.data.toList=none by rw [HPG.out];exact k2)
   have HD2:=Lib.hid hD;have R0:=Lib.hid r0;have R1:=Lib.hid r1
   clear k0 k1 k2 k3 r0 r1 hD hS hz hDw
   gi_wp2_with fail
   go_wp2_with fail
   refine ⟨by simp,.inl ⟨_,_,rfl,run_takeDeferred HD2.out,?_⟩⟩
   have q0:=R0.out;have q1:=R1.out
   exact ⟨.tuple #[.slice none 0 0,.bool false],by simp [results,Tryz.results152,go_sem,q0,q1];try rfl,.inr ⟨HP.out,rfl⟩,HXF.out⟩
end Go.Proofs.YtnjmndofcpnmeaaGreatDoor
