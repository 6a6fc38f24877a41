/- Pc6. -/
import Derived.Test.YtnjmndofcpnmeaaGreatDoorPc0
import Derived.Test.YtnjmndofcpnmeaaGreatDoorPc3
import Derived.Test.YtnjmndofcpnmeaaGreatDoorPc4
import Derived.Test.YtnjmndofcpnmeaaGreatDoorPc5
import Derived.Test.YtnjmndofcpnmeaaGreatDoorShelf
import Derived.Lib.IndexLaws
import Derived.RangeFuncBound
import Derived.RangeFuncCalls
import Derived.OwnWalkIn
import Derived.TacticsInMore
import Derived.LoopNIn
import Derived.LoopIn
namespace Go.Proofs.YtnjmndofcpnmeaaGreatDoor
open Go Go.RowKit
set_option linter.unusedVariables false
def rst (s:ByteArray):Nat→ByteArray
 | 0=>s
 | k+1=>(rst s k).extract ((Lib.indexByte (rst s k).data.toList 46).toNat+1) (rst s k).size
theorem rst_size (s:ByteArray):∀ k,(rst s k).size≤s.size
 | 0=>Nat.le_refl _
 | k+1=>by
  have:=rst_size s k
  rw [rst,ByteArray.size_extract];omega
theorem dot_none {l:List UInt8}(h:Lib.indexByte l 46 = -1):spl [] l=[l]:=by
 rw [spl_acc l [] (fun c hc e=>by
  obtain ⟨k,hk,rfl⟩:=List.getElem_of_mem hc
  exact Lib.indexByte_none h k (by rw [List.getElem?_eq_getElem hk,Option.some.injEq];exact u8_of (n:=46) (by omega) e))]
 rfl
theorem dot_some {l:List UInt8}{o:Nat}(h:Lib.indexByte l 46=o):o<l.length∧spl [] l=l.take o::spl [] (l.drop (o+1)):=by
 obtain ⟨h1,h2⟩:=Lib.indexByte_some h
 have hlt:=(List.getElem?_eq_some_iff.1 h1).1
 refine ⟨hlt,?_⟩
 have he:l=l.take o++46::l.drop (o+1):=by
  have h3:=(List.getElem?_eq_some_iff.1 h1).2
  conv=>lhs;rw [← List.take_append_drop o l,List.drop_eq_getElem_cons hlt,h3]
 conv=>lhs;rw [he]
 rw [spl_hit _ [] _ (fun c hc e=>by
  obtain ⟨k,hk,hk2⟩:=List.getElem_of_mem hc
  have hk3:k<o:=by simp at hk;omega
  rw [List.getElem_take] at hk2
  refine h2 k hk3 ?_
  rw [List.getElem?_eq_getElem (by omega),hk2,Option.some.injEq]
  exact u8_of (n:=46) (by omega) e)]
 rfl
theorem index_dot (s:ByteArray)(w:World):Calls Tryz.prog 161 #[.string s,.string ⟨#[46]⟩] w fun e w'=>e=.returned (.int .i64 (Lib.indexByte s.data.toList 46))∧w=w':=
 (Tryz.strings_Index_one s 46 w).mono fun e w' h=>⟨h.1,h.2.symm⟩
theorem extract_drop (s:ByteArray)(o:Nat):(s.extract o s.size).data.toList=s.data.toList.drop o:=by
 simp only [ByteArray.data_extract,Array.toList_extract,List.extract_eq_take_drop]
 exact List.take_of_length_le (by rw [List.length_drop,size_list];omega)
def SpIt (s:ByteArray)(bs bp bv:Nat)(pre:List ByteArray)(W:World):Prop:=
 W.heap[bs]? = some (.cells #[.string (rst s pre.length)] 9 (0,0))∧W.heap[bp]? = some (.cells #[.string ⟨#[46]⟩] 9 (0,0))∧W.heap[bv]? = some (.cells #[.int .i64 0] 3 (0,0))
theorem SpIt.stab (B0:Nat)(s:ByteArray)(bs bp bv:Nat)(pre:List ByteArray):Stab B0 (SpIt s bs bp bv pre):=(Stab.heap _ _ _ _).and ((Stab.heap _ _ _ _).and (Stab.heap _ _ _ _))
theorem SpIt.ext {s:ByteArray}{bs bp bv:Nat}{pre:List ByteArray}{W W':World}(h:SpIt s bs bp bv pre W)(hx:Ext W W'):SpIt s bs bp bv pre W':=⟨hx.heap h.1,hx.heap h.2.1,hx.heap h.2.2⟩
def dat (xs:List ByteArray):List (List UInt8):=xs.map (·.data.toList)
def SpG (s:ByteArray)(pre:List ByteArray)(x:ByteArray)(_:World):Prop:=(∃ rest,spl [] s.data.toList=dat pre++x.data.toList::rest)∧x.size≤s.size
def strsz (v:Option Value):Nat:=match v with | some (.string b)=>b.size | _=>0
attribute [local go_sem] Oper.semAt_some
set_option maxRecDepth 100000 in
set_option maxHeartbeats 2000000 in
theorem split_iter (s:ByteArray) (hs:s.size≤4294967280) (bs bp bv:Nat) (h1:bs≠bp) (h2:bs≠bv):
  IterP Tryz.prog 199 #[.pointer (some ⟨bp,0,none⟩),.pointer (some ⟨bs,0,none⟩),.pointer (some ⟨bv,0,none⟩)] (fun x=>#[.string x]) (SpIt s bs bp bv) (SpG s) (fun k=>k=bs) (fun xs=>dat xs=spl [] s.data.toList) (fun pre=>∃ rest,spl [] s.data.toList=dat pre++rest):=by
 intro lp J Jx W hJ hJx hY hit h0
 refine callsIn_of_wp Tryz.func199 rfl trivial ?_ rfl
 simp only [Tryz.ntmps199,List.size_toArray,List.length_cons,List.length_nil,Nat.reduceAdd,Nat.reduceSub,Array.replicate_succ,Array.replicate_zero,List.push_toArray,List.append_toArray,List.nil_append,List.cons_append]
 have k1:W.cell? ⟨bp,0,none⟩=some (.string ⟨#[46]⟩):=by rw [cell_of_row _ _ 0 _ _ (0,0) hit.2.1];rfl
 gi_wp2
 gi_loopw [7] (fun _ wr=>∃ pre:List ByteArray,J pre wr∧SpIt s bs bp bv pre wr∧spl [] s.data.toList=dat pre++spl [] (rst s pre.length).data.toList) (fun _ wr=>strsz (wr.cell? ⟨bs,0,none⟩))
 case atStart=>exact ⟨[],h0,hit,rfl⟩
 case round=>
  obtain ⟨pre,hj,hi,he⟩:=hrel
  have hz:=rst_size s pre.length
  obtain ⟨cur,hcur⟩:∃ cur,rst s pre.length=cur:=⟨_,rfl⟩
  have c0:wr.cell? ⟨bs,0,none⟩=some (.string cur):=by rw [cell_of_row _ _ 0 _ _ (0,0) hi.1,← hcur];rfl
  have c1:wr.cell? ⟨bp,0,none⟩=some (.string ⟨#[46]⟩):=by rw [cell_of_row _ _ 0 _ _ (0,0) hi.2.1];rfl
  have c2:wr.cell? ⟨bv,0,none⟩=some (.int .i64 0):=by rw [cell_of_row _ _ 0 _ _ (0,0) hi.2.2];rfl
  rw [hcur] at he hz
  have HI:=Lib.hid hi;have HE:=Lib.hid he;have HC:=Lib.hid hcur;have HJ:=Lib.hid hj
  have hcs:cur.size≤4294967280:=by omega
  clear hi he hcur hj hz k1
  have hge:=Lib.indexByte_ge cur.data.toList 46
  obtain ⟨o,ho⟩:∃ o,Lib.indexByte cur.data.toList 46=o:=⟨_,rfl⟩
  have HIX:=Lib.hid (index_dot cur wr)
  rw [ho] at hge HIX
  have HO:=Lib.hid ho;clear ho
  rcases (show o = -1∨∃ k:Nat,o=k by exact if h:o = -1 then .inl h else .inr ⟨o.toNat,by omega⟩) with rfl | ⟨k,rfl⟩
  ·have hsp:=dot_none HO.out
   have HS:=Lib.hid (show spl [] s.data.toList=dat pre++[cur.data.toList] by rw [HE.out,hsp])
   clear hsp
   gi_wp2_with fail
   refine wide_call HIX.out ?_
   rintro e w' ⟨rfl,rfl⟩
   obtain ⟨fn,tmps,assign,body,hy,hR⟩:=hY pre cur wr HJ.out HI.out ⟨⟨[],HS.out⟩,by rw [← HC.out];exact rst_size _ _⟩
   gi_wp2_with fail
   refine ⟨rfl,hR.mono ?_⟩
   rintro e W3 (⟨rfl,hJ3,hI3⟩ | ⟨rfl,hJx3⟩)
   ·gi_wp2_with fail
    first | go_end0 | refine bodyPost_ret (results_none rfl _ _ _) rfl ?_
    exact ⟨⟨_,rfl⟩,.inl ⟨_,by rw [HS.out];simp [dat],hJ3⟩⟩
   ·gi_wp2_with fail
    first | go_end0 | refine bodyPost_ret (results_none rfl _ _ _) rfl ?_
    exact ⟨⟨_,rfl⟩,.inr ⟨_,⟨[],by rw [HS.out];simp [dat]⟩,hJx3⟩⟩
  ·obtain ⟨hko,hsp⟩:=dot_some HO.out
   rw [size_list] at hko
   have HS:=Lib.hid (show spl [] s.data.toList=dat (pre++[cur.extract 0 k])++spl [] (cur.extract (k+1) cur.size).data.toList by rw [HE.out,hsp,extract_drop];simp [dat])
   have HR:=Lib.hid (show rst s (pre++[cur.extract 0 k]).length=cur.extract (k+1) cur.size by
    rw [List.length_append,List.length_singleton,rst,HC.out,HO.out];rfl)
   clear hsp
   gi_wp2_with fail
   refine wide_call HIX.out ?_
   rintro e w' ⟨rfl,rfl⟩
   obtain ⟨fn,tmps,assign,body,hy,hR⟩:=hY pre (cur.extract 0 k) wr HJ.out HI.out ⟨⟨spl [] (cur.extract (k+1) cur.size).data.toList,by rw [HS.out];simp [dat]⟩,by have:=rst_size s pre.length;rw [HC.out] at this;rw [ByteArray.size_extract];omega⟩
   gi_wp2_with fail
   refine ⟨rfl,hR.mono ?_⟩
   rintro e W3 (⟨rfl,hJ3,hI3⟩ | ⟨rfl,hJx3⟩)
   ·have c3:W3.cell? ⟨bs,0,none⟩=some (.string cur):=by rw [cell_of_row _ _ 0 _ _ (0,0) hI3.1,← HC.out];rfl
    have c4:W3.cell? ⟨bp,0,none⟩=some (.string ⟨#[46]⟩):=by rw [cell_of_row _ _ 0 _ _ (0,0) hI3.2.1];rfl
    have f3:W3.frozen? ⟨bs,0,none⟩=false:=frozen_of_row W3 bs 0 _ _ hI3.1
    have HI3:=Lib.hid hI3;have HJ3:=Lib.hid hJ3;clear hI3 hJ3
    gi_wp2_with fail
    go_roundw
    case rel=>
     have hg:=grown_set1 W3 bs (.string (cur.extract (k+1) cur.size))
     refine ⟨pre++[cur.extract 0 k],hJ _ _ _ _ (fun j hj=>by cases hj;rfl) hg HJ3.out,⟨?_,heap_far hg HI3.out.2.1 (Ne.symm h1),heap_far hg HI3.out.2.2 (Ne.symm h2)⟩,?_⟩
     ·rw [HR.out]
      exact row1_set _ HI3.out.1
     ·rw [HR.out];exact HS.out
    case measure=>
     have e1:(W3.setCell ⟨bs,0,none⟩ (.string (cur.extract (k+1) cur.size))).cell? ⟨bs,0,none⟩=some (.string (cur.extract (k+1) cur.size)):=(row1 (row1_set _ HI3.out.1)).1
     rw [e1,c0]
     simp only [strsz,ByteArray.size_extract]
     omega
   ·gi_wp2_with fail
    first | go_end0 | refine bodyPost_ret (results_none rfl _ _ _) rfl ?_
    exact ⟨⟨_,rfl⟩,.inr ⟨_,⟨_,HS.out⟩,hJx3⟩⟩
theorem SplitSeq_at (s:ByteArray) (w:World):
  Calls Tryz.prog 108 #[.string s,.string ⟨#[46]⟩] w fun e w'=>e=.returned (.func (.func 199) #[] #[.pointer (some ⟨w.heap.size+1,0,none⟩),.pointer (some ⟨w.heap.size,0,none⟩),.pointer (some ⟨w.heap.size+1+1,0,none⟩)]) ∧
   SpIt s w.heap.size (w.heap.size+1) (w.heap.size+1+1) [] w'∧w'.heap.size=w.heap.size+3∧Ext w w':=by
 have hmf:∀ (fn:Fn) (first cap:Array Value) (w:World),(Instr.makeFunc fn first cap).run Tryz.prog w=.ok (.func fn first cap) w:=fun _ _ _ _=>rfl
 have hin:Calls Tryz.prog 156 #[.string s,.string ⟨#[46]⟩,.int .i64 0] w fun e w'=>e=.returned (.func (.func 199) #[] #[.pointer (some ⟨w.heap.size+1,0,none⟩),.pointer (some ⟨w.heap.size,0,none⟩),.pointer (some ⟨w.heap.size+1+1,0,none⟩)]) ∧
   SpIt s w.heap.size (w.heap.size+1) (w.heap.size+1+1) [] w'∧w'.heap.size=w.heap.size+3∧Ext w w':=by
  go_enter Tryz.func156,Tryz.ntmps156
  go_wp2
  go_ret
  have x1:=(Ext.refl w).alloc (.cells #[.string s] 9)
  have x2:=(Ext.refl (w.alloc (.cells #[.string s] 9))).alloc (.cells #[.string ⟨#[46]⟩] 9)
  have x3:=(Ext.refl ((w.alloc (.cells #[.string s] 9)).alloc (.cells #[.string ⟨#[46]⟩] 9))).alloc (.cells #[.int .i64 0] 3)
  have a1:=heap_alloc_new w (.cells #[.string s] 9)
  have a2:=heap_alloc_new (w.alloc (.cells #[.string s] 9)) (.cells #[.string ⟨#[46]⟩] 9)
  have a3:=heap_alloc_new ((w.alloc (.cells #[.string s] 9)).alloc (.cells #[.string ⟨#[46]⟩] 9)) (.cells #[.int .i64 0] 3)
  rw [World.size_alloc] at a2
  rw [World.size_alloc,World.size_alloc] at a3
  exact ⟨rfl,⟨(x2.trans x3).heap a1,x3.heap a2,a3⟩,by simp,(x1.trans x2).trans x3⟩
 have HIN:=Lib.hid hin;clear hin
 go_enter Tryz.func108,Tryz.ntmps108
 go_wp2_with fail
 refine HIN.out.mono ?_
 rintro e w1 ⟨rfl,hit,hsz,hx⟩
 go_wp2_with fail
 go_ret
 exact ⟨rfl,hit,hsz,hx⟩
end Go.Proofs.YtnjmndofcpnmeaaGreatDoor
namespace Go.Proofs.YtnjmndofcpnmeaaGreatDoor
open Go Go.RowKit
set_option linter.unusedVariables false
theorem okc_yes {c:UInt8}(h:65≤(c.toNat:Int)∧(c.toNat:Int)≤90∨48≤(c.toNat:Int)∧(c.toNat:Int)≤57∨(c.toNat:Int)=45):okc c=true:=by unfold okc;exact decide_eq_true (by omega)
theorem okc_no {c:UInt8}(h:¬ (65≤(c.toNat:Int)∧(c.toNat:Int)≤90∨48≤(c.toNat:Int)∧(c.toNat:Int)≤57∨(c.toNat:Int)=45)):okc c=false:=by unfold okc;exact decide_eq_false (by omega)
theorem realm_bad {s:ByteArray}{pre:List ByteArray}{x:ByteArray}{rest:List (List UInt8)}(h:spl [] s.data.toList=dat pre++x.data.toList::rest)(hb:labelB x.data.toList=false):realmB s.data.toList=false:=by
 rw [realm_labels,h,List.all_append,List.all_cons,hb]
 simp
theorem label_empty {x:ByteArray}(h:x.data.toList=[]):labelB x.data.toList=false:=by rw [h];rfl
theorem label_no {x:ByteArray}(h:x.data.toList.all okc=false):labelB x.data.toList=false:=by unfold labelB;rw [h,Bool.and_false]
theorem label_yes {x:ByteArray}(h0:x.data.toList≠[])(h:x.data.toList.all okc=true):labelB x.data.toList=true:=by
 unfold labelB
 rw [h,Bool.and_true]
 cases hx:x.data.toList with
 | nil=>exact absurd hx h0
 | cons a b=>rfl
def RlI (w:World)(pre:List ByteArray)(W:World):Prop:=W.heap[w.heap.size]? = some (.cells #[.bool false] 4 (0,0))∧(dat pre).all labelB=true∧Ext w W
def RlX (s:ByteArray)(w:World)(c:Code)(W:World):Prop:=c=.ret∧realmB s.data.toList=false∧W.heap[w.heap.size]? = some (.cells #[.bool false] 4 (0,0))∧Ext w W
theorem RlI.stab {B0:Nat}{w:World}(h:w.heap.size≤B0)(pre:List ByteArray):Stab B0 (RlI w pre):=(Stab.heap _ _ _ _).and ((Stab.pure _).and (Stab.ext w h))
theorem RlX.stab {B0:Nat}{w:World}(h:w.heap.size≤B0)(s:ByteArray)(c:Code):Stab B0 (RlX s w c):=(Stab.pure _).and ((Stab.pure _).and ((Stab.heap _ _ _ _).and (Stab.ext w h)))
theorem own_far {A B:World}{r:Option Nat}{b n k:Nat}{o:Obj}(hr:∀ k,r=some k→k=b)(hg:A.grownBy B r)(hb:n<b)(hk:k=n)(h:A.heap[k]? = some o):B.heap[k]? = some o:=
 (hg.block k (Array.getElem?_eq_some_iff.1 h).1 (fun e=>by have:=hr k e.symm;omega)).trans h
theorem own_ext {w A B:World}{r:Option Nat}{b:Nat}(hr:∀ k,r=some k→k=b)(hg:A.grownBy B r)(hb:w.heap.size≤b)(h:Ext w A):Ext w B:=h.grown hg (fun k hk=>by have:=hr k hk;omega)
attribute [local go_sem] Oper.semAt_some
set_option maxRecDepth 100000 in
set_option maxHeartbeats 4000000 in
theorem Realm_at (s:ByteArray) (hs:s.size≤4294967280) (w:World):
  Calls Tryz.prog 134 #[.string s] w fun e w'=>e=.returned (.bool (realmB s.data.toList))∧Ext w w':=by
 have HS:=Lib.hid hs
 obtain ⟨b,hb⟩:∃ b,realmB s.data.toList=b:=⟨_,rfl⟩
 have HB:=Lib.hid hb
 rw [hb];clear hb
 have hxa:=(Ext.refl w).alloc (.cells #[.bool false] 4)
 have ga:=heap_alloc_new w (.cells #[.bool false] 4)
 obtain ⟨wa,hwa⟩:∃ wa,wa=w.alloc (.cells #[.bool false] 4):=⟨_,rfl⟩
 have hza:wa.heap.size=w.heap.size+1:=by rw [hwa];simp
 rw [← hwa] at hxa ga
 refine calls_of_marks Tryz.func134 rfl ?_
 simp only [Tryz.ntmps134,List.size_toArray,List.length_cons,List.length_nil,Nat.reduceAdd,Nat.reduceSub,Array.replicate_succ,Array.replicate_zero,List.push_toArray,List.append_toArray,List.nil_append,List.cons_append]
 go_wp2_with fail
 rw [← hwa]
 clear hwa
 refine (sized_at s wa).mono ?_
 rintro e w' ⟨rfl,rfl⟩
 have k0:=(row1 ga).1
 have f0:=(row1 ga).2
 have HGA:=Lib.hid ga;have HXA:=Lib.hid hxa;clear ga hxa
 cases hsz:sizedB s.data.toList with
 | false=>
  have HZ:=Lib.hid hsz;clear hsz
  go_wp2_with fail
  have hcf:=(row1 (row1_set (.bool false) HGA.out)).1
  have hxf:=HXA.out.setCell (p:=⟨w.heap.size,0,none⟩) (Nat.le_refl _) (.bool false)
  have hrb:b=false:=by rw [← HB.out];unfold realmB;rw [HZ.out];rfl
  rw [hrb]
  exact ⟨.bool false,by simp [results,Tryz.results134,go_sem,hcf],rfl,hxf⟩
 | true=>
  have HZ:=Lib.hid hsz;clear hsz
  go_wp2_with fail
  refine (SplitSeq_at s wa).mono ?_
  rintro e wb ⟨rfl,hit,hzb,hxb⟩
  rw [hza] at hit ⊢
  have gb:=hxb.heap HGA.out
  have HGB:=Lib.hid gb;have HXB:=Lib.hid (HXA.out.trans hxb);have HIT:=Lib.hid hit;have HZB:=Lib.hid hzb;have HZA:=Lib.hid hza
  clear gb hxb hit k0 f0 hza
  go_wp2_with fail
  have HE1:=Lib.hid (show w.heap.size+1≠w.heap.size+1+1 by omega)
  refine wpIn_wide.1 (wp_rangeP (gf:=199) (lb:=#[.pointer (some ⟨w.heap.size+1+1,0,none⟩),.pointer (some ⟨w.heap.size+1,0,none⟩),.pointer (some ⟨w.heap.size+1+1+1,0,none⟩)]) rfl (Go.Proofs.enters_of Tryz.func199 (by kernel_rfl) rfl)
   (split_iter s HS.out (w.heap.size+1) (w.heap.size+1+1) (w.heap.size+1+1+1) (by omega) (by omega)) (fun _=>rfl) (fun k hk=>by have:=HZB.out;have:=HZA.out;omega) HIT.out (fun pre=>SpIt.stab _ _ _ _ _ _)
   (fun pre W=>RlI w pre W) (fun cd pre W=>RlX s w cd W) (fun pre=>RlI.stab HXB.out.size _) (fun cd pre=>RlX.stab HXB.out.size _ _)
   (fun pre X Y r hr hg h=>⟨own_far hr hg (by omega) rfl h.1,h.2.1,own_ext hr hg (by omega) h.2.2⟩)
   (fun cd pre X Y r hr hg h=>⟨h.1,h.2.1,own_far hr hg (by omega) rfl h.2.2.1,own_ext hr hg (by omega) h.2.2.2⟩)
   ⟨HGB.out,by simp [dat],HXB.out⟩ ?_ ?_ ?_)
  ·intro L pre x W hL hnL hzW hIW hitW hGW
   gi_wp2_with fail
   refine ⟨KeepsFrom.refl _ _,fun W2 hg2 hn2 hz2=>?_⟩
   have hI2:=(RlI.stab (B0:=wb.heap.size) HXB.out.size pre) W W2 L hL hn2 hg2 hIW
   have hit2:=(SpIt.stab wb.heap.size s (w.heap.size+1) (w.heap.size+1+1) (w.heap.size+1+1+1) pre) W W2 L hL hn2 hg2 hitW
   obtain ⟨⟨rest,hrest⟩,hxs⟩:=hGW
   have hxs2:x.size≤4294967280:=Nat.le_trans hxs HS.out
   have HR:=Lib.hid hrest;have HI2:=Lib.hid hI2;have HIT2:=Lib.hid hit2
   have k0:=(row1 hI2.1).1;have f0:=(row1 hI2.1).2
   clear hIW hitW hg2 hn2 hnL hI2 hit2 hrest hxs
   have hbad:labelB x.data.toList=false→RlX s w .ret (W2.setCell ⟨w.heap.size,0,none⟩ (.bool false)):=fun h=>
    ⟨rfl,realm_bad HR.out h,row1_set _ HI2.out.1,HI2.out.2.2.setCell (p:=⟨w.heap.size,0,none⟩) (Nat.le_refl _) _⟩
   have HBD:=Lib.hid hbad;clear hbad
   by_cases hemp:x.data.toList=[]
   ·have e1:x.toList=[]:=by rw [ByteArray.toList_eq];exact hemp
    have HBAD:=Lib.hid (HBD.out (label_empty hemp));clear hemp
    gi_wp2_with fail
    exact ⟨(KeepsOthers.setCell W2 ⟨w.heap.size,0,none⟩ (.bool false)).from _,HBAD.out⟩
   ·have e1:x.toList.isEmpty=false:=by rw [ByteArray.toList_eq];cases hx:x.data.toList with | nil=>exact absurd hx hemp | cons a b=>rfl
    have e2:x.toList≠[]:=by rw [ByteArray.toList_eq];exact hemp
    have HNE:=Lib.hid hemp;clear hemp
    gi_wp2_with fail
    gi_loopw [4,5,16] (fun _ _ i wr=>∃ k:Nat,k≤x.size∧i=.int .i64 k∧(x.data.toList.take k).all okc=true∧wr=W2) (fun _ _ i _=>x.size-(intOf i).toNat)
    case atStart=>exact ⟨0,Nat.zero_le _,rfl,by simp,rfl⟩
    case round=>
     obtain ⟨k,hk,rfl,hall,rfl⟩:=hrel
     have HA:=Lib.hid hall;clear hall
     by_cases hlt:k<x.size
     ·rcases (show (x[k].toNat:Int)<48∧(x[k].toNat:Int)≠45∨(x[k].toNat:Int)=45∨(48≤(x[k].toNat:Int)∧(x[k].toNat:Int)≤57)∨(57<(x[k].toNat:Int)∧(x[k].toNat:Int)<65)∨(65≤(x[k].toNat:Int)∧(x[k].toNat:Int)≤90)∨90<(x[k].toNat:Int) by omega) with ⟨g1,g2⟩ | g1 | ⟨g1,g2⟩ | ⟨g1,g2⟩ | ⟨g1,g2⟩ | g1
      ·have g3:(x[k].toNat:Int)<65:=by omega
       have g4:((x[k].toNat:Int)==45)=false:=by rw [beq_eq_false_iff_ne];exact g2
       have HBAD:=Lib.hid (HBD.out (label_no (all_take_no hlt (okc_no (by omega)))))
       gi_wp2_with fail
       exact ⟨(KeepsOthers.setCell wr ⟨w.heap.size,0,none⟩ (.bool false)).from _,HBAD.out⟩
      ·have g3:(x[k].toNat:Int)<65:=by omega
       have g5:(x[k].toNat:Int)<48:=by omega
       have g4:((x[k].toNat:Int)==45)=true:=by rw [g1];rfl
       have HY:=Lib.hid (all_take_yes hlt HA.out (okc_yes (by omega)))
       clear g1
       gi_wp2_with fail
       go_roundw
       case rel=>exact ⟨k+1,by omega,by go_num,HY.out,trivial⟩
       case measure=>simp [intOf];omega
      ·have g3:(x[k].toNat:Int)<65:=by omega
       have HY:=Lib.hid (all_take_yes hlt HA.out (okc_yes (by omega)))
       gi_wp2_with fail
       go_roundw
       case rel=>exact ⟨k+1,by omega,by go_num,HY.out,trivial⟩
       case measure=>simp [intOf];omega
      ·have g3:48≤(x[k].toNat:Int):=by omega
       have g4:((x[k].toNat:Int)==45)=false:=by rw [beq_eq_false_iff_ne];omega
       have HBAD:=Lib.hid (HBD.out (label_no (all_take_no hlt (okc_no (by omega)))))
       gi_wp2_with fail
       exact ⟨(KeepsOthers.setCell wr ⟨w.heap.size,0,none⟩ (.bool false)).from _,HBAD.out⟩
      ·have HY:=Lib.hid (all_take_yes hlt HA.out (okc_yes (by omega)))
       gi_wp2_with fail
       go_roundw
       case rel=>exact ⟨k+1,by omega,by go_num,HY.out,trivial⟩
       case measure=>simp [intOf];omega
      ·have g2:65≤(x[k].toNat:Int):=by omega
       have g3:48≤(x[k].toNat:Int):=by omega
       have g5:57<(x[k].toNat:Int):=by omega
       have g4:((x[k].toNat:Int)==45)=false:=by rw [beq_eq_false_iff_ne];omega
       have HBAD:=Lib.hid (HBD.out (label_no (all_take_no hlt (okc_no (by omega)))))
       gi_wp2_with fail
       exact ⟨(KeepsOthers.setCell wr ⟨w.heap.size,0,none⟩ (.bool false)).from _,HBAD.out⟩
     ·have hfull:x.data.toList.all okc=true:=by
       have:=HA.out
       rwa [List.take_of_length_le (by rw [size_list];omega)] at this
      have HL:=Lib.hid (label_yes HNE.out hfull);clear hfull
      gi_wp2_with fail
      exact ⟨KeepsFrom.refl _ _,HIT2.out,HI2.out.1,by rw [show dat (pre++[x])=dat pre++[x.data.toList] by simp [dat],List.all_append,HI2.out.2.1];simp [HL.out],HI2.out.2.2⟩
  ·intro D xs W hDw hS hIW hD
   have hxs:(spl [] s.data.toList).all labelB=true:=by rw [← hS];exact hIW.2.1
   have hrb:b=true:=by rw [← HB.out,realm_labels,HZ.out,hxs];rfl
   have hDn:w.heap.size<D:=by have:=HZB.out;have:=HZA.out;omega
   have k0:=(row1 hIW.1).1;have f0:=(row1 hIW.1).2
   have hg:=grown_set1 W w.heap.size (.bool true)
   have hD2:=heap_far hg hD (by omega)
   have c2:=row1_set (.bool true) hIW.1
   have hx2:=hIW.2.2.setCell (p:=⟨w.heap.size,0,none⟩) (Nat.le_refl _) (.bool true)
   obtain ⟨Ws,hWs⟩:∃ Ws,W.setCell ⟨w.heap.size,0,none⟩ (.bool true)=Ws:=⟨_,rfl⟩
   rw [hWs] at hD2 c2 hx2
   have HD2:=Lib.hid hD2;have HC2:=Lib.hid c2;have HX2:=Lib.hid hx2;have HRB:=Lib.hid hrb
   clear hIW hD hg hD2 c2 hx2 hxs hrb hS
   go_wp2_with fail
   have h4p:(Ws.putObj D (.deferred none)).heap[w.heap.size]? = some (.cells #[.bool true] 4 (0,0)):=(World.putObj_heap_other (by omega)).trans HC2.out
   have hxp:Ext w (Ws.putObj D (.deferred none)):=Ext.of_grown HX2.out (grown_put HD2.out) (by omega)
   have hcp:=(row1 h4p).1
   refine ⟨by simp,.inl ⟨_,_,rfl,run_takeDeferred HD2.out,?_⟩⟩
   rw [HRB.out]
   exact ⟨.bool true,by simp [results,Tryz.results134,go_sem,hcp],rfl,hxp⟩
  ·rintro D cd pre W hDw hS ⟨rfl,hrf,hc,hx⟩ hD
   refine wpIn_wide.2 ?_
   have hDn:w.heap.size<D:=by have:=HZB.out;have:=HZA.out;omega
   have hrb:b=false:=by rw [← HB.out];exact hrf
   have HRB:=Lib.hid hrb
   have h4p:(W.putObj D (.deferred none)).heap[w.heap.size]? = some (.cells #[.bool false] 4 (0,0)):=(World.putObj_heap_other (by omega)).trans hc
   have hxp:Ext w (W.putObj D (.deferred none)):=Ext.of_grown hx (grown_put hD) (by omega)
   have HD:=Lib.hid hD;have HXP:=Lib.hid hxp;have H4P:=Lib.hid h4p
   clear hD hxp h4p hx hc hrf hrb hS
   go_wp2_with fail
   have hcp:=(row1 H4P.out).1
   refine ⟨by simp,.inl ⟨_,_,rfl,run_takeDeferred HD.out,?_⟩⟩
   rw [HRB.out]
   exact ⟨.bool false,by simp [results,Tryz.results134,go_sem,hcp],rfl,HXP.out⟩
end Go.Proofs.YtnjmndofcpnmeaaGreatDoor
namespace Go.Proofs.YtnjmndofcpnmeaaGreatDoor
open Go Go.RowKit
set_option linter.unusedVariables false
def sv (ps:List ByteArray):List Value:=ps.map Value.string
theorem sv_length (ps:List ByteArray):(sv ps).length=ps.length:=by simp [sv]
theorem sv_get (ps:List ByteArray)(k:Nat)(h:k<ps.length):(sv ps)[k]? = some (.string ps[k]):=by simp [sv,h]
theorem dat_length (ps:List ByteArray):(dat ps).length=ps.length:=by simp [dat]
def PB (w:World)(g:Nat)(v:Value)(r:ByteArray):Prop:=w.heap[g]? = some (.cells #[v,.string r] 37 (0,0))
theorem PB.cells {w:World}{g:Nat}{v:Value}{r:ByteArray}(h:PB w g v r):w.cell? ⟨g,0,none⟩=some v∧w.cell? ⟨g,1,none⟩=some (.string r):=
 ⟨by rw [cell_of_row _ _ 0 _ _ (0,0) h];rfl,by rw [cell_of_row _ _ 1 _ _ (0,0) h];rfl⟩
theorem PB.ext {w w':World}{g:Nat}{v:Value}{r:ByteArray}(h:PB w g v r)(hx:Ext w w'):PB w' g v r:=hx.heap h
theorem nameB_all {ps:List ByteArray}{r:ByteArray}:nameB (dat ps) r.data.toList=((decide (1≤(ps.length:Int))&&decide ((ps.length:Int)≤4)&&realmB r.data.toList)&&(dat ps).all partB):=by
 unfold nameB
 rw [dat_length]
 have e:decide (1≤ps.length∧ps.length≤4)=(decide (1≤(ps.length:Int))&&decide ((ps.length:Int)≤4)):=by
  rw [← Bool.decide_and]
  exact decide_eq_decide.2 (by omega)
 rw [e]
theorem parts_no {ps:List ByteArray}{k:Nat}(h:k<ps.length)(hp:partB ps[k].data.toList=false):(dat ps).all partB=false:=by
 rw [List.all_eq_false]
 exact ⟨ps[k].data.toList,List.mem_map.2 ⟨ps[k],List.getElem_mem h,rfl⟩,by rw [hp];simp⟩
theorem parts_yes {ps:List ByteArray}{k:Nat}(h:k<ps.length)(ha:(dat (ps.take k)).all partB=true)(hp:partB ps[k].data.toList=true):(dat (ps.take (k+1))).all partB=true:=by
 rw [List.take_succ_eq_append_getElem h]
 unfold dat at *
 rw [List.map_append,List.all_append,ha]
 simp [hp]
set_option maxRecDepth 100000 in
set_option maxHeartbeats 2000000 in
theorem NValid_at (A:Option Addr) (c:Nat) (ps:List ByteArray) (r:ByteArray) (hps:∀ p∈ps,p.size≤4294967280) (hr:r.size≤4294967280) (w:World) (hR:RS w (.slice A ps.length c) (sv ps)):
  Calls Tryz.prog 82 #[.agg #[.slice A ps.length c,.string r]] w fun e w'=>e=.returned (.bool (nameB (dat ps) r.data.toList))∧Ext w w':=by
 have HN:=Lib.hid (nameB_all (ps:=ps) (r:=r))
 obtain ⟨b,hb⟩:∃ b,nameB (dat ps) r.data.toList=b:=⟨_,rfl⟩
 rw [hb] at HN ⊢
 clear hb
 obtain ⟨b1,h1⟩:∃ b1,decide (1≤(ps.length:Int))=b1:=⟨_,rfl⟩
 obtain ⟨b2,h2⟩:∃ b2,decide ((ps.length:Int)≤4)=b2:=⟨_,rfl⟩
 rw [h1,h2] at HN
 have HPS:=Lib.hid hps;have HR:=Lib.hid hr;have HRS:=Lib.hid hR
 clear hps hr hR
 have hT:=heap_alloc_new w (.cells #[.slice A ps.length c,.string r] 37)
 have hX:=(Ext.refl w).alloc (.cells #[.slice A ps.length c,.string r] 37)
 obtain ⟨wr,hwr⟩:∃ wr,wr=w.alloc (.cells #[.slice A ps.length c,.string r] 37):=⟨_,rfl⟩
 rw [← hwr] at hT hX
 have HT:Hid (PB wr w.heap.size (.slice A ps.length c) r):=Lib.hid hT
 have HX:=Lib.hid hX
 clear hT hX
 go_enter Tryz.func82,Tryz.ntmps82
 go_wp2_with fail
 rw [← hwr]
 clear hwr
 refine wp_region_ext_tail 11 (fun i v' w'=>match i with | 10=>v'=.bool (realmB r.data.toList) | _=>False) (by kernel_rfl) (by kernel_rfl) ?_
 refine wpE_op rfl rfl (fun w' hw' K' hK'=>?_)
 have hE:=hw'.1
 go_step
 refine hK' _ ⟨_,rfl⟩ ?_
 clear hK' K'  hE hw' w'
 refine wpE_op rfl rfl (fun w' hw' K' hK'=>?_)
 have hE:=hw'.1
 obtain ⟨u0,u1⟩:=(HT.out.ext ((Ext.drew wr).trans hE)).cells
 go_step
 refine hK' _ ⟨_,rfl⟩ ?_
 clear hK' K' u0 u1 hE hw' w'
 refine wpE_op rfl rfl (fun w' hw' K' hK'=>?_)
 have hE:=hw'.1
 go_step
 refine hK' _ ⟨_,rfl⟩ ?_
 clear hK' K'  hE hw' w'
 refine wpE_op rfl rfl (fun w' hw' K' hK'=>?_)
 have hE:=hw'.1
 go_step
 refine hK' _ ⟨_,rfl⟩ ?_
 clear hK' K'  hE hw' w'
 refine wpE_op rfl rfl (fun w' hw' K' hK'=>?_)
 have hE:=hw'.1
 go_step
 refine hK' _ ⟨_,rfl⟩ ?_
 clear hK' K'  hE hw' w'
 refine wpE_op rfl rfl (fun w' hw' K' hK'=>?_)
 have hE:=hw'.1
 obtain ⟨u0,u1⟩:=(HT.out.ext ((Ext.drew wr).trans hE)).cells
 go_step
 refine hK' _ ⟨_,rfl⟩ ?_
 clear hK' K' u0 u1 hE hw' w'
 refine wpE_op rfl rfl (fun w' hw' K' hK'=>?_)
 have hE:=hw'.1
 go_step
 refine hK' _ ⟨_,rfl⟩ ?_
 clear hK' K'  hE hw' w'
 refine wpE_op rfl rfl (fun w' hw' K' hK'=>?_)
 have hE:=hw'.1
 go_step
 refine hK' _ ⟨_,rfl⟩ ?_
 clear hK' K'  hE hw' w'
 refine wpE_op rfl rfl (fun w' hw' K' hK'=>?_)
 have hE:=hw'.1
 go_step
 refine hK' _ ⟨_,rfl⟩ ?_
 clear hK' K'  hE hw' w'
 refine wpE_op rfl rfl (fun w' hw' K' hK'=>?_)
 have hE:=hw'.1
 obtain ⟨u0,u1⟩:=(HT.out.ext ((Ext.drew wr).trans hE)).cells
 go_step
 refine hK' _ ⟨_,rfl⟩ ?_
 clear hK' K' u0 u1 hE hw' w'
 refine wpE_call 15 rfl (by simp) rfl (fun w' hw' K' hK'=>?_) ?_
 ·have hE:=hw'.1
  go_step
  refine (Realm_at r HR.out _).mono ?_
  rintro _ w2 ⟨rfl,hx⟩
  exact hK' _ _ ⟨_,rfl,rfl⟩ hx
 rintro _ w6 hE6 rfl
 simp only [Act.put,sT1,sT2,sT3]
 refine wpE_nil (fun w7 hw7=>?_)
 have hx7:=(Ext.drew wr).trans hw7.1
 have HX7:=Lib.hid (HX.out.trans hx7);have HT7:=Lib.hid (HT.out.ext hx7)
 have hall:=all_at (some ⟨w7.heap.size,0,none⟩) 3 [b1,b2,realmB r.data.toList] (w7.alloc (.cells #[.bool b1,.bool b2,.bool (realmB r.data.toList)] 4)) (RS.new w7 4 [.bool b1,.bool b2,.bool (realmB r.data.toList)] (by simp [maxLen]))
 rw [show ([b1,b2,realmB r.data.toList].all id)=(b1&&b2&&realmB r.data.toList) by simp [Bool.and_assoc]] at hall
 obtain ⟨b3,h3⟩:∃ b3,(b1&&b2&&realmB r.data.toList)=b3:=⟨_,rfl⟩
 rw [h3] at hall HN
 have HB4:=Lib.hid (show b3=true→ps.length≤4 from fun e=>by
  rw [← h3] at e
  cases b2 with
  | true=>have:=of_decide_eq_true h2;omega
  | false=>simp at e)
 have HALL:=Lib.hid hall
 have hT8:=HT7.out.ext ((Ext.refl w7).alloc (.cells #[.bool b1,.bool b2,.bool (realmB r.data.toList)] 4))
 have HX8:=Lib.hid (HX7.out.alloc (.cells #[.bool b1,.bool b2,.bool (realmB r.data.toList)] 4))
 have HRS8:=Lib.hid (HRS.out.ext HX8.out)
 obtain ⟨q0,q1⟩:=hT8.cells
 clear hw7 hall h1 h2 h3 hx7 hT8 HRS
 simp only [List.drop_succ_cons,List.drop_zero]
 go_wp2_with fail
 refine HALL.out.mono ?_
 rintro _ w8 ⟨rfl,rfl⟩
 cases b3 with
 | false=>
  go_wp2_with fail
  go_ret
  refine ⟨?_,HX8.out⟩
  rw [HN.out];rfl
 | true=>
  have hn4:ps.length≤4:=HB4.out rfl
  obtain ⟨W,hW⟩:∃ W,w7.alloc (.cells #[.bool b1,.bool b2,.bool (realmB r.data.toList)] 4)=W:=⟨_,rfl⟩
  rw [hW] at HX8 HRS8 q0 q1 ⊢
  clear hW HALL
  go_wp2_with fail
  go_loopw [4,22] (fun _ i W'=>∃ k:Nat,k≤ps.length∧i=.int .i64 k∧(dat (ps.take k)).all partB=true∧W'=W) (fun _ i _=>ps.length-(intOf i).toNat)
  case atStart=>exact ⟨0,Nat.zero_le _,rfl,by simp [dat],rfl⟩
  case round=>
   obtain ⟨k,hk,rfl,hall,rfl⟩:=hrel
   have HA:=Lib.hid hall;clear hall
   by_cases hlt:k<ps.length
   ·obtain ⟨A',c',he,e1,e2,e3⟩:=HRS8.out
    rw [sv_length] at e1 e3 he
    injection he with z1 _ z3
    subst z1;subst z3
    obtain ⟨ad,rfl,hblt,hcell⟩:=e3 (by omega)
    have hck:=hcell k _ (sv_get ps k hlt)
    have HPK:=Lib.hid (Part_at ps[k] (HPS.out _ (List.getElem_mem hlt)) wr)
    clear hcell e3 e2 e1 hblt
    cases hp:partB ps[k].data.toList with
    | false=>
     have HP:=Lib.hid hp
     rw [hp] at HPK
     clear hp
     go_wp2_with fail
     refine HPK.out.mono ?_
     rintro _ w9 ⟨rfl,rfl⟩
     go_wp2_with fail
     go_ret
     refine ⟨?_,HX8.out⟩
     rw [HN.out,parts_no hlt HP.out];rfl
    | true=>
     have HP:=Lib.hid hp
     rw [hp] at HPK
     clear hp
     go_wp2_with fail
     refine HPK.out.mono ?_
     rintro _ w9 ⟨rfl,rfl⟩
     go_wp2_with fail
     go_roundw
     case rel=>exact ⟨k+1,by omega,by go_num,parts_yes hlt HA.out HP.out,trivial⟩
     case measure=>simp [intOf];omega
   ·have HF:=Lib.hid (show (dat ps).all partB=true by
     have:=HA.out
     rwa [List.take_of_length_le (by omega)] at this)
    go_wp2_with fail
    go_ret
    refine ⟨?_,HX8.out⟩
    rw [HN.out,HF.out];rfl
structure FV where
 t:Int
 mi:Int
 kd:Int
 fk:Int
 FA:Option Addr
 fb:List UInt8
 fc:Nat
 CA:Option Addr
 cp:List ByteArray
 cc:Nat
 cr:ByteArray
 SA:Option Addr
 sp:List ByteArray
 sc:Nat
 sr:ByteArray
 co:Int
 pr:Int
 fl:W32
def FV.cs (f:FV):List Value:=[.int .i64 f.t,.int .i64 f.mi,.int .i64 f.kd,.int .i64 f.fk,.slice f.FA f.fb.length f.fc,.slice f.CA f.cp.length f.cc,.string f.cr,.slice f.SA f.sp.length f.sc,.string f.sr,.int .i64 f.co,.int .i64 f.pr,.int .u32 (f.fl.toNat:Int)]
def FV.val (f:FV):Value:=.agg #[.int .i64 f.t,.int .i64 f.mi,.int .i64 f.kd,.int .i64 f.fk,.slice f.FA f.fb.length f.fc,.slice f.CA f.cp.length f.cc,.string f.cr,.slice f.SA f.sp.length f.sc,.string f.sr,.int .i64 f.co,.int .i64 f.pr,.int .u32 (f.fl.toNat:Int)]
def FV.fct (f:FV):Fct:=⟨f.t,f.mi,f.kd,f.fk,f.fb,dat f.cp,f.cr.data.toList,dat f.sp,f.sr.data.toList,f.co,f.pr,f.fl⟩
structure FV.In (w:World) (f:FV):Prop where
 fb:BS w (.slice f.FA f.fb.length f.fc) f.fb
 cp:RS w (.slice f.CA f.cp.length f.cc) (sv f.cp)
 sp:RS w (.slice f.SA f.sp.length f.sc) (sv f.sp)
theorem FV.In.ext {w w':World}{f:FV}(h:f.In w)(hx:Ext w w'):f.In w':=⟨h.fb.ext hx,h.cp.ext hx,h.sp.ext hx⟩
structure FV.Sz (f:FV):Prop where
 fb:f.fb.length≤1000
 cp:f.cp.length≤1000
 cps:∀ p∈f.cp,p.size≤1000
 cr:f.cr.size≤1000
 sp:f.sp.length≤1000
 sps:∀ p∈f.sp,p.size≤1000
 sr:f.sr.size≤1000
def i64B (x:Int):Prop:=-9223372036854775808≤x∧x≤9223372036854775807
structure FV.Wf (f:FV):Prop where
 t:i64B f.t
 mi:i64B f.mi
 kd:i64B f.kd
 fk:i64B f.fk
 co:i64B f.co
 pr:i64B f.pr
def FBx (w:World)(g:Nat)(f:FV):Prop:=w.heap[g]? = some (.cells #[.int .i64 f.t,.int .i64 f.mi,.int .i64 f.kd,.int .i64 f.fk,.slice f.FA f.fb.length f.fc,.slice f.CA f.cp.length f.cc,.string f.cr,.slice f.SA f.sp.length f.sc,.string f.sr,.int .i64 f.co,.int .i64 f.pr,.int .u32 (f.fl.toNat:Int)] 41 (0,0))
theorem FBx.new (w:World)(f:FV):FBx (w.alloc (.cells #[.int .i64 f.t,.int .i64 f.mi,.int .i64 f.kd,.int .i64 f.fk,.slice f.FA f.fb.length f.fc,.slice f.CA f.cp.length f.cc,.string f.cr,.slice f.SA f.sp.length f.sc,.string f.sr,.int .i64 f.co,.int .i64 f.pr,.int .u32 (f.fl.toNat:Int)] 41)) w.heap.size f:=heap_alloc_new w _
theorem FBx.ext {w w':World}{g:Nat}{f:FV}(h:FBx w g f)(hx:Ext w w'):FBx w' g f:=hx.heap h
theorem FBx.cells {w:World} {g:Nat} {t mi kd fk:Int} {FA:Option Addr} {fb:List UInt8} {fc:Nat} {CA:Option Addr} {cp:List ByteArray} {cc:Nat} {cr:ByteArray} {SA:Option Addr} {sp:List ByteArray} {sc:Nat} {sr:ByteArray} {co pr:Int} {fl:W32}
  (h:FBx w g ⟨t,mi,kd,fk,FA,fb,fc,CA,cp,cc,cr,SA,sp,sc,sr,co,pr,fl⟩):w.cell? ⟨g,0,none⟩=some (.int .i64 t)∧w.cell? ⟨g,1,none⟩=some (.int .i64 mi)∧w.cell? ⟨g,2,none⟩=some (.int .i64 kd)∧w.cell? ⟨g,3,none⟩=some (.int .i64 fk)∧w.cell? ⟨g,4,none⟩=some (.slice FA fb.length fc)∧w.cell? ⟨g,5,none⟩=some (.slice CA cp.length cc)∧w.cell? ⟨g,6,none⟩=some (.string cr)∧w.cell? ⟨g,7,none⟩=some (.slice SA sp.length sc)∧w.cell? ⟨g,8,none⟩=some (.string sr)∧w.cell? ⟨g,9,none⟩=some (.int .i64 co)∧w.cell? ⟨g,10,none⟩=some (.int .i64 pr)∧w.cell? ⟨g,11,none⟩=some (.int .u32 (fl.toNat:Int)):=by
 unfold FBx at h
 refine ⟨?_,?_,?_,?_,?_,?_,?_,?_,?_,?_,?_,?_⟩<;>(rw [cell_of_row _ _ _ _ _ (0,0) h];rfl)
def FS (w:World)(v:Value)(xs:List FV):Prop:=
 ∃ A c,v=.slice A xs.length c∧xs.length≤c∧c≤maxLen∧∀ i (h:i<xs.length),xs[i].In w∧∃ ad,A=some ad∧∀ j u,xs[i].cs[j]? = some u→w.cell? (ad.add (i*12+j))=some u
theorem FS.ext {w w':World}{v:Value}{xs:List FV}(h:FS w v xs)(hx:Ext w w'):FS w' v xs:=by
 obtain ⟨A,c,h1,h2,h3,h4⟩:=h
 refine ⟨A,c,h1,h2,h3,fun i hi=>?_⟩
 obtain ⟨k1,ad,k2,k3⟩:=h4 i hi
 exact ⟨k1.ext hx,ad,k2,fun j u hu=>hx.cell (k3 j u hu)⟩
theorem FS.nil (w:World):FS w (.slice none 0 0) []:=⟨none,0,rfl,Nat.le_refl _,Nat.zero_le _,fun i h=>absurd h (Nat.not_lt_zero i)⟩
theorem drop_byte (s:ByteArray)(k:Nat)(h:k<s.size):s.data.toList.drop k=s[k]::s.data.toList.drop (k+1):=by
 rw [List.drop_eq_getElem_cons (by rw [Array.length_toList];exact h)];rfl
theorem drop_end (s:ByteArray)(k:Nat)(h:¬ k<s.size):s.data.toList.drop k=[]:=List.drop_eq_nil_of_le (by rw [size_list];omega)
end Go.Proofs.YtnjmndofcpnmeaaGreatDoor
