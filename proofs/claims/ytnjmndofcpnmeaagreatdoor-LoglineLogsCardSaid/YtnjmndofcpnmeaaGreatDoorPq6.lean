/- Pq6. -/
import Derived.Test.YtnjmndofcpnmeaaGreatDoorPq0
import Derived.Test.YtnjmndofcpnmeaaGreatDoorPq4
import Derived.Handy
import Derived.Test.YtnjmndofcpnmeaaGreatDoorPq2
import Derived.Test.YtnjmndofcpnmeaaGreatDoorShelf
import Derived.Lib.IndexLaws
import Derived.RangeFuncBound
import Derived.RangeFuncCalls
import Derived.OwnWalkIn
import Derived.TacticsInMore
import Derived.LoopNIn
import Derived.LoopIn
namespace Go.Proofs.YtnjmndofcpnmeaaGreatDoor
open Go Go.RowKit
set_option linter.unusedVariables false
theorem size_list (s:ByteArray):s.data.toList.length=s.size:=by rw [Array.length_toList];rfl
theorem sized_at (s:ByteArray) (w:World):
  Calls Tryz.prog 183 #[.string s] w fun e w'=>e=.returned (.bool (sizedB s.data.toList))∧w=w':=by
 have e:sizedB s.data.toList=decide (1≤s.size∧s.size≤32):=by unfold sizedB;rw [size_list]
 rw [e];clear e
 by_cases h1:1≤s.size
 ·by_cases h2:s.size≤32
  ·have e:decide (1≤s.size∧s.size≤32)=true:=decide_eq_true ⟨h1,h2⟩
   rw [e]
   have d1:1≤(s.size:Int):=by omega
   have d2:decide ((s.size:Int)≤32)=true:=decide_eq_true (by omega)
   clear h1 h2 e
   go_enter Tryz.func183,Tryz.ntmps183
   go_wp2
   go_ret
   exact ⟨rfl,rfl⟩
  ·have e:decide (1≤s.size∧s.size≤32)=false:=decide_eq_false (fun h=>h2 h.2)
   rw [e]
   have d1:1≤(s.size:Int):=by omega
   have d2:decide ((s.size:Int)≤32)=false:=decide_eq_false (by omega)
   clear h1 h2 e
   go_enter Tryz.func183,Tryz.ntmps183
   go_wp2
   go_ret
   exact ⟨rfl,rfl⟩
 ·have e:decide (1≤s.size∧s.size≤32)=false:=decide_eq_false (fun h=>h1 h.1)
  rw [e]
  have d1:decide (1≤(s.size:Int))=false:=decide_eq_false (by omega)
  have d2:(s.size:Int)<1:=by omega
  clear h1 e
  go_enter Tryz.func183,Tryz.ntmps183
  go_wp2
  go_ret
  exact ⟨rfl,rfl⟩
theorem special_at (c:UInt8) (w:World):
  Calls Tryz.prog 149 #[.int .u8 (c.toNat:Int)] w fun e w'=>e=.returned (.bool (spc c))∧w=w':=by
 by_cases h1:c.toNat=47
 ·have e:spc c=true:=by unfold spc;exact decide_eq_true (.inl h1)
  have d1:((c.toNat:Int)==47)=true:=by rw [h1];rfl
  rw [e];clear h1 e
  go_enter Tryz.func149,Tryz.ntmps149
  go_wp2
  go_ret
  exact ⟨rfl,rfl⟩
 ·have d1:((c.toNat:Int)==47)=false:=by rw [beq_eq_false_iff_ne];omega
  by_cases h2:c.toNat=64
  ·have e:spc c=true:=by unfold spc;exact decide_eq_true (.inr (.inl h2))
   have d2:((c.toNat:Int)==64)=true:=by rw [h2];rfl
   rw [e];clear h1 h2 e
   go_enter Tryz.func149,Tryz.ntmps149
   go_wp2
   go_ret
   exact ⟨rfl,rfl⟩
  ·have d2:((c.toNat:Int)==64)=false:=by rw [beq_eq_false_iff_ne];omega
   by_cases h3:c.toNat=92
   ·have e:spc c=true:=by unfold spc;exact decide_eq_true (.inr (.inr h3))
    have d3:((c.toNat:Int)==92)=true:=by rw [h3];rfl
    rw [e];clear h1 h2 h3 e
    go_enter Tryz.func149,Tryz.ntmps149
    go_wp2
    go_ret
    exact ⟨rfl,rfl⟩
   ·have e:spc c=false:=by unfold spc;exact decide_eq_false (by omega)
    have d3:((c.toNat:Int)==92)=false:=by rw [beq_eq_false_iff_ne];omega
    rw [e];clear h1 h2 h3 e
    go_enter Tryz.func149,Tryz.ntmps149
    go_wp2
    go_ret
    exact ⟨rfl,rfl⟩
theorem take_at (s:ByteArray)(k:Nat)(h:k<s.size):s.data.toList.take (k+1)=s.data.toList.take k++[s[k]]:=by
 rw [List.take_succ_eq_append_getElem (by rw [Array.length_toList];exact h)];rfl
theorem all_take_no {p:UInt8→Bool}{s:ByteArray}{k:Nat}(h:k<s.size)(hp:p s[k]=false):s.data.toList.all p=false:=by
 rw [List.all_eq_false]
 exact ⟨s[k],Array.getElem_mem_toList _,by rw [hp];simp⟩
theorem all_take_yes {p:UInt8→Bool}{s:ByteArray}{k:Nat}(h:k<s.size)(ha:(s.data.toList.take k).all p=true)(hp:p s[k]=true):(s.data.toList.take (k+1)).all p=true:=by
 rw [take_at s k h,List.all_append,ha];simp [hp]
theorem prtc_no {c:UInt8}(h:(c.toNat:Int)<33∨126<(c.toNat:Int)):prtc c=false:=by unfold prtc;exact decide_eq_false (by omega)
theorem prtc_yes {c:UInt8}(h:33≤(c.toNat:Int))(h2:(c.toNat:Int)≤126):prtc c=true:=by unfold prtc;exact decide_eq_true (by omega)
set_option maxRecDepth 100000 in
theorem Part_at (s:ByteArray) (hs:s.size≤4294967280) (w:World):
  Calls Tryz.prog 135 #[.string s] w fun e w'=>e=.returned (.bool (partB s.data.toList))∧w=w':=by
 have HP:=Lib.hid (show partB s.data.toList=(sizedB s.data.toList&&s.data.toList.all prtc) from rfl)
 obtain ⟨b,hb⟩:∃ b,partB s.data.toList=b:=⟨_,rfl⟩
 rw [hb] at HP ⊢
 clear hb
 go_enter Tryz.func135,Tryz.ntmps135
 go_wp2
 go_loop [3,6] (fun _ i=>∃ k:Nat,k≤s.size∧i=.int .i64 k∧(s.data.toList.take k).all prtc=true) (fun _ i=>s.size-(intOf i).toNat)
 case atStart=>exact ⟨0,Nat.zero_le _,rfl,by simp⟩
 case round=>
  obtain ⟨k,hk,rfl,hall⟩:=hrel
  have HA:=Lib.hid hall;clear hall
  by_cases hlt:k<s.size
  ·by_cases h1:(s[k].toNat:Int)<33
   ·have HN:=Lib.hid (all_take_no hlt (prtc_no (.inl h1)))
    go_wp2
    go_ret
    refine ⟨?_,rfl⟩
    rw [HP.out,HN.out,Bool.and_false];rfl
   ·have h1':33≤(s[k].toNat:Int):=by omega
    by_cases h2:126<(s[k].toNat:Int)
    ·have HN:=Lib.hid (all_take_no hlt (prtc_no (.inr h2)))
     clear h1
     go_wp2
     go_ret
     refine ⟨?_,rfl⟩
     rw [HP.out,HN.out,Bool.and_false];rfl
    ·have h2':(s[k].toNat:Int)≤126:=by omega
     have HY:=Lib.hid (all_take_yes hlt HA.out (prtc_yes h1' h2'))
     clear h1 h2
     go_wp2
     go_round
     case rel=>exact ⟨k+1,by omega,by go_num,HY.out⟩
     case measure=>simp [intOf];omega
  ·have HF:=Lib.hid (show s.data.toList.all prtc=true by
    have:=HA.out
    rwa [List.take_of_length_le (by rw [size_list];omega)] at this)
   go_wp2_with fail
   refine (sized_at s w).mono ?_
   rintro e w' ⟨rfl,rfl⟩
   go_wp2_with fail
   go_ret
   refine ⟨?_,rfl⟩
   rw [HP.out,HF.out,Bool.and_true];rfl
set_option maxRecDepth 100000 in
theorem all_at (A:Option Addr) (c:Nat) (bs:List Bool) (w:World) (h:RS w (.slice A bs.length c) (blv bs)):
  Calls Tryz.prog 133 #[.slice A bs.length c] w fun e w'=>e=.returned (.bool (bs.all id))∧w=w':=by
 have HC:=Lib.hid (contains_bools A c bs w h)
 obtain ⟨v,hv⟩:∃ v,bs.all id=v:=⟨_,rfl⟩
 rw [hv] at HC ⊢
 clear h hv
 go_enter Tryz.func133,Tryz.ntmps133
 go_wp2_with fail
 refine HC.out.mono ?_
 rintro e w' ⟨rfl,rfl⟩
 go_wp2_with fail
 go_ret
 refine ⟨?_,rfl⟩
 cases v<;>rfl
def rst (s:ByteArray):Nat→ByteArray
 | 0=>s
 | k+1=>(rst s k).extract ((Lib.indexByte (rst s k).data.toList 46).toNat+1) (rst s k).size
theorem rst_size (s:ByteArray):∀ k,(rst s k).size≤s.size
 | 0=>Nat.le_refl _
 | k+1=>by
  have:=rst_size s k
  rw [rst,ByteArray.size_extract];omega
theorem dot_none {l:List UInt8}(h:Lib.indexByte l 46 = -1):spl [] l=[l]:=by
 rw [spl_acc l [] (fun c hc e=>by
  obtain ⟨k,hk,rfl⟩:=List.getElem_of_mem hc
  exact Lib.indexByte_none h k (by rw [List.getElem?_eq_getElem hk,Option.some.injEq];exact u8_of (n:=46) (by omega) e))]
 rfl
theorem dot_some {l:List UInt8}{o:Nat}(h:Lib.indexByte l 46=o):o<l.length∧spl [] l=l.take o::spl [] (l.drop (o+1)):=by
 obtain ⟨h1,h2⟩:=Lib.indexByte_some h
 have hlt:=(List.getElem?_eq_some_iff.1 h1).1
 refine ⟨hlt,?_⟩
 have he:l=l.take o++46::l.drop (o+1):=by
  have h3:=(List.getElem?_eq_some_iff.1 h1).2
  conv=>lhs;rw [← List.take_append_drop o l,List.drop_eq_getElem_cons hlt,h3]
 conv=>lhs;rw [he]
 rw [spl_hit _ [] _ (fun c hc e=>by
  obtain ⟨k,hk,hk2⟩:=List.getElem_of_mem hc
  have hk3:k<o:=by simp at hk;omega
  rw [List.getElem_take] at hk2
  refine h2 k hk3 ?_
  rw [List.getElem?_eq_getElem (by omega),hk2,Option.some.injEq]
  exact u8_of (n:=46) (by omega) e)]
 rfl
theorem index_dot (s:ByteArray)(w:World):Calls Tryz.prog 161 #[.string s,.string ⟨#[46]⟩] w fun e w'=>e=.returned (.int .i64 (Lib.indexByte s.data.toList 46))∧w=w':=
 (Tryz.strings_Index_one s 46 w).mono fun e w' h=>⟨h.1,h.2.symm⟩
theorem extract_drop (s:ByteArray)(o:Nat):(s.extract o s.size).data.toList=s.data.toList.drop o:=by
 simp only [ByteArray.data_extract,Array.toList_extract,List.extract_eq_take_drop]
 exact List.take_of_length_le (by rw [List.length_drop,size_list];omega)
def SpIt (s:ByteArray)(bs bp bv:Nat)(pre:List ByteArray)(W:World):Prop:=
 W.heap[bs]? = some (.cells #[.string (rst s pre.length)] 9 (0,0))∧W.heap[bp]? = some (.cells #[.string ⟨#[46]⟩] 9 (0,0))∧W.heap[bv]? = some (.cells #[.int .i64 0] 3 (0,0))
theorem SpIt.stab (B0:Nat)(s:ByteArray)(bs bp bv:Nat)(pre:List ByteArray):Stab B0 (SpIt s bs bp bv pre):=(Stab.heap _ _ _ _).and ((Stab.heap _ _ _ _).and (Stab.heap _ _ _ _))
theorem SpIt.ext {s:ByteArray}{bs bp bv:Nat}{pre:List ByteArray}{W W':World}(h:SpIt s bs bp bv pre W)(hx:Ext W W'):SpIt s bs bp bv pre W':=⟨hx.heap h.1,hx.heap h.2.1,hx.heap h.2.2⟩
def dat (xs:List ByteArray):List (List UInt8):=xs.map (·.data.toList)
def SpG (s:ByteArray)(pre:List ByteArray)(x:ByteArray)(_:World):Prop:=(∃ rest,spl [] s.data.toList=dat pre++x.data.toList::rest)∧x.size≤s.size
def strsz (v:Option Value):Nat:=match v with | some (.string b)=>b.size | _=>0
attribute [local go_sem] Oper.semAt_some
set_option maxRecDepth 100000 in
set_option maxHeartbeats 2000000 in
theorem split_iter (s:ByteArray) (hs:s.size≤4294967280) (bs bp bv:Nat) (h1:bs≠bp) (h2:bs≠bv):
  IterP Tryz.prog 199 #[.pointer (some ⟨bp,0,none⟩),.pointer (some ⟨bs,0,none⟩),.pointer (some ⟨bv,0,none⟩)] (fun x=>#[.string x]) (SpIt s bs bp bv) (SpG s) (fun k=>k=bs) (fun xs=>dat xs=spl [] s.data.toList) (fun pre=>∃ rest,spl [] s.data.toList=dat pre++rest):=by
 intro lp J Jx W hJ hJx hY hit h0
 refine callsIn_of_wp Tryz.func199 rfl trivial ?_ rfl
 simp only [Tryz.ntmps199,List.size_toArray,List.length_cons,List.length_nil,Nat.reduceAdd,Nat.reduceSub,Array.replicate_succ,Array.replicate_zero,List.push_toArray,List.append_toArray,List.nil_append,List.cons_append]
 have k1:W.cell? ⟨bp,0,none⟩=some (.string ⟨#[46]⟩):=by rw [cell_of_row _ _ 0 _ _ (0,0) hit.2.1];rfl
 gi_wp2
 gi_loopw [7] (fun _ wr=>∃ pre:List ByteArray,J pre wr∧SpIt s bs bp bv pre wr∧spl [] s.data.toList=dat pre++spl [] (rst s pre.length).data.toList) (fun _ wr=>strsz (wr.cell? ⟨bs,0,none⟩))
 case atStart=>exact ⟨[],h0,hit,rfl⟩
 case round=>
  obtain ⟨pre,hj,hi,he⟩:=hrel
  have hz:=rst_size s pre.length
  obtain ⟨cur,hcur⟩:∃ cur,rst s pre.length=cur:=⟨_,rfl⟩
  have c0:wr.cell? ⟨bs,0,none⟩=some (.string cur):=by rw [cell_of_row _ _ 0 _ _ (0,0) hi.1,← hcur];rfl
  have c1:wr.cell? ⟨bp,0,none⟩=some (.string ⟨#[46]⟩):=by rw [cell_of_row _ _ 0 _ _ (0,0) hi.2.1];rfl
  have c2:wr.cell? ⟨bv,0,none⟩=some (.int .i64 0):=by rw [cell_of_row _ _ 0 _ _ (0,0) hi.2.2];rfl
  rw [hcur] at he hz
  have HI:=Lib.hid hi;have HE:=Lib.hid he;have HC:=Lib.hid hcur;have HJ:=Lib.hid hj
  have hcs:cur.size≤4294967280:=by omega
  clear hi he hcur hj hz k1
  have hge:=Lib.indexByte_ge cur.data.toList 46
  obtain ⟨o,ho⟩:∃ o,Lib.indexByte cur.data.toList 46=o:=⟨_,rfl⟩
  have HIX:=Lib.hid (index_dot cur wr)
  rw [ho] at hge HIX
  have HO:=Lib.hid ho;clear ho
  rcases (show o = -1∨∃ k:Nat,o=k by exact if h:o = -1 then .inl h else .inr ⟨o.toNat,by omega⟩) with rfl | ⟨k,rfl⟩
  ·have hsp:=dot_none HO.out
   have HS:=Lib.hid (show spl [] s.data.toList=dat pre++[cur.data.toList] by rw [HE.out,hsp])
   clear hsp
   gi_wp2_with fail
   refine wide_call HIX.out ?_
   rintro e w' ⟨rfl,rfl⟩
   obtain ⟨fn,tmps,assign,body,hy,hR⟩:=hY pre cur wr HJ.out HI.out ⟨⟨[],HS.out⟩,by rw [← HC.out];exact rst_size _ _⟩
   gi_wp2_with fail
   refine ⟨rfl,hR.mono ?_⟩
   rintro e W3 (⟨rfl,hJ3,hI3⟩ | ⟨rfl,hJx3⟩)
   ·gi_wp2_with fail
    first | go_end0 | refine bodyPost_ret (results_none rfl _ _ _) rfl ?_
    exact ⟨⟨_,rfl⟩,.inl ⟨_,by rw [HS.out];simp [dat],hJ3⟩⟩
   ·gi_wp2_with fail
    first | go_end0 | refine bodyPost_ret (results_none rfl _ _ _) rfl ?_
    exact ⟨⟨_,rfl⟩,.inr ⟨_,⟨[],by rw [HS.out];simp [dat]⟩,hJx3⟩⟩
  ·obtain ⟨hko,hsp⟩:=dot_some HO.out
   rw [size_list] at hko
   have HS:=Lib.hid (show spl [] s.data.toList=dat (pre++[cur.extract 0 k])++spl [] (cur.extract (k+1) cur.size).data.toList by rw [HE.out,hsp,extract_drop];simp [dat])
   have HR:=Lib.hid (show rst s (pre++[cur.extract 0 k]).length=cur.extract (k+1) cur.size by
    rw [List.length_append,List.length_singleton,rst,HC.out,HO.out];rfl)
   clear hsp
   gi_wp2_with fail
   refine wide_call HIX.out ?_
   rintro e w' ⟨rfl,rfl⟩
   obtain ⟨fn,tmps,assign,body,hy,hR⟩:=hY pre (cur.extract 0 k) wr HJ.out HI.out ⟨⟨spl [] (cur.extract (k+1) cur.size).data.toList,by rw [HS.out];simp [dat]⟩,by have:=rst_size s pre.length;rw [HC.out] at this;rw [ByteArray.size_extract];omega⟩
   gi_wp2_with fail
   refine ⟨rfl,hR.mono ?_⟩
   rintro e W3 (⟨rfl,hJ3,hI3⟩ | ⟨rfl,hJx3⟩)
   ·have c3:W3.cell? ⟨bs,0,none⟩=some (.string cur):=by rw [cell_of_row _ _ 0 _ _ (0,0) hI3.1,← HC.out];rfl
    have c4:W3.cell? ⟨bp,0,none⟩=some (.string ⟨#[46]⟩):=by rw [cell_of_row _ _ 0 _ _ (0,0) hI3.2.1];rfl
    have f3:W3.frozen? ⟨bs,0,none⟩=false:=frozen_of_row W3 bs 0 _ _ hI3.1
    have HI3:=Lib.hid hI3;have HJ3:=Lib.hid hJ3;clear hI3 hJ3
    gi_wp2_with fail
    go_roundw
    case rel=>
     have hg:=grown_set1 W3 bs (.string (cur.extract (k+1) cur.size))
     refine ⟨pre++[cur.extract 0 k],hJ _ _ _ _ (fun j hj=>by cases hj;rfl) hg HJ3.out,⟨?_,heap_far hg HI3.out.2.1 (Ne.symm h1),heap_far hg HI3.out.2.2 (Ne.symm h2)⟩,?_⟩
     ·rw [HR.out]
      exact row1_set _ HI3.out.1
     ·rw [HR.out];exact HS.out
    case measure=>
     have e1:(W3.setCell ⟨bs,0,none⟩ (.string (cur.extract (k+1) cur.size))).cell? ⟨bs,0,none⟩=some (.string (cur.extract (k+1) cur.size)):=(row1 (row1_set _ HI3.out.1)).1
     rw [e1,c0]
     simp only [strsz,ByteArray.size_extract]
     omega
   ·gi_wp2_with fail
    first | go_end0 | refine bodyPost_ret (results_none rfl _ _ _) rfl ?_
    exact ⟨⟨_,rfl⟩,.inr ⟨_,⟨_,HS.out⟩,hJx3⟩⟩
theorem SplitSeq_at (s:ByteArray) (w:World):
  Calls Tryz.prog 108 #[.string s,.string ⟨#[46]⟩] w fun e w'=>e=.returned (.func (.func 199) #[] #[.pointer (some ⟨w.heap.size+1,0,none⟩),.pointer (some ⟨w.heap.size,0,none⟩),.pointer (some ⟨w.heap.size+1+1,0,none⟩)]) ∧
   SpIt s w.heap.size (w.heap.size+1) (w.heap.size+1+1) [] w'∧w'.heap.size=w.heap.size+3∧Ext w w':=by
 have hmf:∀ (fn:Fn) (first cap:Array Value) (w:World),(Instr.makeFunc fn first cap).run Tryz.prog w=.ok (.func fn first cap) w:=fun _ _ _ _=>rfl
 have hin:Calls Tryz.prog 156 #[.string s,.string ⟨#[46]⟩,.int .i64 0] w fun e w'=>e=.returned (.func (.func 199) #[] #[.pointer (some ⟨w.heap.size+1,0,none⟩),.pointer (some ⟨w.heap.size,0,none⟩),.pointer (some ⟨w.heap.size+1+1,0,none⟩)]) ∧
   SpIt s w.heap.size (w.heap.size+1) (w.heap.size+1+1) [] w'∧w'.heap.size=w.heap.size+3∧Ext w w':=by
  go_enter Tryz.func156,Tryz.ntmps156
  go_wp2
  go_ret
  have x1:=(Ext.refl w).alloc (.cells #[.string s] 9)
  have x2:=(Ext.refl (w.alloc (.cells #[.string s] 9))).alloc (.cells #[.string ⟨#[46]⟩] 9)
  have x3:=(Ext.refl ((w.alloc (.cells #[.string s] 9)).alloc (.cells #[.string ⟨#[46]⟩] 9))).alloc (.cells #[.int .i64 0] 3)
  have a1:=heap_alloc_new w (.cells #[.string s] 9)
  have a2:=heap_alloc_new (w.alloc (.cells #[.string s] 9)) (.cells #[.string ⟨#[46]⟩] 9)
  have a3:=heap_alloc_new ((w.alloc (.cells #[.string s] 9)).alloc (.cells #[.string ⟨#[46]⟩] 9)) (.cells #[.int .i64 0] 3)
  rw [World.size_alloc] at a2
  rw [World.size_alloc,World.size_alloc] at a3
  exact ⟨rfl,⟨(x2.trans x3).heap a1,x3.heap a2,a3⟩,by simp,(x1.trans x2).trans x3⟩
 have HIN:=Lib.hid hin;clear hin
 go_enter Tryz.func108,Tryz.ntmps108
 go_wp2_with fail
 refine HIN.out.mono ?_
 rintro e w1 ⟨rfl,hit,hsz,hx⟩
 go_wp2_with fail
 go_ret
 exact ⟨rfl,hit,hsz,hx⟩
end Go.Proofs.YtnjmndofcpnmeaaGreatDoor
namespace Go.Proofs.YtnjmndofcpnmeaaGreatDoor
open Go Go.RowKit
set_option linter.unusedVariables false
theorem okc_yes {c:UInt8}(h:65≤(c.toNat:Int)∧(c.toNat:Int)≤90∨48≤(c.toNat:Int)∧(c.toNat:Int)≤57∨(c.toNat:Int)=45):okc c=true:=by unfold okc;exact decide_eq_true (by omega)
theorem okc_no {c:UInt8}(h:¬ (65≤(c.toNat:Int)∧(c.toNat:Int)≤90∨48≤(c.toNat:Int)∧(c.toNat:Int)≤57∨(c.toNat:Int)=45)):okc c=false:=by unfold okc;exact decide_eq_false (by omega)
theorem realm_bad {s:ByteArray}{pre:List ByteArray}{x:ByteArray}{rest:List (List UInt8)}(h:spl [] s.data.toList=dat pre++x.data.toList::rest)(hb:labelB x.data.toList=false):realmB s.data.toList=false:=by
 rw [realm_labels,h,List.all_append,List.all_cons,hb]
 simp
theorem label_empty {x:ByteArray}(h:x.data.toList=[]):labelB x.data.toList=false:=by rw [h];rfl
theorem label_no {x:ByteArray}(h:x.data.toList.all okc=false):labelB x.data.toList=false:=by unfold labelB;rw [h,Bool.and_false]
theorem label_yes {x:ByteArray}(h0:x.data.toList≠[])(h:x.data.toList.all okc=true):labelB x.data.toList=true:=by
 unfold labelB
 rw [h,Bool.and_true]
 cases hx:x.data.toList with
 | nil=>exact absurd hx h0
 | cons a b=>rfl
def RlI (w:World)(pre:List ByteArray)(W:World):Prop:=W.heap[w.heap.size]? = some (.cells #[.bool false] 4 (0,0))∧(dat pre).all labelB=true∧Ext w W
def RlX (s:ByteArray)(w:World)(c:Code)(W:World):Prop:=c=.ret∧realmB s.data.toList=false∧W.heap[w.heap.size]? = some (.cells #[.bool false] 4 (0,0))∧Ext w W
theorem RlI.stab {B0:Nat}{w:World}(h:w.heap.size≤B0)(pre:List ByteArray):Stab B0 (RlI w pre):=(Stab.heap _ _ _ _).and ((Stab.pure _).and (Stab.ext w h))
theorem RlX.stab {B0:Nat}{w:World}(h:w.heap.size≤B0)(s:ByteArray)(c:Code):Stab B0 (RlX s w c):=(Stab.pure _).and ((Stab.pure _).and ((Stab.heap _ _ _ _).and (Stab.ext w h)))
theorem own_far {A B:World}{r:Option Nat}{b n k:Nat}{o:Obj}(hr:∀ k,r=some k→k=b)(hg:A.grownBy B r)(hb:n<b)(hk:k=n)(h:A.heap[k]? = some o):B.heap[k]? = some o:=
 (hg.block k (Array.getElem?_eq_some_iff.1 h).1 (fun e=>by have:=hr k e.symm;omega)).trans h
theorem own_ext {w A B:World}{r:Option Nat}{b:Nat}(hr:∀ k,r=some k→k=b)(hg:A.grownBy B r)(hb:w.heap.size≤b)(h:Ext w A):Ext w B:=h.grown hg (fun k hk=>by have:=hr k hk;omega)
attribute [local go_sem] Oper.semAt_some
set_option maxRecDepth 100000 in
set_option maxHeartbeats 4000000 in
theorem Realm_at (s:ByteArray) (hs:s.size≤4294967280) (w:World):
  Calls Tryz.prog 134 #[.string s] w fun e w'=>e=.returned (.bool (realmB s.data.toList))∧Ext w w':=by
 have HS:=Lib.hid hs
 obtain ⟨b,hb⟩:∃ b,realmB s.data.toList=b:=⟨_,rfl⟩
 have HB:=Lib.hid hb
 rw [hb];clear hb
 have hxa:=(Ext.refl w).alloc (.cells #[.bool false] 4)
 have ga:=heap_alloc_new w (.cells #[.bool false] 4)
 obtain ⟨wa,hwa⟩:∃ wa,wa=w.alloc (.cells #[.bool false] 4):=⟨_,rfl⟩
 have hza:wa.heap.size=w.heap.size+1:=by rw [hwa];simp
 rw [← hwa] at hxa ga
 refine calls_of_marks Tryz.func134 rfl ?_
 simp only [Tryz.ntmps134,List.size_toArray,List.length_cons,List.length_nil,Nat.reduceAdd,Nat.reduceSub,Array.replicate_succ,Array.replicate_zero,List.push_toArray,List.append_toArray,List.nil_append,List.cons_append]
 go_wp2_with fail
 rw [← hwa]
 clear hwa
 refine (sized_at s wa).mono ?_
 rintro e w' ⟨rfl,rfl⟩
 have k0:=(row1 ga).1
 have f0:=(row1 ga).2
 have HGA:=Lib.hid ga;have HXA:=Lib.hid hxa;clear ga hxa
 cases hsz:sizedB s.data.toList with
 | false=>
  have HZ:=Lib.hid hsz;clear hsz
  go_wp2_with fail
  have hcf:=(row1 (row1_set (.bool false) HGA.out)).1
  have hxf:=HXA.out.setCell (p:=⟨w.heap.size,0,none⟩) (Nat.le_refl _) (.bool false)
  have hrb:b=false:=by rw [← HB.out];unfold realmB;rw [HZ.out];rfl
  rw [hrb]
  exact ⟨.bool false,by simp [results,Tryz.results134,go_sem,hcf],rfl,hxf⟩
 | true=>
  have HZ:=Lib.hid hsz;clear hsz
  go_wp2_with fail
  refine (SplitSeq_at s wa).mono ?_
  rintro e wb ⟨rfl,hit,hzb,hxb⟩
  rw [hza] at hit ⊢
  have gb:=hxb.heap HGA.out
  have HGB:=Lib.hid gb;have HXB:=Lib.hid (HXA.out.trans hxb);have HIT:=Lib.hid hit;have HZB:=Lib.hid hzb;have HZA:=Lib.hid hza
  clear gb hxb hit k0 f0 hza
  go_wp2_with fail
  have HE1:=Lib.hid (show w.heap.size+1≠w.heap.size+1+1 by omega)
  refine wpIn_wide.1 (wp_rangeP (gf:=199) (lb:=#[.pointer (some ⟨w.heap.size+1+1,0,none⟩),.pointer (some ⟨w.heap.size+1,0,none⟩),.pointer (some ⟨w.heap.size+1+1+1,0,none⟩)]) rfl (Go.Proofs.enters_of Tryz.func199 (by kernel_rfl) rfl)
   (split_iter s HS.out (w.heap.size+1) (w.heap.size+1+1) (w.heap.size+1+1+1) (by omega) (by omega)) (fun _=>rfl) (fun k hk=>by have:=HZB.out;have:=HZA.out;omega) HIT.out (fun pre=>SpIt.stab _ _ _ _ _ _)
   (fun pre W=>RlI w pre W) (fun cd pre W=>RlX s w cd W) (fun pre=>RlI.stab HXB.out.size _) (fun cd pre=>RlX.stab HXB.out.size _ _)
   (fun pre X Y r hr hg h=>⟨own_far hr hg (by omega) rfl h.1,h.2.1,own_ext hr hg (by omega) h.2.2⟩)
   (fun cd pre X Y r hr hg h=>⟨h.1,h.2.1,own_far hr hg (by omega) rfl h.2.2.1,own_ext hr hg (by omega) h.2.2.2⟩)
   ⟨HGB.out,by simp [dat],HXB.out⟩ ?_ ?_ ?_)
  ·intro L pre x W hL hnL hzW hIW hitW hGW
   gi_wp2_with fail
   refine ⟨KeepsFrom.refl _ _,fun W2 hg2 hn2 hz2=>?_⟩
   have hI2:=(RlI.stab (B0:=wb.heap.size) HXB.out.size pre) W W2 L hL hn2 hg2 hIW
   have hit2:=(SpIt.stab wb.heap.size s (w.heap.size+1) (w.heap.size+1+1) (w.heap.size+1+1+1) pre) W W2 L hL hn2 hg2 hitW
   obtain ⟨⟨rest,hrest⟩,hxs⟩:=hGW
   have hxs2:x.size≤4294967280:=Nat.le_trans hxs HS.out
   have HR:=Lib.hid hrest;have HI2:=Lib.hid hI2;have HIT2:=Lib.hid hit2
   have k0:=(row1 hI2.1).1;have f0:=(row1 hI2.1).2
   clear hIW hitW hg2 hn2 hnL hI2 hit2 hrest hxs
   have hbad:labelB x.data.toList=false→RlX s w .ret (W2.setCell ⟨w.heap.size,0,none⟩ (.bool false)):=fun h=>
    ⟨rfl,realm_bad HR.out h,row1_set _ HI2.out.1,HI2.out.2.2.setCell (p:=⟨w.heap.size,0,none⟩) (Nat.le_refl _) _⟩
   have HBD:=Lib.hid hbad;clear hbad
   by_cases hemp:x.data.toList=[]
   ·have e1:x.toList=[]:=by rw [ByteArray.toList_eq];exact hemp
    have HBAD:=Lib.hid (HBD.out (label_empty hemp));clear hemp
    gi_wp2_with fail
    exact ⟨(KeepsOthers.setCell W2 ⟨w.heap.size,0,none⟩ (.bool false)).from _,HBAD.out⟩
   ·have e1:x.toList.isEmpty=false:=by rw [ByteArray.toList_eq];cases hx:x.data.toList with | nil=>exact absurd hx hemp | cons a b=>rfl
    have e2:x.toList≠[]:=by rw [ByteArray.toList_eq];exact hemp
    have HNE:=Lib.hid hemp;clear hemp
    gi_wp2_with fail
    gi_loopw [4,5,16] (fun _ _ i wr=>∃ k:Nat,k≤x.size∧i=.int .i64 k∧(x.data.toList.take k).all okc=true∧wr=W2) (fun _ _ i _=>x.size-(intOf i).toNat)
    case atStart=>exact ⟨0,Nat.zero_le _,rfl,by simp,rfl⟩
    case round=>
     obtain ⟨k,hk,rfl,hall,rfl⟩:=hrel
     have HA:=Lib.hid hall;clear hall
     by_cases hlt:k<x.size
     ·rcases (show (x[k].toNat:Int)<48∧(x[k].toNat:Int)≠45∨(x[k].toNat:Int)=45∨(48≤(x[k].toNat:Int)∧(x[k].toNat:Int)≤57)∨(57<(x[k].toNat:Int)∧(x[k].toNat:Int)<65)∨(65≤(x[k].toNat:Int)∧(x[k].toNat:Int)≤90)∨90<(x[k].toNat:Int) by omega) with ⟨g1,g2⟩ | g1 | ⟨g1,g2⟩ | ⟨g1,g2⟩ | ⟨g1,g2⟩ | g1
      ·have g3:(x[k].toNat:Int)<65:=by omega
       have g4:((x[k].toNat:Int)==45)=false:=by rw [beq_eq_false_iff_ne];exact g2
       have HBAD:=Lib.hid (HBD.out (label_no (all_take_no hlt (okc_no (by omega)))))
       gi_wp2_with fail
       exact ⟨(KeepsOthers.setCell wr ⟨w.heap.size,0,none⟩ (.bool false)).from _,HBAD.out⟩
      ·have g3:(x[k].toNat:Int)<65:=by omega
       have g5:(x[k].toNat:Int)<48:=by omega
       have g4:((x[k].toNat:Int)==45)=true:=by rw [g1];rfl
       have HY:=Lib.hid (all_take_yes hlt HA.out (okc_yes (by omega)))
       clear g1
       gi_wp2_with fail
       go_roundw
       case rel=>exact ⟨k+1,by omega,by go_num,HY.out,trivial⟩
       case measure=>simp [intOf];omega
      ·have g3:(x[k].toNat:Int)<65:=by omega
       have HY:=Lib.hid (all_take_yes hlt HA.out (okc_yes (by omega)))
       gi_wp2_with fail
       go_roundw
       case rel=>exact ⟨k+1,by omega,by go_num,HY.out,trivial⟩
       case measure=>simp [intOf];omega
      ·have g3:48≤(x[k].toNat:Int):=by omega
       have g4:((x[k].toNat:Int)==45)=false:=by rw [beq_eq_false_iff_ne];omega
       have HBAD:=Lib.hid (HBD.out (label_no (all_take_no hlt (okc_no (by omega)))))
       gi_wp2_with fail
       exact ⟨(KeepsOthers.setCell wr ⟨w.heap.size,0,none⟩ (.bool false)).from _,HBAD.out⟩
      ·have HY:=Lib.hid (all_take_yes hlt HA.out (okc_yes (by omega)))
       gi_wp2_with fail
       go_roundw
       case rel=>exact ⟨k+1,by omega,by go_num,HY.out,trivial⟩
       case measure=>simp [intOf];omega
      ·have g2:65≤(x[k].toNat:Int):=by omega
       have g3:48≤(x[k].toNat:Int):=by omega
       have g5:57<(x[k].toNat:Int):=by omega
       have g4:((x[k].toNat:Int)==45)=false:=by rw [beq_eq_false_iff_ne];omega
       have HBAD:=Lib.hid (HBD.out (label_no (all_take_no hlt (okc_no (by omega)))))
       gi_wp2_with fail
       exact ⟨(KeepsOthers.setCell wr ⟨w.heap.size,0,none⟩ (.bool false)).from _,HBAD.out⟩
     ·have hfull:x.data.toList.all okc=true:=by
       have:=HA.out
       rwa [List.take_of_length_le (by rw [size_list];omega)] at this
      have HL:=Lib.hid (label_yes HNE.out hfull);clear hfull
      gi_wp2_with fail
      exact ⟨KeepsFrom.refl _ _,HIT2.out,HI2.out.1,by rw [show dat (pre++[x])=dat pre++[x.data.toList] by simp [dat],List.all_append,HI2.out.2.1];simp [HL.out],HI2.out.2.2⟩
  ·intro D xs W hDw hS hIW hD
   have hxs:(spl [] s.data.toList).all labelB=true:=by rw [← hS];exact hIW.2.1
   have hrb:b=true:=by rw [← HB.out,realm_labels,HZ.out,hxs];rfl
   have hDn:w.heap.size<D:=by have:=HZB.out;have:=HZA.out;omega
   have k0:=(row1 hIW.1).1;have f0:=(row1 hIW.1).2
   have hg:=grown_set1 W w.heap.size (.bool true)
   have hD2:=heap_far hg hD (by omega)
   have c2:=row1_set (.bool true) hIW.1
   have hx2:=hIW.2.2.setCell (p:=⟨w.heap.size,0,none⟩) (Nat.le_refl _) (.bool true)
   obtain ⟨Ws,hWs⟩:∃ Ws,W.setCell ⟨w.heap.size,0,none⟩ (.bool true)=Ws:=⟨_,rfl⟩
   rw [hWs] at hD2 c2 hx2
   have HD2:=Lib.hid hD2;have HC2:=Lib.hid c2;have HX2:=Lib.hid hx2;have HRB:=Lib.hid hrb
   clear hIW hD hg hD2 c2 hx2 hxs hrb hS
   go_wp2_with fail
   have h4p:(Ws.putObj D (.deferred none)).heap[w.heap.size]? = some (.cells #[.bool true] 4 (0,0)):=(World.putObj_heap_other (by omega)).trans HC2.out
   have hxp:Ext w (Ws.putObj D (.deferred none)):=Ext.of_grown HX2.out (grown_put HD2.out) (by omega)
   have hcp:=(row1 h4p).1
   refine ⟨by simp,.inl ⟨_,_,rfl,run_takeDeferred HD2.out,?_⟩⟩
   rw [HRB.out]
   exact ⟨.bool true,by simp [results,Tryz.results134,go_sem,hcp],rfl,hxp⟩
  ·rintro D cd pre W hDw hS ⟨rfl,hrf,hc,hx⟩ hD
   refine wpIn_wide.2 ?_
   have hDn:w.heap.size<D:=by have:=HZB.out;have:=HZA.out;omega
   have hrb:b=false:=by rw [← HB.out];exact hrf
   have HRB:=Lib.hid hrb
   have h4p:(W.putObj D (.deferred none)).heap[w.heap.size]? = some (.cells #[.bool false] 4 (0,0)):=(World.putObj_heap_other (by omega)).trans hc
   have hxp:Ext w (W.putObj D (.deferred none)):=Ext.of_grown hx (grown_put hD) (by omega)
   have HD:=Lib.hid hD;have HXP:=Lib.hid hxp;have H4P:=Lib.hid h4p
   clear hD hxp h4p hx hc hrf hrb hS
   go_wp2_with fail
   have hcp:=(row1 H4P.out).1
   refine ⟨by simp,.inl ⟨_,_,rfl,run_takeDeferred HD.out,?_⟩⟩
   rw [HRB.out]
   exact ⟨.bool false,by simp [results,Tryz.results134,go_sem,hcp],rfl,HXP.out⟩
end Go.Proofs.YtnjmndofcpnmeaaGreatDoor
