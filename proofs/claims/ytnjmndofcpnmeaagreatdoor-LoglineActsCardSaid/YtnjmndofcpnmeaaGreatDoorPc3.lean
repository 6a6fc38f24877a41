/- Pc3. -/
import Derived.Test.YtnjmndofcpnmeaaGreatDoorPc2
import Derived.Test.YtnjmndofcpnmeaaGreatDoorShelf
import Derived.Lib.IndexLaws
import Derived.RangeFuncBound
import Derived.RangeFuncCalls
import Derived.OwnWalkIn
import Derived.TacticsInMore
import Derived.LoopNIn
import Derived.LoopIn
import Derived.Lib.Hide
import Derived.Handy
import Derived.Lib.IndexMore
import Derived.Test.YtnjmndofcpnmeaaGreatDoorPc0
import Derived.StillTail
import Derived.Test.YtnjmndofcpnmeaaGreatDoorPc1
import Derived.Laws.BitsAllLaws
import Derived.Laws.BitsLemmas
namespace Go.Proofs.YtnjmndofcpnmeaaGreatDoor
open Go Go.RowKit
section
variable {P:Program}
def IterP {α:Type}(P:Program)(gf:Nat)(lb:Array Value)(encs:α→Array Value)(It:List α→World→Prop)(G:List α→α→World→Prop)(own:Nat→Prop)(S Sp:List α→Prop):Prop:=
 ∀ (l:Nat) (J Jx:List α→World→Prop) (W:World),
  (∀ pre A B r,(∀ k,r=some k→own k)→A.grownBy B r→J pre A→J pre B)→(∀ pre A B r,(∀ k,r=some k→own k)→A.grownBy B r→Jx pre A→Jx pre B) →
  (∀ pre x W1,J pre W1→It pre W1→G pre x W1→YieldAt Fence.wide 0 P l (encs x) W1 fun e W'=>
   (e=.returned (.bool true)∧J (pre++[x]) W'∧It pre W')∨(e=.returned (.bool false)∧Jx (pre++[x]) W')) →
  It [] W→J [] W →
  CallsIn Fence.wide 0 P gf (#[.func (.yield l) #[] #[]]++lb) W fun e W'=>(∃ v,e=.returned v)∧((∃ xs,S xs∧J xs W')∨(∃ pre,Sp pre∧Jx pre W'))
def bPostP {α:Type} (B:Nat) (It:World→Prop) (I:List α→World→Prop) (Ix:Code→List α→World→Prop) (xs:List α) (W:World):Exit→Act→World→Prop
 | .normal,_,W'=>KeepsFrom B W W'∧It W'∧I xs W'
 | .ret,_,W'=>KeepsFrom B W W'∧Ix .ret xs W'
 | .exit id,_,W'=>KeepsFrom B W W'∧Ix (.exit id) xs W'
 | .goto t,_,W'=>KeepsFrom B W W'∧Ix (.goto t) xs W'
 | .panic _,_,_=>False
 | .outgrown,_,_=>False
theorem wp_rangeP {α:Type} {g:Operand} {ps:Array Tmp} {assign body:Code} {Q:Exit→Act→World→Prop} {a:Act} {w:World}
  {gf:Nat} {lb:Array Value} (hg:a.eval g=.func (.func gf) #[] lb) (eg:∀ args w,(callFunc gf args).run P w=.ok (.enter gf args) w)
  {encs:α→Array Value} {It:List α→World→Prop} {G:List α→α→World→Prop} {own:Nat→Prop} {S Sp:List α→Prop} (hseq:IterP P gf lb encs It G own S Sp) (hps:∀ x,(encs x).size=ps.size)
  (hown:∀ k,own k→k<w.heap.size) (hIt0:It [] w) (hIt:∀ pre,Stab w.heap.size (It pre))
  (I:List α→World→Prop) (Ix:Code→List α→World→Prop) (hI:∀ pre,Stab w.heap.size (I pre)) (hIx:∀ c pre,Stab w.heap.size (Ix c pre))
  (hIo:∀ pre A B r,(∀ k,r=some k→own k)→A.grownBy B r→I pre A→I pre B) (hIxo:∀ c pre A B r,(∀ k,r=some k→own k)→A.grownBy B r→Ix c pre A→Ix c pre B)
  (h0:I [] w)
  (hround:∀ (l:Nat) (pre:List α) (x:α) (W:World),w.heap.size≤l→NC W l→w.heap.size≤W.heap.size→I pre W→It pre W→G pre x W →
   assign.wpIn (Fence.wide.inRound l) 0 P (Exit.then (fun a' W1=>KeepsFrom w.heap.size W W1∧∀ W2,W1.grownBy W2 (some l)→NC W1 l→W2.heap.size=W1.heap.size →
     body.wpIn (Fence.wide.inRound l) 0 P (bPostP w.heap.size (It pre) I Ix (pre++[x]) W2) a' W2) (fun _ _ _=>False))
    { tmps:=(ps.zip (encs x)).foldl (fun t (p,v)=>t.setIfInBounds p v) a.tmps,defers:=[] } W)
  (hdone:∀ (D:Nat) (xs:List α) (W:World),w.heap.size≤D→S xs→I xs W→W.heap[D]? = some (.deferred (some []))→Q .normal { a with defers:={ target:=.collected D,args:=#[] }::a.defers } W)
  (hstop:∀ (D:Nat) (c:Code) (pre:List α) (W:World),w.heap.size≤D→Sp pre→Ix c pre W→W.heap[D]? = some (.deferred (some []))→c.wpIn Fence.wide 0 P Q { a with defers:={ target:=.collected D,args:=#[] }::a.defers } W):
  (Code.rangeFunc g ps assign body).wpIn Fence.wide 0 P Q a w:=by
 refine wpIn_rangeFunc ?_
 intro fn hfn
 obtain ⟨rc,hrc⟩:∃ rc:LoopState→Option Code→Loop,rc=fun st pe=>{ state:=st,pending:=pe,fn,tmps:=a.tmps,params:=ps,assign,body,defers:=w.heap.size }:=⟨_,rfl⟩
 obtain ⟨V,hV⟩:∃ V,(w.alloc (.deferred (some []))).alloc (.loop (rc .ready none))=V:=⟨_,rfl⟩
 have hxV:Ext w V:=by rw [← hV];exact ((Ext.refl w).alloc _).alloc _
 have hVL:V.heap[w.heap.size+1]? = some (.loop (rc .ready none)):=by
  rw [← hV]
  have:=heap_alloc_new (w.alloc (.deferred (some []))) (.loop (rc .ready none))
  rwa [World.size_alloc] at this
 have hVD:V.heap[w.heap.size]? = some (.deferred (some [])):=by rw [← hV];exact ((Ext.refl _).alloc _).heap (heap_alloc_new w _)
 have ncL:∀ {W:World} {r:Loop},W.heap[w.heap.size+1]? = some (.loop r)→NC W (w.heap.size+1):=fun h=>NC.of h rfl
 have toV:∀ {K:World→Prop},Stab w.heap.size K→K w→K V:=by
  intro K hK hk
  have hn:NC w w.heap.size:=fun cs t fr e=>by simp at e
  exact hK w V w.heap.size (Nat.le_refl _) hn (hxV.but _) hk
 have keepsOwn:∀ {A B:World} {r:Option Nat} {k:Nat} {o:Obj},(∀ j,r=some j→own j)→A.grownBy B r→w.heap.size≤k→A.heap[k]? = some o→B.heap[k]? = some o:=by
  intro A B r k o hr hgr hk ho
  exact (hgr.block k (Array.getElem?_eq_some_iff.1 ho).1 (fun e=>by have:=hown k (hr k e.symm);omega)).trans ho
 refine ⟨w.heap.size+1,[{ target:=.collected w.heap.size,args:=#[] }],V,{ target:=.fn (.func gf) lb,args:=#[.func (.yield (w.heap.size+1)) #[] #[]] },V,gf,
  #[.func (.yield (w.heap.size+1)) #[] #[]]++lb,V,?_,?_,?_,?_,fun h=>by simp [Fence.wide] at h,?_⟩
 ·rw [← hV,hrc]
  exact run_enterLoop_outer _ _ _ _ _
 ·simp only [resolve,hg]
  simp [go_sem]
 ·intro f' hf'
  trivial
 ·simp [invoke,go_sem,eg]
 ·refine (hseq (w.heap.size+1)
   (fun pre W=>w.heap.size+2≤W.heap.size∧I pre W∧W.heap[w.heap.size+1]? = some (.loop (rc .ready none))∧W.heap[w.heap.size]? = some (.deferred (some [])))
   (fun pre W=>∃ c,Ix c pre W∧W.heap[w.heap.size+1]? = some (.loop (rc .done (some c)))∧W.heap[w.heap.size]? = some (.deferred (some [])))
   V (fun pre A B r hr hgr h=>⟨Nat.le_trans h.1 hgr.size,hIo pre A B r hr hgr h.2.1,keepsOwn hr hgr (by omega) h.2.2.1,keepsOwn hr hgr (Nat.le_refl _) h.2.2.2⟩)
   (fun pre A B r hr hgr ⟨c,h1,h2,h3⟩=>⟨c,hIxo c pre A B r hr hgr h1,keepsOwn hr hgr (by omega) h2,keepsOwn hr hgr (Nat.le_refl _) h3⟩)
   ?_ (toV (hIt []) hIt0) ⟨by rw [← hV];simp,toV (hI []) h0,hVL,hVD⟩).mono ?_
  ·rintro pre x W ⟨hsz,hi,hl,hd⟩ hit hG
   have hy:=run_yield (P:=P) (args:=encs x) hl (by rw [hrc];exact hps x)
   rw [hrc] at hy
   refine ⟨fn,_,assign,body,hy,roundIn_of_wpIn hfn ?_⟩
   have hr:=hround (w.heap.size+1) pre x W (by omega) (ncL hl) (by omega) hi hit hG
   refine wpIn_mono hr ?_
   clear hr hy
   rintro e a1 W1 h
   cases e with
   | normal=>
    obtain ⟨hk1,h⟩:=h
    have hl1:=hk1.same _ _ (by omega) hl rfl
    have hd1:=hk1.same _ _ (Nat.le_refl _) hd rfl
    refine ⟨_,run_beginRound hl1 (by rw [hrc]),?_⟩
    have hlt1:=(Array.getElem?_eq_some_iff.1 hl1).1
    have hl2:(W1.putObj (w.heap.size+1) (.loop { rc .ready none with state:=.busy })).heap[w.heap.size+1]? = some (.loop { rc .ready none with state:=.busy }):=World.putObj_heap_same hlt1
    have hd2:(W1.putObj (w.heap.size+1) (.loop { rc .ready none with state:=.busy })).heap[w.heap.size]? = some (.deferred (some [])):=(World.putObj_heap_other (by omega)).trans hd1
    refine wpIn_mono (h _ (grown_put hl1) (ncL hl1) (by simp [World.putObj])) ?_
    have fin:∀ (jump:Option Code) (W3:World),KeepsFrom w.heap.size (W1.putObj (w.heap.size+1) (.loop { rc .ready none with state:=.busy })) W3 →
      ∃ W4,(Instr.endRound (w.heap.size+1) jump).run P W3=.ok (.bool jump.isNone) W4∧W3.grownBy W4 (some (w.heap.size+1))∧NC W3 (w.heap.size+1)∧w.heap.size+2≤W4.heap.size ∧
       W4.heap[w.heap.size+1]? = some (.loop (rc (if jump.isNone then .ready else .done) jump))∧W4.heap[w.heap.size]? = some (.deferred (some [])):=by
     intro jump W3 hk3
     have hl3:=hk3.same _ _ (by omega) hl2 rfl
     have hd3:=hk3.same _ _ (Nat.le_refl _) hd2 rfl
     have hlt3:=(Array.getElem?_eq_some_iff.1 hl3).1
     have hrun:=run_endRound (P:=P) jump hl3
     refine ⟨W3.putObj (w.heap.size+1) (.loop (rc (if jump.isNone then .ready else .done) jump)),?_,grown_put hl3,ncL hl3,by simp [World.putObj];omega,World.putObj_heap_same hlt3,(World.putObj_heap_other (by omega)).trans hd3⟩
     rw [hrc] at hrun ⊢
     exact hrun
    rintro e a3 W3 hp
    cases e with
    | normal=>
     obtain ⟨hk3,hit3,hi3⟩:=hp
     obtain ⟨W4,hrun,hg4,hn4,hz4,hl4,hd4⟩:=fin none W3 hk3
     exact ⟨_,_,hrun,.inl ⟨rfl,⟨hz4,hI _ _ _ _ (by omega) hn4 hg4 hi3,hl4,hd4⟩,hIt pre _ _ _ (by omega) hn4 hg4 hit3⟩⟩
    | ret=>
     obtain ⟨hk3,hi3⟩:=hp
     obtain ⟨W4,hrun,hg4,hn4,hz4,hl4,hd4⟩:=fin (some .ret) W3 hk3
     exact ⟨_,_,hrun,.inr ⟨rfl,.ret,hIx _ _ _ _ _ (by omega) hn4 hg4 hi3,hl4,hd4⟩⟩
    | exit id=>
     obtain ⟨hk3,hi3⟩:=hp
     obtain ⟨W4,hrun,hg4,hn4,hz4,hl4,hd4⟩:=fin (some (.exit id)) W3 hk3
     exact ⟨_,_,hrun,.inr ⟨rfl,.exit id,hIx _ _ _ _ _ (by omega) hn4 hg4 hi3,hl4,hd4⟩⟩
    | goto t=>
     obtain ⟨hk3,hi3⟩:=hp
     obtain ⟨W4,hrun,hg4,hn4,hz4,hl4,hd4⟩:=fin (some (.goto t)) W3 hk3
     exact ⟨_,_,hrun,.inr ⟨rfl,.goto t,hIx _ _ _ _ _ (by omega) hn4 hg4 hi3,hl4,hd4⟩⟩
    | panic ch=>exact hp.elim
    | outgrown=>exact hp.elim
   | ret=>exact h.elim
   | exit id=>exact h.elim
   | goto t=>exact h.elim
   | panic ch=>exact h.elim
   | outgrown=>exact h.elim
  ·rintro e W2 ⟨⟨v,rfl⟩,(⟨xs,hS,⟨hz,hi,hl,hd⟩⟩ | ⟨pre,hSp,c,hi,hl,hd⟩)⟩
   ·have hrun:=run_endLoop (P:=P) hl (by rw [hrc];simp)
    rw [hrc] at hrun
    refine ⟨none,_,hrun,?_⟩
    exact hdone _ xs _ (Nat.le_refl _) hS (hI _ _ _ _ (by omega) (ncL hl) (grown_put hl) hi) ((World.putObj_heap_other (by omega)).trans hd)
   ·have hrun:=run_endLoop (P:=P) hl (by rw [hrc];simp)
    rw [hrc] at hrun
    refine ⟨some c,_,hrun,?_⟩
    exact hstop _ c pre _ (Nat.le_refl _) hSp (hIx _ _ _ _ _ (by omega) (ncL hl) (grown_put hl) hi) ((World.putObj_heap_other (by omega)).trans hd)
end
#print axioms wp_rangeP
end Go.Proofs.YtnjmndofcpnmeaaGreatDoor
namespace Go.Proofs.YtnjmndofcpnmeaaGreatDoor
open Go Go.RowKit
set_option linter.unusedVariables false
theorem sizeL (s:ByteArray):s.data.toList.length=s.size:=by rw [Array.length_toList];rfl
def splb (x:UInt8):List UInt8→List UInt8→List (List UInt8)
 | acc,[]=>[acc]
 | acc,c::r=>if c=x then acc::splb x [] r else splb x (acc++[c]) r
theorem splb_acc (x:UInt8):∀ (s acc:List UInt8),(∀ c∈s,c≠x)→splb x acc s=[acc++s]
 | [],acc,_=>by simp [splb]
 | c::r,acc,h=>by
  rw [splb,if_neg (h c (by simp)),splb_acc x r _ (fun d hd=>h d (by simp [hd]))]
  simp
theorem splb_hit (x:UInt8):∀ (s acc r:List UInt8),(∀ c∈s,c≠x)→splb x acc (s++x::r)=(acc++s)::splb x [] r
 | [],acc,r,_=>by rw [List.nil_append,splb,if_pos rfl];simp
 | c::s,acc,r,h=>by
  rw [List.cons_append,splb,if_neg (h c (by simp)),splb_hit x s _ r (fun d hd=>h d (by simp [hd]))]
  simp
theorem splb_join (x:UInt8):∀ (l:List UInt8) (ls:List (List UInt8)),(∀ m∈l::ls,∀ c∈m,c≠x)→splb x [] (Lib.join (l::ls) [x])=l::ls
 | l,[],h=>by
  have e:Lib.join [l] [x]=l:=by simp [Lib.join,List.intercalate]
  rw [e,splb_acc x l [] (h l (by simp))]
  simp
 | l,m::r,h=>by
  have e:Lib.join (l::m::r) [x]=l++x::Lib.join (m::r) [x]:=by simp [Lib.join,List.intercalate,List.intersperse]
  rw [e,splb_hit x l [] _ (h l (by simp)),splb_join x m r (fun k hk=>h k (by simp at hk ⊢;exact .inr hk))]
  simp
def rstb (x:UInt8) (s:ByteArray):Nat→ByteArray
 | 0=>s
 | k+1=>(rstb x s k).extract ((Lib.indexByte (rstb x s k).data.toList x).toNat+1) (rstb x s k).size
theorem rstb_size (x:UInt8) (s:ByteArray):∀ k,(rstb x s k).size≤s.size
 | 0=>Nat.le_refl _
 | k+1=>by
  have:=rstb_size x s k
  rw [rstb,ByteArray.size_extract];omega
theorem sep_none {x:UInt8}{l:List UInt8}(h:Lib.indexByte l x = -1):splb x [] l=[l]:=by
 rw [splb_acc x l [] (fun c hc e=>by
  obtain ⟨k,hk,rfl⟩:=List.getElem_of_mem hc
  exact Lib.indexByte_none h k (by rw [List.getElem?_eq_getElem hk,Option.some.injEq];exact e))]
 rfl
theorem sep_some {x:UInt8}{l:List UInt8}{o:Nat}(h:Lib.indexByte l x=o):o<l.length∧splb x [] l=l.take o::splb x [] (l.drop (o+1)):=by
 obtain ⟨h1,h2⟩:=Lib.indexByte_some h
 have hlt:=(List.getElem?_eq_some_iff.1 h1).1
 refine ⟨hlt,?_⟩
 have he:l=l.take o++x::l.drop (o+1):=by
  have h3:=(List.getElem?_eq_some_iff.1 h1).2
  conv=>lhs;rw [← List.take_append_drop o l,List.drop_eq_getElem_cons hlt,h3]
 conv=>lhs;rw [he]
 rw [splb_hit x _ [] _ (fun c hc e=>by
  obtain ⟨k,hk,hk2⟩:=List.getElem_of_mem hc
  have hk3:k<o:=by simp at hk;omega
  rw [List.getElem_take] at hk2
  refine h2 k hk3 ?_
  rw [List.getElem?_eq_getElem (by omega),hk2,Option.some.injEq]
  exact e)]
 rfl
theorem index_sep (x:UInt8)(s:ByteArray)(w:World):Calls Tryz.prog 161 #[.string s,.string ⟨#[x]⟩] w fun e w'=>e=.returned (.int .i64 (Lib.indexByte s.data.toList x))∧w=w':=
 (Tryz.strings_Index_one s x w).mono fun e w' h=>⟨h.1,h.2.symm⟩
theorem extrDrop (s:ByteArray)(o:Nat):(s.extract o s.size).data.toList=s.data.toList.drop o:=by
 simp only [ByteArray.data_extract,Array.toList_extract,List.extract_eq_take_drop]
 exact List.take_of_length_le (by rw [List.length_drop,sizeL];omega)
def SbIt (x:UInt8)(s:ByteArray)(bs bp bv:Nat)(pre:List ByteArray)(W:World):Prop:=
 W.heap[bs]? = some (.cells #[.string (rstb x s pre.length)] 9 (0,0))∧W.heap[bp]? = some (.cells #[.string ⟨#[x]⟩] 9 (0,0))∧W.heap[bv]? = some (.cells #[.int .i64 0] 3 (0,0))
theorem SbIt.stab (x:UInt8)(B0:Nat)(s:ByteArray)(bs bp bv:Nat)(pre:List ByteArray):Stab B0 (SbIt x s bs bp bv pre):=(Stab.heap _ _ _ _).and ((Stab.heap _ _ _ _).and (Stab.heap _ _ _ _))
theorem SbIt.ext {x:UInt8}{s:ByteArray}{bs bp bv:Nat}{pre:List ByteArray}{W W':World}(h:SbIt x s bs bp bv pre W)(hx:Ext W W'):SbIt x s bs bp bv pre W':=⟨hx.heap h.1,hx.heap h.2.1,hx.heap h.2.2⟩
def dtb (xs:List ByteArray):List (List UInt8):=xs.map (·.data.toList)
def SbG (x:UInt8)(s:ByteArray)(pre:List ByteArray)(y:ByteArray)(_:World):Prop:=(∃ rest,splb x [] s.data.toList=dtb pre++y.data.toList::rest)∧y.size≤s.size
def strszb (v:Option Value):Nat:=match v with | some (.string b)=>b.size | _=>0
attribute [local go_sem] Oper.semAt_some
set_option maxRecDepth 100000 in
set_option maxHeartbeats 2000000 in
theorem splitb_iter (x:UInt8) (s:ByteArray) (hs:s.size≤4294967280) (bs bp bv:Nat) (h1:bs≠bp) (h2:bs≠bv):
  IterP Tryz.prog 199 #[.pointer (some ⟨bp,0,none⟩),.pointer (some ⟨bs,0,none⟩),.pointer (some ⟨bv,0,none⟩)] (fun y=>#[.string y]) (SbIt x s bs bp bv) (SbG x s) (fun k=>k=bs) (fun xs=>dtb xs=splb x [] s.data.toList) (fun pre=>∃ rest,splb x [] s.data.toList=dtb pre++rest):=by
 intro lp J Jx W hJ hJx hY hit h0
 refine callsIn_of_wp Tryz.func199 rfl trivial ?_ rfl
 simp only [Tryz.ntmps199,List.size_toArray,List.length_cons,List.length_nil,Nat.reduceAdd,Nat.reduceSub,Array.replicate_succ,Array.replicate_zero,List.push_toArray,List.append_toArray,List.nil_append,List.cons_append]
 have k1:W.cell? ⟨bp,0,none⟩=some (.string ⟨#[x]⟩):=by rw [cell_of_row _ _ 0 _ _ (0,0) hit.2.1];rfl
 gi_wp2
 gi_loopw [7] (fun _ wr=>∃ pre:List ByteArray,J pre wr∧SbIt x s bs bp bv pre wr∧splb x [] s.data.toList=dtb pre++splb x [] (rstb x s pre.length).data.toList) (fun _ wr=>strszb (wr.cell? ⟨bs,0,none⟩))
 case atStart=>exact ⟨[],h0,hit,rfl⟩
 case round=>
  obtain ⟨pre,hj,hi,he⟩:=hrel
  have hz:=rstb_size x s pre.length
  obtain ⟨cur,hcur⟩:∃ cur,rstb x s pre.length=cur:=⟨_,rfl⟩
  have c0:wr.cell? ⟨bs,0,none⟩=some (.string cur):=by rw [cell_of_row _ _ 0 _ _ (0,0) hi.1,← hcur];rfl
  have c1:wr.cell? ⟨bp,0,none⟩=some (.string ⟨#[x]⟩):=by rw [cell_of_row _ _ 0 _ _ (0,0) hi.2.1];rfl
  have c2:wr.cell? ⟨bv,0,none⟩=some (.int .i64 0):=by rw [cell_of_row _ _ 0 _ _ (0,0) hi.2.2];rfl
  rw [hcur] at he hz
  have HI:=Lib.hid hi;have HE:=Lib.hid he;have HC:=Lib.hid hcur;have HJ:=Lib.hid hj
  have hcs:cur.size≤4294967280:=by omega
  clear hi he hcur hj hz k1
  have hge:=Lib.indexByte_ge cur.data.toList x
  obtain ⟨o,ho⟩:∃ o,Lib.indexByte cur.data.toList x=o:=⟨_,rfl⟩
  have HIX:=Lib.hid (index_sep x cur wr)
  rw [ho] at hge HIX
  have HO:=Lib.hid ho;clear ho
  rcases (show o = -1∨∃ k:Nat,o=k by exact if h:o = -1 then .inl h else .inr ⟨o.toNat,by omega⟩) with rfl | ⟨k,rfl⟩
  ·have hsp:=sep_none HO.out
   have HS:=Lib.hid (show splb x [] s.data.toList=dtb pre++[cur.data.toList] by rw [HE.out,hsp])
   clear hsp
   gi_wp2_with fail
   refine wide_call HIX.out ?_
   rintro e w' ⟨rfl,rfl⟩
   obtain ⟨fn,tmps,assign,body,hy,hR⟩:=hY pre cur wr HJ.out HI.out ⟨⟨[],HS.out⟩,by rw [← HC.out];exact rstb_size _ _ _⟩
   gi_wp2_with fail
   refine ⟨rfl,hR.mono ?_⟩
   rintro e W3 (⟨rfl,hJ3,hI3⟩ | ⟨rfl,hJx3⟩)
   ·gi_wp2_with fail
    first | go_end0 | refine bodyPost_ret (results_none rfl _ _ _) rfl ?_
    exact ⟨⟨_,rfl⟩,.inl ⟨_,by rw [HS.out];simp [dtb],hJ3⟩⟩
   ·gi_wp2_with fail
    first | go_end0 | refine bodyPost_ret (results_none rfl _ _ _) rfl ?_
    exact ⟨⟨_,rfl⟩,.inr ⟨_,⟨[],by rw [HS.out];simp [dtb]⟩,hJx3⟩⟩
  ·obtain ⟨hko,hsp⟩:=sep_some HO.out
   rw [sizeL] at hko
   have HS:=Lib.hid (show splb x [] s.data.toList=dtb (pre++[cur.extract 0 k])++splb x [] (cur.extract (k+1) cur.size).data.toList by rw [HE.out,hsp,extrDrop];simp [dtb])
   have HR:=Lib.hid (show rstb x s (pre++[cur.extract 0 k]).length=cur.extract (k+1) cur.size by
    rw [List.length_append,List.length_singleton,rstb,HC.out,HO.out];rfl)
   clear hsp
   gi_wp2_with fail
   refine wide_call HIX.out ?_
   rintro e w' ⟨rfl,rfl⟩
   obtain ⟨fn,tmps,assign,body,hy,hR⟩:=hY pre (cur.extract 0 k) wr HJ.out HI.out ⟨⟨splb x [] (cur.extract (k+1) cur.size).data.toList,by rw [HS.out];simp [dtb]⟩,by have:=rstb_size x s pre.length;rw [HC.out] at this;rw [ByteArray.size_extract];omega⟩
   gi_wp2_with fail
   refine ⟨rfl,hR.mono ?_⟩
   rintro e W3 (⟨rfl,hJ3,hI3⟩ | ⟨rfl,hJx3⟩)
   ·have c3:W3.cell? ⟨bs,0,none⟩=some (.string cur):=by rw [cell_of_row _ _ 0 _ _ (0,0) hI3.1,← HC.out];rfl
    have c4:W3.cell? ⟨bp,0,none⟩=some (.string ⟨#[x]⟩):=by rw [cell_of_row _ _ 0 _ _ (0,0) hI3.2.1];rfl
    have f3:W3.frozen? ⟨bs,0,none⟩=false:=frozen_of_row W3 bs 0 _ _ hI3.1
    have HI3:=Lib.hid hI3;have HJ3:=Lib.hid hJ3;clear hI3 hJ3
    gi_wp2_with fail
    go_roundw
    case rel=>
     have hg:=grown_set1 W3 bs (.string (cur.extract (k+1) cur.size))
     refine ⟨pre++[cur.extract 0 k],hJ _ _ _ _ (fun j hj=>by cases hj;rfl) hg HJ3.out,⟨?_,heap_far hg HI3.out.2.1 (Ne.symm h1),heap_far hg HI3.out.2.2 (Ne.symm h2)⟩,?_⟩
     ·rw [HR.out]
      exact row1_set _ HI3.out.1
     ·rw [HR.out];exact HS.out
    case measure=>
     have e1:(W3.setCell ⟨bs,0,none⟩ (.string (cur.extract (k+1) cur.size))).cell? ⟨bs,0,none⟩=some (.string (cur.extract (k+1) cur.size)):=(row1 (row1_set _ HI3.out.1)).1
     rw [e1,c0]
     simp only [strszb,ByteArray.size_extract]
     omega
   ·gi_wp2_with fail
    first | go_end0 | refine bodyPost_ret (results_none rfl _ _ _) rfl ?_
    exact ⟨⟨_,rfl⟩,.inr ⟨_,⟨_,HS.out⟩,hJx3⟩⟩
theorem SplitSeqB_at (x:UInt8) (s:ByteArray) (w:World):
  Calls Tryz.prog 108 #[.string s,.string ⟨#[x]⟩] w fun e w'=>e=.returned (.func (.func 199) #[] #[.pointer (some ⟨w.heap.size+1,0,none⟩),.pointer (some ⟨w.heap.size,0,none⟩),.pointer (some ⟨w.heap.size+1+1,0,none⟩)]) ∧
   SbIt x s w.heap.size (w.heap.size+1) (w.heap.size+1+1) [] w'∧w'.heap.size=w.heap.size+3∧Ext w w':=by
 have hmf:∀ (fn:Fn) (first cap:Array Value) (w:World),(Instr.makeFunc fn first cap).run Tryz.prog w=.ok (.func fn first cap) w:=fun _ _ _ _=>rfl
 have hin:Calls Tryz.prog 156 #[.string s,.string ⟨#[x]⟩,.int .i64 0] w fun e w'=>e=.returned (.func (.func 199) #[] #[.pointer (some ⟨w.heap.size+1,0,none⟩),.pointer (some ⟨w.heap.size,0,none⟩),.pointer (some ⟨w.heap.size+1+1,0,none⟩)]) ∧
   SbIt x s w.heap.size (w.heap.size+1) (w.heap.size+1+1) [] w'∧w'.heap.size=w.heap.size+3∧Ext w w':=by
  go_enter Tryz.func156,Tryz.ntmps156
  go_wp2
  go_ret
  have x1:=(Ext.refl w).alloc (.cells #[.string s] 9)
  have x2:=(Ext.refl (w.alloc (.cells #[.string s] 9))).alloc (.cells #[.string ⟨#[x]⟩] 9)
  have x3:=(Ext.refl ((w.alloc (.cells #[.string s] 9)).alloc (.cells #[.string ⟨#[x]⟩] 9))).alloc (.cells #[.int .i64 0] 3)
  have a1:=heap_alloc_new w (.cells #[.string s] 9)
  have a2:=heap_alloc_new (w.alloc (.cells #[.string s] 9)) (.cells #[.string ⟨#[x]⟩] 9)
  have a3:=heap_alloc_new ((w.alloc (.cells #[.string s] 9)).alloc (.cells #[.string ⟨#[x]⟩] 9)) (.cells #[.int .i64 0] 3)
  rw [World.size_alloc] at a2
  rw [World.size_alloc,World.size_alloc] at a3
  exact ⟨rfl,⟨(x2.trans x3).heap a1,x3.heap a2,a3⟩,by simp,(x1.trans x2).trans x3⟩
 have HIN:=Lib.hid hin;clear hin
 go_enter Tryz.func108,Tryz.ntmps108
 go_wp2_with fail
 refine HIN.out.mono ?_
 rintro e w1 ⟨rfl,hit,hsz,hx⟩
 go_wp2_with fail
 go_ret
 exact ⟨rfl,hit,hsz,hx⟩
end Go.Proofs.YtnjmndofcpnmeaaGreatDoor
namespace Go.Proofs.YtnjmndofcpnmeaaGreatDoor
open Go.Lib
set_option linter.unusedVariables false
def wbs:List Nat→List UInt8
 | []=>[]
 | x::r=>UInt8.ofNat (x / 256)::UInt8.ofNat (x % 256)::wbs r
theorem wbs_append:∀ a b:List Nat,wbs (a++b)=wbs a++wbs b
 | [],_=>rfl
 | x::a,b=>by simp [wbs,wbs_append a b]
theorem wbs_length:∀ a:List Nat,(wbs a).length=2*a.length
 | []=>rfl
 | x::a=>by simp [wbs,wbs_length a];omega
theorem wbs_zeros:∀ n:Nat,wbs (List.replicate n 0)=List.replicate (2*n) 0
 | 0=>rfl
 | n+1=>by rw [List.replicate_succ,wbs,wbs_zeros n,show 2*(n+1)=2*n+1+1 by omega,List.replicate_succ,List.replicate_succ];rfl
theorem wbs_wds:∀ (b:List UInt8) (n:Nat),b.length=2*n→wbs (wds b)=b
 | [],_,_=>rfl
 | [_],n,h=>by simp at h;omega
 | a::c::r,n,h=>by
  have h1:=a.toNat_lt
  have h2:=c.toNat_lt
  rw [wds,wbs,wbs_wds r (n-1) (by simp at h;omega),show (256*a.toNat+c.toNat) / 256=a.toNat by omega,show (256*a.toNat+c.toNat) % 256=c.toNat by omega,UInt8.ofNat_toNat,UInt8.ofNat_toNat]
theorem wds_length:∀ (b:List UInt8) (n:Nat),b.length=2*n→(wds b).length=n
 | [],n,h=>by simp at h;simp [wds];omega
 | [_],n,h=>by simp at h;omega
 | a::c::r,n,h=>by
  have:=wds_length r (n-1) (by simp at h;omega)
  rw [wds,List.length_cons,this]
  simp at h;omega
theorem wds_lt:∀ (b:List UInt8),∀ x∈wds b,x<65536
 | [],x,h=>by simp [wds] at h
 | [_],x,h=>by simp [wds] at h
 | a::c::r,x,h=>by
  have h1:=a.toNat_lt
  have h2:=c.toNat_lt
  rw [wds] at h
  rcases List.mem_cons.1 h with rfl | h
  ·omega
  ·exact wds_lt r x h
theorem zrs_le:∀ l:List Nat,zrs l≤l.length
 | []=>Nat.le_refl _
 | 0::r=>by rw [zrs];have:=zrs_le r;simp;omega
 | (n+1)::r=>by simp [zrs]
theorem zrs_take:∀ l:List Nat,l.take (zrs l)=List.replicate (zrs l) 0
 | []=>rfl
 | 0::r=>by rw [zrs,List.take_succ_cons,zrs_take r,List.replicate_succ]
 | (n+1)::r=>by simp [zrs]
theorem bst_ok (G:List Nat):∀ (l:List Nat) (i bg ln:Nat),l=G.drop i→bg+ln≤G.length→(G.drop bg).take ln=List.replicate ln 0 →
  (bst i l bg ln).1+(bst i l bg ln).2≤G.length∧(G.drop (bst i l bg ln).1).take (bst i l bg ln).2=List.replicate (bst i l bg ln).2 0
 | [],i,bg,ln,_,h1,h2=>⟨h1,h2⟩
 | x::r,i,bg,ln,hl,h1,h2=>by
  have hr:r=G.drop (i+1):=by rw [← List.tail_drop,← hl];rfl
  have hz:=zrs_le (x::r)
  rw [bst]
  split
  ·refine bst_ok G r (i+1) i _ hr ?_ ?_
   ·rw [hl,List.length_drop] at hz
    have:i<G.length:=by
     rcases Nat.lt_or_ge i G.length with h | h
     ·exact h
     ·rw [List.drop_eq_nil_of_le h] at hl;cases hl
    rw [← hl] at hz;omega
   ·rw [← hl];exact zrs_take _
  ·exact bst_ok G r (i+1) bg ln hr h1 h2
theorem split3 {G:List Nat}{bg ln:Nat}(h:bg+ln≤G.length)(h2:(G.drop bg).take ln=List.replicate ln 0):G.take bg++(List.replicate ln 0++G.drop (bg+ln))=G:=by
 rw [← h2,← List.drop_drop,List.take_append_drop,List.take_append_drop]
theorem hjoin_nil:hjoin []=[]:=rfl
theorem hjoin_one (x:Nat):hjoin [x]=hexD x:=by simp [hjoin,join,List.intercalate]
theorem hjoin_cons (x y:Nat)(r:List Nat):hjoin (x::y::r)=hexD x++58::hjoin (y::r):=by simp [hjoin,join,List.intercalate]
theorem hjoin_chr (g:List Nat):∀ c∈hjoin g,c=58∨(48≤c.toNat∧c.toNat≤57)∨(97≤c.toNat∧c.toNat≤102):=by
 induction g with
 | nil=>intro c h;cases h
 | cons x r ih=>
  intro c h
  cases r with
  | nil=>rw [hjoin_one] at h;exact .inr (hexD_dig x c h)
  | cons y r=>
   rw [hjoin_cons] at h
   rcases List.mem_append.1 h with h | h
   ·exact .inr (hexD_dig x c h)
   ·rcases List.mem_cons.1 h with h | h
    ·exact .inl h
    ·exact ih c h
theorem hjoin_len:∀ g:List Nat,(∀ x∈g,x<65536)→(hjoin g).length≤5*g.length
 | [],_=>by simp [hjoin_nil]
 | [x],h=>by rw [hjoin_one];have:=hexD_len x (h x (by simp));simp;omega
 | x::y::r,h=>by
  rw [hjoin_cons,List.length_append,List.length_cons]
  have:=hexD_len x (h x (by simp))
  have:=hjoin_len (y::r) (fun z hz=>h z (by simp [hz]))
  simp only [List.length_cons] at this ⊢
  omega
theorem hjoin_len1:∀ g:List Nat,g≠[]→(∀ x∈g,x<65536)→(hjoin g).length+1≤5*g.length
 | [],h,_=>absurd rfl h
 | [x],_,h=>by rw [hjoin_one];have:=hexD_len x (h x (by simp));simp;omega
 | x::y::r,_,h=>by
  rw [hjoin_cons,List.length_append,List.length_cons]
  have:=hexD_len x (h x (by simp))
  have:=hjoin_len1 (y::r) (by simp) (fun z hz=>h z (by simp [hz]))
  simp only [List.length_cons] at this ⊢
  omega
theorem hjoin_ne:∀ g:List Nat,g≠[]→hjoin g≠[]
 | [],h=>absurd rfl h
 | [x],_=>by rw [hjoin_one];exact hexD_ne x
 | x::y::r,_=>by rw [hjoin_cons];simp
theorem index_cc:∀ (l r:List UInt8),(∀ (k:Nat),l[k]? = some 58→∃ c,l[k+1]? = some c∧c≠58)→index (l++58::58::r) [58,58]=(l.length:Int)
 | [],r,_=>by simp [index,List.isPrefixOf]
 | b::l,r,h=>by
  have ih:=index_cc l r (fun k hk=>h (k+1) (by simpa using hk))
  have hb:([58,58]:List UInt8).isPrefixOf (b::(l++58::58::r))=false:=by
   by_cases hb:b=58
   ·subst hb
    obtain ⟨c,hc,hne⟩:=h 0 (by simp)
    cases l with
    | nil=>simp at hc
    | cons d l=>
     simp only [Nat.zero_add,List.getElem?_cons_succ,List.getElem?_cons_zero,Option.some.injEq] at hc
     subst hc
     simp [List.isPrefixOf,Ne.symm hne]
   ·simp [List.isPrefixOf,Ne.symm hb]
  rw [List.cons_append,index,if_neg (by simp [hb]),ih,if_neg (by simp)]
  simp
theorem index_cc_no:∀ (l:List UInt8),(∀ (k:Nat),l[k]? = some 58→∃ c,l[k+1]? = some c∧c≠58)→index l [58,58] = -1
 | [],_=>by simp [index]
 | b::l,h=>by
  have ih:=index_cc_no l (fun k hk=>h (k+1) (by simpa using hk))
  have hb:([58,58]:List UInt8).isPrefixOf (b::l)=false:=by
   by_cases hb:b=58
   ·subst hb
    obtain ⟨c,hc,hne⟩:=h 0 (by simp)
    cases l with
    | nil=>simp at hc
    | cons d l=>
     simp only [Nat.zero_add,List.getElem?_cons_succ,List.getElem?_cons_zero,Option.some.injEq] at hc
     subst hc
     simp [List.isPrefixOf,Ne.symm hne]
   ·simp [List.isPrefixOf,Ne.symm hb]
  rw [index,if_neg (by simp [hb]),ih];rfl
theorem hjoin_sep:∀ (g:List Nat) (k:Nat),(hjoin g)[k]? = some 58→∃ c,(hjoin g)[k+1]? = some c∧c≠58
 | [],k,h=>by simp [hjoin_nil] at h
 | [x],k,h=>by
  rw [hjoin_one] at h
  exact absurd (List.mem_of_getElem? h) (hexD_no x 58 (by decide))
 | x::y::r,k,h=>by
  rw [hjoin_cons] at h ⊢
  rcases Nat.lt_trichotomy k (hexD x).length with hk | hk | hk
  ·rw [List.getElem?_append_left hk] at h
   exact absurd (List.mem_of_getElem? h) (hexD_no x 58 (by decide))
  ·subst hk
   rw [List.getElem?_append_right (by omega),show (hexD x).length+1-(hexD x).length=0+1 by omega,List.getElem?_cons_succ]
   obtain ⟨c,l,hc⟩:∃ c l,hjoin (y::r)=c::l:=by
    cases hj:hjoin (y::r) with
    | nil=>exact absurd hj (hjoin_ne _ (by simp))
    | cons c l=>exact ⟨c,l,rfl⟩
   have hd:∃ l',hexD y++l'=hjoin (y::r):=by
    cases r with
    | nil=>exact ⟨[],by rw [hjoin_one,List.append_nil]⟩
    | cons z r=>exact ⟨_,(hjoin_cons y z r).symm⟩
   obtain ⟨l',hl'⟩:=hd
   rw [hc] at hl' ⊢
   cases hy:hexD y with
   | nil=>exact absurd hy (hexD_ne y)
   | cons d m=>
    rw [hy] at hl'
    simp only [List.cons_append,List.cons.injEq] at hl'
    refine ⟨c,rfl,?_⟩
    rw [← hl'.1]
    intro e
    exact hexD_no y 58 (by decide) (by rw [hy,e];simp)
  ·rw [List.getElem?_append_right (by omega)] at h ⊢
   obtain ⟨j,hj⟩:∃ j,k-(hexD x).length=j+1:=⟨k-(hexD x).length-1,by omega⟩
   rw [hj,List.getElem?_cons_succ] at h
   rw [show k+1-(hexD x).length=(j+1)+1 by omega,List.getElem?_cons_succ]
   exact hjoin_sep (y::r) j h
theorem cut_cc (l r:List UInt8)(h:∀ (k:Nat),l[k]? = some 58→∃ c,l[k+1]? = some c∧c≠58):cut (l++([58,58]++r)) [58,58]=(l,r,true):=by
 unfold cut
 rw [show [58,58]++r=(58:UInt8)::58::r from rfl,index_cc l r h,if_pos (by omega)]
 have e1:(l++(58:UInt8)::58::r).take l.length=l:=by rw [List.take_left'];rfl
 have e2:(l++(58:UInt8)::58::r).drop (l.length+2)=r:=by
  rw [show l++(58:UInt8)::58::r=(l++[58,58])++r by simp]
  exact List.drop_left' (by simp)
 rw [Int.toNat_natCast,e1]
 exact congrArg (fun z=>(l,z,true)) e2
theorem cut_no (l:List UInt8)(h:∀ (k:Nat),l[k]? = some 58→∃ c,l[k+1]? = some c∧c≠58):cut l [58,58]=(l,[],false):=by
 unfold cut
 rw [index_cc_no l h,if_neg (by omega)]
def allP (f:List UInt8→Option Nat):List (List UInt8)→Option (List Nat)
 | []=>some []
 | l::r=>match f l with
  | none=>none
  | some v=>match allP f r with
   | none=>none
   | some vs=>some (v::vs)
theorem allP_map {f:List UInt8→Option Nat} {e:Nat→List UInt8}:∀ g:List Nat,(∀ x∈g,f (e x)=some x)→allP f (g.map e)=some g
 | [],_=>rfl
 | x::r,h=>by rw [List.map_cons,allP,h x (by simp),allP_map r (fun y hy=>h y (by simp [hy]))]
theorem allP_snoc {f:List UInt8→Option Nat}:∀ (a b:List (List UInt8)) (vs:List Nat),allP f a=some vs→allP f (a++b)=match allP f b with | none=>none | some ws=>some (vs++ws)
 | [],b,vs,h=>by
  simp only [allP,Option.some.injEq] at h
  subst h
  rw [List.nil_append]
  cases allP f b<;>rfl
 | l::a,b,vs,h=>by
  rw [allP] at h
  rw [List.cons_append,allP]
  cases hf:f l with
  | none=>rw [hf] at h;cases h
  | some v=>
   rw [hf] at h
   simp only at h
   cases ha:allP f a with
   | none=>rw [ha] at h;cases h
   | some us=>
    rw [ha] at h
    simp only [Option.some.injEq] at h
    subst h
    simp only
    rw [allP_snoc a b us ha]
    cases allP f b<;>rfl
theorem allP_one {f:List UInt8→Option Nat}{a:List (List UInt8)}{vs:List Nat}{y:List UInt8}{v:Nat}(h:allP f a=some vs)(hy:f y=some v):allP f (a++[y])=some (vs++[v]):=by
 rw [allP_snoc a [y] vs h,allP,hy];rfl
theorem allP_bad {f:List UInt8→Option Nat}{a:List (List UInt8)}{vs:List Nat}{y:List UInt8}(r:List (List UInt8))(h:allP f a=some vs)(hy:f y=none):allP f (a++y::r)=none:=by
 rw [allP_snoc a (y::r) vs h,allP,hy]
theorem allP_length {f:List UInt8→Option Nat}:∀ (a:List (List UInt8)) (vs:List Nat),allP f a=some vs→vs.length=a.length
 | [],vs,h=>by simp only [allP,Option.some.injEq] at h;subst h;rfl
 | l::a,vs,h=>by
  rw [allP] at h
  cases hf:f l with
  | none=>rw [hf] at h;cases h
  | some v=>
   rw [hf] at h
   simp only at h
   cases ha:allP f a with
   | none=>rw [ha] at h;cases h
   | some us=>
    rw [ha] at h
    simp only [Option.some.injEq] at h
    subst h
    simp [allP_length a us ha]
def pgs (l:List UInt8):Option (List Nat):=if l=[] then some [] else allP pu16w (splb 58 [] l)
theorem pgs_hjoin (g:List Nat)(h:∀ x∈g,x<65536):pgs (hjoin g)=some g:=by
 unfold pgs
 cases g with
 | nil=>rfl
 | cons x r=>
  rw [if_neg (hjoin_ne _ (by simp))]
  unfold hjoin
  rw [List.map_cons,splb_join 58 (hexD x) (r.map hexD) (fun m hm c hc e=>by
   rw [← List.map_cons] at hm
   obtain ⟨y,_,rfl⟩:=List.mem_map.1 hm
   subst e
   exact hexD_no y 58 (by decide) hc),← List.map_cons]
  exact allP_map _ (fun y hy=>pu16w_hex y (h y hy))
def join6 (a c:List Nat)(sh:Bool):List UInt8:=
 if 16<2*a.length+2*c.length∨(2*a.length+2*c.length<16∧sh=false) then [] else wbs a++(List.replicate (16-(2*a.length+2*c.length)) 0++wbs c)
def jn6 (p q:Option (List Nat))(sh:Bool):List UInt8:=match p,q with
 | some a,some c=>join6 a c sh
 | _,_=>[]
def cand6m (m:List UInt8):List UInt8:=jn6 (pgs (cut m [58,58]).1) (pgs (cut m [58,58]).2.1) (cut m [58,58]).2.2
def cand6 (s:List UInt8):List UInt8:=if s.length<2∨41<s.length then [] else cand6m ((s.drop 1).take (s.length-2))
def words4 (s:List UInt8):List (List UInt8):=splitK [46] 0 (min 5 (s.length+1)-1) s
def cand4 (s:List UInt8):List UInt8:=match allP pu8w (words4 s) with | none=>[] | some v=>v.map UInt8.ofNat
def hostP:List UInt8:=[104,111,115,116,47]
def cnd (s:List UInt8):Int × List UInt8:=if hostP.isPrefixOf s then (20,s.drop 5) else if [91].isPrefixOf s then (24,cand6 s) else (2,cand4 s)
def prsA (s:List UInt8):Option (Int × List UInt8):=if okA (cnd s).1 (cnd s).2=true∧txtA (cnd s).1 (cnd s).2=s then some (cnd s) else none
theorem prsA_some {s:List UInt8}{k:Int}{b:List UInt8}(h:prsA s=some (k,b)):okA k b=true∧txtA k b=s:=by
 unfold prsA at h
 split at h
 ·next hc=>injection h with h;rw [h] at hc;exact hc
 ·cases h
theorem okA_kinds {k:Int}{b:List UInt8}(h:okA k b=true):(k=2∧b.length=4)∨(k=24∧b.length=16)∨(k=20∧(1≤b.length∧b.length≤16)∧b.all visB=true):=by
 unfold okA at h
 split at h
 ·next e=>exact .inl ⟨e,by simpa using h⟩
 ·split at h
  ·next e=>exact .inr (.inl ⟨e,by simpa using h⟩)
  ·split at h
   ·next e=>simp only [Bool.and_eq_true,decide_eq_true_eq] at h;exact .inr (.inr ⟨e,h.1,h.2⟩)
   ·cases h
theorem list4 {α:Type}{l:List α}(h:l.length=4):∃ a b c d,l=[a,b,c,d]:=by
 match l,h with
 | [a,b,c,d],_=>exact ⟨a,b,c,d,rfl⟩
theorem txt4_eq (a b c d:UInt8):txt4 [a,b,c,d]=decDigits a.toNat++46::(decDigits b.toNat++46::(decDigits c.toNat++46::decDigits d.toNat)):=by
 simp [txt4,join,List.intercalate,List.intersperse]
theorem dec_pos (n:Nat):1≤(decDigits n).length:=by
 have:=dec_ne n
 cases h:decDigits n with
 | nil=>exact absurd h this
 | cons c r=>simp
theorem cand4_txt {b:List UInt8}(h:b.length=4):cand4 (txt4 b)=b:=by
 obtain ⟨p,q,r,t,rfl⟩:=list4 h
 have n (x:UInt8):(46:UInt8) ∉ decDigits x.toNat:=dec_no _ _ (by decide)
 have l1:=dec_pos p.toNat
 have l2:=dec_pos q.toNat
 have l3:=dec_pos r.toNat
 have l4:=dec_pos t.toNat
 have hl:min 5 ((txt4 [p,q,r,t]).length+1)-1=4:=by
  rw [txt4_eq];simp only [List.length_append,List.length_cons];omega
 have hw:words4 (txt4 [p,q,r,t])=[p.toNat,q.toNat,r.toNat,t.toNat].map decDigits:=by
  unfold words4
  rw [hl,txt4_eq,splitK_hit 46 3 _ _ (n p),splitK_hit 46 2 _ _ (n q),splitK_hit 46 1 _ _ (n r),splitK_miss 46 1 _ (n t)]
  rfl
 unfold cand4
 rw [hw,allP_map _ (fun x hx=>by
  refine pu8w_dec x ?_
  simp only [List.mem_cons,List.not_mem_nil,or_false] at hx
  rcases hx with rfl | rfl | rfl | rfl<;>exact UInt8.toNat_lt _)]
 simp
theorem txt4_head (b:List UInt8)(h:b.length=4):∃ c r,txt4 b=c::r∧48≤c.toNat∧c.toNat≤57:=by
 obtain ⟨p,q,r,t,rfl⟩:=list4 h
 rw [txt4_eq]
 have hd:=dec_dig p.toNat
 cases hp:decDigits p.toNat with
 | nil=>exact absurd hp (dec_ne _)
 | cons c m=>exact ⟨c,_,rfl,hd c (by rw [hp];simp)⟩
theorem txt6_shape {b:List UInt8} (h:b.length=16):(∃ g,txt6 b=[91]++(hjoin g++[93])∧g.length=8∧(∀ x∈g,x<65536)∧wbs g=b) ∨
  (∃ a c,txt6 b=[91]++(hjoin a++([58,58]++(hjoin c++[93])))∧a.length+c.length≤6∧(∀ x∈a,x<65536)∧(∀ x∈c,x<65536)∧wbs a++(List.replicate (16-(2*a.length+2*c.length)) 0++wbs c)=b ∧
   wbs (a++List.replicate (8-(a.length+c.length)) 0++c)=b):=by
 have hl:=wds_length b 8 (by omega)
 have hb:=wbs_wds b 8 (by omega)
 have hlt:=wds_lt b
 obtain ⟨h1,h2⟩:=bst_ok (wds b) (wds b) 0 0 0 rfl (by omega) rfl
 have ht:txt6 b=txt6w (wds b) (bst 0 (wds b) 0 0).1 (bst 0 (wds b) 0 0).2:=rfl
 rw [ht]
 generalize bst 0 (wds b) 0 0=x at h1 h2 ⊢
 obtain ⟨bg,ln⟩:=x
 simp only at h1 h2 ⊢
 generalize wds b=g at *
 clear ht
 unfold txt6w
 by_cases hln:ln<2
 ·rw [if_pos hln]
  exact .inl ⟨g,rfl,hl,hlt,hb⟩
 ·rw [if_neg hln]
  have hs:=split3 h1 h2
  have la:(g.take bg).length=bg:=by rw [List.length_take];omega
  have lc:(g.drop (bg+ln)).length=8-(bg+ln):=by rw [List.length_drop];omega
  refine .inr ⟨g.take bg,g.drop (bg+ln),rfl,by omega,fun x hx=>hlt x (List.mem_of_mem_take hx),fun x hx=>hlt x (List.mem_of_mem_drop hx),?_,?_⟩
  ·rw [la,lc,show 16-(2*bg+2*(8-(bg+ln)))=2*ln by omega,← wbs_zeros,← wbs_append,← wbs_append,hs,hb]
  ·rw [la,lc,show 8-(bg+(8-(bg+ln)))=ln by omega,List.append_assoc,hs,hb]
theorem mid_of (m:List UInt8):(([91]++(m++[93])).drop 1).take (([91]++(m++[93])).length-2)=m:=by
 rw [show ([91]++(m++[93]):List UInt8)=91::(m++[93]) from rfl,List.drop_succ_cons,List.drop_zero,show (91::(m++[93]):List UInt8).length-2=m.length by simp,List.take_left']
 rfl
theorem txt6_len {b:List UInt8}(h:b.length=16):2≤(txt6 b).length∧(txt6 b).length≤41:=by
 rcases txt6_shape h with ⟨g,e,hl,hlt,_⟩ | ⟨a,c,e,hl,ha,hc,_⟩
 ·rw [e]
  have:=hjoin_len1 g (by intro h;rw [h] at hl;cases hl) hlt
  simp only [List.length_append,List.length_cons,List.length_nil]
  omega
 ·rw [e]
  have:=hjoin_len a ha
  have:=hjoin_len c hc
  simp only [List.length_append,List.length_cons,List.length_nil]
  omega
theorem cand6_txt {b:List UInt8}(h:b.length=16):cand6 (txt6 b)=b:=by
 have hL:=txt6_len h
 unfold cand6
 rw [if_neg (by omega)]
 rcases txt6_shape h with ⟨g,e,hl,hlt,hb⟩ | ⟨a,c,e,hl,ha,hc,hb,_⟩
 ·rw [e,mid_of]
  unfold cand6m
  rw [cut_no _ (hjoin_sep g)]
  simp only
  rw [pgs_hjoin g hlt,show pgs []=some [] from rfl]
  show join6 g [] false=b
  unfold join6
  rw [if_neg (by simp only [List.length_nil];omega),hl]
  simp [wbs,hb]
 ·rw [e,show hjoin a++([58,58]++(hjoin c++[93]))=(hjoin a++([58,58]++hjoin c))++[93] by simp,mid_of]
  unfold cand6m
  rw [cut_cc _ _ (hjoin_sep a)]
  simp only
  rw [pgs_hjoin a ha,pgs_hjoin c hc]
  show join6 a c true=b
  unfold join6
  rw [if_neg (by simp;omega),hb]
theorem cnd_txt {k:Int}{b:List UInt8}(h:okA k b=true):cnd (txtA k b)=(k,b):=by
 rcases okA_kinds h with ⟨rfl,hl⟩ | ⟨rfl,hl⟩ | ⟨rfl,hl,_⟩
 ·show cnd (txt4 b)=_
  obtain ⟨c,r,e,hc⟩:=txt4_head b hl
  have h1:hostP.isPrefixOf (txt4 b)=false:=by
   rw [e]
   have:(104:UInt8)≠c:=fun e=>by subst e;simp at hc
   simp [hostP,List.isPrefixOf,this]
  have h2:([91]:List UInt8).isPrefixOf (txt4 b)=false:=by
   rw [e]
   have:(91:UInt8)≠c:=fun e=>by subst e;simp at hc
   simp [List.isPrefixOf,this]
  unfold cnd
  rw [h1,h2,cand4_txt hl]
  rfl
 ·show cnd (txt6 b)=_
  have h1:hostP.isPrefixOf (txt6 b)=false:=by
   rcases txt6_shape hl with ⟨g,e,_⟩ | ⟨a,c,e,_⟩<;>(rw [e];simp [hostP,List.isPrefixOf])
  have h2:([91]:List UInt8).isPrefixOf (txt6 b)=true:=by
   rcases txt6_shape hl with ⟨g,e,_⟩ | ⟨a,c,e,_⟩<;>(rw [e];simp [List.isPrefixOf])
  unfold cnd
  rw [h1,h2,cand6_txt hl]
  rfl
 ·show cnd (txtH b)=_
  have h1:hostP.isPrefixOf (txtH b)=true:=by simp [hostP,txtH,List.isPrefixOf]
  unfold cnd
  rw [h1]
  rfl
theorem prsA_txt {k:Int}{b:List UInt8}(h:okA k b=true):prsA (txtA k b)=some (k,b):=by
 unfold prsA
 rw [cnd_txt h,if_pos ⟨h,rfl⟩]
theorem txtA_inj {k k':Int}{b b':List UInt8}(h:okA k b=true)(h':okA k' b'=true)(e:txtA k b=txtA k' b'):k=k'∧b=b':=by
 have h1:=prsA_txt h
 rw [e,prsA_txt h'] at h1
 injection h1 with h1
 injection h1 with h1 h2
 exact ⟨h1.symm,h2.symm⟩
end Go.Proofs.YtnjmndofcpnmeaaGreatDoor
namespace Go.Proofs.YtnjmndofcpnmeaaGreatDoor
open Go Go.RowKit
section
variable {P:Program} {ops:Array Oper} {Vs:Nat→Value→World→Prop} {w0:World} {md:Region.Mode}
def wpAnyEL (P:Program) (md:Region.Mode) (ops:Array Oper) (Vs:Nat→Value→World→Prop) (w0:World) (n:Nat) (L:Array Bool→Act→World→Prop):Nat→Array Bool→Act→Marks'→Prop
 | 0,listed,a,Ws=>cons' w0 Ws→∀ w,above w0 Ws w→L listed a w
 | fuel+1,listed,a,Ws=>cons' w0 Ws →
  Region.ready md ops listed≠[]∧∀ i∈Region.ready md ops listed,i<n∧eOp P ops Vs w0 i (wpAnyEL P md ops Vs w0 n L fuel (listed.setIfInBounds i true)) a Ws
theorem wpAnyEL_mono {n:Nat} {L:Array Bool→Act→World→Prop}:∀ (fuel:Nat) (listed:Array Bool) (a:Act) (Ws Ws':Marks'),stronger Ws' Ws→wpAnyEL P md ops Vs w0 n L fuel listed a Ws→wpAnyEL P md ops Vs w0 n L fuel listed a Ws'
 | 0,_,_,_,_,hs,h=>fun hc=>fun w hw=>h (hs.cons' hc) w (hs.above hw)
 | fuel+1,_,_,_,_,hs,h=>fun hc=>
  ⟨(h (hs.cons' hc)).1,fun i hi=>⟨((h (hs.cons' hc)).2 i hi).1,eOp_mono hs (fun a X X' hX hk=>wpAnyEL_mono fuel _ a X X' hX hk) ((h (hs.cons' hc)).2 i hi).2⟩⟩
theorem wpAny_of_EL {n g:Nat} {L:Array Bool→Act→World→Prop} {Q':Exit→Act→World→Prop} (hL:∀ listed a w,L listed a w→wpAny P md ops Q' g listed a w):∀ (fuel:Nat) (listed:Array Bool) (a:Act) (Ws:Marks') (w:World),above w0 Ws w →
  wpAnyEL P md ops Vs w0 n L fuel listed a Ws→wpAny P md ops Q' (fuel+g) listed a w
 | 0,_,_,_,w,hw,h=>by rw [Nat.zero_add];exact hL _ _ _ (h ⟨w,hw⟩ w hw)
 | fuel+1,listed,a,Ws,w,hw,h=>by
  rw [show fuel+1+g=(fuel+g)+1 by omega]
  obtain ⟨h1,h2⟩:=h ⟨w,hw⟩
  refine ⟨fun h0=>absurd h0 h1,fun i hi=>?_⟩
  have hh:=(h2 i hi).2
  unfold eOp at hh
  unfold wpOp
  split
  ·rename_i ho
   simp only [ho] at hh
   exact wpAny_of_EL hL fuel _ _ _ _ hw hh
  ·rename_i o ho
   simp only [ho] at hh
   split
   ·rename_i hwd
    simp only [hwd,if_true] at hh
    refine .inl ?_
    have h3:=hh w hw.okw
    unfold Oper.yieldsK at h3
    unfold Oper.wp
    generalize (execOp a.eval o).run P w=r at *
    cases r with
    | ok n w'=>
     cases n<;>simp only [yUpon] at h3<;>simp only [Oper.upon]
     case value v=>exact wpAny_of_EL hL fuel _ _ _ _ (hw.step h3.1) h3.2
     case skip=>exact wpAny_of_EL hL fuel _ _ _ _ (hw.step h3.1) h3.2
     case enter f args=>
      refine h3.1.mono fun e w'' ⟨v,he,hx,hv⟩=>?_
      subst he
      exact wpAny_of_EL hL fuel _ _ _ _ (hw.step hx) (h3.2 v w'' hx hv)
     case row row args=>exact h3.1.mono fun v w'' ⟨hx,hv⟩=>wpAny_of_EL hL fuel _ _ _ _ (hw.step hx) (h3.2 v w'' hx hv)
    | halt x w'=>simp only [yUpon] at h3
   ·rename_i hwd
    simp only [hwd] at hh
    exact wpAny_of_EL hL fuel _ _ _ _ hw hh
theorem wpAnyEL_first {n:Nat} {L:Array Bool→Act→World→Prop} {i:Nat} {oi:Oper} (hi:ops[i]? = some oi) (hsel:∀ (j:Nat) (o:Oper) cs b,ops[j]? = some o→o.op≠.select cs b)
  (hs:Region.sinkB md ops n=true) (hc0:Region.chainB md ops n=true) (hn:n<ops.size) (hin:i<n) (hdone:∀ listed a w,L listed a w→∀ j∈Region.ready md ops listed,n≤j):
  ∀ (fuel:Nat) (listed:Array Bool) (a:Act) (Ws:Marks'),HeadInv md ops n listed →
   (∀ j oj,ops[j]? = some oj→j≠i→listed.getD j true=false→(∀ e∈oj.after,Region.binds md e=true→e.on≠i)→oi.apart ops oj=true) →
   i∈Region.ready md ops listed→eOp P ops Vs w0 i (wpAnyEL P md ops Vs w0 n L fuel (listed.setIfInBounds i true)) a Ws →
   wpAnyEL P md ops Vs w0 n L (fuel+1) listed a Ws:=by
 intro fuel
 induction fuel with
 | zero=>
  intro listed a Ws inv _ hr H hc
  have hun:=(mem_ready.1 hr).1
  refine ⟨fun h=>(by rw [h] at hr;cases hr),fun j hj=>?_⟩
  have hjn:j<n:=by
   rcases Nat.lt_or_ge j n with h | h
   ·exact h
   ·exact absurd hj (tail_waits hs hc0 hn inv _ i rfl hin hun j h)
  refine ⟨hjn,?_⟩
  by_cases hji:j=i
  ·subst hji;exact H
  ·exfalso
   have hm:=ready_mono hj hji
   obtain ⟨wc,hwc⟩:=hc
   rcases eOp_at hi H with ⟨_,h⟩ | ⟨_,h⟩
   ·obtain ⟨v,w',he,hk⟩:=yUpon_some (h wc hwc.okw)
    have:=hdone _ _ _ (hk ⟨w',hwc.step he⟩ w' (hwc.step he)) j hm
    omega
   ·have:=hdone _ _ _ (h ⟨wc,hwc⟩ wc hwc) j hm
    omega
 | succ fuel ih=>
  intro listed a Ws inv hfree hr H hc
  have hun:=(mem_ready.1 hr).1
  refine ⟨fun h=>(by rw [h] at hr;cases hr),fun j hj=>?_⟩
  have hjn:j<n:=by
   rcases Nat.lt_or_ge j n with h | h
   ·exact h
   ·exact absurd hj (tail_waits hs hc0 hn inv _ i rfl hin hun j h)
  refine ⟨hjn,?_⟩
  by_cases hji:j=i
  ·subst hji;exact H
  ·have hm:=ready_mono hj hji
   obtain ⟨hjun,oj,hoj,hall⟩:=mem_ready.1 hj
   have hnot:∀ e∈oj.after,Region.binds md e=true→e.on≠i:=fun e he hb heq=>by
    have h1:=hall e he hb
    have h0:=(mem_ready.1 hr).1
    rw [heq] at h1
    rcases Nat.lt_or_ge i listed.size with h' | h'
    ·simp [h'] at h0 h1;rw [h0] at h1;cases h1
    ·simp [Array.getElem?_eq_none h'] at h1
   have hap:=hfree j oj hoj hji hjun hnot
   obtain ⟨a1,a2,a3⟩:=Oper.apart_spec hap
   have hsi:=fun cs b=>hsel i oi cs b hi
   have hsj:=fun cs b=>hsel j oj cs b hoj
   have hfree':∀ k ok,ops[k]? = some ok→k≠i→(listed.setIfInBounds j true).getD k true=false →
     (∀ e∈ok.after,Region.binds md e=true→e.on≠i)→oi.apart ops ok=true:=fun k ok hk hki hun hno=>by
    refine hfree k ok hk hki ?_ hno
    by_cases hjk:j=k
    ·subst hjk;exact hjun
    ·rw [getD_set_ne true hjk] at hun;exact hun
   have hr':=ready_mono hr (Ne.symm hji)
   have hset:=Array.setIfInBounds_comm (xs:=listed) true true hji
   obtain ⟨wc,hwc⟩:=hc
   have hj_w:∀ v,Region.wanted oj (yielded ops (a.put oi.dst v).tmps)=Region.wanted oj (yielded ops a.tmps):=fun v=>wanted_put oj a oi.dst v a1
   have hj_e:∀ v,execOp (a.put oi.dst v).eval oj=execOp a.eval oj:=fun v=>execOp_put oj hsj a oi.dst v a1
   have hi_w:∀ u,Region.wanted oi (yielded ops (a.put oj.dst u).tmps)=Region.wanted oi (yielded ops a.tmps):=fun u=>wanted_put oi a oj.dst u a3
   have hi_e:∀ u,execOp (a.put oj.dst u).eval oi=execOp a.eval oi:=fun u=>execOp_put oi hsi a oj.dst u a3
   refine eOp_mk hoj ?_
   rcases eOp_at hi H with ⟨hiw,hI⟩ | ⟨hiw,hI⟩
   ·
    obtain ⟨vc,w1,he1,hk1⟩:=yUpon_some (hI wc hwc.okw)
    have hcomp:=((hk1 ⟨w1,hwc.step he1⟩).2 j hm).2
    rcases eOp_at hoj hcomp with ⟨hjw,hJ⟩ | ⟨hjw,hJ⟩
    ·rw [hj_w] at hjw
     refine .inl ⟨hjw,fun w hw=>?_⟩
     have key:yUpon P w (Vs j) (fun u w'=>∀ (x:{ x:Value × World // ∃ w2,okw ops w0 Ws oi w2∧Ext w2 x.2∧wpAnyEL P md ops Vs w0 n L (fuel+1) (listed.setIfInBounds i true) (a.put oi.dst x.1) (adds oi.dst x.2 Ws)∧cons' w0 (adds oi.dst x.2 Ws) }),
       wpAnyEL P md ops Vs w0 n L fuel ((listed.setIfInBounds i true).setIfInBounds j true) ((a.put oi.dst x.1.1).put oj.dst u) (adds oj.dst w' (adds oi.dst x.1.2 Ws))) ((execOp a.eval oj).run P w):=by
      refine yUpon_all ⟨(vc,w1),wc,hwc.okw,he1,hk1,⟨w1,hwc.step he1⟩⟩ ?_
      rintro ⟨⟨v,wv⟩,w2,hk2,he2,hA,hcv⟩
      rcases eOp_at hoj ((hA hcv).2 j hm).2 with ⟨_,hJ2⟩ | ⟨hno,_⟩
      ·have:=hJ2 w (okw_adds a1 hw)
       unfold Oper.yieldsK at this
       rw [hj_e] at this
       exact this
      ·rw [hj_w,hjw] at hno;cases hno
     refine yUpon_mono (fun u w' hew hall2=>?_) key
     refine ih (listed.setIfInBounds j true) (a.put oj.dst u) (adds oj.dst w' Ws) (inv.set hj hjn) hfree' hr' ?_
     refine eOp_mk hi (.inl ⟨by rw [hi_w];exact hiw,fun w2 hw2=>?_⟩)
     have hw2':okw ops w0 Ws oi w2:=okw_of_adds hw2
     have h4:=hI w2 hw2'
     unfold Oper.yieldsK at h4 ⊢
     rw [hi_e]
     refine yUpon_mono (fun v w3 he3 hA=>?_) h4
     rw [← Act.put_comm a v u a2,hset]
     by_cases hcv:cons' w0 (adds oi.dst w3 (adds oj.dst w' Ws))
     ·have hc2:cons' w0 (adds oi.dst w3 Ws):=by
       have h5:cons' w0 (adds oj.dst w' (adds oi.dst w3 Ws)):=(stronger.swap Ws oi.dst oj.dst w3 w').cons' hcv
       exact cons_of_adds h5
      exact wpAnyEL_mono fuel _ _ _ _ (stronger.swap Ws oi.dst oj.dst w3 w') (hall2 ⟨(v,w3),w2,hw2',he3,hA,hc2⟩)
     ·cases fuel with
      | zero=>exact fun hc=>absurd hc hcv
      | succ n=>exact fun hc=>absurd hc hcv
    ·rw [hj_w] at hjw
     refine .inr ⟨hjw,?_⟩
     refine ih (listed.setIfInBounds j true) (a.put oj.dst undef) Ws (inv.set hj hjn) hfree' hr' ?_
     refine eOp_mk hi (.inl ⟨by rw [hi_w];exact hiw,fun w2 hw2=>?_⟩)
     have h4:=hI w2 hw2
     unfold Oper.yieldsK at h4 ⊢
     rw [hi_e]
     refine yUpon_mono (fun v w3 he3 hA=>?_) h4
     rw [← Act.put_comm a v undef a2,hset]
     by_cases hcv:cons' w0 (adds oi.dst w3 Ws)
     ·rcases eOp_at hoj ((hA hcv).2 j hm).2 with ⟨hno,_⟩ | ⟨_,hJ2⟩
      ·rw [hj_w,hjw] at hno;cases hno
      ·exact hJ2
     ·cases fuel with
      | zero=>exact fun hc=>absurd hc hcv
      | succ n=>exact fun hc=>absurd hc hcv
   ·
    have hcomp:=((hI ⟨wc,hwc⟩).2 j hm).2
    rcases eOp_at hoj hcomp with ⟨hjw,hJ⟩ | ⟨hjw,hJ⟩
    ·rw [hj_w] at hjw
     refine .inl ⟨hjw,fun w hw=>?_⟩
     have h4:=hJ w hw
     unfold Oper.yieldsK at h4 ⊢
     rw [hj_e] at h4
     refine yUpon_mono (fun u w' hew hA=>?_) h4
     refine ih (listed.setIfInBounds j true) (a.put oj.dst u) (adds oj.dst w' Ws) (inv.set hj hjn) hfree' hr' ?_
     refine eOp_mk hi (.inr ⟨by rw [hi_w];exact hiw,?_⟩)
     rw [← Act.put_comm a undef u a2,hset]
     exact hA
    ·rw [hj_w] at hjw
     refine .inr ⟨hjw,?_⟩
     refine ih (listed.setIfInBounds j true) (a.put oj.dst undef) Ws (inv.set hj hjn) hfree' hr' ?_
     refine eOp_mk hi (.inr ⟨by rw [hi_w];exact hiw,?_⟩)
     rw [← Act.put_comm a undef undef a2,hset]
     exact hJ
theorem wpAnyEL_lex {n g:Nat} {Lq:Act→World→Prop} (hsel:Region.noSelect ops=true) (hs:Region.sinkB md ops n=true) (hc:Region.chainB md ops n=true) (hn:n<ops.size):
  ∀ (l:List Oper) (k:Nat) (listed:Array Bool) (a:Act) (Ws:Marks'),(∀ j,j<l.length→l[j]? = ops[k+j]?)→k+l.length=n→HeadInv md ops n listed →
  Region.lexHead md ops g l.length k listed=true→wpE P ops Vs w0 Lq k l a Ws →
  wpAnyEL P md ops Vs w0 n (fun listed' a' w'=>Region.seqB md ops g n listed'=true∧Lq a' w') l.length listed a Ws
 | [],k,listed,a,Ws,_,hk,_,hB,h=>by
  have:k=n:=by simpa using hk
  subst this
  exact fun _ w hw=>⟨by simpa [Region.lexHead] using hB,h w hw⟩
 | o::l,k,listed,a,Ws,hl,hk,inv,hB,h=>by
  have h0:ops[k]? = some o:=by simpa using (hl 0 (by simp)).symm
  simp only [List.length_cons,Region.lexHead,Bool.and_eq_true] at hB
  obtain ⟨⟨hr,hf⟩,hB'⟩:=hB
  have hkn:k<n:=by simp only [List.length_cons] at hk;omega
  have hr':k∈Region.ready md ops listed:=by simpa using hr
  have hst:eOp P ops Vs w0 k (wpE P ops Vs w0 Lq (k+1) l) a Ws:=by unfold eOp;simp only [h0];exact h
  refine wpAnyEL_first h0 (Region.noSelect_spec hsel) hs hc hn hkn (fun listed' a' w' hL=>seqB_ready hL.1) l.length listed a Ws inv (Region.free_spec h0 hf) hr' ?_
  unfold eOp at hst ⊢
  simp only [h0] at hst ⊢
  have hl':∀ j,j<l.length→l[j]? = ops[k+1+j]?:=fun j hj=>by have:=hl (j+1) (by simp;omega);simpa [Nat.add_assoc,Nat.add_comm 1 j] using this
  have hk':k+1+l.length=n:=by simp only [List.length_cons] at hk;omega
  split at hst
  ·rename_i hw
   rw [if_pos hw]
   exact fun w hk=>yUpon_mono (fun v w' _ hv=>wpAnyEL_lex hsel hs hc hn l (k+1) _ _ _ hl' hk' (inv.set hr' hkn) hB' hv) (hst w hk)
  ·rename_i hw
   rw [if_neg hw]
   exact wpAnyEL_lex hsel hs hc hn l (k+1) _ _ _ hl' hk' (inv.set hr' hkn) hB' hst
theorem wp_region_ext_tail (n:Nat) (Vs:Nat→Value→World→Prop) {id:Nat} {Q:Exit→Act→World→Prop} {a:Act} {w:World} {l:List Oper} (hm:P.follows .mixedOrders=true) (hB:Region.lexTailB .any l.toArray n=true)
  (h:wpE P l.toArray Vs w.drew (fun a' w'=>wpList P l.toArray Q (l.drop n) a' w') 0 (l.take n) a []):(Code.region id l.toArray true).wp P Q a w:=by
 simp only [Region.lexTailB,Bool.and_eq_true,decide_eq_true_eq] at hB
 obtain ⟨⟨⟨⟨hsel,hn⟩,hs⟩,hc⟩,hlex⟩:=hB
 have hn':n<l.length:=by simpa using hn
 have htl:(l.take n).length=n:=by simp;omega
 have hdl:(l.drop n).length=l.toArray.size-n:=by simp
 have inv0:HeadInv .any l.toArray n (Array.replicate l.toArray.size false):=
  ⟨by simp,fun j oj _ hl=>(by rw [getD_replicate_false] at hl;cases hl),fun t _ ht=>getD_in (by simpa using ht) (getD_replicate_false _ _)⟩
 have H:=wpAnyEL_lex (md:=.any) (g:=l.toArray.size-n) hsel hs hc hn (l.take n) 0 _ a [] (fun j hj=>by
  have hj':j<n:=by rw [htl] at hj;exact hj
  simp [hj']) (by simpa using htl) inv0 (by rw [htl];exact hlex) h
 refine wp_region_any hm ?_
 have:=wpAny_of_EL (w0:=w.drew) (Q':=Q) (g:=l.toArray.size-n) (fun listed a' w' hL=>by
  have:=wpAny_of_seq (md:=.any) (Q':=Q) (l.drop n) n listed a' w' (fun j=>by simp [List.getElem?_drop]) (by rw [hdl];exact hL.1) hL.2
  rwa [hdl] at this) _ _ _ [] w.drew ⟨Ext.refl _,fun _ _ h=>by cases h⟩ H
 rw [htl,show n+(l.toArray.size-n)=l.toArray.size by omega] at this
 exact this
end
#print axioms wp_region_ext_tail
end Go.Proofs.YtnjmndofcpnmeaaGreatDoor
namespace Go.Proofs.YtnjmndofcpnmeaaGreatDoor
open Go Go.RowKit
set_option linter.unusedVariables false
theorem u64_or (a b:Nat)(ha:a<256)(hb:b<256):bits .or .u64 ((a:Int)*256) (b:Int)=((256*a+b:Nat):Int):=by
 show IntKind.u64.wrap ((BitVec.ofInt 64 ((a:Int)*256) ||| BitVec.ofInt 64 (b:Int)).toNat:Int)=_
 have hX:(BitVec.ofInt 64 ((a:Int)*256)).toNat=2 ^ 8*a:=by
  rw [BitVec.toNat_ofInt]
  have:((a:Int)*256) % ((2 ^ 64:Nat):Int)=(a:Int)*256:=Int.emod_eq_of_lt (by omega) (by omega)
  rw [this]
  omega
 have hY:(BitVec.ofInt 64 (b:Int)).toNat=b:=by
  rw [BitVec.toNat_ofInt]
  have:(b:Int) % ((2 ^ 64:Nat):Int)=b:=Int.emod_eq_of_lt (by omega) (by omega)
  rw [this]
  omega
 rw [BitVec.toNat_or,hX,hY,← Nat.two_pow_add_eq_or_of_lt (by omega:b<2 ^ 8),IntKind.wrap_u64]
 omega
theorem u8inf:(Tryz.prog.info? 5).map (fun i=>(i.zero,i.size,i.bytes))=some (some (.int .u8 0),1,1):=by kernel_rfl
theorem AItoa_at (c:UInt8) (w:World) (hp:Pow w):
  Calls Tryz.prog 54 #[.int .i64 (c.toNat:Int)] w fun e w'=>e=.returned (.string ⟨(Lib.decDigits c.toNat).toArray⟩)∧Ext w w':=by
 have hc:=c.toNat_lt
 refine (Tryz.strconv_Itoa (c.toNat:Int) (by omega) (by omega) w hp).mono ?_
 rintro e w' ⟨rfl,nn,os,hw⟩
 exact ⟨by rw [itoa_of (by omega)];rfl,hw ▸ ext_grow (Ext.refl w) nn os⟩
set_option maxRecDepth 100000 in
theorem tx4_at (c:UInt8) (A:Option Addr) (k:Nat) (w:World) (hb:BS w (.slice A 1 k) [c]) (hp:Pow w):
  Calls Tryz.prog 230 #[.slice A 1 k] w fun e w'=>e=.returned (.string ⟨(Lib.decDigits c.toNat).toArray⟩)∧Ext w w':=by
 obtain ⟨A',k',he,h1,h2,h3⟩:=hb.open_
 injection he with e1 e2 e3
 subst e1;subst e3
 obtain ⟨ad,rfl,hlt,hcell⟩:=h3 (by simp)
 have c0:w.cell? ad=some (.int .u8 (c.toNat:Int)):=by
  have h:=hcell 0 (by simp)
  rwa [show ad.add 0=ad by simp [Addr.add]] at h
 have HI:=Lib.hid (AItoa_at c w hp)
 have hc:=c.toNat_lt
 obtain ⟨D,hD⟩:∃ D,Lib.decDigits c.toNat=D:=⟨_,rfl⟩
 rw [hD] at HI ⊢
 clear hcell hb hp h1 h2 h3 hD e2
 go_enter Tryz.func230,Tryz.ntmps230
 go_wp2_with fail
 refine HI.out.mono ?_
 rintro _ w1 ⟨rfl,hx⟩
 have HX:=Lib.hid hx
 clear hx
 go_wp2_with fail
 go_ret
 exact ⟨rfl,HX.out⟩
set_option maxRecDepth 100000 in
set_option maxHeartbeats 1000000 in
theorem tx6_at (a b:UInt8) (A:Option Addr) (k:Nat) (w:World) (hb:BS w (.slice A 2 k) [a,b]) (hd:DeB w):
  Calls Tryz.prog 231 #[.slice A 2 k] w fun e w'=>e=.returned (.string ⟨(hexD (256*a.toNat+b.toNat)).toArray⟩)∧Ext w w':=by
 obtain ⟨A',k',he,h1,h2,h3⟩:=hb.open_
 injection he with e1 e2 e3
 subst e1;subst e3
 obtain ⟨ad,rfl,hlt,hcell⟩:=h3 (by simp)
 have c0:w.cell? ad=some (.int .u8 (a.toNat:Int)):=by
  have h:=hcell 0 (by simp)
  rwa [show ad.add 0=ad by simp [Addr.add]] at h
 have c1:w.cell? ⟨ad.block,ad.off+1,none⟩=some (.int .u8 (b.toNat:Int)):=by
  have h:=hcell 1 (by simp)
  rwa [show ad.add 1=⟨ad.block,ad.off+1,none⟩ by unfold Addr.add;rw [if_neg (by decide)]] at h
 have ha:=a.toNat_lt
 have hbb:=b.toNat_lt
 have hor:=u64_or a.toNat b.toNat ha hbb
 have HFM:=Lib.hid (fun W h=>Format_at (256*a.toNat+b.toNat) (by omega) W h)
 have HD:=Lib.hid hd
 clear hcell hb hd h3
 go_enter Tryz.func231,Tryz.ntmps231
 go_wp2_with fail
 refine wp_region_ext (fun i v' w'=>match i with | 10=>v'=.string ⟨(hexD (256*a.toNat+b.toNat)).toArray⟩ | _=>False) (by kernel_rfl) (by kernel_rfl) ?_
 refine wpE_op rfl rfl (fun w' hw' K' hK'=>?_)
 have hE:=hw'.1
 go_step
 refine hK' _ ⟨_,rfl⟩ ?_
 clear hK' K' hE hw' w'
 refine wpE_op rfl rfl (fun w' hw' K' hK'=>?_)
 have hE:=hw'.1
 go_step
 refine hK' _ ⟨_,rfl⟩ ?_
 clear hK' K' hE hw' w'
 refine wpE_op rfl rfl (fun w' hw' K' hK'=>?_)
 have hE:=hw'.1
 have u0:=((Ext.drew w).trans hE).cell c0
 go_step
 refine hK' _ ⟨_,rfl⟩ ?_
 clear hK' K' u0 hE hw' w'
 refine wpE_op rfl rfl (fun w' hw' K' hK'=>?_)
 have hE:=hw'.1
 go_step
 refine hK' _ ⟨_,rfl⟩ ?_
 clear hK' K' hE hw' w'
 refine wpE_op rfl rfl (fun w' hw' K' hK'=>?_)
 have hE:=hw'.1
 go_step
 refine hK' _ ⟨_,rfl⟩ ?_
 clear hK' K' hE hw' w'
 refine wpE_op rfl rfl (fun w' hw' K' hK'=>?_)
 have hE:=hw'.1
 go_step
 refine hK' _ ⟨_,rfl⟩ ?_
 clear hK' K' hE hw' w'
 refine wpE_op rfl rfl (fun w' hw' K' hK'=>?_)
 have hE:=hw'.1
 go_step
 refine hK' _ ⟨_,rfl⟩ ?_
 clear hK' K' hE hw' w'
 refine wpE_op rfl rfl (fun w' hw' K' hK'=>?_)
 have hE:=hw'.1
 have u1:=((Ext.drew w).trans hE).cell c1
 go_step
 refine hK' _ ⟨_,rfl⟩ ?_
 clear hK' K' u1 hE hw' w'
 refine wpE_op rfl rfl (fun w' hw' K' hK'=>?_)
 have hE:=hw'.1
 go_step
 refine hK' _ ⟨_,rfl⟩ ?_
 clear hK' K' hE hw' w'
 refine wpE_op rfl rfl (fun w' hw' K' hK'=>?_)
 have hE:=hw'.1
 go_step
 refine hK' _ ⟨_,rfl⟩ ?_
 clear hK' K' hE hw' w'
 refine wpE_call 13 rfl (by simp) rfl (fun w' hw' K' hK'=>?_) ?_
 ·have hE:=hw'.1
  go_step
  refine (HFM.out w' (HD.out.ext ((Ext.drew _).trans hE))).mono ?_
  rintro _ w2 ⟨rfl,hx⟩
  exact hK' _ _ ⟨_,rfl,rfl⟩ hx
 rintro _ w6 _ rfl
 simp only [Act.put,sT1,sT2,sT3]
 refine wpE_op rfl rfl (fun w' hw' K' hK'=>?_)
 have hE:=hw'.1
 go_step
 refine hK' _ ⟨_,rfl⟩ ?_
 clear hK' K' hE hw' w'
 refine wpE_nil (fun w2 hw2=>?_)
 have HX2:=Lib.hid ((Ext.drew w).trans hw2.1)
 clear hw2
 go_wp2_with fail
 go_ret
 exact ⟨rfl,HX2.out⟩
section
variable {P:Program}
theorem run_slice23 (w:World) (t:TypeId) (A:Option Addr) (c:Nat) (l:List UInt8) (hi:Nat) (m:List UInt8) (hm:l.take hi=m) (h1:hi≤l.length) (ht:P.underlying t=some (.slice (P.elem t))) (hs:∃ i,P.info? (P.elem t)=some i∧i.size=1)
  (h:BS w (.slice A l.length c) l):
  ∃ A' c',BS w (.slice A' m.length c') m∧∀ w':World,(Instr.slice t (.slice A l.length c) none (some (.int .i64 (hi:Int))) (some (.int .i64 (hi:Int)))).run P w'=.ok (.slice A' m.length c') w':=by
 obtain ⟨i,hi0,hi1⟩:=hs
 obtain ⟨A0,c0,he,k1,k2,k3⟩:=h.open_
 injection he with e1 e2 e3
 subst e1;subst e3
 have hml:m.length=hi:=by subst hm;simp;omega
 refine ⟨if hi=0 then A else A.map (·.add (0*1)),hi,?_,fun w'=>?_⟩
 ·refine ⟨if hi=0 then A else A.map (·.add (0*1)),hi,by simp,by simp [hml],by omega,fun hp=>?_⟩
  simp only [bv_length,hml] at hp
  rw [if_neg (by omega)]
  obtain ⟨ad,rfl,hb,hc⟩:=k3 (by omega)
  refine ⟨ad.add (0*1),rfl,by rw [block_of_add];exact hb,fun j u hu=>?_⟩
  have hj:j<m.length:=by
   have:=(List.getElem?_eq_some_iff.1 hu).1
   simpa using this
  rw [add_of_add,Nat.zero_mul,Nat.zero_add,hc j (by omega)]
  rw [bv_get m j hj] at hu
  rw [← hu]
  subst hm
  simp
 ·rw [run_slice_hm w' t A l.length c ht .i64 .i64 hi hi (by omega) (by omega) (by omega)]
  simp [sizeOf,typeInfo,hi0,hi1,sliced,hml]
end
def chk (sz:Nat):Nat→List UInt8→List (List UInt8)
 | 0,_=>[]
 | k+1,l=>l.take sz::chk sz k (l.drop sz)
theorem chk_length (sz:Nat):∀ (k:Nat) (l:List UInt8),(chk sz k l).length=k
 | 0,_=>rfl
 | k+1,l=>by rw [chk,List.length_cons,chk_length sz k]
theorem chk_snoc (sz:Nat):∀ (k:Nat) (l:List UInt8),chk sz (k+1) l=chk sz k l++[(l.drop (sz*k)).take sz]
 | 0,l=>by simp [chk]
 | k+1,l=>by
  rw [chk,chk_snoc sz k (l.drop sz),List.drop_drop,chk,List.cons_append,show sz+sz*k=sz*(k+1) by rw [Nat.mul_add,Nat.mul_one,Nat.add_comm]]
def gst (tx:List UInt8→List UInt8)(sz k:Nat)(l:List UInt8):List Value:=stv ((chk sz k l).map tx)
theorem gst_length (tx:List UInt8→List UInt8)(sz k:Nat)(l:List UInt8):(gst tx sz k l).length=k:=by rw [gst,stv_length,List.length_map,chk_length]
theorem gst_snoc (tx:List UInt8→List UInt8)(sz k:Nat)(l:List UInt8):gst tx sz (k+1) l=gst tx sz k l++[.string ⟨(tx ((l.drop (sz*k)).take sz)).toArray⟩]:=by
 rw [gst,chk_snoc,List.map_append];simp [gst,stv]
set_option maxRecDepth 100000 in
set_option maxHeartbeats 1000000 in
theorem groups_at (sz:Nat) (fn:Nat) (tx:List UInt8→List UInt8) (hsz:1≤sz∧sz≤2) (l:List UInt8) (A:Option Addr) (c:Nat) (w:World) (hb:BS w (.slice A l.length c) l) (n:Nat) (hl:l.length=sz*n) (hn:n≤16)
  (eg:∀ args w,(callFunc fn args).run Tryz.prog w=.ok (.enter fn args) w)
  (HF:∀ (m:List UInt8) (A:Option Addr) (c:Nat) (W:World),m.length=sz→Ext w W→BS W (.slice A sz c) m→Calls Tryz.prog fn #[.slice A sz c] W fun e W'=>e=.returned (.string ⟨(tx m).toArray⟩)∧Ext W W'):
  Calls Tryz.prog 229 #[.slice A l.length c,.int .i64 (sz:Int),.func (.func fn) #[] #[]] w fun e w'=>∃ v,e=.returned v∧w'.ownsRow w.heap.size 9 1 v n (gst tx sz n l)∧Ext w w':=by
 obtain ⟨i0,hi,hz0,hz1,hz2⟩:=info_parts strinfo
 have HF:=Lib.hid HF
 have HB:=Lib.hid hb
 clear hb
 go_enter Tryz.func229,Tryz.ntmps229
 go_wp2_with fail
 go_loopw [0,7] (fun b v wr=>∃ (k r:Nat) (Ak:Option Addr) (ck:Nat),k+r=n∧b=.slice Ak (sz*r) ck∧Hid (BS w (.slice Ak (sz*r) ck) (l.drop (sz*k)))∧Hid (wr.ownsRow w.heap.size 9 1 v (gst tx sz k l).length (gst tx sz k l))∧Hid (Ext w wr)) (fun b _ _=>match b with | .slice _ n _=>n | _=>0)
 case atStart=>exact ⟨0,n,A,c,by omega,by rw [hl],Lib.hid (by rw [Nat.mul_zero,List.drop_zero,← hl];exact HB.out),Lib.hid (World.ownsRow_nil _ _ _ _),Lib.hid (Ext.refl _)⟩
 case round=>
  obtain ⟨k,r,Ak,ck,hk,rfl,HBk,HO,HX⟩:=hrel
  have hlk:(l.drop (sz*k)).length=sz*r:=by
   rw [List.length_drop,hl,← hk,Nat.mul_add];omega
  rcases Nat.eq_zero_or_pos r with rfl | hr
  ·have hlt:((sz*0:Nat):Int)<(sz:Int):=by omega
   obtain rfl:k=n:=by omega
   have ho:=HO.out
   rw [gst_length] at ho
   have HOO:=Lib.hid ho
   clear ho hlk hl
   simp only [Nat.mul_zero] at hlt ⊢
   go_wp2_with fail
   go_ret
   exact ⟨_,rfl,HOO.out,HX.out⟩
  ·obtain ⟨r,rfl⟩:∃ r',r=r'+1:=⟨r-1,by omega⟩
   have hge:sz≤sz*(r+1):=by rw [Nat.mul_add];omega
   have hgi:(sz:Int)≤(sz:Int)*((r:Int)+1):=by
     have:((sz*(r+1):Nat):Int)=(sz:Int)*((r:Int)+1):=by simp
     omega
   have hbk:=HBk.out
   rw [← hlk] at hbk
   obtain ⟨A2,c2,hb2,hs2⟩:=run_slice23 (P:=Tryz.prog) w 32 Ak ck (l.drop (sz*k)) sz ((l.drop (sz*k)).take sz) rfl (by omega) Tryz.underlying32 (info_parts u8inf |>.elim fun i hi=>⟨i,hi.1,hi.2.2.1⟩) hbk
   obtain ⟨A3,c3,hb3,hs3⟩:=run_slice1 (P:=Tryz.prog) w 32 Ak ck (l.drop (sz*k)) sz ((l.drop (sz*k)).drop sz) rfl (by omega) Tryz.underlying32 (info_parts u8inf |>.elim fun i hi=>⟨i,hi.1,hi.2.2.1⟩) hbk
   have hm2:((l.drop (sz*k)).take sz).length=sz:=by rw [List.length_take];omega
   have hm3:((l.drop (sz*k)).drop sz).length=sz*r:=by rw [List.length_drop,hlk,Nat.mul_add];omega
   have hm4:(l.drop (sz*k)).drop sz=l.drop (sz*(k+1)):=by rw [List.drop_drop,Nat.mul_add,Nat.mul_one]
   rw [hm2,hlk] at hs2
   rw [hm2] at hb2
   rw [hm3,hlk] at hs3
   rw [hm3,hm4] at hb3
   have HF1:=Lib.hid (fun W hx=>HF.out ((l.drop (sz*k)).take sz) A2 c2 W hm2 hx (hb2.ext hx))
   have HG:=Lib.hid (gst_snoc tx sz k l)
   have HB3:=Lib.hid hb3
   have hbl:((gst tx sz k l).length+1)*16≤140737488355328:=by rw [gst_length];omega
   have HBL:=Lib.hid hbl
   clear hb2 hb3 hm2 hm3 hm4 hbk hlk hl HBk HF HB hbl
   go_wp2_with fail
   refine (HF1.out _ HX.out).mono ?_
   rintro _ w2 ⟨rfl,hx2⟩
   have HX2:=Lib.hid hx2
   clear hx2
   go_wp2_with (at_builtin;refine wpList_append_rs _ rfl (.tmp 15) (.tmp 22) 35 rfl w.heap.size 9 i0 (.string ⟨#[]⟩) 16 Tryz.underlying35 hi hz0 hz1 hz2 rfl _ (gst tx sz k l) rfl (ownsRow_ext (ownsRow_ext HO.out HX2.out) ((Ext.refl w2).alloc _)) _ [.string ⟨(tx ((l.drop (sz*k)).take sz)).toArray⟩] rfl (RS.one _ _ _) (by simp [Value.oneCell']) HBL.out (by omega) ?hm ?_;rotate_right;intro v4 w4 hown4 hg4 _)
   case hm=>have h1:=HX.out.size;have h2:=HX2.out.size;simp;omega
   rw [← HG.out] at hown4
   have HO4:=Lib.hid hown4;have HX4:=Lib.hid (((HX.out.trans HX2.out).alloc _).grown hg4 (fun j hj=>(World.ownsRow.lt HO.out j hj).1))
   clear hown4 hg4
   go_wp2_with fail
   go_roundw
   case rel=>exact ⟨k+1,r,A3,c3,by omega,rfl,HB3,HO4,HX4⟩
   case measure=>show sz*r<sz*(r+1);rw [Nat.mul_add];omega
end Go.Proofs.YtnjmndofcpnmeaaGreatDoor
