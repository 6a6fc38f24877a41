/- Pc5. -/
import Derived.Test.YtnjmndofcpnmeaaGreatDoorPc4
import Derived.RangeFuncBound
import Derived.RangeFuncCalls
import Derived.OwnWalkIn
import Derived.TacticsInMore
import Derived.LoopNIn
import Derived.LoopIn
import Derived.Test.YtnjmndofcpnmeaaGreatDoorPc2
import Derived.Test.YtnjmndofcpnmeaaGreatDoorPc0
import Derived.Test.YtnjmndofcpnmeaaGreatDoorPc1
import Derived.Test.YtnjmndofcpnmeaaGreatDoorShelf
import Derived.Test.YtnjmndofcpnmeaaGreatDoorPc3
import Derived.Handy
namespace Go.Proofs.YtnjmndofcpnmeaaGreatDoor
open Go Go.RowKit
set_option linter.unusedVariables false
theorem named_at (x:W32) (w:World):
  Calls Tryz.prog 113 #[.int .u32 (x.toNat:Int)] w fun e w'=>e=.returned (.bool (nmB x))∧Ext w w':=by
 have hX:=(Ext.refl w).alloc (.cells #[.int .u32 4095,.int .u32 2031807] 39)
 have hR:RS (w.alloc (.cells #[.int .u32 4095,.int .u32 2031807] 39)) (.slice (some ⟨w.heap.size,0,none⟩) 2 2) (fvs [tkM,opM]):=RS.new w _ (fvs [tkM,opM]) (by decide)
 have HX:=Lib.hid hX;have HR:=Lib.hid hR
 clear hX hR
 go_enter Tryz.func113,Tryz.ntmps113
 go_wp2_with fail
 refine (union2_at tkM opM _ _ _ HR.out).mono ?_
 rintro _ w1 ⟨rfl,rfl⟩
 go_wp2_with fail
 refine (Has_at (orW tkM opM) x _).mono ?_
 rintro _ w1 ⟨rfl,rfl⟩
 go_wp2_with fail
 go_ret
 exact ⟨rfl,HX.out⟩
def bitW (k:Nat):W32:=1#32 <<< k
def nmS (k:Nat):ByteArray:=(nameAt k).getD ⟨#[]⟩
def isF (f:W32)(k:Nat):Bool:=(nameAt k).isSome&&hasB f (bitW k)
def bitsTo (f:W32)(n:Nat):List Nat:=(List.range n).filter (isF f)
def bitsF (f:W32):List Nat:=bitsTo f 32
theorem bitsTo_yes {f:W32}{k:Nat}(h:isF f k=true):bitsTo f (k+1)=bitsTo f k++[k]:=by
 simp [bitsTo,List.range_succ,h]
theorem bitsTo_no {f:W32}{k:Nat}(h:isF f k=false):bitsTo f (k+1)=bitsTo f k:=by
 simp [bitsTo,List.range_succ,h]
theorem bitsTo_front (f:W32):∀ (n m:Nat),∃ rest,bitsTo f (n+m)=bitsTo f n++rest
 | n,0=>⟨[],by simp⟩
 | n,m+1=>by
  obtain ⟨rest,h⟩:=bitsTo_front f n m
  cases hb:isF f (n+m) with
  | true=>exact ⟨rest++[n+m],by rw [← Nat.add_assoc,bitsTo_yes hb,h,List.append_assoc]⟩
  | false=>exact ⟨rest,by rw [← Nat.add_assoc,bitsTo_no hb,h]⟩
theorem bitsF_front (f:W32)(k:Nat)(h:k≤32):∃ rest,bitsF f=bitsTo f k++rest:=by
 obtain ⟨rest,hr⟩:=bitsTo_front f k (32-k)
 exact ⟨rest,by rw [← hr,show k+(32-k)=32 by omega];rfl⟩
def eachEnc (k:Nat):Array Value:=#[.int .u32 ((bitW k).toNat:Int),.string (nmS k)]
def FB (W:World)(b:Nat)(f:W32):Prop:=W.heap[b]? = some (.cells #[.int .u32 (f.toNat:Int)] 39 (0,0))
theorem FB.stab (B0:Nat)(b:Nat)(f:W32):Stab B0 (fun W=>FB W b f):=Stab.heap _ _ _ _
theorem FB.ext {W W':World}{b:Nat}{f:W32}(h:FB W b f)(hx:Ext W W'):FB W' b f:=hx.heap h
theorem NM.nck {B b:Nat}{W W':World}(h:NM W b)(hk:NCK B W W')(hb:B≤b):NM W' b:=hk.2 _ _ hb h rfl
theorem pow_bit (k:Nat)(h:k<32):(2:Int) ^ k % 4294967296=((bitW k).toNat:Int):=by
 have h1:(2:Nat) ^ k<4294967296:=Nat.lt_of_lt_of_le (Nat.pow_lt_pow_right (by decide) h) (by decide)
 have h2:(bitW k).toNat=2 ^ k:=by
  unfold bitW
  rw [BitVec.toNat_shiftLeft,Nat.shiftLeft_eq]
  simp [Nat.mod_eq_of_lt h1]
 rw [h2]
 have h3:((2 ^ k:Nat):Int)=(2:Int) ^ k:=by simp
 rw [← h3]
 omega
attribute [local go_sem] Oper.semAt_some
set_option maxRecDepth 100000 in
set_option maxHeartbeats 2000000 in
theorem each_iter (f:W32) (bf:Nat):
  IterM Tryz.prog 157 #[.pointer (some ⟨bf,0,none⟩)] eachEnc (fun W=>FB W bf f) (fun pre k _=>isF f k=true∧k<32∧pre=bitsTo f k) (fun _=>False) (fun xs=>xs=bitsF f) (fun pre=>∃ rest,bitsF f=pre++rest):=by
 intro lp J Jx W hJ hJx hY hit h0
 refine callsIn_of_wp Tryz.func157 rfl trivial ?_ rfl
 simp only [Tryz.ntmps157,List.size_toArray,List.length_cons,List.length_nil,Nat.reduceAdd,Nat.reduceSub,Array.replicate_succ,Array.replicate_zero,List.push_toArray,List.append_toArray,List.nil_append,List.cons_append]
 gi_wp2_with fail
 refine wide_call (names_at W) ?_
 rintro e w1 ⟨rfl,hnm,hx⟩
 have hj1:=hJ [] W w1 none (by simp) (grown_none hx) h0
 have hit1:=FB.ext hit hx
 have hsz1:=hx.size
 have HNM:=Lib.hid hnm;have HJ1:=Lib.hid hj1;have HI1:=Lib.hid hit1
 clear hnm hj1 hit1 hx hit h0
 gi_wp2_with fail
 gi_loopw [9] (fun i wr=>∃ k:Nat,k≤32∧i=.int .i64 k∧J (bitsTo f k) wr∧FB wr bf f∧NM wr W.heap.size∧W.heap.size≤wr.heap.size) (fun i _=>32-(intOf i).toNat)
 case atStart=>exact ⟨0,by omega,rfl,HJ1.out,HI1.out,HNM.out,hsz1⟩
 case round=>
  obtain ⟨k,hk,rfl,hj,hi,hn,hz⟩:=hrel
  by_cases hlt:k<32
  ·have hlook:=look_at wr _ k hlt hn
   have HJ:=Lib.hid hj;have HI:=Lib.hid hi;have HN:=Lib.hid hn;have HZ:=Lib.hid hz
   have c0:=(row1 hi).1
   clear hj hi hn hz HNM HJ1 HI1 hsz1
   cases hnk:nameAt k with
   | none=>
    have hno:isF f k=false:=by simp [isF,hnk]
    have HB:=Lib.hid (bitsTo_no hno)
    simp only [lookV,hnk] at hlook
    clear hno
    gi_wp2_with fail
    refine ⟨trivial,?_⟩
    gi_wp2_with fail
    try (refine ⟨fun _ h=>(by cases h),?_⟩;gi_wp2_with fail)
    go_roundw
    case rel=>exact ⟨k+1,by omega,by go_num,by rw [HB.out];exact HJ.out,HI.out,HN.out,HZ.out⟩
    case measure=>simp [intOf];omega
   | some s=>
    have HP:=Lib.hid (pow_bit k hlt)
    cases hb:hasB f (bitW k) with
    | false=>
     have hno:isF f k=false:=by simp [isF,hb]
     have HB:=Lib.hid (bitsTo_no hno)
     have HH:=Lib.hid (hb ▸ Has_lit2 _ f (bitW k) HP.out wr)
     simp only [lookV,hnk] at hlook
     clear hno hb
     gi_wp2_with fail
     refine wide_call HH.out ?_
     rintro _ w2 ⟨rfl,rfl⟩
     gi_wp2_with fail
     try (refine ⟨fun _ h=>(by cases h),?_⟩;gi_wp2_with fail)
     go_roundw
     case rel=>exact ⟨k+1,by omega,by go_num,by rw [HB.out];exact HJ.out,HI.out,HN.out,HZ.out⟩
     case measure=>simp [intOf];omega
    | true=>
     have hys:isF f k=true:=by simp [isF,hb,hnk]
     have HB:=Lib.hid (bitsTo_yes hys)
     have HY:=Lib.hid hys
     have HH:=Lib.hid (hb ▸ Has_lit2 _ f (bitW k) HP.out wr)
     have HS:=Lib.hid (show nmS k=s by simp [nmS,hnk])
     simp only [lookV,hnk] at hlook
     clear hys hb
     obtain ⟨fn,tmps,assign,body,hy,hR⟩:=hY (bitsTo f k) k wr HJ.out HI.out ⟨HY.out,hlt,rfl⟩
     unfold eachEnc at hy
     rw [HS.out,← HP.out] at hy
     gi_wp2_with fail
     refine wide_call HH.out ?_
     rintro _ w2 ⟨rfl,rfl⟩
     gi_wp2_with fail
     refine ⟨rfl,hR.mono ?_⟩
     rintro e W3 ⟨hq3,(⟨rfl,hJ3,hI3⟩ | ⟨rfl,hJx3⟩)⟩
     ·have HN3:=Lib.hid (HN.out.nck hq3 (Nat.le_refl _));have HZ3:=Lib.hid (Nat.le_trans HZ.out hq3.1);have HJ3:=Lib.hid hJ3;have HI3:=Lib.hid hI3
      clear hq3 hJ3 hI3
      gi_wp2_with fail
      go_roundw
      case rel=>exact ⟨k+1,by omega,by go_num,by rw [HB.out];exact HJ3.out,HI3.out,HN3.out,HZ3.out⟩
      case measure=>simp [intOf];omega
     ·obtain ⟨rest,hrest⟩:=bitsF_front f (k+1) (by omega)
      have HR:=Lib.hid hrest
      clear hrest hq3
      gi_wp2_with fail
      first | go_end0 | refine bodyPost_ret (results_none rfl _ _ _) rfl ?_
      exact ⟨⟨_,rfl⟩,.inr ⟨_,⟨rest,by rw [← HB.out];exact HR.out⟩,hJx3⟩⟩
  ·have h32:k=32:=by omega
   subst h32
   gi_wp2_with fail
   first | go_end0 | refine bodyPost_ret (results_none rfl _ _ _) rfl ?_
   exact ⟨⟨_,rfl⟩,.inl ⟨_,rfl,hj,hi⟩⟩
theorem Each_at (f:W32) (w:World):
  Calls Tryz.prog 109 #[.int .u32 (f.toNat:Int)] w fun e w'=>e=.returned (.func (.func 157) #[] #[.pointer (some ⟨w.heap.size,0,none⟩)])∧FB w' w.heap.size f∧w'.heap.size=w.heap.size+1∧Ext w w':=by
 have hmf:∀ (fn:Fn) (first cap:Array Value) (w:World),(Instr.makeFunc fn first cap).run Tryz.prog w=.ok (.func fn first cap) w:=fun _ _ _ _=>rfl
 have h0:=heap_alloc_new w (.cells #[.int .u32 (f.toNat:Int)] 39)
 have hX:=(Ext.refl w).alloc (.cells #[.int .u32 (f.toNat:Int)] 39)
 have H0:=Lib.hid h0;have HX:=Lib.hid hX
 clear h0 hX
 go_enter Tryz.func109,Tryz.ntmps109
 go_wp2
 go_ret
 exact ⟨rfl,H0.out,by simp,HX.out⟩
end Go.Proofs.YtnjmndofcpnmeaaGreatDoor
namespace Go.Proofs.YtnjmndofcpnmeaaGreatDoor
open Go Go.RowKit
set_option linter.unusedVariables false
theorem wpListIn_append_rs {F:Fence} {n:Nat} {P:Program} (w:World) {ops:Array Oper} {rest:List Oper} {o:Oper} {a:Act} {Q:Exit→Act→World→Prop} (hgd:o.guard=none) (s x:Operand) (t:TypeId)
  (ho:o.op=.call { callee:=.builtin .append,args:=#[s,x],argTypes:=#[t,t] })
  (base:Nat) (e:TypeId) (i:TypeInfo) (z:Value) (bytes:Nat) (ht:P.underlying t=some (.slice e)) (hi:P.info? e=some i) (hz:i.zero=some z)
  (hsize:i.size=1) (hby:i.bytes=bytes) (hzs:z.cells.size=1)
  (v:Value) (xs:List Value) (hs:a.eval s=v) (hown:w.ownsRow base e 1 v xs.length xs)
  (sv:Value) (news:List Value) (hx:a.eval x=sv) (hr:RS w sv news) (h1:∀ u∈news,u.oneCell'=true)
  (hbytes:(xs.length+news.length)*bytes≤140737488355328) (hby0:0<bytes) (hbase:base≤w.heap.size)
  (h:∀ v' w',w'.ownsRow base e 1 v' (xs++news).length (xs++news)→w.grownBy w' v.ownBlock→(v'.ownBlock=v.ownBlock∨v'.ownBlock=some w.heap.size)→wpListIn F n P ops Q rest (a.put o.dst v') w'):wpListIn F n P ops Q (o::rest) a w:=by
 refine wpListIn_plain hgd fun K hK=>?_
 obtain ⟨v',w',hrun,h2,h3,h4⟩:=run_append_rs (P:=P) w base t o.type e i z bytes ht hi hz hsize hby hzs v xs hown sv news hr h1 hbytes hby0 hbase
 unfold Oper.wpIn
 refine ⟨?_,?_⟩
 ·simp [Oper.about,ho,resolve,Target.leads,Sem.run_pure]
 ·rw [Oper.semAt_plain F _ _ (by rw [ho];intro c hc';cases hc')]
  simp [execOp,ho,resolve,invoke,builtin,hs,hx,hrun,Result.andThen]
  exact hK _ _ (h v' w' h2 h3 h4)
theorem Stab.own {B:Nat}(b0:Nat)(e:TypeId)(v:Value)(n:Nat)(xs:List Value):Stab B (fun W=>W.ownsRow b0 e 1 v n xs):=fun W W' l _ hn hg h=>by
 refine ⟨h.1,?_⟩
 rcases h.2 with hh | ⟨g,cap,cur,hv,hb,hh,r⟩
 ·exact .inl hh
 ·exact .inr ⟨g,cap,cur,hv,hb,heap_nc hn hg hh,r⟩
theorem own_ext1 {w w':World}{B:Nat}{e:TypeId}{v:Value}{n:Nat}{xs:List Value}(h:w.ownsRow B e 1 v n xs)(he:Ext w w'):w'.ownsRow B e 1 v n xs:=
 h.kept (he.but none) (by cases hv:v.ownBlock<;>simp)
theorem own_keep {W W':World}{row:Option Nat}{k B:Nat}{o:Obj}(hg:W.grownBy W' row)(hrow:∀ j,row=some j→B≤j)(hk:k<B)(h:W.heap[k]? = some o):W'.heap[k]? = some o:=
 (hg.block k (Array.getElem?_eq_some_iff.1 h).1 (fun e=>by have:=hrow k e.symm;omega)).trans h
theorem own_set {w:World}{B:Nat}{e:TypeId}{v:Value}{n:Nat}{xs:List Value}(h:w.ownsRow B e 1 v n xs){k:Nat}(u:Value)(hk:k<B):(w.setCell ⟨k,0,none⟩ u).ownsRow B e 1 v n xs:=
 h.kept (grown_set1 w k u) (by
  cases hv:v.ownBlock with
  | none=>exact .inl rfl
  | some j=>exact .inr (fun e=>by have:=(World.ownsRow.lt h j hv).1;injection e with e;omega))
theorem own_cells {w:World}{B:Nat}{e:TypeId}{v:Value}{n:Nat}{xs:List Value}(h:w.ownsRow B e 1 v n xs):∀ j o,v.ownBlock=some j→w.heap[j]? = some o→o.isCells=true:=fun j o hj ho=>by
 rcases h.2 with ⟨rfl,_⟩ | ⟨g,cap,cur,rfl,hb,hg,_⟩
 ·simp [Value.ownBlock] at hj
 ·have:g=j:=Option.some.inj hj
  subst this
  rw [hg] at ho;injection ho with ho;subst ho;rfl
theorem own_keepsOthers {w W':World}{B:Nat}{e:TypeId}{v:Value}{n:Nat}{xs:List Value}(h:w.ownsRow B e 1 v n xs)(hg:w.grownBy W' v.ownBlock):KeepsOthers w W':=
 KeepsOthers.of_grownBy hg (fun j o hj ho=>own_cells h j o hj ho)
theorem own_shape {W:World}{B:Nat}{e:TypeId}{v:Value}{xs:List Value}{x:Value}(h:W.ownsRow B e 1 v (xs++[x]).length (xs++[x])):∃ g cap,v=.slice (some ⟨g,0,none⟩) (xs.length+1) cap:=by
 rcases h.2 with ⟨_,h0⟩ | ⟨g,cap,cur,rfl,_⟩
 ·simp at h0
 ·exact ⟨g,cap,by rw [List.length_append];rfl⟩
theorem sinfo1:(Tryz.prog.info? 9).map (fun i=>(i.zero,i.size,i.bytes))=some (some (.string ⟨#[]⟩),1,16):=by kernel_rfl
def nmL (ks:List Nat):List ByteArray:=ks.map nmS
def stL (ks:List Nat):List Value:=ks.map fun k=>.string (nmS k)
def joinF (f:W32):List UInt8:=Lib.join ((nmL (bitsF f)).map (·.data.toList)) [44]
def textF (f:W32):List UInt8:=if f=0#32 then [45] else joinF f
theorem stL_len (ks:List Nat):(stL ks).length=ks.length:=by simp [stL]
theorem stL_snoc (ks:List Nat)(k:Nat):stL (ks++[k])=stL ks++[.string (nmS k)]:=by simp [stL]
theorem bitsTo_len (f:W32)(n:Nat):(bitsTo f n).length≤n:=by
 unfold bitsTo
 exact Nat.le_trans (List.length_filter_le _ _) (by simp)
theorem bitsF_len (f:W32):(bitsF f).length≤32:=bitsTo_len f 32
theorem nmS_len (k:Nat):(nmS k).size≤12:=by
 unfold nmS nameAt
 cases h:namesL.find? fun x=>x.1==k with
 | none=>decide
 | some x=>
  have hm:=List.mem_of_find?_eq_some h
  have ha:∀ y∈namesL,y.2.size≤12:=by decide
  exact ha x hm
theorem join_len:∀ (ls:List (List UInt8)),(∀ l∈ls,l.length≤12)→(Lib.join ls [44]).length≤13*ls.length
 | [],_=>by simp [Lib.join,List.intercalate]
 | [l],h=>by have:=h l (by simp);simp [Lib.join,List.intercalate];omega
 | l::m::r,h=>by
  have h1:=h l (by simp)
  have h2:=join_len (m::r) (fun x hx=>h x (by simp [hx]))
  have e:Lib.join (l::m::r) [44]=l++[44]++Lib.join (m::r) [44]:=by simp [Lib.join,List.intercalate,List.intersperse]
  rw [e]
  simp only [List.length_append,List.length_cons,List.length_nil] at h2 ⊢
  omega
theorem and_bits (x y:W32)(k:Nat):(andW x y).getLsbD k=(x.getLsbD k&&y.getLsbD k):=by simp [andW]
theorem hasB_iff (x y:W32):hasB x y=true ↔ ∀ k,k<32→y.getLsbD k=true→x.getLsbD k=true:=by
 unfold hasB
 rw [beq_iff_eq]
 constructor
 ·intro h k _ hy
  have:=congrArg (fun z:W32=>z.getLsbD k) h
  simp only [and_bits,hy,Bool.and_true] at this
  exact this
 ·intro h
  refine BitVec.eq_of_getLsbD_eq (fun k hk=>?_)
  rw [and_bits]
  cases hy:y.getLsbD k with
  | false=>simp
  | true=>rw [h k hk hy];rfl
theorem bitW_bit (k j:Nat)(hk:k<32):(bitW k).getLsbD j=decide (j=k):=by
 unfold bitW
 rw [BitVec.getLsbD_shiftLeft]
 by_cases h:j=k
 ·subst h;simp [hk]
 ·simp [h]
  omega
theorem has_bit (x:W32)(k:Nat)(hk:k<32):hasB x (bitW k)=x.getLsbD k:=by
 rw [Bool.eq_iff_iff,hasB_iff]
 constructor
 ·intro h
  exact h k hk (by rw [bitW_bit k k hk];simp)
 ·intro h j hj hy
  rw [bitW_bit k j hk,decide_eq_true_eq] at hy
  subst hy
  exact h
theorem nm_bits (k:Nat)(hk:k<32):(orW tkM opM).getLsbD k=(nameAt k).isSome:=by
 have h:∀ k:Fin 32,(orW tkM opM).getLsbD k.val=(nameAt k.val).isSome:=by decide
 exact h ⟨k,hk⟩
theorem isF_bit {f:W32}(hv:nmB f=true)(k:Nat)(hk:k<32):isF f k=f.getLsbD k:=by
 unfold isF
 rw [has_bit f k hk]
 cases hf:f.getLsbD k with
 | false=>simp
 | true=>
  have:=(hasB_iff _ _).1 hv k hk hf
  rw [nm_bits k hk] at this
  rw [this];rfl
theorem bitsF_ne {f:W32}(hv:nmB f=true)(hz:f≠0#32):(bitsF f).length≠0:=by
 intro h
 have h0:=List.eq_nil_of_length_eq_zero h
 apply hz
 refine BitVec.eq_of_getLsbD_eq (fun k hk=>?_)
 unfold bitsF bitsTo at h0
 rw [List.filter_eq_nil_iff] at h0
 have:=h0 k (by simpa using hk)
 rw [isF_bit hv k hk] at this
 simpa using this
def TxI (w:World)(n:Nat)(pre:List Nat)(W:World):Prop:=∃ v,W.heap[n]? = some (.cells #[v] 35 (0,0))∧W.ownsRow (n+2) 9 1 v (stL pre).length (stL pre)∧Ext w W∧n+2≤W.heap.size
theorem TxI.stab {B0:Nat}{w:World}(h:w.heap.size≤B0)(n:Nat)(pre:List Nat):Stab B0 (TxI w n pre):=Stab.ex fun v=>(Stab.heap _ _ _ _).and ((Stab.own _ _ _ _ _).and ((Stab.ext w h).and (Stab.size _)))
attribute [local go_sem] Oper.semAt_some
set_option maxRecDepth 100000 in
set_option maxHeartbeats 2000000 in
theorem Text_yes (f:W32) (hv:nmB f=true) (hz:f≠0#32) (w:World):
  Calls Tryz.prog 56 #[.int .u32 (f.toNat:Int)] w fun e w'=>e=.returned (.tuple #[.string ⟨(joinF f).toArray⟩,.int .i64 0])∧Ext w w':=by
 obtain ⟨i0,hi,hz0,hz1,hz2⟩:=info_parts sinfo1
 have hnm:=named_at f w
 rw [hv] at hnm
 have HNM:=Lib.hid hnm
 have hne:((f.toNat:Int)==0)=false:=by
  rw [beq_eq_false_iff_ne]
  intro h
  exact hz (BitVec.eq_of_toNat_eq (by simpa using h))
 have HNZ:=Lib.hid (bitsF_ne hv hz)
 clear hnm hv hz
 refine calls_of_marks Tryz.func56 rfl ?_
 simp only [Tryz.ntmps56,List.size_toArray,List.length_cons,List.length_nil,Nat.reduceAdd,Nat.reduceSub,Array.replicate_succ,Array.replicate_zero,List.push_toArray,List.append_toArray,List.nil_append,List.cons_append]
 go_wp2_with fail
 refine HNM.out.mono ?_
 rintro _ w1 ⟨rfl,hx1⟩
 have h0:=heap_alloc_new w1 (.cells #[.slice none 0 0] 35)
 have hxa:=hx1.trans ((Ext.refl w1).alloc (.cells #[.slice none 0 0] 35))
 obtain ⟨wa,hwa⟩:∃ wa,w1.alloc (.cells #[.slice none 0 0] 35)=wa:=⟨_,rfl⟩
 have hza:wa.heap.size=w1.heap.size+1:=by rw [← hwa];simp
 rw [hwa] at h0 hxa
 have H0:=Lib.hid h0;have HXA:=Lib.hid hxa;have HZA:=Lib.hid hza;have HX1:=Lib.hid hx1
 clear h0 hxa hx1 hza
 go_wp2_with fail
 refine (Each_at f wa).mono ?_
 rintro _ wb ⟨rfl,hfb,hzb,hxb⟩
 have HFB:=Lib.hid hfb;have HZB:=Lib.hid hzb;have HXB:=Lib.hid (HXA.out.trans hxb)
 have H0B:=Lib.hid (hxb.heap H0.out)
 clear hfb hzb hxb hwa H0 HNM
 go_wp2_with fail
 have hbz:w1.heap.size+2=wb.heap.size:=by have:=HZB.out;have:=HZA.out;omega
 have HBZ:=Lib.hid hbz;clear hbz
 refine wpIn_wide.1 (wp_rangeM (gf:=157) (lb:=#[.pointer (some ⟨wa.heap.size,0,none⟩)]) rfl (Go.Proofs.enters_of Tryz.func157 (by kernel_rfl) rfl)
  (each_iter f wa.heap.size) (fun _=>rfl) (fun k hk=>hk.elim) HFB.out (FB.stab _ _ _)
  (fun pre W=>TxI w w1.heap.size pre W) (fun cd pre W=>False) (fun pre=>TxI.stab HXB.out.size _ _) (fun cd pre=>Stab.pure _)
  (fun pre X Y r hr hg h=>?_) (fun cd pre X Y r hr hg h=>h) ⟨_,H0B.out,World.ownsRow_nil _ _ _ _,HXB.out,by have:=HBZ.out;omega⟩ ?_ ?_ ?_)
 ·obtain ⟨v,h1,h2,h3,h4⟩:=h
  have hn:r=none:=by cases r with | none=>rfl | some k=>exact (hr k rfl).elim
  subst hn
  have hx:=grown_of_ext hg
  exact ⟨v,hx.heap h1,own_ext1 h2 hx,h3.trans hx,Nat.le_trans h4 hx.size⟩
 ·intro L pre k W hL hnL hzW hIW hitW hGW
  simp only [eachEnc]
  gi_wp2_with fail
  refine ⟨KeepsFrom.refl _ _,fun W2 hg2 hn2 hsz2=>?_⟩
  have hI2:=(TxI.stab (B0:=wb.heap.size) HXB.out.size w1.heap.size pre) W W2 L hL hn2 hg2 hIW
  have hit2:=(FB.stab wb.heap.size wa.heap.size f) W W2 L hL hn2 hg2 hitW
  obtain ⟨v,h1,h2,h3,h4⟩:=hI2
  obtain ⟨g1,g2,rfl⟩:=hGW
  have HG:=Lib.hid g1;have HIT:=Lib.hid hit2;have HOW:=Lib.hid h2;have HX2:=Lib.hid h3;have HC:=Lib.hid h1
  have k0:=(row1 h1).1
  have HB:=Lib.hid (bitsTo_yes g1)
  have HN:=Lib.hid (show 0<1 from Nat.one_pos)
  clear hIW hitW hg2 hn2 hnL hit2 h1 h2 h3 g1 hsz2
  have HLT:=Lib.hid (show ∀ j,v.ownBlock=some j→w1.heap.size+2≤j from fun j hj=>(World.ownsRow.lt HOW.out j hj).1)
  have HX3:=Lib.hid ((Ext.refl W2).alloc (.cells #[.string (nmS k)] 9))
  have HB2:=Lib.hid (show (stL (bitsTo f k)).length≤32 by rw [stL_len];have:=bitsTo_len f k;omega)
  gi_wp2_with (gi_at_builtin;refine wpListIn_append_rs _ rfl (.tmp 16) (.tmp 18) 35 rfl (w1.heap.size+2) 9 i0 (.string ⟨#[]⟩) 16 Tryz.underlying35 hi hz0 hz1 hz2 rfl _ (stL (bitsTo f k)) rfl (own_ext1 HOW.out HX3.out) (.slice (some ⟨W2.heap.size,0,none⟩) 1 1) [.string (nmS k)] rfl (RS.one (z:=W2.heap.size) W2 _ _ rfl) (by simp [Value.oneCell']) (by have:=HB2.out;simp;omega) (by omega) (Nat.le_trans h4 HX3.out.size) ?_;intro v4 w4 hown4 hg4 _;obtain ⟨g4,cap4,rfl⟩:=own_shape hown4;have HO4:=Lib.hid hown4;have HG4:=Lib.hid hg4;have HC4:=Lib.hid (own_keep hg4 HLT.out (by omega) (HX3.out.heap HC.out));have k4:=(row1 HC4.out).1;have f4:=(row1 HC4.out).2;clear hown4 hg4)
  have hown4:=HO4.out
  rw [← stL_snoc] at hown4
  have hlt:=HLT.out
  have hx3:=HX3.out
  exact ⟨((hx3.keepsOthers.trans (own_keepsOthers (own_ext1 HOW.out hx3) HG4.out)).trans (KeepsOthers.setCell w4 ⟨w1.heap.size,0,none⟩ _)).from _,
   heap_far (grown_set1 _ _ _) (own_keep HG4.out hlt (by have:=HZA.out;omega) (hx3.heap HIT.out)) (by have:=HZA.out;omega),
   _,row1_set _ HC4.out,own_set hown4 _ (by omega),((HX2.out.trans hx3).grown HG4.out (fun j hj=>by have:=hlt j hj;have:=HX1.out.size;omega)).setCell (p:=⟨w1.heap.size,0,none⟩) HX1.out.size _,by have:=HG4.out.size;have:=hx3.size;simp;omega⟩
 ·intro D xs W hDw hS hIW hit hD
  subst hS
  obtain ⟨v,h1,h2,h3,h4⟩:=hIW
  have k0:=(row1 h1).1
  rcases h2.2 with ⟨_,h0⟩ | ⟨g,cap,cur,rfl,hgb,hr⟩
  ·exact absurd h0 (by rw [stL_len];exact HNZ.out)
  obtain ⟨hg,hnc,hcm,_⟩:=hr
  rw [stL_len] at hnc h2 k0
  have hlg:g<W.heap.size:=(Array.getElem?_eq_some_iff.1 hg).1
  have hjn:=Tryz.strings_Join g 0 cap (nmL (bitsF f)) ⟨#[44]⟩ W (by
   intro j x hx
   have hjl:j<(bitsF f).length:=by have:=(List.getElem?_eq_some_iff.1 hx).1;simpa [nmL] using this
   have hc:=h2.cellAt j (by omega)
   rw [Nat.zero_add,hc,stL,List.getElem?_map]
   rw [nmL,List.getElem?_map] at hx
   cases hb:(bitsF f)[j]? with
   | none=>rw [hb] at hx;cases hx
   | some y=>rw [hb] at hx;injection hx with hx;subst hx;rfl) hlg (by simp only [nmL,List.length_map];have:=bitsF_len f;omega) (by simp only [nmL,List.length_map];exact hnc) (by
   have:=join_len ((nmL (bitsF f)).map (·.data.toList)) (fun l hl=>by
    simp only [nmL,List.map_map,List.mem_map] at hl
    obtain ⟨y,_,rfl⟩:=hl
    have:=nmS_len y
    show (nmS y).data.toList.length≤12
    rw [Array.length_toList];exact this)
   rw [List.length_map,nmL,List.length_map] at this
   have h32:=bitsF_len f
   exact Nat.le_trans this (by omega))
  have hln:(nmL (bitsF f)).length=(bitsF f).length:=by simp [nmL]
  rw [hln] at hjn
  have HJ:=Lib.hid hjn;have HX2:=Lib.hid h3;have HD:=Lib.hid hD
  unfold maxLen at hcm
  clear h1 h2 h3 hjn hg hlg hgb hD hit h4 hln
  go_wp2_with fail
  refine HJ.out.mono ?_
  rintro _ w5 ⟨rfl,hx5⟩
  have hx5':Ext W w5:=hx5
  have HX5:=Lib.hid (HX2.out.trans hx5');have HD5:=Lib.hid (hx5'.heap HD.out)
  have hDw1:w.heap.size≤D:=by have:=HXB.out.size;omega
  have hxp:Ext w (w5.putObj D (.deferred none)):=Ext.of_grown HX5.out (grown_put HD5.out) (by omega)
  have HXP:=Lib.hid hxp
  clear hx5 hx5' hxp
  go_wp2_with fail
  refine ⟨by simp,.inl ⟨_,_,rfl,run_takeDeferred HD5.out,?_⟩⟩
  exact ⟨.tuple #[.string ⟨(joinF f).toArray⟩,.int .i64 0],by simp [results,Tryz.results56,go_sem,joinF],rfl,HXP.out⟩
 ·rintro D cd pre W hDw hS h hD
  exact h.elim
set_option maxRecDepth 100000 in
theorem Text_no (f:W32) (hv:nmB f=false) (w:World):
  Calls Tryz.prog 56 #[.int .u32 (f.toNat:Int)] w fun e w'=>e=.returned (.tuple #[.string ⟨#[]⟩,.int .i64 2])∧Ext w w':=by
 have hnm:=named_at f w
 rw [hv] at hnm
 have HNM:=Lib.hid hnm
 clear hnm hv
 go_enter Tryz.func56,Tryz.ntmps56
 go_wp2_with fail
 refine HNM.out.mono ?_
 rintro _ w1 ⟨rfl,hx1⟩
 have HX:=Lib.hid hx1;clear hx1
 go_wp2_with fail
 go_ret2
 exact ⟨rfl,HX.out⟩
set_option maxRecDepth 100000 in
theorem Text_zero (w:World):
  Calls Tryz.prog 56 #[.int .u32 0] w fun e w'=>e=.returned (.tuple #[.string ⟨#[45]⟩,.int .i64 0])∧Ext w w':=by
 have hnm:Calls Tryz.prog 113 #[.int .u32 0] w fun e w'=>e=.returned (.bool true)∧Ext w w':=named_at 0#32 w
 have HNM:=Lib.hid hnm
 clear hnm
 go_enter Tryz.func56,Tryz.ntmps56
 go_wp2_with fail
 refine HNM.out.mono ?_
 rintro _ w1 ⟨rfl,hx1⟩
 have HX:=Lib.hid hx1;clear hx1
 go_wp2_with fail
 go_ret2
 exact ⟨rfl,HX.out⟩
theorem Text_ok (f:W32) (hv:nmB f=true) (w:World):
  Calls Tryz.prog 56 #[.int .u32 (f.toNat:Int)] w fun e w'=>e=.returned (.tuple #[.string ⟨(textF f).toArray⟩,.int .i64 0])∧Ext w w':=by
 unfold textF
 by_cases hz:f=0#32
 ·subst hz
  rw [if_pos rfl]
  exact Text_zero w
 ·rw [if_neg hz]
  exact Text_yes f hv hz w
end Go.Proofs.YtnjmndofcpnmeaaGreatDoor
namespace Go.Proofs.YtnjmndofcpnmeaaGreatDoor
open Go Go.RowKit
set_option linter.unusedVariables false
def allW:W32:=orW tkM opM
def findK (l:List UInt8):Option Nat:=(bitsF allW).find? fun k=>(nmS k).data.toList==l
def parseW (f:W32):List (List UInt8)→W32
 | []=>f
 | l::r=>match findK l with
  | none=>f
  | some k=>if (bitW k).toNat≤f.toNat then f else parseW (orW f (bitW k)) r
theorem parse_none {f:W32}{l:List UInt8}(r:List (List UInt8))(h:∀ k∈bitsF allW,(nmS k).data.toList≠l):parseW f (l::r)=f:=by
 have:findK l=none:=by
  unfold findK
  rw [List.find?_eq_none]
  intro k hk
  simpa using h k hk
 rw [parseW,this]
theorem find_at {l:List UInt8}{k:Nat}(h32:k<32)(hk:isF allW k=true)(h:∀ j∈bitsTo allW k,(nmS j).data.toList≠l)(he:(nmS k).data.toList=l):findK l=some k:=by
 obtain ⟨rest,hr⟩:=bitsF_front allW (k+1) (by omega)
 rw [bitsTo_yes hk] at hr
 unfold findK
 rw [hr,List.find?_append,List.find?_append]
 have:(bitsTo allW k).find? (fun k=>(nmS k).data.toList==l)=none:=by
  rw [List.find?_eq_none]
  intro j hj
  simpa using h j hj
 rw [this]
 simp [he]
theorem parse_stop {f:W32}{l:List UInt8}{k:Nat}(r:List (List UInt8))(h:findK l=some k)(hle:(bitW k).toNat≤f.toNat):parseW f (l::r)=f:=by
 rw [parseW,h]
 simp [hle]
theorem parse_go {f:W32}{l:List UInt8}{k:Nat}(r:List (List UInt8))(h:findK l=some k)(hle:¬ (bitW k).toNat≤f.toNat):parseW f (l::r)=parseW (orW f (bitW k)) r:=by
 rw [parseW,h]
 simp [hle]
theorem find_names:((List.range 32).all fun k=>!(nameAt k).isSome||findK (nmS k).data.toList==some k)=true:=by kernel_rfl
theorem find_name {f:W32}{k:Nat}(h32:k<32)(h:isF f k=true):findK (nmS k).data.toList=some k:=by
 have:=(List.all_eq_true.1 find_names) k (by simpa using h32)
 unfold isF at h
 rw [Bool.and_eq_true] at h
 simpa [h.1] using this
theorem names_free:((List.range 32).all fun k=>(nmS k).data.toList.all fun c=>c != 44)=true:=by kernel_rfl
def lowW (f:W32)(n:Nat):W32:=BitVec.ofNat 32 (f.toNat % 2 ^ n)
theorem lowW_nat (f:W32)(n:Nat):(lowW f n).toNat=f.toNat % 2 ^ n:=by
 unfold lowW
 rw [BitVec.toNat_ofNat]
 exact Nat.mod_eq_of_lt (Nat.lt_of_le_of_lt (Nat.mod_le _ _) f.isLt)
theorem bitW_nat (k:Nat)(h:k<32):(bitW k).toNat=2 ^ k:=by
 have h1:(2:Nat) ^ k<4294967296:=Nat.lt_of_lt_of_le (Nat.pow_lt_pow_right (by decide) h) (by decide)
 unfold bitW
 rw [BitVec.toNat_shiftLeft,Nat.shiftLeft_eq]
 simp [Nat.mod_eq_of_lt h1]
theorem low_bit (f:W32)(n k:Nat):(lowW f n).getLsbD k=(decide (k<n)&&f.getLsbD k):=by
 rw [← BitVec.testBit_toNat,lowW_nat,Nat.testBit_mod_two_pow,BitVec.testBit_toNat]
theorem or_bit (x y:W32)(k:Nat):(orW x y).getLsbD k=(x.getLsbD k||y.getLsbD k):=by simp [orW]
theorem low_yes {f:W32}{n:Nat}(hn:n<32)(h:f.getLsbD n=true):orW (lowW f n) (bitW n)=lowW f (n+1):=by
 refine BitVec.eq_of_getLsbD_eq (fun k hk=>?_)
 rw [or_bit,low_bit,low_bit,bitW_bit n k hn]
 by_cases e:k=n
 ·subst e;simp [h]
 ·by_cases h2:k<n
  ·simp [h2,show k<n+1 by omega,e]
  ·simp [h2,show ¬ k<n+1 by omega,e]
theorem low_no {f:W32}{n:Nat}(h:f.getLsbD n=false):lowW f n=lowW f (n+1):=by
 refine BitVec.eq_of_getLsbD_eq (fun k hk=>?_)
 rw [low_bit,low_bit]
 by_cases e:k=n
 ·subst e;simp [h]
 ·by_cases h2:k<n
  ·simp [h2,show k<n+1 by omega]
  ·simp [h2,show ¬ k<n+1 by omega]
theorem parse_bits {f:W32} (hv:nmB f=true):∀ (m n:Nat),n+m=32→parseW (lowW f n) (((List.range' n m).filter (isF f)).map fun k=>(nmS k).data.toList)=f
 | 0,n,h=>by
  obtain rfl:n=32:=by omega
  simp only [List.range'_zero,List.filter_nil,List.map_nil,parseW]
  refine BitVec.eq_of_toNat_eq ?_
  rw [lowW_nat]
  exact Nat.mod_eq_of_lt f.isLt
 | m+1,n,h=>by
  have ih:=parse_bits hv m (n+1) (by omega)
  rw [List.range'_succ,List.filter_cons]
  cases hb:isF f n with
  | true=>
   rw [if_pos rfl,List.map_cons,parse_go _ (find_name (by omega) hb) (by rw [bitW_nat n (by omega),lowW_nat];have:=Nat.mod_lt f.toNat (Nat.two_pow_pos n);omega),low_yes (by omega) (by rw [← isF_bit hv n (by omega)];exact hb)]
   exact ih
  | false=>
   rw [if_neg (by simp),low_no (by rw [← isF_bit hv n (by omega)];exact hb)]
   exact ih
theorem parse_text {f:W32}(hv:nmB f=true)(hz:f≠0#32):parseW 0#32 (splb 44 [] (joinF f))=f:=by
 have hn:∀ m∈(nmL (bitsF f)).map (·.data.toList),∀ c∈m,c≠44:=by
  intro m hm c hc
  simp only [nmL,List.map_map,List.mem_map] at hm
  obtain ⟨k,hk,rfl⟩:=hm
  have h32:k<32:=by
   unfold bitsF bitsTo at hk
   rw [List.mem_filter] at hk
   simpa using hk.1
  have:=(List.all_eq_true.1 names_free) k (by simpa using h32)
  have:=(List.all_eq_true.1 this) c hc
  simpa using this
 have h0:=parse_bits hv 32 0 rfl
 have e0:lowW f 0=0#32:=by
  refine BitVec.eq_of_toNat_eq ?_
  rw [lowW_nat]
  simp [Nat.mod_one]
 rw [e0] at h0
 have e1:((List.range' 0 32).filter (isF f)).map (fun k=>(nmS k).data.toList)=(nmL (bitsF f)).map (·.data.toList):=by
  simp only [nmL,List.map_map,bitsF,bitsTo,List.range_eq_range']
  rfl
 rw [e1] at h0
 unfold joinF
 cases hl:(nmL (bitsF f)).map (·.data.toList) with
 | nil=>
  have:=bitsF_ne hv hz
  have h1:=congrArg List.length hl
  simp [nmL] at h1
  rw [h1] at this
  simp at this
 | cons l r=>
  rw [hl] at h0 hn
  rw [splb_join 44 l r hn]
  exact h0
theorem parse_dash:parseW 0#32 (splb 44 [] [45])=0#32:=by kernel_rfl
theorem text_parse {f:W32}(hv:nmB f=true):parseW 0#32 (splb 44 [] (textF f))=f:=by
 unfold textF
 by_cases hz:f=0#32
 ·subst hz;rw [if_pos rfl];exact parse_dash
 ·rw [if_neg hz];exact parse_text hv hz
theorem textF_inj {f g:W32}(hf:nmB f=true)(hg:nmB g=true)(h:textF f=textF g):f=g:=by
 have a:=text_parse hf
 rw [h,text_parse hg] at a
 exact a.symm
end Go.Proofs.YtnjmndofcpnmeaaGreatDoor
namespace Go.Proofs.YtnjmndofcpnmeaaGreatDoor
open Go Go.Lib
set_option linter.unusedVariables false
structure Fct where
 t:Int
 mi:Int
 kd:Int
 fk:Int
 fb:List UInt8
 cp:List (List UInt8)
 cr:List UInt8
 sp:List (List UInt8)
 sr:List UInt8
 co:Int
 pr:Int
 fl:W32
structure Fct.Ok (f:Fct):Prop where
 t:0≤f.t∧f.t≤1099511627776
 mi:0≤f.mi∧f.mi≤999999
 kd:f.kd=0∨f.kd=10∨f.kd=12
 fr:okA f.fk f.fb=true
 cl:prsB f.cp f.cr=true
 sv:prsB f.sp f.sr=true
 co:0≤f.co∧f.co≤127
 pr:0≤f.pr∧f.pr≤999
 fl:tkB f.fl=true
def Fct.ok (f:Fct):Bool:=decide (0≤f.t∧f.t≤1099511627776)&&decide (0≤f.mi∧f.mi≤999999)&&decide (f.kd=0∨f.kd=10∨f.kd=12)&&okA f.fk f.fb&&prsB f.cp f.cr&&prsB f.sp f.sr&&decide (0≤f.co∧f.co≤127)&&decide (0≤f.pr∧f.pr≤999)&&tkB f.fl
theorem Fct.ok_iff (f:Fct):f.ok=true ↔ f.Ok:=by
 unfold Fct.ok
 simp only [Bool.and_eq_true,decide_eq_true_eq]
 constructor
 ·rintro ⟨⟨⟨⟨⟨⟨⟨⟨a,b⟩,c⟩,d⟩,e⟩,g⟩,h⟩,i⟩,j⟩
  exact ⟨a,b,c,d,e,g,h,i,j⟩
 ·intro h
  exact ⟨⟨⟨⟨⟨⟨⟨⟨h.t,h.mi⟩,h.kd⟩,h.fr⟩,h.cl⟩,h.sv⟩,h.co⟩,h.pr⟩,h.fl⟩
def Fct.wrd (f:Fct):List (List UInt8):=[timW f.t f.mi,kindW f.kd,prsW f.cp f.cr,prsW f.sp f.sr,txtA f.fk f.fb,itoa f.co,itoa f.pr,textF f.fl]
def Fct.txt (f:Fct):List UInt8:=join f.wrd [32]
theorem tk_nm {f:W32}(h:tkB f=true):nmB f=true:=by
 unfold tkB hasB at h
 unfold nmB hasB
 rw [beq_iff_eq] at h ⊢
 apply BitVec.eq_of_getLsbD_eq
 intro i hi
 have:=congrArg (fun x:W32=>x.getLsbD i) h
 simp only [andW,orW,BitVec.getLsbD_and,BitVec.getLsbD_or] at this ⊢
 cases hf:f.getLsbD i
 ·simp
 ·rw [hf] at this
  simp only [Bool.and_true] at this
  rw [this]
  simp
theorem names_vis:((List.range 32).all fun k=>(nmS k).data.toList.all fun c=>decide (33≤c.toNat∧c.toNat≤126))=true:=by kernel_rfl
theorem join_vis:∀ (ws:List (List UInt8)) (s:List UInt8),(∀ w∈ws,visL w)→visL s→visL (join ws s)
 | [],s,_,_=>by rw [join_nil];exact visL.nil
 | x::r,s,h,k=>fun c hc=>by
  rw [join_cons,List.mem_append] at hc
  rcases hc with hc | hc
  ·exact h x (by simp) c hc
  ·unfold joinTail at hc
   rw [List.mem_flatten] at hc
   obtain ⟨m,hm,hc⟩:=hc
   obtain ⟨y,hy,rfl⟩:=List.mem_map.1 hm
   rcases List.mem_append.1 hc with hc | hc
   ·exact k c hc
   ·exact h y (List.mem_cons_of_mem _ hy) c hc
theorem textF_vis (f:W32):visL (textF f):=by
 unfold textF
 split
 ·unfold visL;decide
 ·unfold joinF
  refine join_vis _ _ (fun w hw=>?_) (by unfold visL;decide)
  obtain ⟨b,hb,rfl⟩:=List.mem_map.1 hw
  unfold nmL at hb
  obtain ⟨k,hk,rfl⟩:=List.mem_map.1 hb
  intro c hc
  have h1:k<32:=by
   unfold bitsF bitsTo at hk
   exact List.mem_range.1 (List.mem_filter.1 hk).1
  have:=List.all_eq_true.1 (List.all_eq_true.1 names_vis k (List.mem_range.2 h1)) c hc
  simpa using this
theorem wrd_vis {f:Fct}(h:f.Ok):∀ w∈f.wrd,visL w:=by
 intro w hw
 unfold Fct.wrd at hw
 simp only [List.mem_cons,List.not_mem_nil,or_false] at hw
 rcases hw with rfl | rfl | rfl | rfl | rfl | rfl | rfl | rfl
 ·exact timW_vis h.t.1 h.mi.1
 ·exact kindW_vis _
 ·exact prsW_vis h.cl
 ·exact prsW_vis h.sv
 ·exact txtA_vis h.fr
 ·exact itoa_vis h.co.1
 ·exact itoa_vis h.pr.1
 ·exact textF_vis _
theorem txt_words {f:Fct}(h:f.Ok):splb 32 [] f.txt=f.wrd:=by
 unfold Fct.txt
 exact splb_join 32 _ _ fun m hm c hc=>(wrd_vis h m hm).no (by decide) c hc
theorem wrd_inj {f g:Fct}(h:f.Ok)(k:g.Ok)(e:f.wrd=g.wrd):f=g:=by
 unfold Fct.wrd at e
 simp only [List.cons.injEq,and_true] at e
 obtain ⟨e1,e2,e3,e4,e5,e6,e7,e8⟩:=e
 obtain ⟨a1,a2⟩:=timW_inj h.t.1 h.mi.1 k.t.1 k.mi.1 e1
 have a3:=kindW_inj h.kd k.kd e2
 obtain ⟨a4,a5⟩:=prsW_inj h.cl k.cl e3
 obtain ⟨a6,a7⟩:=prsW_inj h.sv k.sv e4
 obtain ⟨a8,a9⟩:=txtA_inj h.fr k.fr e5
 have a10:=itoa_inj h.co.1 k.co.1 e6
 have a11:=itoa_inj h.pr.1 k.pr.1 e7
 have a12:=textF_inj (tk_nm h.fl) (tk_nm k.fl) e8
 cases f;cases g
 simp only at a1 a2 a3 a4 a5 a6 a7 a8 a9 a10 a11 a12
 subst a1;subst a2;subst a3;subst a4;subst a5;subst a6;subst a7;subst a8;subst a9;subst a10;subst a11;subst a12
 rfl
theorem txt_inj {f g:Fct}(h:f.Ok)(k:g.Ok)(e:f.txt=g.txt):f=g:=wrd_inj h k (by rw [← txt_words h,← txt_words k,e])
def PrsS (l:List UInt8)(r:Option Fct):Prop:=(∃ f,r=some f∧f.Ok∧f.txt=l)∨(r=none∧∀ f:Fct,f.Ok→f.txt≠l)
theorem PrsS.uniq {l:List UInt8}{r r':Option Fct}(h:PrsS l r)(h':PrsS l r'):r=r':=by
 rcases h with ⟨f,rfl,h1,h2⟩ | ⟨rfl,h1⟩
 ·rcases h' with ⟨g,rfl,k1,k2⟩ | ⟨rfl,k1⟩
  ·rw [txt_inj h1 k1 (h2.trans k2.symm)]
  ·exact absurd h2 (k1 f h1)
 ·rcases h' with ⟨g,rfl,k1,k2⟩ | ⟨rfl,k1⟩
  ·exact absurd k2 (h1 g k1)
  ·rfl
end Go.Proofs.YtnjmndofcpnmeaaGreatDoor
namespace Go.Proofs.YtnjmndofcpnmeaaGreatDoor
open Go Go.RowKit
set_option linter.unusedVariables false
theorem size_list (s:ByteArray):s.data.toList.length=s.size:=by rw [Array.length_toList];rfl
theorem sized_at (s:ByteArray) (w:World):
  Calls Tryz.prog 183 #[.string s] w fun e w'=>e=.returned (.bool (sizedB s.data.toList))∧w=w':=by
 have e:sizedB s.data.toList=decide (1≤s.size∧s.size≤32):=by unfold sizedB;rw [size_list]
 rw [e];clear e
 by_cases h1:1≤s.size
 ·by_cases h2:s.size≤32
  ·have e:decide (1≤s.size∧s.size≤32)=true:=decide_eq_true ⟨h1,h2⟩
   rw [e]
   have d1:1≤(s.size:Int):=by omega
   have d2:decide ((s.size:Int)≤32)=true:=decide_eq_true (by omega)
   clear h1 h2 e
   go_enter Tryz.func183,Tryz.ntmps183
   go_wp2
   go_ret
   exact ⟨rfl,rfl⟩
  ·have e:decide (1≤s.size∧s.size≤32)=false:=decide_eq_false (fun h=>h2 h.2)
   rw [e]
   have d1:1≤(s.size:Int):=by omega
   have d2:decide ((s.size:Int)≤32)=false:=decide_eq_false (by omega)
   clear h1 h2 e
   go_enter Tryz.func183,Tryz.ntmps183
   go_wp2
   go_ret
   exact ⟨rfl,rfl⟩
 ·have e:decide (1≤s.size∧s.size≤32)=false:=decide_eq_false (fun h=>h1 h.1)
  rw [e]
  have d1:decide (1≤(s.size:Int))=false:=decide_eq_false (by omega)
  have d2:(s.size:Int)<1:=by omega
  clear h1 e
  go_enter Tryz.func183,Tryz.ntmps183
  go_wp2
  go_ret
  exact ⟨rfl,rfl⟩
theorem special_at (c:UInt8) (w:World):
  Calls Tryz.prog 149 #[.int .u8 (c.toNat:Int)] w fun e w'=>e=.returned (.bool (spc c))∧w=w':=by
 by_cases h1:c.toNat=47
 ·have e:spc c=true:=by unfold spc;exact decide_eq_true (.inl h1)
  have d1:((c.toNat:Int)==47)=true:=by rw [h1];rfl
  rw [e];clear h1 e
  go_enter Tryz.func149,Tryz.ntmps149
  go_wp2
  go_ret
  exact ⟨rfl,rfl⟩
 ·have d1:((c.toNat:Int)==47)=false:=by rw [beq_eq_false_iff_ne];omega
  by_cases h2:c.toNat=64
  ·have e:spc c=true:=by unfold spc;exact decide_eq_true (.inr (.inl h2))
   have d2:((c.toNat:Int)==64)=true:=by rw [h2];rfl
   rw [e];clear h1 h2 e
   go_enter Tryz.func149,Tryz.ntmps149
   go_wp2
   go_ret
   exact ⟨rfl,rfl⟩
  ·have d2:((c.toNat:Int)==64)=false:=by rw [beq_eq_false_iff_ne];omega
   by_cases h3:c.toNat=92
   ·have e:spc c=true:=by unfold spc;exact decide_eq_true (.inr (.inr h3))
    have d3:((c.toNat:Int)==92)=true:=by rw [h3];rfl
    rw [e];clear h1 h2 h3 e
    go_enter Tryz.func149,Tryz.ntmps149
    go_wp2
    go_ret
    exact ⟨rfl,rfl⟩
   ·have e:spc c=false:=by unfold spc;exact decide_eq_false (by omega)
    have d3:((c.toNat:Int)==92)=false:=by rw [beq_eq_false_iff_ne];omega
    rw [e];clear h1 h2 h3 e
    go_enter Tryz.func149,Tryz.ntmps149
    go_wp2
    go_ret
    exact ⟨rfl,rfl⟩
theorem take_at (s:ByteArray)(k:Nat)(h:k<s.size):s.data.toList.take (k+1)=s.data.toList.take k++[s[k]]:=by
 rw [List.take_succ_eq_append_getElem (by rw [Array.length_toList];exact h)];rfl
theorem all_take_no {p:UInt8→Bool}{s:ByteArray}{k:Nat}(h:k<s.size)(hp:p s[k]=false):s.data.toList.all p=false:=by
 rw [List.all_eq_false]
 exact ⟨s[k],Array.getElem_mem_toList _,by rw [hp];simp⟩
theorem all_take_yes {p:UInt8→Bool}{s:ByteArray}{k:Nat}(h:k<s.size)(ha:(s.data.toList.take k).all p=true)(hp:p s[k]=true):(s.data.toList.take (k+1)).all p=true:=by
 rw [take_at s k h,List.all_append,ha];simp [hp]
theorem prtc_no {c:UInt8}(h:(c.toNat:Int)<33∨126<(c.toNat:Int)):prtc c=false:=by unfold prtc;exact decide_eq_false (by omega)
theorem prtc_yes {c:UInt8}(h:33≤(c.toNat:Int))(h2:(c.toNat:Int)≤126):prtc c=true:=by unfold prtc;exact decide_eq_true (by omega)
set_option maxRecDepth 100000 in
theorem Part_at (s:ByteArray) (hs:s.size≤4294967280) (w:World):
  Calls Tryz.prog 135 #[.string s] w fun e w'=>e=.returned (.bool (partB s.data.toList))∧w=w':=by
 have HP:=Lib.hid (show partB s.data.toList=(sizedB s.data.toList&&s.data.toList.all prtc) from rfl)
 obtain ⟨b,hb⟩:∃ b,partB s.data.toList=b:=⟨_,rfl⟩
 rw [hb] at HP ⊢
 clear hb
 go_enter Tryz.func135,Tryz.ntmps135
 go_wp2
 go_loop [3,6] (fun _ i=>∃ k:Nat,k≤s.size∧i=.int .i64 k∧(s.data.toList.take k).all prtc=true) (fun _ i=>s.size-(intOf i).toNat)
 case atStart=>exact ⟨0,Nat.zero_le _,rfl,by simp⟩
 case round=>
  obtain ⟨k,hk,rfl,hall⟩:=hrel
  have HA:=Lib.hid hall;clear hall
  by_cases hlt:k<s.size
  ·by_cases h1:(s[k].toNat:Int)<33
   ·have HN:=Lib.hid (all_take_no hlt (prtc_no (.inl h1)))
    go_wp2
    go_ret
    refine ⟨?_,rfl⟩
    rw [HP.out,HN.out,Bool.and_false];rfl
   ·have h1':33≤(s[k].toNat:Int):=by omega
    by_cases h2:126<(s[k].toNat:Int)
    ·have HN:=Lib.hid (all_take_no hlt (prtc_no (.inr h2)))
     clear h1
     go_wp2
     go_ret
     refine ⟨?_,rfl⟩
     rw [HP.out,HN.out,Bool.and_false];rfl
    ·have h2':(s[k].toNat:Int)≤126:=by omega
     have HY:=Lib.hid (all_take_yes hlt HA.out (prtc_yes h1' h2'))
     clear h1 h2
     go_wp2
     go_round
     case rel=>exact ⟨k+1,by omega,by go_num,HY.out⟩
     case measure=>simp [intOf];omega
  ·have HF:=Lib.hid (show s.data.toList.all prtc=true by
    have:=HA.out
    rwa [List.take_of_length_le (by rw [size_list];omega)] at this)
   go_wp2_with fail
   refine (sized_at s w).mono ?_
   rintro e w' ⟨rfl,rfl⟩
   go_wp2_with fail
   go_ret
   refine ⟨?_,rfl⟩
   rw [HP.out,HF.out,Bool.and_true];rfl
set_option maxRecDepth 100000 in
theorem all_at (A:Option Addr) (c:Nat) (bs:List Bool) (w:World) (h:RS w (.slice A bs.length c) (blv bs)):
  Calls Tryz.prog 133 #[.slice A bs.length c] w fun e w'=>e=.returned (.bool (bs.all id))∧w=w':=by
 have HC:=Lib.hid (contains_bools A c bs w h)
 obtain ⟨v,hv⟩:∃ v,bs.all id=v:=⟨_,rfl⟩
 rw [hv] at HC ⊢
 clear h hv
 go_enter Tryz.func133,Tryz.ntmps133
 go_wp2_with fail
 refine HC.out.mono ?_
 rintro e w' ⟨rfl,rfl⟩
 go_wp2_with fail
 go_ret
 refine ⟨?_,rfl⟩
 cases v<;>rfl
end Go.Proofs.YtnjmndofcpnmeaaGreatDoor
