/- Pc20. -/
import Derived.Test.YtnjmndofcpnmeaaGreatDoorPc0
import Derived.Test.YtnjmndofcpnmeaaGreatDoorPc19
import Derived.Test.YtnjmndofcpnmeaaGreatDoorPc2
import Derived.Laws.EntriesVeiled
import Derived.Maps.GroupsBeside
import Derived.WalkSpells
import Derived.Test.YtnjmndofcpnmeaaGreatDoorPc10
import Derived.Test.YtnjmndofcpnmeaaGreatDoorPc9
import Derived.Test.YtnjmndofcpnmeaaGreatDoorPc17
namespace Go.Proofs.YtnjmndofcpnmeaaGreatDoor
open Go Go.RowKit
set_option linter.unusedVariables false
def dtL (xs:List (ByteArray × Bool)):List (List UInt8 × Bool):=xs.map fun x=>(x.1.data.toList,x.2)
theorem dtL_snoc (xs:List (ByteArray × Bool))(x:ByteArray × Bool):dtL (xs++[x])=dtL xs++[(x.1.data.toList,x.2)]:=by simp [dtL]
theorem Stab.maxl (B:Nat):Stab B MaxL:=fun W W' l _ hn hg h g hgl=>by
 obtain ⟨m,hm⟩:=h g hgl
 refine ⟨m,?_⟩
 have hm0:=hm
 unfold World.cell? at hm0
 simp only at hm0
 cases ho:W.heap[g]? with
 | none=>rw [ho] at hm0;simp at hm0
 | some o=>
  rw [ho] at hm0
  cases o<;>simp at hm0
  case cells cs t fr=>
   rw [← hm]
   exact World.cell?_of_block ((heap_nc hn hg ho).trans ho.symm)
def LnIt (s:ByteArray)(b:Nat)(W:World):Prop:=W.heap[b]? = some (.cells #[.string s] 9 (0,0))∧MaxL W
theorem LnIt.stab (B:Nat)(s:ByteArray)(b:Nat):Stab B (LnIt s b):=(Stab.heap _ _ _ _).and (Stab.maxl B)
theorem LnIt.ext {s:ByteArray}{b:Nat}{W W':World}(h:LnIt s b W)(hx:Ext W W'):LnIt s b W':=⟨hx.heap h.1,h.2.ext hx⟩
def LnG (s:ByteArray)(pre:List (ByteArray × Bool))(x:ByteArray × Bool)(_:World):Prop:=(∃ rest,lnF s.data.toList=dtL pre++(x.1.data.toList,x.2)::rest)∧x.1.size≤s.size
def strLn (v:Value):Nat:=match v with | .string b=>b.size | _=>0
theorem NlCut_at (s:ByteArray) (hs:s.size≤100000000) (w:World) (hm:MaxL w):
  Calls Tryz.prog 40 #[.string s,.string ⟨#[10]⟩] w fun e w'=>e=.returned (.tuple #[.string ⟨(Lib.cut s.data.toList [10]).1.toArray⟩,.string ⟨(Lib.cut s.data.toList [10]).2.1.toArray⟩,.bool (Lib.cut s.data.toList [10]).2.2])∧Ext w w':=by
 obtain ⟨m,hm⟩:=hm 0 (by kernel_rfl)
 refine (Tryz.strings_Cut s ⟨#[10]⟩ m w (by omega) hm).mono ?_
 rintro e w' ⟨rfl,n,rfl⟩
 exact ⟨rfl,(Ext.refl _).drewN n⟩
theorem lines_at (s:ByteArray) (w:World):
  Calls Tryz.prog 36 #[.string s] w fun e w'=>e=.returned (.func (.func 99) #[] #[.pointer (some ⟨w.heap.size,0,none⟩)])∧w'=w.alloc (.cells #[.string s] 9):=by
 have hmf:∀ (fn:Fn) (first cap:Array Value) (w:World),(Instr.makeFunc fn first cap).run Tryz.prog w=.ok (.func fn first cap) w:=fun _ _ _ _=>rfl
 go_enter Tryz.func36,Tryz.ntmps36
 go_wp2
 go_ret
 exact ⟨rfl,rfl⟩
attribute [local go_sem] Oper.semAt_some
set_option maxRecDepth 100000 in
set_option maxHeartbeats 2000000 in
theorem lines_iter (s:ByteArray) (hs:s.size≤100000000) (b:Nat):
  Iter Tryz.prog 99 #[.pointer (some ⟨b,0,none⟩)] (fun x:ByteArray × Bool=>#[.string x.1,.bool x.2]) (LnIt s b) (LnG s) (fun _=>False) (fun xs=>lnF s.data.toList=dtL xs) (fun pre=>∃ rest,lnF s.data.toList=dtL pre++rest):=by
 intro lp J Jx W hJ hJx hY hit h0
 refine callsIn_of_wp Tryz.func99 rfl trivial ?_ rfl
 simp only [Tryz.ntmps99,List.size_toArray,List.length_cons,List.length_nil,Nat.reduceAdd,Nat.reduceSub,Array.replicate_succ,Array.replicate_zero,List.push_toArray,List.append_toArray,List.nil_append,List.cons_append]
 have k1:W.cell? ⟨b,0,none⟩=some (.string s):=(row1 hit.1).1
 gi_wp2
 gi_loopw [3,4,5,6] (fun v _ _ _ wr=>∃ (pre:List (ByteArray × Bool)) (cur:ByteArray),v=.string cur∧J pre wr∧LnIt s b wr∧lnF s.data.toList=dtL pre++lnF cur.data.toList∧cur.size≤s.size) (fun v _ _ _ _=>strLn v)
 case atStart=>exact ⟨[],s,rfl,h0,hit,rfl,Nat.le_refl _⟩
 case round=>
  obtain ⟨pre,cur,rfl,hj,hi,he,hz⟩:=hrel
  have HI:=Lib.hid hi;have HE:=Lib.hid he;have HJ:=Lib.hid hj;have HZ:=Lib.hid hz
  clear hi he hj hz k1
  by_cases hemp:cur.data.toList=[]
  ·have e1:cur.toList=[]:=by rw [ByteArray.toList_eq];exact hemp
   have HS:=Lib.hid (show lnF s.data.toList=dtL pre by rw [HE.out,hemp,lnF_nil,List.append_nil])
   clear hemp
   gi_wp2_with fail
   first | go_end0 | refine bodyPost_ret (results_none rfl _ _ _) rfl ?_
   exact ⟨⟨_,rfl⟩,.inl ⟨pre,HS.out,HJ.out,HI.out⟩⟩
  ·have e1:cur.toList.isEmpty=false:=by rw [ByteArray.toList_eq];cases hx:cur.data.toList with | nil=>exact absurd hx hemp | cons a b=>rfl
   have e2:cur.toList≠[]:=by rw [ByteArray.toList_eq];exact hemp
   obtain ⟨hlc,hll⟩:=lnF_cut hemp
   have HC:=Lib.hid (NlCut_at cur (by have:=HZ.out;omega) wr HI.out.2)
   have hcl:=cut_len1 cur.data.toList [10]
   rw [size_list] at hcl hll
   generalize (Lib.cut cur.data.toList [10]).1=P at *
   generalize (Lib.cut cur.data.toList [10]).2.1=Q at *
   generalize (Lib.cut cur.data.toList [10]).2.2=b0 at *
   have HS:=Lib.hid (show lnF s.data.toList=dtL (pre++[(⟨P.toArray⟩,b0)])++lnF Q by rw [HE.out,hlc,dtL_snoc];simp)
   have HQL:=Lib.hid hll;have HPL:=Lib.hid hcl
   clear hemp hlc hll hcl
   gi_wp2_with fail
   refine wide_call HC.out ?_
   rintro e w' ⟨rfl,hx⟩
   obtain ⟨fn,tmps,assign,body,hy,hR⟩:=hY pre (⟨P.toArray⟩,b0) w' (hJ _ _ _ none (fun k hk=>by cases hk) (hx.but none) HJ.out) (HI.out.ext hx) ⟨⟨lnF Q,by rw [HS.out,dtL_snoc];simp⟩,by show P.toArray.size≤_;have:=HPL.out;have:=HZ.out;simp;omega⟩
   gi_wp2_with fail
   refine ⟨rfl,hR.mono ?_⟩
   rintro e W3 (⟨rfl,hJ3,hI3⟩ | ⟨rfl,hJx3⟩)
   ·have HI3:=Lib.hid hI3;have HJ3:=Lib.hid hJ3;clear hI3 hJ3
    gi_wp2_with fail
    go_roundw
    case rel=>exact ⟨pre++[(⟨P.toArray⟩,b0)],⟨Q.toArray⟩,rfl,HJ3.out,HI3.out,by rw [HS.out],by show Q.toArray.size≤_;have:=HPL.out;have:=HZ.out;simp;omega⟩
    case measure=>show Q.toArray.size<cur.size;rw [List.size_toArray];exact HQL.out
   ·gi_wp2_with fail
    first | go_end0 | refine bodyPost_ret (results_none rfl _ _ _) rfl ?_
    exact ⟨⟨_,rfl⟩,.inr ⟨_,⟨_,HS.out⟩,hJx3⟩⟩
end Go.Proofs.YtnjmndofcpnmeaaGreatDoor
namespace Go.Proofs.YtnjmndofcpnmeaaGreatDoor
open Go Go.RowKit
set_option linter.unusedVariables false
theorem RS.off {w w':World}{A:Option Addr}{n c:Nat}{row:Option Nat}{xs:List Value}(h:RS w (.slice A n c) xs)(hA:xs≠[]→∀ ad,A=some ad→row≠some ad.block)(hg:w.grownBy w' row):RS w' (.slice A n c) xs:=by
 obtain ⟨A',c',he,h1,h2,h3⟩:=h
 injection he with e1 e2 e3
 subst e1;subst e3
 refine ⟨A,c,by rw [e2],h1,h2,fun hp=>?_⟩
 obtain ⟨ad,ha,hb,hc⟩:=h3 hp
 refine ⟨ad,ha,Nat.lt_of_lt_of_le hb hg.size,fun j u hu=>?_⟩
 have hblk:(ad.add j).block=ad.block:=block_of_add ad j
 have:=hg.block ad.block hb (fun e=>hA (List.ne_nil_of_length_pos hp) ad ha e.symm)
 rw [← hc j u hu]
 exact World.cell?_of_block (by rw [hblk];exact this)
theorem RS.lt {w:World}{A:Option Addr}{n c:Nat}{xs:List Value}(h:RS w (.slice A n c) xs)(hne:xs≠[]){ad:Addr}(ha:A=some ad):ad.block<w.heap.size∧∃ cs t fr,w.heap[ad.block]? = some (.cells cs t fr):=by
 obtain ⟨A',c',he,h1,h2,h3⟩:=h
 injection he with e1 e2 e3
 subst e1
 obtain ⟨ad',ha',hb,hc⟩:=h3 (List.length_pos_iff.2 hne)
 rw [ha] at ha'
 injection ha' with ha'
 subst ha'
 refine ⟨hb,?_⟩
 have hpos:=List.length_pos_iff.2 hne
 have h0:=hc 0 xs[0] (List.getElem?_eq_getElem hpos)
 unfold World.cell? at h0
 rw [block_of_add] at h0
 cases ho:w.heap[ad.block]? with
 | none=>rw [ho] at h0;simp at h0
 | some o=>
  rw [ho] at h0
  cases o<;>simp at h0
  case cells cs t fr=>exact ⟨cs,t,fr,rfl⟩
theorem BS.offRow {w w':World}{v:Value}{l:List UInt8}{row:Option Nat}(h:BS w v l)(hn:∀ b,row=some b→NoU8 w b)(hg:w.grownBy w' row):BS w' v l:=by
 cases row with
 | none=>exact h.ext (grown_of_ext hg)
 | some b=>exact h.but (hn b rfl) hg
def FV.Blk (f:FV)(b:Nat):Prop:=(f.cp≠[]∧∃ ad,f.CA=some ad∧ad.block=b)∨(f.sp≠[]∧∃ ad,f.SA=some ad∧ad.block=b)
theorem sv_ne {ps:List ByteArray}(h:ps≠[]):sv ps≠[]:=by cases ps with | nil=>exact absurd rfl h | cons a b=>simp [sv]
theorem ne_sv {ps:List ByteArray}(h:sv ps≠[]):ps≠[]:=fun e=>h (by rw [e];rfl)
theorem FV.In.off {w w':World}{f:FV}{row:Option Nat}(h:f.In w)(hg:w.grownBy w' row)(hr:∀ b,row=some b→NoU8 w b∧¬ f.Blk b):f.In w':=
 ⟨h.fb.offRow (fun b hb=>(hr b hb).1) hg,h.cp.off (fun hne ad ha e=>(hr _ e).2 (.inl ⟨ne_sv hne,ad,ha,rfl⟩)) hg,h.sp.off (fun hne ad ha e=>(hr _ e).2 (.inr ⟨ne_sv hne,ad,ha,rfl⟩)) hg⟩
theorem FV.In.blk {w:World}{f:FV}(h:f.In w){b:Nat}(hb:f.Blk b):b<w.heap.size∧∃ cs t fr,w.heap[b]? = some (.cells cs t fr):=by
 rcases hb with ⟨hne,ad,ha,rfl⟩ | ⟨hne,ad,ha,rfl⟩
 ·exact h.cp.lt (sv_ne hne) ha
 ·exact h.sp.lt (sv_ne hne) ha
theorem FV.In.notOne {w:World}{f:FV}(h:f.In w){b:Nat}{v:Value}{t:TypeId}(hb:w.heap[b]? = some (.cells #[v] t (0,0)))(hv:∀ s,v≠.string s):¬ f.Blk b:=by
 have key:∀ {A:Option Addr} {n c:Nat} {ps:List ByteArray} {ad:Addr},RS w (.slice A n c) (sv ps)→ps≠[]→A=some ad→ad.block=b→False:=by
  intro A n c ps ad hr hne ha hbk
  obtain ⟨A',c',he,_,_,h3⟩:=hr
  injection he with e1 _ _
  subst e1
  obtain ⟨ad',ha',_,hc⟩:=h3 (List.length_pos_iff.2 (sv_ne hne))
  rw [ha] at ha'
  injection ha' with ha'
  subst ha'
  cases ps with
  | nil=>exact hne rfl
  | cons p r=>
   have h0:=hc 0 (.string p) rfl
   unfold World.cell? at h0
   rw [block_of_add,hbk,hb] at h0
   simp only at h0
   split at h0
   ·cases h0
   ·obtain ⟨hlt,he⟩:=Array.getElem?_eq_some_iff.1 h0
    have hz:(ad.add 0).off=0:=by simp at hlt;omega
    simp only [hz] at he
    exact hv p he
 rintro (⟨hne,ad,ha,hbk⟩ | ⟨hne,ad,ha,hbk⟩)
 ·exact key h.cp hne ha hbk
 ·exact key h.sp hne ha hbk
def EF:Ek FV where
 k:=12
 kp:=by decide
 cs:=FV.cs
 len:=fun _=>rfl
 one:=fun x u hu=>by
  unfold FV.cs at hu
  simp only [List.mem_cons,List.not_mem_nil,or_false] at hu
  rcases hu with rfl | rfl | rfl | rfl | rfl | rfl | rfl | rfl | rfl | rfl | rfl | rfl<;>rfl
 no8:=fun x u hu n e=>by
  subst e
  unfold FV.cs at hu
  simp at hu
 In:=fun w f=>f.In w
 Blk:=fun f b=>f.Blk b
 blt:=fun w x b h hb=>(h.blk hb).1
 keep:=fun w w' x row h hg hr=>h.off hg hr
theorem EF_nc (w:World)(l:Nat)(x:FV)(hn:NC w l)(h:x.In w):¬ x.Blk l:=fun hb=>by
 obtain ⟨_,cs,t,fr,e⟩:=h.blk hb
 exact hn _ _ _ e
theorem ROW.fs {e:TypeId}{w:World}{B:Nat}{v:Value}{xs:List FV}(h:ROW EF e w B v xs):FS w v xs:=by
 obtain ⟨A,c,h1,h2,h3,h4⟩:=h.cells
 exact ⟨A,c,h1,h2,h3,fun i hi=>⟨(h4 i hi).1,(h4 i hi).2⟩⟩
theorem finfo:(Tryz.prog.info? 41).map (fun i=>(i.zero,i.size,i.bytes))=some (some (.agg #[.int .i64 0,.int .i64 0,.int .i64 0,.int .i64 0,.slice none 0 0,.slice none 0 0,.string ⟨#[]⟩,.slice none 0 0,.string ⟨#[]⟩,.int .i64 0,.int .i64 0,.int .u32 0]),12,160):=by kernel_rfl
theorem fact_zn:∀ x∈(Value.agg #[.int .i64 0,.int .i64 0,.int .i64 0,.int .i64 0,.slice none 0 0,.slice none 0 0,.string ⟨#[]⟩,.slice none 0 0,.string ⟨#[]⟩,.int .i64 0,.int .i64 0,.int .u32 0]).cells.toList,∀ n,x≠.int .u8 n:=by
 intro x hx n e
 subst e
 simp [Value.cells] at hx
def factZ:Value:=.agg #[.int .i64 0,.int .i64 0,.int .i64 0,.int .i64 0,.slice none 0 0,.slice none 0 0,.string ⟨#[]⟩,.slice none 0 0,.string ⟨#[]⟩,.int .i64 0,.int .i64 0,.int .u32 0]
theorem fact_zs:factZ.cells.size=EF.k:=rfl
theorem fact_zn':∀ x∈factZ.cells.toList,∀ n,x≠.int .u8 n:=fact_zn
theorem fact_info:∃ i:TypeInfo,Tryz.prog.info? 41=some i∧i.zero=some factZ∧i.size=EF.k∧i.bytes=160:=by
 obtain ⟨i0,hi,hz0,hz1,hz2⟩:=info_parts finfo
 exact ⟨i0,hi,hz0,hz1,hz2⟩
theorem add0 (g:Nat)(j:Nat):(⟨g,0,none⟩:Addr).add j=⟨g,j,none⟩:=by unfold Addr.add;split<;>simp_all
theorem FBx.news {w:World}{g:Nat}{f:FV}(h:FBx w g f):∀ j u,(EF.all [f])[j]? = some u→w.cell? ((⟨g,0,none⟩:Addr).add j)=some u:=fun j u hu=>by
 rw [Ek.all_one] at hu
 rw [add0,cell_of_row _ _ j _ _ (0,0) h]
 rw [← hu]
 show _=(FV.cs f)[j]?
 unfold FV.cs
 rw [← List.getElem?_toArray]
end Go.Proofs.YtnjmndofcpnmeaaGreatDoor
namespace Go.Proofs.YtnjmndofcpnmeaaGreatDoor
open Go Go.RowKit Go.Maps
open Go.ChangeShapes (lits)
set_option linter.unusedVariables false
theorem lawStr:Keyed Tryz.prog 9:=string_keyed Tryz.underlying9
theorem infoInt:(Tryz.prog.info? 3).map (fun i=>(i.zero,i.size,i.bytes))=some (some (.int .i64 0),1,8):=by kernel_rfl
theorem zeroInts (w:World):(zeroValue 126).run Tryz.prog w=.ok (.slice none 0 0) w:=by kernel_rfl
def GM (w:World)(b n:Nat)(D:DataW Unit):Prop:=w.ownsGroups Tryz.prog 9 (b+1) 3 .i64 b n D
theorem GM.ext {w w':World}{b n:Nat}{D:DataW Unit}(h:GM w b n D)(hx:Ext w w'):GM w' b n D:=by
 unfold GM at h ⊢
 exact h.kept (hx.but none) (by simp) (fun es clock _ x _=>by cases x.val.ownBlock<;>simp)
theorem keyLit (s:List UInt8)(hs:s.length≤maxLen):keyOf Tryz.prog 9 (.string ⟨s.toArray⟩)=some (.string s):=by
 have:=WideMaps.keyOf_string_mk Tryz.underlying9 (s:=⟨s.toArray⟩) (by simpa [ByteArray.size] using hs)
 simpa using this
theorem below_ext {w0 w w':World}(h:Ext w0 w)(k:Below w0.heap.size w w'):Ext w0 w':=Below.trans h k
theorem atF_xs {xs:List FV}{k:Nat}(h:k<xs.length):atF (xs.map FV.fct) k=xs[k].fct:=by
 unfold atF
 rw [List.getElem?_map,List.getElem?_eq_getElem h]
 rfl
set_option maxRecDepth 100000 in
set_option maxHeartbeats 4000000 in
theorem group_at (fW fK:Nat) (pB:Fct→Bool) (kS:Fct→List UInt8) (A:Option Addr) (c:Nat) (xs:List FV) (w:World) (hF:FS w (.slice A xs.length c) xs) (hn:xs.length≤1000)
  (hEW:∀ (args:Array Value) (W:World),(callFunc fW args).run Tryz.prog W=.ok (.enter fW args) W) (hEK:∀ (args:Array Value) (W:World),(callFunc fK args).run Tryz.prog W=.ok (.enter fK args) W)
  (hW:∀ f∈xs,∀ W,f.In W→Ext w W→Calls Tryz.prog fW #[f.val] W fun e w'=>e=.returned (.bool (pB f.fct))∧Ext W w')
  (hK:∀ f∈xs,∀ W,f.In W→Ext w W→Calls Tryz.prog fK #[f.val] W fun e w'=>e=.returned (.string ⟨(kS f.fct).toArray⟩)∧Ext W w')
  (hkl:∀ f∈xs,(kS f.fct).length≤2000000):
  Calls Tryz.prog 71 #[.slice A xs.length c,.func (.func fW) #[] #[],.func (.func fK) #[] #[]] w fun e w'=>
   ∃ D:DataW Unit,e=.returned (.map (some w.heap.size))∧GM w' w.heap.size xs.length D∧GD D xs.length (fun j=>pB (atF (xs.map FV.fct) j)) (fun j=>kS (atF (xs.map FV.fct) j))∧Ext w w':=by
 have hmm:=@run_makeMap Tryz.prog
 obtain ⟨i0,hi,hz0,hz1,hz2⟩:=info_parts infoInt
 have HF:=Lib.hid hF;have HEW:=Lib.hid hEW;have HEK:=Lib.hid hEK;have HWC:=Lib.hid hW;have HKC:=Lib.hid hK;have HKL:=Lib.hid hkl
 obtain ⟨_,c',he,hc1,hc2⟩:=hF.shape
 injection he with e1 _ e3
 subst e1;subst e3
 unfold maxLen at hc2
 obtain ⟨n,hn'⟩:∃ n,xs.length=n:=⟨_,rfl⟩
 have HN:=Lib.hid hn'
 have HM0:=Lib.hid (show GM (w.alloc (.map #[] 0)) w.heap.size 0 (.map []) from World.ownsGroups_made _ _ _ _ _)
 have HX0:=Lib.hid ((Ext.refl w).alloc (.map #[] 0))
 clear hF hEW hEK hW hK hkl
 rw [hn'] at hc1 hn ⊢
 clear hn'
 go_enter Tryz.func71,Tryz.ntmps71
 go_wp2_with fail
 go_loopw [8,9,10,14] (fun _ _ _ i wr=>∃ (k:Nat) (D:DataW Unit),i=.int .i64 (k:Int)∧k≤n∧Hid (GM wr w.heap.size k D)∧Hid (GD D k (fun j=>pB (atF (xs.map FV.fct) j)) (fun j=>kS (atF (xs.map FV.fct) j)))∧Hid (Ext w wr)∧Hid (w.heap.size+1≤wr.heap.size)) (fun _ _ _ i _=>n-(intOf i).toNat)
 case atStart=>exact ⟨0,.map [],rfl,by omega,HM0,Lib.hid (GD.start _ _),HX0,Lib.hid (by simp)⟩
 case round=>
  obtain ⟨k,D,rfl,hk,HM,HD,HX,HS⟩:=hrel
  by_cases hlt:k<n
  ·have hlx:k<xs.length:=by rw [HN.out];exact hlt
   have hF:=HF.out.ext HX.out
   obtain ⟨hin,ad,rfl,u0,u1,u2,u3,u4,u5,u6,u7,u8,u9,u10,u11⟩:=hF.at_ k hlx
   have hatk:=atF_xs hlx
   have HWK:=Lib.hid (HWC.out xs[k] (List.getElem_mem hlx))
   have HKK:=Lib.hid (HKC.out xs[k] (List.getElem_mem hlx))
   have HKL1:=Lib.hid (HKL.out xs[k] (List.getElem_mem hlx))
   have HSKIP:=Lib.hid (show pB xs[k].fct=false→GD D (k+1) (fun j=>pB (atF (xs.map FV.fct) j)) (fun j=>kS (atF (xs.map FV.fct) j)) from fun h=>HD.out.skip (by show pB (atF (xs.map FV.fct) k)=false;rw [hatk];exact h))
   have HLOOK:=Lib.hid (show ∀ (w1:World) (v:Value) (zs:List Int),w1.ownsInts (w.heap.size+1) 3 .i64 v zs→D.atKey (.string (kS xs[k].fct)) .nil=rowDatum .i64 v zs→pB xs[k].fct=true→GD (D.put (.string (kS xs[k].fct)) (.slice (lits .i64 (zs++[(k:Int)])) [])) (k+1) (fun j=>pB (atF (xs.map FV.fct) j)) (fun j=>kS (atF (xs.map FV.fct) j)) from fun w1 v zs ho hat hp=>by
    have h1:=HD.out.look (kS xs[k].fct) ho hat
    rw [show kS xs[k].fct=(fun j=>kS (atF (xs.map FV.fct) j)) k by show _=kS (atF (xs.map FV.fct) k);rw [hatk]]
    exact HD.out.step (by show pB (atF (xs.map FV.fct) k)=true;rw [hatk];exact hp) (by show zs=zI (grpK k _ _ (kS (atF (xs.map FV.fct) k)));rw [hatk];exact h1))
   generalize xs[k]=f at *
   have hbx:=FBx.new wr f
   have hxa:=(Ext.refl wr).alloc (.cells #[.int .i64 f.t,.int .i64 f.mi,.int .i64 f.kd,.int .i64 f.fk,.slice f.FA f.fb.length f.fc,.slice f.CA f.cp.length f.cc,.string f.cr,.slice f.SA f.sp.length f.sc,.string f.sr,.int .i64 f.co,.int .i64 f.pr,.int .u32 (f.fl.toNat:Int)] 41)
   obtain ⟨Wa,ea⟩:∃ Wa,wr.alloc (.cells #[.int .i64 f.t,.int .i64 f.mi,.int .i64 f.kd,.int .i64 f.fk,.slice f.FA f.fb.length f.fc,.slice f.CA f.cp.length f.cc,.string f.cr,.slice f.SA f.sp.length f.sc,.string f.sr,.int .i64 f.co,.int .i64 f.pr,.int .u32 (f.fl.toNat:Int)] 41)=Wa:=⟨_,rfl⟩
   rw [ea] at hbx hxa
   have HBX:=Lib.hid hbx
   obtain ⟨v0,v1,v2,v3,v4,v5,v6,v7,v8,v9,v10,v11⟩:=fv_cells hbx
   have HXA:=Lib.hid (HX.out.trans hxa)
   have HMA:=Lib.hid (HM.out.ext hxa)
   have HINA:=Lib.hid (hin.ext hxa)
   have HCW:=Lib.hid (HWK.out Wa HINA.out HXA.out)
   have HKW:=Lib.hid (fun W2 (hx2:Ext Wa W2)=>HKK.out W2 (HINA.out.ext hx2) (HXA.out.trans hx2))
   unfold FV.val at HCW HKW
   have HSA:=Lib.hid (show w.heap.size+1≤Wa.heap.size from Nat.le_trans HS.out hxa.size)
   clear hbx hxa hin hF hlx hatk HWK HKK
   go_wp2_with fail
   rw [HEW.out]
   refine HCW.out.mono ?_
   rintro _ w2 ⟨rfl,hx2⟩
   have HX2:=Lib.hid (HXA.out.trans hx2)
   have HM2:=Lib.hid (HMA.out.ext hx2)
   have HC2:=Lib.hid (HKW.out w2 hx2)
   have HB2:=Lib.hid (HBX.out.ext hx2)
   have HS2:=Lib.hid (Nat.le_trans HSA.out hx2.size)
   clear hx2 u0 u1 u2 u3 u4 u5 u6 u7 u8 u9 u10 u11 v0 v1 v2 v3 v4 v5 v6 v7 v8 v9 v10 v11
   cases hp:pB f.fct with
   | false=>
    have HD2:=Lib.hid (HSKIP.out hp)
    have HM3:=Lib.hid (show GM w2 w.heap.size (k+1) D by
     obtain ⟨es,cl,h1,h2,h3,h4,h5,h6,h7⟩:=HM2.out
     exact ⟨es,cl,h1,h2,by omega,h4,h5,fun x hx zs ho=>by have:=h6 x hx zs ho;omega,h7⟩)
    clear hp
    go_wp2_with fail
    go_roundw
    case rel=>exact ⟨k+1,D,by go_num,by omega,HM3,HD2,HX2,HS2⟩
    case measure=>simp [intOf];omega
   | true=>
    have HP:=Lib.hid hp
    clear hp
    obtain ⟨v0,v1,v2,v3,v4,v5,v6,v7,v8,v9,v10,v11⟩:=fv_cells HB2.out
    go_wp2_with fail
    rw [HEK.out]
    refine HC2.out.mono ?_
    rintro _ w3 ⟨rfl,hx3⟩
    have hown:GM w3 w.heap.size k D:=HM2.out.ext hx3
    unfold GM at hown
    have hkey:=keyLit (kS f.fct) (by have:=HKL1.out;unfold maxLen;omega)
    have HX3:=Lib.hid (HX2.out.trans hx3)
    have hs3:w.heap.size+1≤w3.heap.size:=Nat.le_trans HS2.out hx3.size
    generalize kS f.fct=ky at *
    clear hx3 v0 v1 v2 v3 v4 v5 v6 v7 v8 v9 v10 v11
    go_wp2_with (first
     | (at_lookup;refine wpList_lookup_groups _ rfl _ _ 124 rfl 9 126 3 .i64 lawStr Tryz.underlying124 (zeroInts _) (w.heap.size+1) w.heap.size k _ rfl hown (by unfold maxLen;omega) _ _ rfl hkey ?_;intro v zs hat hoi hzl hback)
     | (at_builtin;refine wpList_append_own_at _ rfl _ _ 126 rfl (w.heap.size+1) 3 i0 (.int .i64 0) 1 8 Tryz.underlying126 hi hz0 hz1 hz2 rfl (by decide) _ _ _ rfl (hoi.1.alloc _) ⟨w3.heap.size,0,none⟩ 1 1 [.int .i64 k] rfl rfl (cell_one_new _ _ _) (ints_oneCell .i64 [(k:Int)]) (by unfold maxLen;omega) (by omega) (by simp;omega) ?_;intro v' w4 hown' hgrow hnil hloc)
     | (at_mapUpdate;refine wpList_mapUpdate_back _ rfl _ _ _ 124 rfl hback rfl rfl rfl ((World.grownBy_alloc _ _ _).trans hgrow) (hoi.appended hown' (WalkArith.wf_i64 (by omega))) (by simp;omega) (hloc.imp id (fun h=>⟨_,h,by simp⟩)) ?_;intro w5 hown2 hgrow2)
     | fail)
    have hall:=(World.grownBy_alloc w3 _ _).trans hgrow
    have HD5:=Lib.hid (HLOOK.out _ _ _ hoi hat HP.out)
    have hdp:=(hoi.appended hown' (WalkArith.wf_i64 (by omega))).datum_pos (H:=Unit) (by simp)
    have HM5:=Lib.hid (show GM w5 w.heap.size (k+1) (D.put (.string ky) (.slice (lits .i64 (zs++[(k:Int)])) [])) by unfold GM;rw [← hdp];exact hown2)
    have HX5:=Lib.hid (below_ext HX3.out ((Below.refl w.heap.size w3).groups hoi hall hgrow2 HX3.out.size (Nat.le_succ _) (Nat.le_refl _)))
    have HS5:=Lib.hid (Nat.le_trans hs3 (Nat.le_trans hall.size hgrow2.size))
    clear hown hown' hown2 hgrow hgrow2 hnil hloc hall hoi hback hat hkey hdp
    go_roundw
    case rel=>exact ⟨k+1,_,by go_num,by omega,HM5,HD5,HX5,HS5⟩
    case measure=>simp [intOf];omega
  ·obtain rfl:k=n:=by omega
   go_wp2_with fail
   go_ret
   exact ⟨D,rfl,HM.out,HD.out,HX.out⟩
end Go.Proofs.YtnjmndofcpnmeaaGreatDoor
namespace Go.Proofs.YtnjmndofcpnmeaaGreatDoor
open Go Go.RowKit
set_option linter.unusedVariables false
theorem itoa_len20 (x:Int)(h0:-9223372036854775808≤x)(h1:x≤9223372036854775807):(Lib.itoa x).length≤21:=Lib.itoa_length_le x h0 h1
theorem keyP_len:∀ (ls:List (List UInt8)),(∀ l∈ls,l.length≤1000)→(keyP ls).length≤1023*ls.length
 | [],_=>Nat.zero_le _
 | p::r,h=>by
  have h1:=keyP_len r (fun l hl=>h l (List.mem_cons_of_mem _ hl))
  have h2:=h p (by simp)
  have h3:=itoa_len20 (p.length:Int) (by omega) (by omega)
  rw [keyP]
  simp only [List.length_cons,List.length_append]
  omega
theorem ba_list (p:ByteArray):∃ P:List UInt8,p=⟨P.toArray⟩∧p.data.toList=P∧p.size=P.length:=⟨p.data.toList,by cases p;simp,rfl,by rw [Array.length_toList];rfl⟩
set_option maxRecDepth 100000 in
set_option maxHeartbeats 1000000 in
theorem keyName_at (A:Option Addr) (c:Nat) (ps:List ByteArray) (r:ByteArray) (hn:ps.length≤1000) (hps:∀ p∈ps,p.size≤1000) (hr:r.size≤1000) (w:World) (hR:RS w (.slice A ps.length c) (sv ps)) (hp:Pow w):
  Calls Tryz.prog 123 #[.agg #[.slice A ps.length c,.string r]] w fun e w'=>e=.returned (.string ⟨(keyN (dat ps) r.data.toList).toArray⟩)∧Ext w w':=by
 obtain ⟨R,hRr,hRl,hRs⟩:=ba_list r
 rw [hRl]
 rw [hRs] at hr
 subst hRr
 clear hRl hRs
 have hg:=heap_alloc_new w (.cells #[.slice A ps.length c,.string ⟨R.toArray⟩] 37)
 have hx:=(Ext.refl w).alloc (.cells #[.slice A ps.length c,.string ⟨R.toArray⟩] 37)
 obtain ⟨W1,e1⟩:∃ W,w.alloc (.cells #[.slice A ps.length c,.string ⟨R.toArray⟩] 37)=W:=⟨_,rfl⟩
 rw [e1] at hg hx
 obtain ⟨c0,c1⟩:=(show PB W1 w.heap.size _ _ from hg).cells
 have HG:=Lib.hid (show PB W1 w.heap.size (.slice A ps.length c) ⟨R.toArray⟩ from hg);have HX:=Lib.hid hx;have HP:=Lib.hid hp
 obtain ⟨A',c',he,h1,h2,h3⟩:=hR
 rw [sv_length] at he h1 h3
 injection he with e2 _ e3
 subst e2;subst e3
 unfold maxLen at h2
 have HC:=Lib.hid h3
 obtain ⟨n,hn'⟩:∃ n,ps.length=n:=⟨_,rfl⟩
 have HN:=Lib.hid hn'
 have HPS:=Lib.hid hps;have HRS:=Lib.hid hr
 have HIT:=Lib.hid (fun W (hx:Ext W1 W)=>ItoaZ_at (n:Int) (by omega) (by omega) W (hp.ext (HX.out.trans hx)))
 have HKN:=Lib.hid (show keyN (dat ps) R=Lib.itoa (n:Int)++(keyP (dat ps)++32::R) by unfold keyN;rw [dat_length,hn'])
 have hil:=itoa_len20 (n:Int) (by omega) (by omega)
 generalize Lib.itoa (n:Int)=I at *
 generalize keyN (dat ps) R=KN at *
 have hrl':(R.length:Int)≤1000:=by omega
 have hil':(I.length:Int)≤21:=by omega
 rw [hn'] at h1 hn e1 ⊢
 clear hg hx hp h3 hps hr hil
 rw [hn'] at c0
 clear hn'
 go_enter Tryz.func123,Tryz.ntmps123
 go_wp2_with fail
 refine (HIT.out _ (Ext.refl _)).mono ?_
 rintro _ w2 ⟨rfl,hx2⟩
 have HX2:=Lib.hid hx2
 clear hx2 c0 c1
 obtain ⟨c0,c1⟩:=(HG.out.ext HX2.out).cells
 rw [HN.out] at c0
 go_wp2_with fail
 go_loopw [3,5,13] (fun v _ i wr=>∃ k:Nat,i=.int .i64 (k:Int)∧k≤n∧v=.string ⟨(I++keyP (dat (ps.take k))).toArray⟩∧Hid (Ext W1 wr)) (fun _ _ i _=>n-(intOf i).toNat)
 case atStart=>exact ⟨0,rfl,by omega,by simp [dat,keyP],HX2⟩
 case round=>
  obtain ⟨k,rfl,hk,rfl,HXK⟩:=hrel
  by_cases hlt:k<n
  ·have hlx:k<ps.length:=by rw [HN.out];exact hlt
   obtain ⟨ad,rfl,hb,hc⟩:=HC.out (by omega)
   have hck:=(HX.out.trans HXK.out).cell (hc k _ (sv_get ps k hlx))
   have hpk:=HPS.out ps[k] (List.getElem_mem hlx)
   have hkl:=keyP_len (dat (ps.take k)) (fun l hl=>by
    unfold dat at hl
    obtain ⟨p,hp,rfl⟩:=List.mem_map.1 hl
    rw [size_list]
    exact HPS.out p (List.mem_of_mem_take hp))
   rw [dat_length,List.length_take] at hkl
   have HTK:=Lib.hid (show keyP (dat (ps.take (k+1)))=keyP (dat (ps.take k))++(32::(Lib.itoa (ps[k].data.toList.length:Int)++32::ps[k].data.toList)) by
    rw [List.take_succ_eq_append_getElem hlx,show dat (ps.take k++[ps[k]])=dat (ps.take k)++[ps[k].data.toList] by unfold dat;rw [List.map_append];rfl,keyP_snoc])
   obtain ⟨P,hP,hPl,hPs⟩:=ba_list ps[k]
   rw [hPl] at HTK
   rw [hP] at hck
   rw [hPs] at hpk
   generalize keyP (dat (ps.take k))=KP at *
   have hkl':(KP.length:Int)≤1023000:=by
     have:min k ps.length≤1000:=by omega
     omega
   have hPl':(P.length:Int)≤1000:=by omega
   have HIK:=Lib.hid (ItoaZ_at (P.length:Int) (by omega) (by omega) wr (HP.out.ext (HX.out.trans HXK.out)))
   have hjl:=itoa_len20 (P.length:Int) (by omega) (by omega)
   generalize Lib.itoa (P.length:Int)=J at *
   have hjl':(J.length:Int)≤21:=by omega
   have HCN:=Lib.hid hc
   clear hb hc hP hPl hPs hlx hkl hjl hpk
   go_wp2_with fail
   refine HIK.out.mono ?_
   rintro _ w3 ⟨rfl,hx3⟩
   have HX3:=Lib.hid (HXK.out.trans hx3)
   clear hx3 hck
   go_wp2_with fail
   go_roundw
   case rel=>exact ⟨k+1,by go_num,by omega,by rw [HTK.out];simp [ByteArray.mk_append_mk],HX3⟩
   case measure=>simp [intOf];omega
  ·obtain rfl:k=n:=by omega
   have htk:ps.take k=ps:=List.take_of_length_le (by rw [HN.out];exact Nat.le_refl _)
   have hkl:=keyP_len (dat ps) (fun l hl=>by
    unfold dat at hl
    obtain ⟨p,hp,rfl⟩:=List.mem_map.1 hl
    rw [size_list]
    exact HPS.out p hp)
   rw [dat_length,HN.out] at hkl
   rw [htk]
   clear c0 c1
   obtain ⟨c0,c1⟩:=(HG.out.ext HXK.out).cells
   generalize keyP (dat ps)=KP at *
   have hkl':(KP.length:Int)≤1023000:=by omega
   have hkl2:KP.length≤1023000:=by omega
   have hil2:I.length≤21:=by omega
   have hrl2:R.length≤1000:=by omega
   clear hkl hlt htk
   go_wp2_with fail
   have HV:=Lib.hid (show (({ data:=(I++KP).toArray }:ByteArray) ++ { data:=#[32] } ++ { data:=R.toArray })=⟨KN.toArray⟩ by rw [HKN.out,show ({ data:=#[32] }:ByteArray)=⟨[32].toArray⟩ from rfl,ByteArray.mk_append_mk,ByteArray.mk_append_mk];simp)
   go_ret
   exact ⟨by rw [← HV.out];rfl,HX.out.trans HXK.out⟩
set_option maxRecDepth 100000 in
set_option maxHeartbeats 1000000 in
theorem keyAddress_at (k:Int) (hk:i64B k) (A:Option Addr) (b:List UInt8) (c:Nat) (hl:b.length≤1000) (w:World) (hb:BS w (.slice A b.length c) b) (hp:Pow w):
  Calls Tryz.prog 125 #[.agg #[.int .i64 k,.slice A b.length c]] w fun e w'=>e=.returned (.string ⟨(keyA k b).toArray⟩)∧Ext w w':=by
 have h0:=AB.new w k A b.length c
 have x0:=(Ext.refl w).alloc (.cells #[.int .i64 k,.slice A b.length c] 34)
 obtain ⟨W1,e1⟩:∃ W,w.alloc (.cells #[.int .i64 k,.slice A b.length c] 34)=W:=⟨_,rfl⟩
 rw [e1] at h0 x0
 have HB:=Lib.hid (show AB W1 w.heap.size k A b.length c from h0);have HX:=Lib.hid x0;have HBS:=Lib.hid (hb.ext x0)
 have HIT:=Lib.hid (fun W (hx:Ext W1 W)=>ItoaZ_at k hk.1 hk.2 W (hp.ext (x0.trans hx)))
 have HKA:=Lib.hid (show keyA k b=Lib.itoa k++32::b from rfl)
 have HLL:=Lib.hid (show (Lib.itoa k).length≤21∧b.length≤1000 from ⟨itoa_len20 k hk.1 hk.2,hl⟩)
 generalize keyA k b=KA at *
 generalize Lib.itoa k=I at *
 clear h0 x0 hb hp hk hl
 go_enter Tryz.func125,Tryz.ntmps125
 go_upto_region 1 with fail
 refine wp_region_ext (fun i v' w'=>match i with | 2=>v'=.string ⟨(I).toArray⟩ | 6=>v'=.string ⟨b.toArray⟩ | _=>False) (by kernel_rfl) (by kernel_rfl) ?_
 refine wpE_val (.pointer (some ⟨w.heap.size,0,none⟩)) rfl rfl (fun w' hw' K' hK'=>?_) ?_
 ·have hE:=hw'.1
  go_step
  exact hK'
 simp only [Act.put,sT1,sT2,sT3]
 refine wpE_val (.int .i64 k) rfl rfl (fun w' hw' K' hK'=>?_) ?_
 ·have hE:=hw'.1
  obtain ⟨u0,u1⟩:=(HB.out.ext ((Ext.drew W1).trans hE)).cells
  go_step
  exact hK'
 simp only [Act.put,sT1,sT2,sT3]
 refine wpE_symcall 5 rfl (by simp) true (.string ⟨(I).toArray⟩) (rfl) (fun _ _ h=>h) (fun hc w' hw' K' hK'=>?_) ?_
 ·have hE:=hw'.1
  try simp only [cond_true]
  go_step
  refine (HIT.out w' ((Ext.drew _).trans hE)).mono ?_
  rintro _ w2 ⟨rfl,hx⟩
  exact hK' _ _ rfl hx
 simp only [cond_true,Act.put,sT1,sT2,sT3]
 refine wpE_cat (I) ([32]) rfl rfl rfl rfl (by have:=HLL.out;simp;omega) ?_
 simp only [Act.put,sT1,sT2,sT3]
 refine wpE_val (.pointer (some ⟨w.heap.size,1,none⟩)) rfl rfl (fun w' hw' K' hK'=>?_) ?_
 ·have hE:=hw'.1
  go_step
  exact hK'
 simp only [Act.put,sT1,sT2,sT3]
 refine wpE_val (.slice A b.length c) rfl rfl (fun w' hw' K' hK'=>?_) ?_
 ·have hE:=hw'.1
  obtain ⟨u0,u1⟩:=(HB.out.ext ((Ext.drew W1).trans hE)).cells
  go_step
  exact hK'
 simp only [Act.put,sT1,sT2,sT3]
 refine wpE_call 9 rfl (by simp) rfl (fun w' hw' K' hK'=>?_) ?_
 ·have hE:=hw'.1
  have hcv:=run_str (P:=Tryz.prog) w' 32 9 5 (.slice A b.length c) b Tryz.underlying32 Tryz.underlying5 Tryz.underlying9 (HBS.out.ext ((Ext.drew _).trans hE))
  go_step
  exact hK' _ _ ⟨_,rfl,rfl⟩ (Ext.refl _)
 rintro _ w9x hE9 rfl
 simp only [Act.put,sT1,sT2,sT3]
 refine wpE_cat ((I++[32])) (b) rfl rfl rfl rfl (by have:=HLL.out;simp;omega) ?_
 simp only [Act.put,sT1,sT2,sT3]
 refine wpE_op rfl rfl (fun w' hw' K' hK'=>?_)
 go_step
 refine hK' _ ⟨_,rfl⟩ ?_
 clear hK' K' hw' w'
 refine wpE_nil (fun W hW=>?_)
 have HXW:=Lib.hid (HX.out.trans ((Ext.drew _).trans hW.1))
 have HV:=Lib.hid (show (⟨((I++[32])++b).toArray⟩:ByteArray)=⟨KA.toArray⟩ by rw [HKA.out];simp)
 clear hW
 go_wp2_with fail
 go_ret
 exact ⟨by rw [← HV.out];rfl,HXW.out⟩
set_option maxRecDepth 100000 in
theorem keyClient_at (f:FV) (w:World) (hM:f.In w) (hz:f.Sz) (hp:Pow w):
  Calls Tryz.prog 63 #[f.val] w fun e w'=>e=.returned (.string ⟨(keyN f.fct.cp f.fct.cr).toArray⟩)∧Ext w w':=by
 obtain ⟨t,mi,kd,fk,FA,fb,fc,CA,cp,cc,cr,SA,sp,sc,sr,co,pr,fl⟩:=f
 have hb0:=FBx.new w ⟨t,mi,kd,fk,FA,fb,fc,CA,cp,cc,cr,SA,sp,sc,sr,co,pr,fl⟩
 have hx0:=(Ext.refl w).alloc (.cells #[.int .i64 t,.int .i64 mi,.int .i64 kd,.int .i64 fk,.slice FA fb.length fc,.slice CA cp.length cc,.string cr,.slice SA sp.length sc,.string sr,.int .i64 co,.int .i64 pr,.int .u32 (fl.toNat:Int)] 41)
 dsimp only [FV.val,FV.fct] at hb0 ⊢
 obtain ⟨W1,e1⟩:∃ W,w.alloc (.cells #[.int .i64 t,.int .i64 mi,.int .i64 kd,.int .i64 fk,.slice FA fb.length fc,.slice CA cp.length cc,.string cr,.slice SA sp.length sc,.string sr,.int .i64 co,.int .i64 pr,.int .u32 (fl.toNat:Int)] 41)=W:=⟨_,rfl⟩
 rw [e1] at hb0 hx0
 have HB:=Lib.hid hb0;have HX:=Lib.hid hx0
 have HK:=Lib.hid (keyName_at CA cc cp cr hz.cp hz.cps hz.cr W1 (hM.cp.ext hx0) (hp.ext hx0))
 generalize keyN (dat cp) cr.data.toList=KN at *
 obtain ⟨u0,u1,u2,u3,u4,u5,u6,u7,u8,u9,u10,u11⟩:=HB.out.cells
 clear hb0 hx0 hM hz hp
 go_enter Tryz.func63,Tryz.ntmps63
 go_wp2_with fail
 refine HK.out.mono ?_
 rintro _ w2 ⟨rfl,hx2⟩
 have HX2:=Lib.hid (HX.out.trans hx2)
 clear hx2
 go_wp2_with fail
 go_ret
 exact ⟨rfl,HX2.out⟩
set_option maxRecDepth 100000 in
theorem keyFrom_at (f:FV) (w:World) (hM:f.In w) (hz:f.Sz) (hk:i64B f.fk) (hp:Pow w):
  Calls Tryz.prog 66 #[f.val] w fun e w'=>e=.returned (.string ⟨(keyA f.fct.fk f.fct.fb).toArray⟩)∧Ext w w':=by
 obtain ⟨t,mi,kd,fk,FA,fb,fc,CA,cp,cc,cr,SA,sp,sc,sr,co,pr,fl⟩:=f
 have hb0:=FBx.new w ⟨t,mi,kd,fk,FA,fb,fc,CA,cp,cc,cr,SA,sp,sc,sr,co,pr,fl⟩
 have hx0:=(Ext.refl w).alloc (.cells #[.int .i64 t,.int .i64 mi,.int .i64 kd,.int .i64 fk,.slice FA fb.length fc,.slice CA cp.length cc,.string cr,.slice SA sp.length sc,.string sr,.int .i64 co,.int .i64 pr,.int .u32 (fl.toNat:Int)] 41)
 dsimp only [FV.val,FV.fct] at hb0 ⊢
 obtain ⟨W1,e1⟩:∃ W,w.alloc (.cells #[.int .i64 t,.int .i64 mi,.int .i64 kd,.int .i64 fk,.slice FA fb.length fc,.slice CA cp.length cc,.string cr,.slice SA sp.length sc,.string sr,.int .i64 co,.int .i64 pr,.int .u32 (fl.toNat:Int)] 41)=W:=⟨_,rfl⟩
 rw [e1] at hb0 hx0
 have HB:=Lib.hid hb0;have HX:=Lib.hid hx0
 have HK:=Lib.hid (keyAddress_at fk hk FA fb fc hz.fb W1 (hM.fb.ext hx0) (hp.ext hx0))
 generalize keyA fk fb=KN at *
 obtain ⟨u0,u1,u2,u3,u4,u5,u6,u7,u8,u9,u10,u11⟩:=HB.out.cells
 clear hb0 hx0 hM hz hp hk
 go_enter Tryz.func66,Tryz.ntmps66
 go_wp2_with fail
 refine HK.out.mono ?_
 rintro _ w2 ⟨rfl,hx2⟩
 have HX2:=Lib.hid (HX.out.trans hx2)
 clear hx2
 go_wp2_with fail
 go_ret
 exact ⟨rfl,HX2.out⟩
set_option maxRecDepth 100000 in
set_option maxHeartbeats 1000000 in
theorem failure_at (f:FV) (w:World) (hM:f.In w) (hz:f.Sz):
  Calls Tryz.prog 118 #[f.val] w fun e w'=>e=.returned (.bool (failB f.fct))∧Ext w w':=by
 have hfb:failB f.fct=((f.kd==10&&f.co==24) && !noneN f.fct.cp f.fct.cr):=by
  unfold failB
  rw [show decide (f.fct.kd=10)=(f.kd==10) from rfl,show decide (f.fct.co=24)=(f.co==24) from rfl]
 rw [hfb]
 clear hfb
 obtain ⟨t,mi,kd,fk,FA,fb,fc,CA,cp,cc,cr,SA,sp,sc,sr,co,pr,fl⟩:=f
 have hb0:=FBx.new w ⟨t,mi,kd,fk,FA,fb,fc,CA,cp,cc,cr,SA,sp,sc,sr,co,pr,fl⟩
 have hx0:=(Ext.refl w).alloc (.cells #[.int .i64 t,.int .i64 mi,.int .i64 kd,.int .i64 fk,.slice FA fb.length fc,.slice CA cp.length cc,.string cr,.slice SA sp.length sc,.string sr,.int .i64 co,.int .i64 pr,.int .u32 (fl.toNat:Int)] 41)
 dsimp only [FV.val,FV.fct] at hb0 ⊢
 obtain ⟨W1,e1⟩:∃ W,w.alloc (.cells #[.int .i64 t,.int .i64 mi,.int .i64 kd,.int .i64 fk,.slice FA fb.length fc,.slice CA cp.length cc,.string cr,.slice SA sp.length sc,.string sr,.int .i64 co,.int .i64 pr,.int .u32 (fl.toNat:Int)] 41)=W:=⟨_,rfl⟩
 rw [e1] at hb0 hx0
 have HB:=Lib.hid hb0;have HX:=Lib.hid hx0
 have HC0:=Lib.hid (fun W (hx:Ext W1 W)=>noName_at CA cc cp cr hz.cp W (hM.cp.ext (hx0.trans hx)))
 obtain ⟨bc,hbc⟩:∃ q,noneN (dat cp) cr.data.toList=q:=⟨_,rfl⟩
 rw [hbc] at HC0 ⊢
 clear hb0 hx0 hM hz hbc
 obtain ⟨q1,hq1⟩:∃ q1:Bool,(kd==10)=q1:=⟨_,rfl⟩
 have Hq1:=Lib.hid hq1;clear hq1
 obtain ⟨q2,hq2⟩:∃ q2:Bool,(co==24)=q2:=⟨_,rfl⟩
 have Hq2:=Lib.hid hq2;clear hq2
 obtain ⟨p3,hp3⟩:∃ p3:Bool,(q1&&q2)=p3:=⟨_,rfl⟩
 have Hp3:=Lib.hid hp3;clear hp3
 obtain ⟨q4,hq4⟩:∃ q4:Bool,(!bc)=q4:=⟨_,rfl⟩
 have Hq4:=Lib.hid hq4;clear hq4
 obtain ⟨p5,hp5⟩:∃ p5:Bool,(p3&&q4)=p5:=⟨_,rfl⟩
 have Hp5:=Lib.hid hp5;clear hp5
 have HX0:=Lib.hid (Ext.refl W1)
 go_enter Tryz.func118,Tryz.ntmps118
 go_upto_region 1 with fail
 refine wp_region_lit ?_
 refine wpL_val (.pointer (some ⟨w.heap.size,2,none⟩)) rfl (fun K' hK'=>?_) ?_
 ·go_step
  exact hK'
 simp only [Act.put,sT1,sT2,sT3]
 refine wpL_val (.int .i64 kd) rfl (fun K' hK'=>?_) ?_
 ·obtain ⟨u0,u1,u2,u3,u4,u5,u6,u7,u8,u9,u10,u11⟩:=(HB.out.ext HX0.out).cells
  go_step
  exact hK'
 simp only [Act.put,sT1,sT2,sT3]
 refine wpL_val (.bool q1) rfl (fun K' hK'=>?_) ?_
 ·have hq:=Hq1.out
  subst hq
  go_step
  exact hK'
 simp only [Act.put,sT1,sT2,sT3]
 refine wpL_val (.bool q1) rfl (fun K' hK'=>?_) ?_
 ·go_step
  exact hK'
 simp only [Act.put,sT1,sT2,sT3]
 refine wpL_sym q1 (.pointer (some ⟨w.heap.size,9,none⟩)) (by cases q1<;>kernel_rfl) (fun hc K' hK'=>?_) ?_
 ·subst hc
  try simp only [cond_true]
  go_step
  exact hK'
 simp only [Act.put,sT1,sT2,sT3]
 refine wpL_sym q1 (.int .i64 co) (by cases q1<;>kernel_rfl) (fun hc K' hK'=>?_) ?_
 ·subst hc
  try simp only [cond_true]
  obtain ⟨u0,u1,u2,u3,u4,u5,u6,u7,u8,u9,u10,u11⟩:=(HB.out.ext HX0.out).cells
  go_step
  exact hK'
 simp only [Act.put,sT1,sT2,sT3]
 refine wpL_sym q1 (.bool q2) (by cases q1<;>kernel_rfl) (fun hc K' hK'=>?_) ?_
 ·subst hc
  try simp only [cond_true]
  have hq:=Hq2.out
  subst hq
  go_step
  exact hK'
 simp only [Act.put,sT1,sT2,sT3]
 refine wpL_val (.bool p3) rfl (fun K' hK'=>?_) ?_
 ·have hp:=Hp3.out
  subst hp
  cases q1
  ·go_step
   exact hK'
  ·go_step
   exact hK'
 simp only [Act.put,sT1,sT2,sT3]
 refine wpL_val (.bool p3) rfl (fun K' hK'=>?_) ?_
 ·go_step
  exact hK'
 simp only [Act.put,sT1,sT2,sT3]
 refine wpL_sym p3 (.pointer (some ⟨w.heap.size,5,none⟩)) (by cases p3<;>kernel_rfl) (fun hc K' hK'=>?_) ?_
 ·subst hc
  try simp only [cond_true]
  go_step
  exact hK'
 simp only [Act.put,sT1,sT2,sT3]
 refine wpL_sym p3 (.agg #[.slice CA cp.length cc,.string cr]) (by cases p3<;>kernel_rfl) (fun hc K' hK'=>?_) ?_
 ·subst hc
  try simp only [cond_true]
  obtain ⟨u0,u1,u2,u3,u4,u5,u6,u7,u8,u9,u10,u11⟩:=(HB.out.ext HX0.out).cells
  go_step
  exact hK'
 simp only [Act.put,sT1,sT2,sT3]
 refine wpL_symcall p3 (.bool bc) (by cases p3<;>kernel_rfl) (fun hc K' hK'=>?_) (fun wc14 hx=>?_)
 ·subst hc
  try simp only [cond_true]
  go_step
  refine (HC0.out W1 HX0.out).mono ?_
  rintro _ w2 ⟨rfl,hx⟩
  exact hK' _ hx
 have HX14:=Lib.hid (HX0.out.trans hx);clear hx
 simp only [Act.put,sT1,sT2,sT3]
 refine wpL_sym p3 (.bool q4) (by cases p3<;>kernel_rfl) (fun hc K' hK'=>?_) ?_
 ·subst hc
  try simp only [cond_true]
  have hq:=Hq4.out
  subst hq
  go_step
  exact hK'
 simp only [Act.put,sT1,sT2,sT3]
 refine wpL_val (.bool p5) rfl (fun K' hK'=>?_) ?_
 ·have hp:=Hp5.out
  subst hp
  cases p3
  ·go_step
   exact hK'
  ·go_step
   exact hK'
 simp only [Act.put,sT1,sT2,sT3]
 go_wp2_with fail
 go_ret
 refine ⟨?_,HX.out.trans HX14.out⟩
 have h:=Hp5.out;subst h
 have h:=Hq4.out;subst h
 have h:=Hp3.out;subst h
 have h:=Hq2.out;subst h
 have h:=Hq1.out;subst h
 rfl
set_option maxRecDepth 100000 in
theorem success_at (f:FV) (w:World):
  Calls Tryz.prog 127 #[f.val] w fun e w'=>e=.returned (.bool (sucB f.fct && !decide (f.kd=0)))∧Ext w w':=by
 have hfb:(sucB f.fct && !decide (f.kd=0))=(f.co==0 && !(f.kd==0)):=rfl
 rw [hfb]
 clear hfb
 obtain ⟨t,mi,kd,fk,FA,fb,fc,CA,cp,cc,cr,SA,sp,sc,sr,co,pr,fl⟩:=f
 have hb0:=FBx.new w ⟨t,mi,kd,fk,FA,fb,fc,CA,cp,cc,cr,SA,sp,sc,sr,co,pr,fl⟩
 have hx0:=(Ext.refl w).alloc (.cells #[.int .i64 t,.int .i64 mi,.int .i64 kd,.int .i64 fk,.slice FA fb.length fc,.slice CA cp.length cc,.string cr,.slice SA sp.length sc,.string sr,.int .i64 co,.int .i64 pr,.int .u32 (fl.toNat:Int)] 41)
 dsimp only [FV.val,FV.fct] at hb0 ⊢
 obtain ⟨W1,e1⟩:∃ W,w.alloc (.cells #[.int .i64 t,.int .i64 mi,.int .i64 kd,.int .i64 fk,.slice FA fb.length fc,.slice CA cp.length cc,.string cr,.slice SA sp.length sc,.string sr,.int .i64 co,.int .i64 pr,.int .u32 (fl.toNat:Int)] 41)=W:=⟨_,rfl⟩
 rw [e1] at hb0 hx0
 have HB:=Lib.hid hb0;have HX:=Lib.hid hx0
 clear hb0 hx0
 obtain ⟨q1,hq1⟩:∃ q1:Bool,(co==0)=q1:=⟨_,rfl⟩
 have Hq1:=Lib.hid hq1;clear hq1
 obtain ⟨q2,hq2⟩:∃ q2:Bool,(!(kd==0))=q2:=⟨_,rfl⟩
 have Hq2:=Lib.hid hq2;clear hq2
 obtain ⟨p3,hp3⟩:∃ p3:Bool,(q1&&q2)=p3:=⟨_,rfl⟩
 have Hp3:=Lib.hid hp3;clear hp3
 have HX0:=Lib.hid (Ext.refl W1)
 go_enter Tryz.func127,Tryz.ntmps127
 go_upto_region 1 with fail
 refine wp_region_lit ?_
 refine wpL_val (.pointer (some ⟨w.heap.size,9,none⟩)) rfl (fun K' hK'=>?_) ?_
 ·go_step
  exact hK'
 simp only [Act.put,sT1,sT2,sT3]
 refine wpL_val (.int .i64 co) rfl (fun K' hK'=>?_) ?_
 ·obtain ⟨u0,u1,u2,u3,u4,u5,u6,u7,u8,u9,u10,u11⟩:=(HB.out.ext HX0.out).cells
  go_step
  exact hK'
 simp only [Act.put,sT1,sT2,sT3]
 refine wpL_val (.bool q1) rfl (fun K' hK'=>?_) ?_
 ·have hq:=Hq1.out
  subst hq
  go_step
  exact hK'
 simp only [Act.put,sT1,sT2,sT3]
 refine wpL_val (.bool q1) rfl (fun K' hK'=>?_) ?_
 ·go_step
  exact hK'
 simp only [Act.put,sT1,sT2,sT3]
 refine wpL_sym q1 (.pointer (some ⟨w.heap.size,2,none⟩)) (by cases q1<;>kernel_rfl) (fun hc K' hK'=>?_) ?_
 ·subst hc
  try simp only [cond_true]
  go_step
  exact hK'
 simp only [Act.put,sT1,sT2,sT3]
 refine wpL_sym q1 (.int .i64 kd) (by cases q1<;>kernel_rfl) (fun hc K' hK'=>?_) ?_
 ·subst hc
  try simp only [cond_true]
  obtain ⟨u0,u1,u2,u3,u4,u5,u6,u7,u8,u9,u10,u11⟩:=(HB.out.ext HX0.out).cells
  go_step
  exact hK'
 simp only [Act.put,sT1,sT2,sT3]
 refine wpL_sym q1 (.bool q2) (by cases q1<;>kernel_rfl) (fun hc K' hK'=>?_) ?_
 ·subst hc
  try simp only [cond_true]
  have hq:=Hq2.out
  subst hq
  go_step
  exact hK'
 simp only [Act.put,sT1,sT2,sT3]
 refine wpL_val (.bool p3) rfl (fun K' hK'=>?_) ?_
 ·have hp:=Hp3.out
  subst hp
  cases q1
  ·go_step
   exact hK'
  ·go_step
   exact hK'
 simp only [Act.put,sT1,sT2,sT3]
 go_wp2_with fail
 go_ret
 refine ⟨?_,HX.out.trans HX0.out⟩
 have h:=Hp3.out;subst h
 have h:=Hq2.out;subst h
 have h:=Hq1.out;subst h
 rfl
end Go.Proofs.YtnjmndofcpnmeaaGreatDoor
