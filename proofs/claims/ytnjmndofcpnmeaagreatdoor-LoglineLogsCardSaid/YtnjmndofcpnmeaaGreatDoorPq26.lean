/- Pq26. -/
import Derived.Test.YtnjmndofcpnmeaaGreatDoorPq25
import Derived.Test.YtnjmndofcpnmeaaGreatDoorPq18
import Derived.Laws.DeepStrings4
import Derived.Test.YtnjmndofcpnmeaaGreatDoorPq21
import Derived.Test.YtnjmndofcpnmeaaGreatDoorPq4
import Derived.Test.YtnjmndofcpnmeaaGreatDoorPq11
import Derived.Laws.CopyRow
import Derived.Test.YtnjmndofcpnmeaaGreatDoorPq5
import Derived.Maps.RangeWalk
import Derived.Maps.OwnRows
import Derived.Maps.Ext
namespace Go.Proofs.YtnjmndofcpnmeaaGreatDoor
open Go Go.RowKit
set_option linter.unusedVariables false
theorem names_ne:((List.range 32).all fun k=>!(nameAt k).isSome || !(nmS k).data.toList.isEmpty)=true:=by kernel_rfl
theorem nmS_ne {k:Nat}(hk:k<32)(h:(nameAt k).isSome=true):(nmS k).toList≠[]∧(nmS k).toList.isEmpty=false:=by
 have:=(List.all_eq_true.1 names_ne) k (by simpa using hk)
 rw [h] at this
 have h2:(nmS k).data.toList.isEmpty=false:=by simpa using this
 rw [ByteArray.toList_eq]
 exact ⟨fun e=>by rw [e] at h2;simp at h2,h2⟩
theorem nmS_no {k:Nat}(h:(nameAt k).isSome=false):nmS k=⟨#[]⟩:=by
 unfold nmS
 cases hn:nameAt k with
 | none=>rfl
 | some s=>rw [hn] at h;cases h
def pF (f:W32)(l:List UInt8):W32:=match findK l with | none=>f | some k=>orW f (bitW k)
theorem splb_neF (x:UInt8):∀ (l acc:List UInt8),splb x acc l≠[]
 | [],acc=>by simp [splb]
 | c::r,acc=>by
  rw [splb]
  split
  ·simp
  ·exact splb_neF x r _
theorem splb_snoc (x c:UInt8):∀ (l acc:List UInt8) (d:List (List UInt8)) (e:List UInt8),splb x acc l=d++[e]→splb x acc (l++[c])=if c=x then d++[e,[]] else d++[e++[c]]
 | [],acc,d,e,h=>by
  have hd:d=[]∧acc=e:=by
   cases d with
   | nil=>simpa [splb] using h
   | cons a r=>simp [splb] at h
  obtain ⟨rfl,rfl⟩:=hd
  by_cases hc:c=x
  ·simp [splb,hc]
  ·simp [splb,hc]
 | y::l,acc,d,e,h=>by
  rw [List.cons_append]
  rw [splb] at h ⊢
  by_cases hy:y=x
  ·rw [if_pos hy] at h ⊢
   cases d with
   | nil=>
    simp only [List.nil_append,List.cons.injEq] at h
    exact absurd h.2 (splb_neF x l [])
   | cons a r=>
    rw [List.cons_append] at h
    injection h with h1 h2
    rw [splb_snoc x c l [] r e h2,h1]
    split<;>rfl
  ·rw [if_neg hy] at h ⊢
   exact splb_snoc x c l _ d e h
theorem inner_none (P:Nat→Prop) [DecidablePred P] (f:W32):∀ (n:Nat),(∀ j,j<n→¬ P j)→(List.range n).foldl (fun a j=>if P j then orW a (bitW j) else a) f=f
 | 0,_=>rfl
 | n+1,h=>by
  rw [List.range_succ,List.foldl_append,inner_none P f n (fun j hj=>h j (by omega))]
  simp [h n (by omega)]
theorem inner_one (P:Nat→Prop) [DecidablePred P] (f:W32) (k:Nat) (hk:P k):∀ (n:Nat),k<n→(∀ j,j<n→P j→j=k)→(List.range n).foldl (fun a j=>if P j then orW a (bitW j) else a) f=orW f (bitW k)
 | n+1,hn,h=>by
  rw [List.range_succ,List.foldl_append]
  rcases (show k=n∨k<n by omega) with rfl | hlt
  ·rw [inner_none P f k (fun j hj hp=>by have:=h j (by omega) hp;omega)]
   simp [hk]
  ·rw [inner_one P f k hk n hlt (fun j hj=>h j (by omega))]
   have:¬ P n:=fun hp=>by have:=h n (by omega) hp;omega
   simp [this]
def inF (f:W32)(l:List UInt8)(n:Nat):W32:=(List.range n).foldl (fun a j=>if (l≠[]∧(nmS j).data.toList=l) then orW a (bitW j) else a) f
theorem inF_succ (f:W32)(l:List UInt8)(n:Nat):inF f l (n+1)=if (l≠[]∧(nmS n).data.toList=l) then orW (inF f l n) (bitW n) else inF f l n:=by
 unfold inF
 rw [List.range_succ,List.foldl_append]
 rfl
theorem all_named {j:Nat}(h32:j<32):isF allW j=(nameAt j).isSome:=by
 unfold isF
 rw [has_bit allW j h32]
 unfold allW
 rw [nm_bits j h32]
 cases (nameAt j).isSome<;>rfl
theorem inF_all (f:W32)(l:List UInt8):inF f l 32=pF f l:=by
 unfold inF pF
 have hmem:∀ j,j<32→l≠[]→(nmS j).data.toList=l→j∈bitsF allW:=fun j hj hne he=>by
  unfold bitsF bitsTo
  rw [List.mem_filter,all_named hj]
  refine ⟨by simpa using hj,?_⟩
  cases hn:(nameAt j).isSome with
  | true=>rfl
  | false=>rw [nmS_no hn] at he;exact absurd he.symm hne
 cases hf:findK l with
 | none=>
  refine inner_none _ f 32 (fun j hj hp=>?_)
  unfold findK at hf
  rw [List.find?_eq_none] at hf
  have:=hf j (hmem j hj hp.1 hp.2)
  simp [hp.2] at this
 | some k=>
  have hk:(nmS k).data.toList=l∧k∈bitsF allW:=by
   unfold findK at hf
   exact ⟨by simpa using List.find?_some hf,List.mem_of_find?_eq_some hf⟩
  have hk32:k<32:=by
   have:=hk.2
   unfold bitsF bitsTo at this
   rw [List.mem_filter] at this
   simpa using this.1
  have hkn:(nameAt k).isSome=true:=by
   have:=hk.2
   unfold bitsF bitsTo at this
   rw [List.mem_filter,all_named hk32] at this
   exact this.2
  have hne:l≠[]:=by
   rw [← hk.1,← ByteArray.toList_eq]
   exact (nmS_ne hk32 hkn).1
  refine inner_one _ f k ⟨hne,hk.1⟩ 32 hk32 (fun j hj hp=>?_)
  have hjm:=hmem j hj hp.1 hp.2
  have hji:isF allW j=true:=by
   unfold bitsF bitsTo at hjm
   rw [List.mem_filter] at hjm
   exact hjm.2
  have:=find_name hj hji
  rw [hp.2,hf] at this
  injection this with this
  exact this.symm
theorem fold_bits {f:W32} (hv:nmB f=true):∀ (m n:Nat),n+m=32→(((List.range' n m).filter (isF f)).map fun k=>(nmS k).data.toList).foldl pF (lowW f n)=f
 | 0,n,h=>by
  obtain rfl:n=32:=by omega
  simp only [List.range'_zero,List.filter_nil,List.map_nil,List.foldl_nil]
  refine BitVec.eq_of_toNat_eq ?_
  rw [lowW_nat]
  exact Nat.mod_eq_of_lt f.isLt
 | m+1,n,h=>by
  have ih:=fold_bits hv m (n+1) (by omega)
  rw [List.range'_succ,List.filter_cons]
  cases hb:isF f n with
  | true=>
   rw [if_pos rfl,List.map_cons,List.foldl_cons]
   have e:pF (lowW f n) (nmS n).data.toList=lowW f (n+1):=by
    unfold pF
    rw [find_name (by omega) hb]
    exact low_yes (by omega) (by rw [← isF_bit hv n (by omega)];exact hb)
   rw [e]
   exact ih
  | false=>
   rw [if_neg (by simp),low_no (by rw [← isF_bit hv n (by omega)];exact hb)]
   exact ih
theorem fold_dash:(splb 44 [] [45]).foldl pF 0#32=0#32:=by kernel_rfl
theorem fold_text {f:W32}(hv:nmB f=true):(splb 44 [] (textF f)).foldl pF 0#32=f:=by
 unfold textF
 by_cases hz:f=0#32
 ·subst hz;rw [if_pos rfl];exact fold_dash
 ·rw [if_neg hz]
  have hn:∀ m∈(nmL (bitsF f)).map (·.data.toList),∀ c∈m,c≠44:=by
   intro m hm c hc
   simp only [nmL,List.map_map,List.mem_map] at hm
   obtain ⟨k,hk,rfl⟩:=hm
   have h32:k<32:=by
    unfold bitsF bitsTo at hk
    rw [List.mem_filter] at hk
    simpa using hk.1
   have:=(List.all_eq_true.1 names_free) k (by simpa using h32)
   have:=(List.all_eq_true.1 this) c hc
   simpa using this
  have h0:=fold_bits hv 32 0 rfl
  have e0:lowW f 0=0#32:=by
   refine BitVec.eq_of_toNat_eq ?_
   rw [lowW_nat]
   simp [Nat.mod_one]
  rw [e0] at h0
  have e1:((List.range' 0 32).filter (isF f)).map (fun k=>(nmS k).data.toList)=(nmL (bitsF f)).map (·.data.toList):=by
   simp only [nmL,List.map_map,bitsF,bitsTo,List.range_eq_range']
   rfl
  rw [e1] at h0
  unfold joinF
  cases hl:(nmL (bitsF f)).map (·.data.toList) with
  | nil=>
   have:=bitsF_ne hv hz
   have h1:=congrArg List.length hl
   simp [nmL] at h1
   rw [h1] at this
   simp at this
  | cons l r=>
   rw [hl] at h0 hn
   rw [splb_join 44 l r hn]
   exact h0
def ES:Ek ByteArray where
 k:=1
 kp:=by decide
 cs:=fun s=>[.string s]
 len:=fun _=>rfl
 one:=fun x u hu=>by simp at hu;subst hu;rfl
 no8:=fun x u hu n e=>by subst e;simp at hu
 In:=fun _ _=>True
 Blk:=fun _ _=>False
 blt:=fun _ _ _ _ h=>h.elim
 keep:=fun _ _ _ _ _ _ _=>trivial
theorem ES.all_eq:∀ xs:List ByteArray,ES.all xs=sv xs
 | []=>rfl
 | x::xs=>by
  have h:=ES.all_eq xs
  unfold Ek.all sv at h ⊢
  rw [List.flatMap_cons,h]
  rfl
theorem ES.new (w:World)(B:Nat)(hB:B≤w.heap.size)(x:ByteArray):ROW ES 9 (w.alloc (.cells #[.string x] 9)) B (.slice (some ⟨w.heap.size,0,none⟩) 1 1) [x]:=by
 have hg:=heap_alloc_new w (.cells #[.string x] 9)
 refine ⟨fun r hr=>?_,⟨rfl,.inr ⟨w.heap.size,1,#[.string x],rfl,hB,hg,Nat.le_refl _,by unfold maxLen;decide,rfl,rfl⟩⟩,fun y hy=>⟨trivial,fun b _=>id⟩⟩
 simp [Value.ownBlock] at hr
 subst hr
 exact NoU8.of hg fun y hy n e=>by subst e;simp at hy
theorem ROW.last {w:World}{B:Nat}{v:Value}{d:List ByteArray}{x:ByteArray}(h:ROW ES 9 w B v (d++[x])):∃ g c,v=.slice (some ⟨g,0,none⟩) (d.length+1) c∧B≤g∧w.cell? ⟨g,d.length,none⟩=some (.string x)∧w.frozen? ⟨g,d.length,none⟩=false:=by
 obtain ⟨h1,⟨hl,h2⟩,h3⟩:=h
 rcases h2 with ⟨_,h0⟩ | ⟨g,cap,cur,rfl,hB,hg,hc,hm,hs,hx⟩
 ·rw [List.length_append] at h0;simp at h0
 ·rw [List.length_append,List.length_singleton] at hc hl hx ⊢
  refine ⟨g,cap,rfl,hB,?_,frozen_of_row w g d.length _ _ hg⟩
  rw [cell_of_row _ _ _ _ _ (0,0) hg]
  have:(ES.all (d++[x]))[d.length]? = some (.string x):=by rw [ES.all_eq];unfold sv;simp
  rw [← hx,List.getElem?_take_of_lt (by show d.length<(d.length+1)*1;omega)] at this
  rw [← this];simp
theorem ROW.putLast {w:World}{B g c:Nat}{d:List ByteArray}{x:ByteArray}(h:ROW ES 9 w B (.slice (some ⟨g,0,none⟩) (d.length+1) c) (d++[x]))(y:ByteArray):ROW ES 9 (w.setCell ⟨g,d.length,none⟩ (.string y)) B (.slice (some ⟨g,0,none⟩) (d.length+1) c) (d++[y]):=by
 obtain ⟨h1,⟨hl,h2⟩,h3⟩:=h
 rcases h2 with ⟨h0,_⟩ | ⟨g',cap,cur,hv,hB,hg,hc,hm,hs,hx⟩
 ·cases h0
 ·injection hv with e1 e2 e3
  injection e1 with e1
  injection e1 with e1 _ _
  subst e1;subst e3
  have hg2:RW (w.setCell ⟨g,d.length,none⟩ (.string y)) g 9 (cur.setIfInBounds d.length (.string y)):=RW.set (show RW w g 9 cur from hg) d.length (.string y)
  have hn:NoU8 w g:=h1 g rfl
  refine ⟨fun r hr=>?_,⟨by rw [ES.all_eq,sv_length];show _=_*1;omega,.inr ⟨g,c,cur.setIfInBounds d.length (.string y),by simp,hB,hg2,by simpa using hc,hm,by simpa using hs,?_⟩⟩,fun z hz=>⟨trivial,fun b _=>id⟩⟩
  ·simp [Value.ownBlock] at hr
   subst hr
   refine NoU8.of hg2 fun z hz n e=>?_
   subst e
   obtain ⟨j,hj,e⟩:=List.getElem_of_mem hz
   simp only [Array.length_toList,Array.size_setIfInBounds] at hj
   rw [Array.getElem_toList,Array.getElem_setIfInBounds (by simpa using hj)] at e
   split at e
   ·cases e
   ·refine hn ⟨g,j,none⟩ rfl n ?_
    rw [cell_of_row _ _ _ _ _ (0,0) hg,Array.getElem?_eq_getElem hj,e]
  ·have hx1:cur.toList.take (d.length+1)=sv d++[.string x]:=by
    rw [ES.all_eq] at hx
    have:(d++[x]).length*ES.k=d.length+1:=by rw [List.length_append];show (d.length+1)*1=_;omega
    rw [this] at hx
    rw [hx];unfold sv;simp
   have hlen:d.length+1≤cur.toList.length:=by
    have:=congrArg List.length hx1
    rw [List.length_take,List.length_append,sv_length] at this
    simp at this ⊢
    omega
   have e1:(d++[y]).length*ES.k=d.length+1:=by rw [List.length_append];show (d.length+1)*1=_;omega
   rw [e1,ES.all_eq,Array.toList_setIfInBounds]
   have e2:cur.toList.take d.length=sv d:=by
    have:=congrArg (List.take d.length) hx1
    rw [List.take_take,Nat.min_eq_left (by omega)] at this
    rw [this,List.take_append_of_le_length (by rw [sv_length];exact Nat.le_refl _)]
    exact List.take_of_length_le (by rw [sv_length];exact Nat.le_refl _)
   rw [List.take_succ_eq_append_getElem (by rw [List.length_set];omega),List.getElem_set_self,List.take_set_of_le (Nat.le_refl _),e2]
   unfold sv;simp
theorem ROW.rs {w:World}{B:Nat}{v:Value}{xs:List ByteArray}(h:ROW ES 9 w B v xs):RS w v (sv xs):=by
 obtain ⟨A,c,rfl,h1,h2,h3⟩:=h.cells
 refine ⟨A,c,by rw [sv_length],by rw [sv_length];exact h1,h2,fun hp=>?_⟩
 rw [sv_length] at hp
 obtain ⟨_,ad,hA,h4⟩:=h3 0 hp
 have hc0:=h4 0 _ rfl
 refine ⟨ad,hA,by have:=World.block_lt_of_cell? w _ hc0;rwa [block_of_add] at this,fun j u hu=>?_⟩
 have hj:j<xs.length:=by
  have:=(List.getElem?_eq_some_iff.1 hu).1
  rwa [sv_length] at this
 obtain ⟨_,ad',hA',h5⟩:=h3 j hj
 rw [hA] at hA'
 injection hA' with hA'
 subst hA'
 rw [sv_get xs j hj] at hu
 injection hu with hu
 subst hu
 have:=h5 0 _ rfl
 simpa [ES] using this
theorem take_snocB (s:ByteArray)(k:Nat)(h:k<s.size):s.data.toList.take (k+1)=s.data.toList.take k++[s[k]]:=by rw [List.take_succ_eq_append_getElem (by rw [size_list];exact h),byte_at s k h]
theorem ext_one (s:ByteArray)(k:Nat)(h:k<s.size):(s.extract k (k+1)).data.toList=[s[k]]:=by
 rw [ByteArray.data_extract,Array.toList_extract,List.extract_eq_take_drop,Nat.add_sub_cancel_left,List.drop_eq_getElem_cons (by rw [size_list];exact h),byte_at s k h]
 rfl
theorem ba_cat (a b:ByteArray):(a++b).data.toList=a.data.toList++b.data.toList:=by simp
set_option maxRecDepth 100000 in
set_option maxHeartbeats 2000000 in
theorem RSplit_at (s:ByteArray) (hs:s.size≤3000) (x:UInt8) (w:World):
  Calls Tryz.prog 90 #[.string s,.int .u8 (x.toNat:Int)] w fun e w'=>(∃ v ws,e=.returned v∧ROW ES 9 w' w.heap.size v ws∧dat ws=splb x [] s.data.toList)∧Ext w w':=by
 obtain ⟨i0,hi,iz0,iz1,iz2⟩:=info_parts sinfo1
 have h0:=ES.new w w.heap.size (Nat.le_refl _) ⟨#[]⟩
 have hx0:=(Ext.refl w).alloc (.cells #[.string ⟨#[]⟩] 9)
 have H0:=Lib.hid h0;have HX0:=Lib.hid hx0
 clear h0 hx0
 go_enter Tryz.func90,Tryz.ntmps90
 go_wp2_with fail
 go_loopw [5,6] (fun v i wr=>∃ (k:Nat) (d:List ByteArray) (e:ByteArray),k≤s.size∧i=.int .i64 k∧Hid (ROW ES 9 wr w.heap.size v (d++[e]))∧Hid (splb x [] (s.data.toList.take k)=dat d++[e.data.toList])∧Hid (d.length≤k∧e.size≤k)∧Hid (Ext w wr)) (fun _ i _=>s.size-(intOf i).toNat)
 case atStart=>exact ⟨0,[],⟨#[]⟩,Nat.zero_le _,rfl,H0,Lib.hid rfl,Lib.hid ⟨Nat.le_refl _,Nat.le_refl _⟩,HX0⟩
 case round=>
  obtain ⟨k,d,e,hk,rfl,HR,HS,HL,HX⟩:=hrel
  obtain ⟨g,c,rfl,hB,hce,hfr⟩:=HR.out.last
  by_cases hlt:k<s.size
  ·have HTK:=Lib.hid (take_snocB s k hlt)
   have hdl:d.length≤3000:=by have:=HL.out.1;omega
   have hel:e.size≤3000:=by have:=HL.out.2;omega
   by_cases hc:s[k]=x
   ·have e1:((s[k].toNat:Int)==(x.toNat:Int))=true:=by rw [hc];simp
    have HSN:=Lib.hid (show splb x [] (s.data.toList.take (k+1))=dat (d++[e])++[[]] by
     rw [HTK.out,splb_snoc x _ _ _ _ _ HS.out,if_pos hc]
     unfold dat;simp)
    have hx1:=(Ext.refl wr).alloc (.cells #[.string ⟨#[]⟩] 9)
    have HN1:=Lib.hid (ES.new wr wr.heap.size (Nat.le_refl _) ⟨#[]⟩)
    have HR1:=Lib.hid (HR.out.ext hx1)
    have HB1:=Lib.hid (show (((d++[e]).length+1)*16:Nat)≤140737488355328 by rw [List.length_append,List.length_singleton];omega)
    have HS1:=Lib.hid (show w.heap.size≤(wr.alloc (.cells #[.string ⟨#[]⟩] 9)).heap.size from (HX.out.trans hx1).size)
    have HNW:=Lib.hid (show ∀ j u,(ES.all [(⟨#[]⟩:ByteArray)])[j]? = some u→(wr.alloc (.cells #[.string ⟨#[]⟩] 9)).cell? ((⟨wr.heap.size,0,none⟩:Addr).add j)=some u from fun j u hu=>by
     rw [add0,cell_of_row _ _ j _ _ (0,0) (heap_alloc_new wr _)]
     rw [ES.all_eq] at hu
     simpa [sv] using hu)
    have HXA:=Lib.hid (HX.out.trans hx1)
    clear hx1 hc hfr hce hB
    go_wp2_with (at_builtin;refine wpList_append_row (E:=ES) _ rfl (.tmp 19) (.tmp 20) 35 rfl w.heap.size 9 i0 (.string ⟨#[]⟩) 16 Tryz.underlying35 hi iz0 iz1 iz2 rfl (fun x hx n e=>by subst e;simp [Value.cells] at hx) _ (d++[e]) rfl HR1.out ⟨wr.heap.size,0,none⟩ 1 [⟨#[]⟩] rfl (by show 0<1;decide) HNW.out (fun y hy=>⟨trivial,fun b _=>id⟩) HB1.out (by decide) HS1.out ?_;intro v8 w8 hown8 hg8 ho8)
    have HX8:=Lib.hid (show Ext w w8 from Below.grown HXA.out hg8 HXA.out.size (fun j hj=>(HR1.out.lt j hj).1))
    have HR8:=Lib.hid hown8
    clear hown8 hg8 ho8
    go_roundw
    case rel=>exact ⟨k+1,d++[e],⟨#[]⟩,by omega,by go_num,HR8,HSN,Lib.hid ⟨by rw [List.length_append,List.length_singleton];have:=HL.out.1;omega,Nat.zero_le _⟩,HX8⟩
    case measure=>simp [intOf];omega
   ·have e1:((s[k].toNat:Int)==(x.toNat:Int))=false:=by
     rw [beq_eq_false_iff_ne]
     intro h
     exact hc (UInt8.toNat.inj (by omega))
    have HSN:=Lib.hid (show splb x [] (s.data.toList.take (k+1))=dat d++[(e++s.extract k (k+1)).data.toList] by
     rw [HTK.out,splb_snoc x _ _ _ _ _ HS.out,if_neg hc]
     rw [ba_cat,ext_one s k hlt])
    have hz1:(s.extract k (k+1)).size≤1:=by rw [ByteArray.size_extract];omega
    have hsl:∀ W',(Instr.slice 9 (.string s) (some (.int .i64 (k:Int))) (some (.int .i64 ((k:Int)+1))) none).run Tryz.prog W'=.ok (.string (s.extract k (k+1))) W':=fun W'=>by
     rw [run_slice_string_if W' _ _ _ _ _ _ Tryz.underlying9,if_pos (by omega),if_pos (by omega),show ((k:Int)).toNat=k by omega,show ((k:Int)+1).toNat=k+1 by omega]
    have HEL:=Lib.hid (show (e++s.extract k (k+1)).size≤k+1 by rw [ByteArray.size_append];have:=HL.out.2;omega)
    have HR2:=Lib.hid (HR.out.putLast (e++s.extract k (k+1)))
    have hx2:=HX.out.setCell (p:=⟨g,d.length,none⟩) hB (.string (e++s.extract k (k+1)))
    have HX2:=Lib.hid hx2
    clear hc hx2
    generalize s.extract k (k+1)=y at *
    obtain ⟨m,hm⟩:∃ m,d.length=m:=⟨_,rfl⟩
    have HDM:=Lib.hid hm
    rw [hm] at HR2 HX2 hce hfr hdl ⊢
    clear hm
    go_upto_region 7 with fail
    go_region
    go_wp2_with fail
    go_roundw
    case rel=>exact ⟨k+1,d,_,by omega,by go_num,Lib.hid (HR2.out.ext (Ext.drew _)),HSN,Lib.hid ⟨by have:=HL.out.1;omega,HEL.out⟩,Lib.hid (HX2.out.trans (Ext.drew _))⟩
    case measure=>simp [intOf];omega
  ·obtain rfl:k=s.size:=by omega
   have HSN:=Lib.hid (show dat (d++[e])=splb x [] s.data.toList by
    have:=HS.out
    rw [List.take_of_length_le (by rw [size_list];exact Nat.le_refl _)] at this
    rw [this];unfold dat;simp)
   go_wp2_with fail
   go_ret
   exact ⟨⟨_,d++[e],rfl,HR.out,HSN.out⟩,HX.out⟩
end Go.Proofs.YtnjmndofcpnmeaaGreatDoor
namespace Go.Proofs.YtnjmndofcpnmeaaGreatDoor
open Go Go.Lib
set_option linter.unusedVariables false
def prnR (parts:List (List UInt8)) (part:List UInt8):List UInt8→List (List UInt8) × List UInt8
 | []=>(parts,[])
 | [c]=>if c.toNat=47∨c.toNat=64 then (parts++[part],[]) else (parts,[])
 | c::d::r=>if c.toNat=92 then prnR parts (part++[d]) r else if c.toNat=47 then prnR (parts++[part]) [] (d::r) else if c.toNat=64 then (parts++[part],d::r) else prnR parts (part++[c]) (d::r)
theorem prnR_scanR:∀ (n:Nat) (l:List UInt8) (parts:List (List UInt8)) (part:List UInt8) (p:List (List UInt8)) (r:List UInt8),l.length≤n→scanR parts part l=some (p,r)→prnR parts part l=(p,r)
 | 0,l,parts,part,p,r,hl,h=>by
  have:l=[]:=List.eq_nil_of_length_eq_zero (by omega)
  subst this
  simp [scanR] at h
 | n+1,[],parts,part,p,r,hl,h=>by simp [scanR] at h
 | n+1,[c],parts,part,p,r,hl,h=>by
  rw [prnR]
  by_cases h1:c.toNat=92
  ·rw [scanR_end h1] at h;cases h
  ·by_cases h2:c.toNat=47
   ·rw [scanR_sl h2] at h;simp [scanR] at h
   ·by_cases h3:c.toNat=64
    ·rw [scanR_at h3] at h
     rw [if_pos (.inr h3)]
     injection h
    ·rw [scanR_ch h1 h2 h3] at h;simp [scanR] at h
 | n+1,c::d::t,parts,part,p,r,hl,h=>by
  rw [prnR]
  have hl':t.length+1≤n:=by simpa using hl
  by_cases h1:c.toNat=92
  ·rw [scanR_bs h1] at h
   rw [if_pos h1]
   exact prnR_scanR n t _ _ p r (by omega) h
  ·by_cases h2:c.toNat=47
   ·rw [scanR_sl h2] at h
    rw [if_neg h1,if_pos h2]
    exact prnR_scanR n (d::t) _ _ p r (by simpa using hl') h
   ·by_cases h3:c.toNat=64
    ·rw [scanR_at h3] at h
     rw [if_neg h1,if_neg h2,if_pos h3]
     injection h
    ·rw [scanR_ch h1 h2 h3] at h
     rw [if_neg h1,if_neg h2,if_neg h3]
     exact prnR_scanR n (d::t) _ _ p r (by simpa using hl') h
def prnW (s:List UInt8):List (List UInt8) × List UInt8:=if s=[45] then ([],[]) else prnR [] [] s
theorem prnW_word {p:List (List UInt8)}{r:List UInt8}(h:prsB p r=true):prnW (prsW p r)=(p,r):=by
 unfold prnW prsW
 by_cases hn:noneN p r=true
 ·rw [if_pos hn,if_pos rfl]
  unfold noneN at hn
  rw [Bool.and_eq_true] at hn
  rw [List.isEmpty_iff.1 hn.1,List.isEmpty_iff.1 hn.2]
 ·unfold prsB at h
  rw [Bool.or_eq_true] at h
  have hb:=h.resolve_left hn
  rw [if_neg hn,if_neg]
  ·have:=scanR_parts p [] r (nameB_ne hb)
   rw [List.nil_append] at this
   exact prnR_scanR _ (textN p r) [] [] p r (Nat.le_refl _) this
  ·intro e
   have:=textN_at p r
   rw [e] at this
   exact absurd this (by decide)
end Go.Proofs.YtnjmndofcpnmeaaGreatDoor
namespace Go.Proofs.YtnjmndofcpnmeaaGreatDoor
open Go Go.RowKit
set_option linter.unusedVariables false
theorem wpList_store_var {P:Program} (w:World) {ops:Array Oper} {rest:List Oper} {o:Oper} {a:Act} {Q:Exit→Act→World→Prop} (hgd:o.guard=none) (p x:Operand) (t:TypeId) (ho:o.op=.store t p x)
  (g:Nat) (u:TypeId) (cur vs:Array Value) (hp:a.eval p=.pointer (some ⟨g,0,none⟩)) (hx:a.eval x=.agg vs) (hsz:(sizeOf t).run P w=.ok vs.size w) (hr:w.heap[g]? = some (.cells cur u (0,0))) (hlen:cur.size=vs.size) (h1:∀ v∈vs.toList,v.oneCell'=true)
  (hK:∀ w',w'.heap[g]? = some (.cells vs u (0,0))→w.grownBy w' (some g)→wpList P ops Q rest (a.put o.dst undef) w'):wpList P ops Q (o::rest) a w:=by
 refine wpList_plain hgd fun K hK'=>?_
 have hrun:=run_storeCells_at (P:=P) g 0 u vs.toList 0 cur w hr (by simp [hlen]) h1
 have e1:(cur.toList.take (0+0)++vs.toList++cur.toList.drop (0+0+vs.toList.length)).toArray=vs:=by
  have:cur.toList.drop (0+0+vs.toList.length)=[]:=by
   apply List.drop_eq_nil_of_le
   simp [hlen]
  rw [this]
  simp
 rw [e1] at hrun
 have hw':(w.setRow g vs).heap[g]? = some (.cells vs u (0,0)):=setRow_heap w g cur vs u (0,0) hr
 have hg':w.grownBy (w.setRow g vs) (some g):=⟨rfl,rfl,rfl,by simp,fun k _ hk=>setRow_other w g k _ (fun e=>hk (by simp [e]))⟩
 unfold Oper.wp execOp
 simp only [ho,hp,hx]
 simp [Instr.storeAt,Instr.sureAddr,storeVar,Value.cells,hsz,hrun,Result.andThen,Oper.upon]
 exact hK' _ _ (hK _ hw' hg')
end Go.Proofs.YtnjmndofcpnmeaaGreatDoor
namespace Go.Proofs.YtnjmndofcpnmeaaGreatDoor
open Go Go.Lib
set_option linter.unusedVariables false
theorem nodup_le {α:Type} [DecidableEq α]:∀ {a b:List α},a.Nodup→(∀ x∈a,x∈b)→a.length≤b.length
 | [],b,_,_=>Nat.zero_le _
 | x::a,b,hd,hs=>by
  rw [List.nodup_cons] at hd
  have hx:=hs x (by simp)
  have h1:∀ y∈a,y∈b.erase x:=fun y hy=>by
   rw [List.mem_erase_of_ne (fun (e:y=x)=>hd.1 (by rw [← e];exact hy))]
   exact hs y (List.mem_cons_of_mem _ hy)
  have h2:=nodup_le hd.2 h1
  rw [List.length_erase_of_mem hx] at h2
  have h3:=List.length_pos_of_mem hx
  rw [List.length_cons]
  omega
theorem nodup_filt {l:List Nat}(p:Nat→Bool)(h:l.Nodup):(l.filter p).Nodup:=List.Pairwise.filter p h
theorem nodup_mapK {κ:Type}{l:List Nat}{K:Nat→κ}(h:l.Nodup)(hk:∀ i∈l,∀ j∈l,K i=K j→i=j):(l.map K).Nodup:=by
 induction l with
 | nil=>exact List.nodup_nil
 | cons x l ih=>
  rw [List.nodup_cons] at h
  rw [List.map_cons,List.nodup_cons]
  refine ⟨fun hm=>?_,ih h.2 (fun i hi j hj=>hk i (List.mem_cons_of_mem _ hi) j (List.mem_cons_of_mem _ hj))⟩
  obtain ⟨y,hy,e⟩:=List.mem_map.1 hm
  have:=hk y (List.mem_cons_of_mem _ hy) x (by simp) e
  exact h.1 (this ▸ hy)
section
variable {κ:Type} [DecidableEq κ]
def fstK (n:Nat)(P:Nat→Bool)(K:Nat→κ):List Nat:=(List.range n).filter fun i=>P i&&(List.range i).all fun j=>!(P j&&decide (K j=K i))
theorem fstK_mem {n:Nat}{P:Nat→Bool}{K:Nat→κ}{i:Nat}:i∈fstK n P K ↔ i<n∧P i=true∧∀ j,j<i→P j=true→K j≠K i:=by
 unfold fstK
 rw [List.mem_filter,List.mem_range,Bool.and_eq_true,List.all_eq_true]
 constructor
 ·rintro ⟨h1,h2,h3⟩
  refine ⟨h1,h2,fun j hj hp e=>?_⟩
  have:=h3 j (List.mem_range.2 hj)
  rw [hp,decide_eq_true e] at this
  exact absurd this (by decide)
 ·rintro ⟨h1,h2,h3⟩
  refine ⟨h1,h2,fun j hj=>?_⟩
  have:=h3 j (List.mem_range.1 hj)
  cases hp:P j with
  | false=>rfl
  | true=>rw [decide_eq_false (this hp)];rfl
theorem fstK_ex {n:Nat}{P:Nat→Bool}{K:Nat→κ}:∀ (i:Nat),i<n→P i=true→∃ j∈fstK n P K,K j=K i∧j≤i:=by
 intro i
 induction i using Nat.strongRecOn with
 | _ i ih=>
  intro hi hp
  by_cases h:∃ j,j<i∧P j=true∧K j=K i
  ·obtain ⟨j,hj,hpj,hk⟩:=h
   obtain ⟨m,hm,hmk,hle⟩:=ih j hj (by omega) hpj
   exact ⟨m,hm,hmk.trans hk,by omega⟩
  ·exact ⟨i,fstK_mem.2 ⟨hi,hp,fun j hj hpj e=>h ⟨j,hj,hpj,e⟩⟩,rfl,Nat.le_refl _⟩
theorem fstK_one {n:Nat}{P:Nat→Bool}{K:Nat→κ}{i j:Nat}(hi:i∈fstK n P K)(hj:j∈fstK n P K)(e:K i=K j):i=j:=by
 obtain ⟨_,pi,fi⟩:=fstK_mem.1 hi
 obtain ⟨_,pj,fj⟩:=fstK_mem.1 hj
 rcases Nat.lt_trichotomy i j with h | h | h
 ·exact absurd e (fj i h pi)
 ·exact h
 ·exact absurd e.symm (fi j h pj)
theorem fstK_nodup {n:Nat}{P:Nat→Bool}{K:Nat→κ}:(fstK n P K).Nodup:=nodup_filt _ List.nodup_range
end
def failB (f:Fct):Bool:=decide (f.kd=10)&&decide (f.co=24) && !noneN f.cp f.cr
inductive Who where
 | from (k:Int) (b:List UInt8)
 | client (p:List (List UInt8)) (r:List UInt8)
 deriving DecidableEq
def who (ad:Bool)(f:Fct):Who:=if ad then .from f.fk f.fb else .client f.cp f.cr
def dftF:Fct:=⟨0,0,0,0,[],[],[],[],[],0,0,0#32⟩
def atF (l:List Fct)(i:Nat):Fct:=l[i]?.getD dftF
def winF (l:List Fct)(w:Int)(ad:Bool)(i:Nat):List Nat:=(List.range (i+1)).filter fun j=>failB (atF l j)&&decide (who ad (atF l j)=who ad (atF l i))&&decide ((atF l i).t-w≤(atF l j).t)
def cntF (l:List Fct)(w:Int)(ad:Bool)(i:Nat):Nat:=if ad then (fstK (i+1) (fun j=>(winF l w ad i).contains j) (fun j=>who false (atF l j))).length else (winF l w ad i).length
def hitF (l:List Fct)(w lim:Int)(ad:Bool)(i:Nat):Bool:=failB (atF l i)&&decide (lim≤(cntF l w ad i:Int))
def almF (l:List Fct)(w lim:Int)(ad:Bool):List Nat:=fstK l.length (hitF l w lim ad) (fun i=>who ad (atF l i))
end Go.Proofs.YtnjmndofcpnmeaaGreatDoor
namespace Go.Proofs.YtnjmndofcpnmeaaGreatDoor
open Go Go.Lib
set_option linter.unusedVariables false
theorem filt_succ (n:Nat)(Q:Nat→Bool):(List.range (n+1)).filter Q=(List.range n).filter Q++(if Q n then [n] else []):=by
 rw [List.range_succ,List.filter_append]
 congr 1
 cases h:Q n
 ·rw [List.filter_cons,h];rfl
 ·rw [List.filter_cons,h];rfl
theorem filt_take {Q:Nat→Bool}:∀ (n p i:Nat),((List.range n).filter Q)[p]? = some i→((List.range n).filter Q).take (p+1)=(List.range (i+1)).filter Q
 | 0,p,i,h=>by simp at h
 | n+1,p,i,h=>by
  rw [filt_succ] at h ⊢
  by_cases hp:p<((List.range n).filter Q).length
  ·rw [List.getElem?_append_left hp] at h
   rw [List.take_append_of_le_length (by omega)]
   exact filt_take n p i h
  ·rw [List.getElem?_append_right (by omega)] at h
   cases hq:Q n with
   | false=>rw [hq] at h;simp at h
   | true=>
    rw [hq,if_pos rfl] at h
    obtain ⟨h1,h2⟩:p-((List.range n).filter Q).length=0∧n=i:=by
     cases hx:p-((List.range n).filter Q).length with
     | zero=>rw [hx] at h;exact ⟨rfl,by simpa using h⟩
     | succ m=>rw [hx] at h;simp at h
    subst h2
    rw [if_pos rfl,List.take_of_length_le (by rw [List.length_append,List.length_singleton];omega),filt_succ,hq,if_pos rfl]
theorem filt_drop {α:Type} {R:α→Bool}:∀ (h:List α) (low:Nat),low≤h.length→(∀ q (hq:q<h.length),q<low→R h[q]=false)→(∀ q (hq:q<h.length),low≤q→R h[q]=true)→h.filter R=h.drop low
 | [],low,_,_,_=>by simp
 | x::h,0,_,_,k=>by
  have h0:=k 0 (by simp) (by omega)
  rw [List.drop_zero,List.filter_cons,show R x=true from h0,if_pos rfl]
  have:=filt_drop h 0 (by omega) (fun q hq hl=>absurd hl (by omega)) (fun q hq _=>k (q+1) (by simpa using hq) (by omega))
  rw [this,List.drop_zero]
 | x::h,low+1,hle,m,k=>by
  have h0:=m 0 (by simp) (by omega)
  rw [List.drop_succ_cons,List.filter_cons,show R x=false from h0,if_neg (by simp)]
  exact filt_drop h low (by simpa using hle) (fun q hq hl=>m (q+1) (by simpa using hq) (by omega)) (fun q hq hl=>k (q+1) (by simpa using hq) (by omega))
def grpF (l:List Fct)(ad:Bool)(x:Who):List Nat:=(List.range l.length).filter fun j=>failB (atF l j)&&decide (who ad (atF l j)=x)
theorem grp_mem {l:List Fct}{ad:Bool}{x:Who}{i:Nat}:i∈grpF l ad x ↔ i<l.length∧failB (atF l i)=true∧who ad (atF l i)=x:=by
 unfold grpF
 rw [List.mem_filter,List.mem_range,Bool.and_eq_true,decide_eq_true_eq]
def ordT (l:List Fct):Prop:=∀ i j,i≤j→j<l.length→(atF l i).t≤(atF l j).t
theorem grp_sorted {l:List Fct}{ad:Bool}{x:Who}:(grpF l ad x).Pairwise (· < ·):=List.Pairwise.filter _ List.pairwise_lt_range
theorem win_slice {l:List Fct} (ho:ordT l) {w:Int} {ad:Bool} {x:Who} {p low i:Nat} (hp:(grpF l ad x)[p]? = some i) (hlow:low≤p+1)
  (h1:∀ q j,q<low→(grpF l ad x)[q]? = some j→(atF l j).t<(atF l i).t-w)
  (h2:∀ j,(grpF l ad x)[low]? = some j→low≤p→(atF l i).t-w≤(atF l j).t):winF l w ad i=((grpF l ad x).take (p+1)).drop low:=by
 have hi:=grp_mem.1 (List.mem_of_getElem? hp)
 have hpl:p<(grpF l ad x).length:=(List.getElem?_eq_some_iff.1 hp).1
 have ht:=filt_take (Q:=fun j=>failB (atF l j)&&decide (who ad (atF l j)=x)) l.length p i hp
 have hw:winF l w ad i=((grpF l ad x).take (p+1)).filter fun j=>decide ((atF l i).t-w≤(atF l j).t):=by
  unfold winF
  rw [show (grpF l ad x).take (p+1)=(List.range (i+1)).filter (fun j=>failB (atF l j)&&decide (who ad (atF l j)=x)) from ht,List.filter_filter,hi.2.2]
  congr 1
  funext j
  rw [Bool.and_comm]
 rw [hw]
 have hlen:((grpF l ad x).take (p+1)).length=p+1:=by rw [List.length_take];omega
 refine filt_drop _ low (by omega) (fun q hq hl=>?_) (fun q hq hl=>?_)
 ·rw [decide_eq_false_iff_not]
  have:=h1 q (((grpF l ad x).take (p+1))[q]) hl (by rw [List.getElem_take];exact List.getElem?_eq_getElem _)
  omega
 ·rw [decide_eq_true_eq]
  have hlp:low≤p:=by omega
  have h3:=h2 ((grpF l ad x)[low]'(by omega)) (List.getElem?_eq_getElem _) hlp
  have h4:(grpF l ad x)[low]'(by omega)≤(grpF l ad x)[q]'(by omega):=by
   rcases Nat.lt_or_eq_of_le hl with h | rfl
   ·exact Nat.le_of_lt (List.pairwise_iff_getElem.1 grp_sorted low q (by omega) (by omega) h)
   ·exact Nat.le_refl _
  have h5:=ho _ _ h4 (grp_mem.1 (List.getElem_mem (by omega:q<(grpF l ad x).length))).1
  rw [List.getElem_take]
  omega
theorem hit_fail {l:List Fct}{w lim:Int}{ad:Bool}{i:Nat}(h:hitF l w lim ad i=true):failB (atF l i)=true:=by
 unfold hitF at h
 rw [Bool.and_eq_true] at h
 exact h.1
theorem alm_lt {l:List Fct}{w lim:Int}{ad:Bool}{i:Nat}(h:i∈almF l w lim ad):i<l.length:=(fstK_mem.1 h).1
theorem find_alm {l:List Fct}{w lim:Int}{ad:Bool}{x:Who}{i:Nat}:(grpF l ad x).find? (hitF l w lim ad)=some i ↔ i∈almF l w lim ad∧who ad (atF l i)=x:=by
 rw [List.find?_eq_some_iff_getElem]
 constructor
 ·rintro ⟨hh,p,hp,rfl,hb⟩
  have hm:=grp_mem.1 (List.getElem_mem hp)
  refine ⟨fstK_mem.2 ⟨hm.1,hh,fun j hj hhj e=>?_⟩,hm.2.2⟩
  have hjm:j∈grpF l ad x:=grp_mem.2 ⟨by omega,hit_fail hhj,e.trans hm.2.2⟩
  obtain ⟨q,hq,rfl⟩:=List.getElem_of_mem hjm
  have hqp:q<p:=by
   rcases Nat.lt_trichotomy q p with h | h | h
   ·exact h
   ·subst h;omega
   ·have:=List.pairwise_iff_getElem.1 (grp_sorted (l:=l) (ad:=ad) (x:=x)) p q hp hq h
    omega
  have:=hb q hqp
  rw [hhj] at this
  exact absurd this (by decide)
 ·rintro ⟨hm,rfl⟩
  obtain ⟨h1,h2,h3⟩:=fstK_mem.1 hm
  have hmem:i∈grpF l ad (who ad (atF l i)):=grp_mem.2 ⟨h1,hit_fail h2,rfl⟩
  obtain ⟨p,hp,hpi⟩:=List.getElem_of_mem hmem
  refine ⟨h2,p,hp,hpi,fun q hq=>?_⟩
  have hql:q<(grpF l ad (who ad (atF l i))).length:=by omega
  have hlt:=List.pairwise_iff_getElem.1 (grp_sorted (l:=l) (ad:=ad) (x:=who ad (atF l i))) q p hql hp hq
  rw [hpi] at hlt
  cases hh:hitF l w lim ad ((grpF l ad (who ad (atF l i)))[q]) with
  | false=>rfl
  | true=>exact absurd (grp_mem.1 (List.getElem_mem hql)).2.2 (h3 _ hlt hh)
theorem rise_eq:∀ {a b:List Nat},a.Pairwise (· < ·)→b.Pairwise (· < ·)→(∀ x,x∈a ↔ x∈b)→a=b
 | [],[],_,_,_=>rfl
 | [],y::b,_,_,h=>absurd ((h y).2 (by simp)) (by simp)
 | x::a,[],_,_,h=>absurd ((h x).1 (by simp)) (by simp)
 | x::a,y::b,ha,hb,h=>by
  rw [List.pairwise_cons] at ha hb
  have hxy:x=y:=by
   rcases List.mem_cons.1 ((h x).1 (by simp)) with e | e
   ·exact e
   ·rcases List.mem_cons.1 ((h y).2 (by simp)) with e' | e'
    ·exact e'.symm
    ·have h1:=hb.1 x e
     have h2:=ha.1 y e'
     omega
  subst hxy
  have:a=b:=rise_eq ha.2 hb.2 fun z=>by
   constructor
   ·intro hz
    rcases List.mem_cons.1 ((h z).1 (List.mem_cons_of_mem _ hz)) with e | e
    ·have:=ha.1 z hz;omega
    ·exact e
   ·intro hz
    rcases List.mem_cons.1 ((h z).2 (List.mem_cons_of_mem _ hz)) with e | e
    ·have:=hb.1 z hz;omega
    ·exact e
  rw [this]
theorem alm_sorted {l:List Fct}{w lim:Int}{ad:Bool}:(almF l w lim ad).Pairwise (· < ·):=List.Pairwise.filter _ List.pairwise_lt_range
theorem alms_of {l:List Fct}{w lim:Int}{ad:Bool}{f:List Nat}(hs:f.Pairwise (· < ·))(h:∀ i,i∈f ↔ ∃ x,(grpF l ad x).find? (hitF l w lim ad)=some i):f=almF l w lim ad:=
 rise_eq hs alm_sorted fun i=>by
  rw [h]
  constructor
  ·rintro ⟨x,hx⟩;exact (find_alm.1 hx).1
  ·intro hi;exact ⟨_,find_alm.2 ⟨hi,rfl⟩⟩
theorem mem_eq_len {α:Type} [DecidableEq α]{a b:List α}(ha:a.Nodup)(hb:b.Nodup)(h:∀ x,x∈a ↔ x∈b):a.length=b.length:=
 Nat.le_antisymm (nodup_le ha fun x hx=>(h x).1 hx) (nodup_le hb fun x hx=>(h x).2 hx)
theorem cnt_any {l:List Fct}{w:Int}{i:Nat}{ks:List Who}(hd:ks.Nodup)(h:∀ x,x∈ks ↔ ∃ j∈winF l w true i,who false (atF l j)=x):cntF l w true i=ks.length:=by
 unfold cntF
 rw [if_pos rfl]
 have h1:((fstK (i+1) (fun j=>(winF l w true i).contains j) (fun j=>who false (atF l j))).map (fun j=>who false (atF l j))).Nodup:=nodup_mapK fstK_nodup fun a ha b hb=>fstK_one ha hb
 have:=mem_eq_len h1 hd fun x=>by
  rw [h]
  constructor
  ·intro hx
   obtain ⟨j,hj,e⟩:=List.mem_map.1 hx
   have:=(fstK_mem.1 hj).2.1
   rw [List.contains_iff_mem] at this
   exact ⟨j,this,e⟩
  ·rintro ⟨j,hj,rfl⟩
   have hji:j<i+1:=by
    unfold winF at hj
    exact List.mem_range.1 (List.mem_filter.1 hj).1
   obtain ⟨m,hm,e,_⟩:=fstK_ex (n:=i+1) (P:=fun j=>(winF l w true i).contains j) (K:=fun j=>who false (atF l j)) j hji (by rw [List.contains_iff_mem];exact hj)
   exact List.mem_map.2 ⟨m,hm,e⟩
 rw [← this,List.length_map]
theorem cnt_win {l:List Fct}{w:Int}{i:Nat}:cntF l w false i=(winF l w false i).length:=by unfold cntF;rw [if_neg (by decide)]
def addK {α:Type} [DecidableEq α](ks:List α)(x:α):List α:=if x∈ks then ks else ks++[x]
theorem addK_mem {α:Type} [DecidableEq α]{ks:List α}{x y:α}:y∈addK ks x ↔ y∈ks∨y=x:=by
 unfold addK
 split
 ·next h=>exact ⟨.inl,fun k=>k.elim id fun e=>e ▸ h⟩
 ·simp
theorem addK_nodup {α:Type} [DecidableEq α]{ks:List α}{x:α}(h:ks.Nodup):(addK ks x).Nodup:=by
 unfold addK
 split
 ·exact h
 ·next hx=>
  rw [List.nodup_append]
  refine ⟨h,by simp,fun a ha b hb=>?_⟩
  rw [List.mem_singleton] at hb
  subst hb
  exact fun e=>hx (e ▸ ha)
def codF (l:List Fct)(c:Int):Nat:=(l.filter fun f=>decide (f.co=c)).length
def keyP:List (List UInt8)→List UInt8
 | []=>[]
 | p::r=>32::(itoa (p.length:Int)++32::(p++keyP r))
def keyN (p:List (List UInt8))(r:List UInt8):List UInt8:=itoa (p.length:Int)++(keyP p++32::r)
def keyA (k:Int)(b:List UInt8):List UInt8:=itoa k++32::b
theorem keyP_snoc:∀ (ls:List (List UInt8)) (p:List UInt8),keyP (ls++[p])=keyP ls++(32::(itoa (p.length:Int)++32::p))
 | [],p=>by simp [keyP]
 | q::r,p=>by rw [List.cons_append,keyP,keyP_snoc r p,keyP];simp
theorem itoa_no32 (x:Int):(32:UInt8) ∉ itoa x:=by
 unfold itoa
 split
 ·intro h
  rcases List.mem_cons.1 h with h | h
  ·exact absurd h (by decide)
  ·exact dec_no _ _ (by decide) h
 ·exact dec_no _ _ (by decide)
theorem dec_no45 (n:Nat):(45:UInt8) ∉ decDigits n:=dec_no _ _ (by decide)
theorem itoa_injZ {x y:Int}(e:itoa x=itoa y):x=y:=by
 unfold itoa at e
 split at e
 ·split at e
  ·injection e with _ e
   have:=dec_inj e
   omega
  ·exact absurd (e ▸ List.mem_cons_self) (dec_no45 _)
 ·split at e
  ·exact absurd (e ▸ List.mem_cons_self) (dec_no45 _)
  ·have:=dec_inj e
   omega
theorem keyA_inj {k k':Int}{b b':List UInt8}(e:keyA k b=keyA k' b'):k=k'∧b=b':=by
 obtain ⟨e1,e2⟩:=app_sep (itoa_no32 k) (itoa_no32 k') e
 exact ⟨itoa_injZ e1,e2⟩
theorem keyP_inj:∀ {p q:List (List UInt8)} {a b:List UInt8},p.length=q.length→keyP p++a=keyP q++b→p=q∧a=b
 | [],[],a,b,_,e=>⟨rfl,e⟩
 | [],_::_,a,b,h,_=>by simp at h
 | _::_,[],a,b,h,_=>by simp at h
 | x::p,y::q,a,b,h,e=>by
  rw [keyP,keyP] at e
  simp only [List.cons_append,List.append_assoc] at e
  injection e with _ e
  obtain ⟨e1,e2⟩:=app_sep (itoa_no32 _) (itoa_no32 _) e
  have hl:x.length=y.length:=by have:=itoa_injZ e1;omega
  obtain ⟨e3,e4⟩:=List.append_inj e2 hl
  obtain ⟨e5,e6⟩:=keyP_inj (by simpa using h) e4
  exact ⟨by rw [e3,e5],e6⟩
theorem keyN_inj {p q:List (List UInt8)}{r s:List UInt8}(e:keyN p r=keyN q s):p=q∧r=s:=by
 unfold keyN at e
 have hs:∀ (p:List (List UInt8)) (r:List UInt8),∃ t,keyP p++32::r=32::t:=fun p r=>by
  cases p with
  | nil=>exact ⟨r,rfl⟩
  | cons x p=>exact ⟨_,by rw [keyP];rfl⟩
 obtain ⟨t,ht⟩:=hs p r
 obtain ⟨u,hu⟩:=hs q s
 have e':=e
 rw [ht,hu] at e'
 obtain ⟨e1,e2⟩:=app_sep (itoa_no32 _) (itoa_no32 _) e'
 have hl:p.length=q.length:=by have:=itoa_injZ e1;omega
 have e3:keyP p++32::r=keyP q++32::s:=by rw [ht,hu,e2]
 obtain ⟨e4,e5⟩:=keyP_inj hl e3
 injection e5 with _ e5
 exact ⟨e4,e5⟩
end Go.Proofs.YtnjmndofcpnmeaaGreatDoor
namespace Go.Proofs.YtnjmndofcpnmeaaGreatDoor
open Go Go.Lib Go.Maps
open Go.ChangeShapes (lits)
set_option linter.unusedVariables false
def grpK (n:Nat)(P:Nat→Bool)(K:Nat→List UInt8)(s:List UInt8):List Nat:=(List.range n).filter fun j=>P j&&decide (K j=s)
theorem grpK_zero (P:Nat→Bool)(K:Nat→List UInt8)(s:List UInt8):grpK 0 P K s=[]:=rfl
theorem grpK_succ (n:Nat)(P:Nat→Bool)(K:Nat→List UInt8)(s:List UInt8):grpK (n+1) P K s=grpK n P K s++(if P n&&decide (K n=s) then [n] else []):=filt_succ n _
theorem grpK_mem {n:Nat}{P:Nat→Bool}{K:Nat→List UInt8}{s:List UInt8}{i:Nat}:i∈grpK n P K s ↔ i<n∧P i=true∧K i=s:=by
 unfold grpK
 rw [List.mem_filter,List.mem_range,Bool.and_eq_true,decide_eq_true_eq]
theorem grpK_ne {n:Nat}{P:Nat→Bool}{K:Nat→List UInt8}{s:List UInt8}:grpK n P K s≠[] ↔ ∃ j,j<n∧P j=true∧K j=s:=by
 rw [List.ne_nil_iff_length_pos,List.length_pos_iff_exists_mem]
 exact ⟨fun ⟨j,h⟩=>⟨j,grpK_mem.1 h⟩,fun ⟨j,h⟩=>⟨j,grpK_mem.2 h⟩⟩
def zI (l:List Nat):List Int:=l.map fun n:Nat=>(n:Int)
theorem zI_append (a b:List Nat):zI (a++b)=zI a++zI b:=by simp [zI]
theorem zI_len (a:List Nat):(zI a).length=a.length:=by simp [zI]
section
variable {H:Type}
theorem lits_inj {a b:List Int}(h:lits (H:=H) .i64 a=lits .i64 b):a=b:=by
 unfold lits at h
 refine (List.map_inj_right (fun x y e=>?_)).1 h
 injection e with e
 injection e
structure GD (D:DataW H) (n:Nat) (P:Nat→Bool) (K:Nat→List UInt8):Prop where
 map:IsMap D
 has:∀ s,Maps.has D (.string s)=true ↔ grpK n P K s≠[]
 at_:∀ s,grpK n P K s≠[]→∀ z,D.atKey (.string s) z=.slice (lits .i64 (zI (grpK n P K s))) []
theorem GD.start (P:Nat→Bool)(K:Nat→List UInt8):GD (.map []:DataW H) 0 P K:=
 ⟨isMap_empty,fun s=>by simp [Maps.has,grpK_zero],fun s h=>absurd rfl h⟩
theorem GD.skip {D:DataW H}{n:Nat}{P:Nat→Bool}{K:Nat→List UInt8}(h:GD D n P K)(hp:P n=false):GD D (n+1) P K:=by
 have e:∀ s,grpK (n+1) P K s=grpK n P K s:=fun s=>by rw [grpK_succ,hp];simp
 exact ⟨h.map,fun s=>by rw [e];exact h.has s,fun s hs=>by rw [e] at hs ⊢;exact h.at_ s hs⟩
theorem GD.look {w:World} {base:Nat} {e:TypeId} {v:Value} {zs:List Int} {D:DataW H} {n:Nat} {P:Nat→Bool} {K:Nat→List UInt8} (h:GD D n P K) (s:List UInt8) (ho:w.ownsInts base e .i64 v zs)
  (hat:D.atKey (.string s) .nil=rowDatum .i64 v zs):zs=zI (grpK n P K s):=by
 by_cases hg:grpK n P K s=[]
 ·have hn:Maps.has D (.string s)=false:=by
   cases hh:Maps.has D (.string s) with
   | false=>rfl
   | true=>exact absurd hg ((h.has s).1 hh)
  rw [atKey_of_not_has hn] at hat
  rw [hg]
  rcases ho.datum (H:=H) with ⟨_,h1⟩ | h1
  ·exact h1
  ·rw [h1] at hat;cases hat
 ·rw [h.at_ s hg] at hat
  rcases ho.datum (H:=H) with ⟨h1,_⟩ | h1
  ·rw [h1] at hat;cases hat
  ·rw [h1] at hat
   injection hat with hat _
   exact (lits_inj hat).symm
theorem GD.step {zs:List Int}{D:DataW H}{n:Nat}{P:Nat→Bool}{K:Nat→List UInt8}(h:GD D n P K)(hp:P n=true)(hz:zs=zI (grpK n P K (K n))):GD (D.put (.string (K n)) (.slice (lits .i64 (zs++[(n:Int)])) [])) (n+1) P K:=by
 have e1:grpK (n+1) P K (K n)=grpK n P K (K n)++[n]:=by rw [grpK_succ,hp];simp
 have e2:∀ s,s≠K n→grpK (n+1) P K s=grpK n P K s:=fun s hs=>by rw [grpK_succ,hp,decide_eq_false (fun e=>hs e.symm)];simp
 have hlit:∀ s,s≠K n→(Lit.string s)≠.string (K n):=fun s hs e=>hs (by injection e)
 refine ⟨h.map.put _ _,fun s=>?_,fun s hs z=>?_⟩
 ·by_cases hk:s=K n
  ·subst hk
   rw [has_put_same h.map (by trivial),e1]
   simp
  ·rw [has_put_other (hlit s hk),e2 s hk]
   exact h.has s
 ·by_cases hk:s=K n
  ·subst hk
   rw [atKey_put_same h.map (by trivial),e1,hz,zI_append]
   rfl
  ·rw [atKey_put_other (hlit s hk),e2 s hk]
   rw [e2 s hk] at hs
   exact h.at_ s hs z
end
def keyF (ad:Bool)(f:Fct):List UInt8:=if ad then keyA f.fk f.fb else keyN f.cp f.cr
theorem keyF_inj {ad:Bool}{f g:Fct}:keyF ad f=keyF ad g ↔ who ad f=who ad g:=by
 unfold keyF who
 cases ad with
 | true=>
  simp only [if_pos]
  constructor
  ·intro h;obtain ⟨h1,h2⟩:=keyA_inj h;rw [h1,h2]
  ·intro h;injection h with h1 h2;rw [h1,h2]
 | false=>
  simp only [Bool.false_eq_true,if_false]
  constructor
  ·intro h;obtain ⟨h1,h2⟩:=keyN_inj h;rw [h1,h2]
  ·intro h;injection h with h1 h2;rw [h1,h2]
theorem grpK_F {l:List Fct}{ad:Bool}{i:Nat}:grpK l.length (fun j=>failB (atF l j)) (fun j=>keyF ad (atF l j)) (keyF ad (atF l i))=grpF l ad (who ad (atF l i)):=by
 unfold grpK grpF
 congr 1
 funext j
 rw [decide_eq_decide.2 keyF_inj]
end Go.Proofs.YtnjmndofcpnmeaaGreatDoor
