/- Pq29. -/
import Derived.Test.YtnjmndofcpnmeaaGreatDoorPq25
import Derived.Test.YtnjmndofcpnmeaaGreatDoorPq18
import Derived.Test.YtnjmndofcpnmeaaGreatDoorPq5
import Derived.Test.YtnjmndofcpnmeaaGreatDoorPq26
import Derived.Test.YtnjmndofcpnmeaaGreatDoorPq11
import Derived.Test.YtnjmndofcpnmeaaGreatDoorPq1
import Derived.Test.YtnjmndofcpnmeaaGreatDoorPq22
import Derived.Test.YtnjmndofcpnmeaaGreatDoorPq3
import Derived.KernelRfl
import Derived.Test.YtnjmndofcpnmeaaGreatDoorPq17
import Derived.Test.YtnjmndofcpnmeaaGreatDoorPq15
import Derived.Lib.SlBytesConst
namespace Go.Proofs.YtnjmndofcpnmeaaGreatDoor
open Go Go.RowKit
set_option linter.unusedVariables false
def digB (c:UInt8):Bool:=decide (48≤c.toNat∧c.toNat≤57)
theorem num_step (n c:Nat)(hn:n<1000000000000000)(h1:48≤c)(h2:c≤57):Value.int .i64 (wrap64 (wrap64 (10*(n:Int))+((c:Int)-48)))=.int .i64 ((10*n+(c-48):Nat):Int):=by
 rw [IntWalk.wrap64_in (10*(n:Int)) (by omega),IntWalk.wrap64_in _ (by omega)]
 congr 1
 omega
set_option maxRecDepth 100000 in
set_option maxHeartbeats 1600000 in
theorem RNumber_at (s:ByteArray) (hs:s.size≤3000) (w:World):
  Calls Tryz.prog 91 #[.string s] w fun e w'=>e=.returned (.int .i64 (numR s.data.toList))∧w'=w:=by
 obtain ⟨R,hR⟩:∃ R,numR s.data.toList=R:=⟨_,rfl⟩
 have HR:=Lib.hid (show (if s.size=0∨15<s.size then -1 else if s.data.toList.all digB then (valD 0 s.data.toList:Int) else -1)=R by rw [← hR];unfold numR;rw [size_list];rfl)
 rw [hR]
 clear hR
 by_cases hz:s.size=0
 ·have e0:((s.size:Int)==0)=true:=by rw [hz];rfl
  have HT:=Lib.hid (show -1=R by rw [← HR.out,if_pos (.inl hz)])
  clear hz
  go_enter Tryz.func91,Tryz.ntmps91
  go_wp2_with fail
  go_ret
  exact ⟨by rw [← HT.out];rfl,rfl⟩
 have e0:((s.size:Int)==0)=false:=by rw [beq_eq_false_iff_ne];omega
 by_cases h15:15<s.size
 ·have e15:(15:Int)<(s.size:Int):=by omega
  have HT:=Lib.hid (show -1=R by rw [← HR.out,if_pos (.inr h15)])
  clear hz
  go_enter Tryz.func91,Tryz.ntmps91
  go_wp2_with fail
  go_ret
  exact ⟨by rw [← HT.out];rfl,rfl⟩
 have e15:(s.size:Int)≤15:=by omega
 have HT:=Lib.hid (show (if s.data.toList.all digB then (valD 0 s.data.toList:Int) else -1)=R by rw [← HR.out,if_neg (show ¬ (s.size=0∨15<s.size) by omega)])
 clear hz h15 HR
 go_enter Tryz.func91,Tryz.ntmps91
 go_wp2_with fail
 clear e0
 go_loopw [3,4] (fun v i wr=>∃ k n:Nat,k≤s.size∧i=.int .i64 k∧v=.int .i64 (n:Int)∧Hid ((s.data.toList.take k).all digB=true)∧Hid (n=valD 0 (s.data.toList.take k))∧Hid (n<10 ^ k)∧wr=w) (fun _ i _=>s.size-(intOf i).toNat)
 case atStart=>exact ⟨0,0,Nat.zero_le _,rfl,rfl,Lib.hid rfl,Lib.hid rfl,Lib.hid (by decide),rfl⟩
 case round=>
  obtain ⟨k,n,hk,rfl,rfl,HA,HN,HB,rfl⟩:=hrel
  by_cases hlt:k<s.size
  ·have htk:s.data.toList.take (k+1)=s.data.toList.take k++[s[k]]:=by rw [List.take_succ_eq_append_getElem (by rw [size_list];exact hlt),byte_at s k hlt]
   have HTK:=Lib.hid htk
   clear htk
   by_cases h48:s[k].toNat<48
   ·have f1:(s[k].toNat:Int)<48:=by omega
    have HX:=Lib.hid (show -1=R by
     rw [← HT.out,if_neg]
     rw [Bool.not_eq_true]
     refine List.all_eq_false.2 ⟨s[k],?_,?_⟩
     ·rw [← byte_at s k hlt];exact List.getElem_mem _
     ·unfold digB;rw [decide_eq_false (by omega)];simp)
    clear h48
    go_wp2_with fail
    go_ret
    exact ⟨by rw [← HX.out];rfl,rfl⟩
   ·have f1:48≤(s[k].toNat:Int):=by omega
    by_cases h57:57<s[k].toNat
    ·have f2:57<(s[k].toNat:Int):=by omega
     have HX:=Lib.hid (show -1=R by
      rw [← HT.out,if_neg]
      rw [Bool.not_eq_true]
      refine List.all_eq_false.2 ⟨s[k],?_,?_⟩
      ·rw [← byte_at s k hlt];exact List.getElem_mem _
      ·unfold digB;rw [decide_eq_false (by omega)];simp)
     clear h48 h57
     go_wp2_with fail
     go_ret
     exact ⟨by rw [← HX.out];rfl,rfl⟩
    ·have f2:(s[k].toNat:Int)≤57:=by omega
     have HD:=Lib.hid (show digB s[k]=true by unfold digB;exact decide_eq_true (by omega))
     have hnb:n<1000000000000000:=by
      have h1:=HB.out
      have h2:10 ^ k≤10 ^ 15:=Nat.pow_le_pow_right (by decide) (by omega)
      omega
     have HNB:=Lib.hid hnb
     have HST:=Lib.hid (num_step n s[k].toNat hnb (by omega) (by omega))
     have HC:=Lib.hid (show 10*n+(s[k].toNat-48)<10 ^ (k+1) by have:=HB.out;rw [Nat.pow_succ];omega)
     clear h48 h57 hnb
     go_wp2_with fail
     go_roundw
     case rel=>exact ⟨k+1,10*n+(s[k].toNat-48),by omega,by go_num,HST.out,Lib.hid (by rw [HTK.out,List.all_append,HA.out];simp [HD.out]),Lib.hid (by rw [HTK.out,valD_append,← HN.out,valD_one]),HC,trivial⟩
     case measure=>simp [intOf];omega
  ·obtain rfl:k=s.size:=by omega
   have HX:=Lib.hid (show (n:Int)=R by
    have h1:=HA.out
    have h2:=HN.out
    rw [List.take_of_length_le (by rw [size_list];exact Nat.le_refl _)] at h1 h2
    rw [← HT.out,if_pos h1,h2])
   go_wp2_with fail
   go_ret
   exact ⟨by rw [← HX.out];rfl,rfl⟩
end Go.Proofs.YtnjmndofcpnmeaaGreatDoor
namespace Go.Proofs.YtnjmndofcpnmeaaGreatDoor
open Go Go.RowKit Go.Lib
set_option linter.unusedVariables false
def jnTo (f:W32)(k:Nat):List UInt8:=Lib.join ((nmL (bitsTo f k)).map (·.data.toList)) [44]
theorem nm_pos:((List.range 12).all fun k=>!(nmS k).data.toList.isEmpty)=true:=by kernel_rfl
theorem nm_pos' {k:Nat}(hk:k<12):(nmS k).data.toList≠[]:=fun e=>by
 have:=List.all_eq_true.1 nm_pos k (List.mem_range.2 hk)
 rw [e] at this
 cases this
theorem jnTo_no {f:W32}{k:Nat}(h:isF f k=false):jnTo f (k+1)=jnTo f k:=by unfold jnTo;rw [bitsTo_no h]
theorem jn_snoc44:∀ (ls:List (List UInt8)) (x:List UInt8),Lib.join (ls++[x]) [44]=if ls=[] then x else Lib.join ls [44]++[44]++x
 | [],x=>by simp [join_one]
 | [y],x=>by simp [join_cons,joinTail]
 | y::z::r,x=>by
  rw [if_neg (by simp),List.cons_append,join_cons,join_cons]
  unfold joinTail
  simp
theorem jnTo_yes {f:W32}{k:Nat}(h:isF f k=true):jnTo f (k+1)=if bitsTo f k=[] then (nmS k).data.toList else jnTo f k++[44]++(nmS k).data.toList:=by
 unfold jnTo
 rw [bitsTo_yes h]
 unfold nmL
 rw [List.map_append,List.map_append,List.map_cons,List.map_nil,List.map_cons,List.map_nil,jn_snoc44]
 simp
theorem jnTo_nil {f:W32}{k:Nat}(hk:k≤12):jnTo f k=[] ↔ bitsTo f k=[]:=by
 constructor
 ·intro h
  cases hb:bitsTo f k with
  | nil=>rfl
  | cons x r=>
   have hx:x<12:=by
    have:x∈bitsTo f k:=by rw [hb];simp
    unfold bitsTo at this
    have:=(List.mem_filter.1 this).1
    have:=List.mem_range.1 this
    omega
   unfold jnTo nmL at h
   rw [hb,List.map_cons,List.map_cons,join_cons] at h
   exact absurd (List.append_eq_nil_iff.1 h).1 (nm_pos' hx)
 ·intro h
  unfold jnTo
  rw [h];rfl
theorem jnTo_len (f:W32)(k:Nat)(hk:k≤12):(jnTo f k).length≤200:=by
 unfold jnTo
 have h:=join_len ((nmL (bitsTo f k)).map (·.data.toList)) (fun l hl=>by
  obtain ⟨s,hs,rfl⟩:=List.mem_map.1 hl
  unfold nmL at hs
  obtain ⟨j,_,rfl⟩:=List.mem_map.1 hs
  rw [size_list]
  exact nmS_len j)
 have h2:=bitsTo_len f k
 unfold nmL at h ⊢
 rw [List.length_map,List.length_map] at h
 omega
theorem bitsTo_12 {f:W32}(hv:tkB f=true):bitsTo f 12=bitsF f:=by
 have h4:∀ k,12≤k→k<32→isF f k=false:=fun k h1 h2=>by
  rw [isF_bit (tk_nm hv) k h2]
  cases hb:f.getLsbD k with
  | false=>rfl
  | true=>
   have h3:=(hasB_iff tkM f).1 hv k h2 hb
   have h4:((List.range 32).all fun k=>decide (k<12) || !tkM.getLsbD k)=true:=by decide
   have h5:=List.all_eq_true.1 h4 k (List.mem_range.2 h2)
   rw [h3,decide_eq_false (by omega)] at h5
   cases h5
 have:∀ n,12+n≤32→bitsTo f (12+n)=bitsTo f 12:=by
  intro n
  induction n with
  | zero=>intro _;rfl
  | succ n ih=>
   intro h
   rw [← Nat.add_assoc,bitsTo_no (h4 (12+n) (by omega) (by omega)),ih (by omega)]
 exact (this 20 (by omega)).symm
theorem textF_to {f:W32}(hv:tkB f=true):textF f=if jnTo f 12=[] then [45] else jnTo f 12:=by
 have hj:joinF f=jnTo f 12:=by unfold joinF jnTo;rw [bitsTo_12 hv]
 unfold textF
 rw [hj]
 by_cases hz:f=0#32
 ·subst hz
  rw [if_pos rfl,if_pos ((jnTo_nil (Nat.le_refl _)).2 (by rw [bitsTo_12 hv];rfl))]
 ·rw [if_neg hz,if_neg (fun h=>bitsF_ne (tk_nm hv) hz (by
   have:=(jnTo_nil (Nat.le_refl _)).1 h
   rw [bitsTo_12 hv] at this
   rw [this];rfl))]
theorem shr_bit (f:W32)(k:Nat):f.toNat / 2 ^ k % 2=if f.getLsbD k then 1 else 0:=by
 rw [BitVec.getLsbD,Nat.testBit_eq_decide_div_mod_eq]
 split
 ·next h=>exact of_decide_eq_true h
 ·next h=>have:¬ f.toNat / 2 ^ k % 2=1:=fun e=>h (decide_eq_true e);omega
theorem and_bit (f:W32)(k:Nat):(bits .and .u32 ((f.toNat:Int) / 2 ^ k) 1==1)=f.getLsbD k:=by
 have hx:(BitVec.ofNat 32 (f.toNat / 2 ^ k)).toNat=f.toNat / 2 ^ k:=by
  rw [BitVec.toNat_ofNat]
  exact Nat.mod_eq_of_lt (Nat.lt_of_le_of_lt (Nat.div_le_self _ _) f.isLt)
 have h:=u32_and (BitVec.ofNat 32 (f.toNat / 2 ^ k)) 1#32
 have e1:(((1#32:W32).toNat:Nat):Int)=1:=rfl
 have e:((f.toNat / 2 ^ k:Nat):Int)=(f.toNat:Int) / 2 ^ k:=by simp
 have e2:(andW (BitVec.ofNat 32 (f.toNat / 2 ^ k)) 1#32).toNat=if f.getLsbD k then 1 else 0:=by
  rw [← shr_bit]
  unfold andW
  rw [BitVec.toNat_and,hx]
  show f.toNat / 2 ^ k &&& 1=_
  exact Nat.and_one_is_mod _
 rw [hx,e,e1,e2] at h
 rw [h]
 cases f.getLsbD k<;>rfl
set_option maxRecDepth 100000 in
set_option maxHeartbeats 1600000 in
theorem RFlags_at (f:W32) (hv:tkB f=true) (w:World):
  Calls Tryz.prog 89 #[.int .u32 (f.toNat:Int)] w fun e w'=>e=.returned (.string ⟨(textF f).toArray⟩)∧Ext w w':=by
 have HV:=Lib.hid hv
 obtain ⟨L,hL⟩:∃ L,textF f=L:=⟨_,rfl⟩
 have HL:=Lib.hid (show (if jnTo f 12=[] then [45] else jnTo f 12)=L by rw [← textF_to hv];exact hL)
 rw [hL]
 clear hv hL
 go_enter Tryz.func89,Tryz.ntmps89
 go_wp2_with fail
 go_loopw [3,4] (fun s i wr=>∃ (k:Nat) (S:ByteArray),k≤12∧i=.int .i64 k∧s=.string S∧Hid (S.data.toList=jnTo f k)∧Hid (Ext w wr)) (fun _ i _=>12-(intOf i).toNat)
 case atStart=>exact ⟨0,⟨#[]⟩,Nat.zero_le _,rfl,rfl,Lib.hid rfl,Lib.hid (Ext.refl w)⟩
 case round=>
  obtain ⟨k,S,hk,rfl,rfl,HS,HX⟩:=hrel
  have hSz:S.size≤200:=by rw [← size_list,HS.out];exact jnTo_len f k hk
  by_cases hlt:k<12
  ·have hand:=and_bit f k
   have hbb:=isF_bit (tk_nm HV.out) k (by omega)
   rw [← hbb] at hand
   clear hbb
   have HFL:=Lib.hid (RFlag_at k hlt wr)
   have hn12:=nmS_len k
   cases hb:isF f k with
   | false=>
    have HT:=Lib.hid (jnTo_no hb)
    rw [hb] at hand
    clear hb
    go_wp2_with fail
    go_roundw
    case rel=>exact ⟨k+1,S,by omega,by go_num,rfl,Lib.hid (by rw [HT.out];exact HS.out),HX⟩
    case measure=>simp [intOf];omega
   | true=>
    have HT:=Lib.hid (jnTo_yes hb)
    rw [hb] at hand
    have HB:=Lib.hid (jnTo_nil (f:=f) hk)
    clear hb
    generalize nmS k=N at *
    by_cases he:S.data.toList=[]
    ·obtain rfl:S=⟨#[]⟩:=by rw [← baR_list S,he]
     have HE:=Lib.hid (show jnTo f (k+1)=N.data.toList by rw [HT.out,if_pos (HB.out.1 (HS.out.symm.trans he))])
     clear he
     go_wp2_with fail
     refine HFL.out.mono ?_
     rintro _ w2 ⟨rfl,hx2⟩
     have HX2:=Lib.hid (HX.out.trans hx2)
     clear hx2
     go_wp2_with fail
     go_roundw
     case rel=>exact ⟨k+1,_,by omega,by go_num,rfl,Lib.hid (by rw [HE.out];simp),HX2⟩
     case measure=>simp [intOf];omega
    ·have q1:S.toList≠[]:=by rw [ByteArray.toList_eq];exact he
     have q2:S.toList.isEmpty=false:=by cases hh:S.toList with | nil=>exact absurd hh q1 | cons a b=>rfl
     have HE:=Lib.hid (show jnTo f (k+1)=S.data.toList++[44]++N.data.toList by rw [HT.out,if_neg (fun h=>he (by rw [HS.out];exact HB.out.2 h)),HS.out])
     clear he
     go_wp2_with fail
     refine (HFL.out).mono ?_
     rintro _ w2 ⟨rfl,hx2⟩
     have HX2:=Lib.hid (HX.out.trans hx2)
     clear hx2
     go_wp2_with fail
     go_roundw
     case rel=>exact ⟨k+1,_,by omega,by go_num,rfl,Lib.hid (by rw [HE.out];simp),HX2⟩
     case measure=>simp [intOf];omega
  ·obtain rfl:k=12:=by omega
   by_cases he:S.data.toList=[]
   ·obtain rfl:S=⟨#[]⟩:=by rw [← baR_list S,he]
    have HE:=Lib.hid (show jnTo f 12=[] by rw [← HS.out])
    clear he
    go_wp2_with fail
    go_ret
    refine ⟨?_,HX.out⟩
    rw [← HL.out,if_pos HE.out];rfl
   ·have q1:S.toList≠[]:=by rw [ByteArray.toList_eq];exact he
    have q2:S.toList.isEmpty=false:=by cases hh:S.toList with | nil=>exact absurd hh q1 | cons a b=>rfl
    have HE:=Lib.hid (show jnTo f 12≠[] by rw [← HS.out];exact he)
    clear he
    go_wp2_with fail
    go_ret
    refine ⟨?_,HX.out⟩
    rw [← HL.out,if_neg HE.out,← HS.out,baR_list];rfl
end Go.Proofs.YtnjmndofcpnmeaaGreatDoor
namespace Go.Proofs.YtnjmndofcpnmeaaGreatDoor
open Go Go.Lib
set_option linter.unusedVariables false
def backB (a b:Fct):Bool:=decide (b.t<a.t)||(decide (b.t=a.t)&&decide (b.mi<a.mi))
def ordTo (l:List Fct)(k:Nat):Prop:=∀ i,i<k→(atF l i).ok=true∧(0<i→backB (atF l (i-1)) (atF l i)=false)
theorem ordTo_zero (l:List Fct):ordTo l 0:=fun i hi=>absurd hi (Nat.not_lt_zero i)
theorem ordTo_succ {l:List Fct}{k:Nat}(h:ordTo l k)(h1:(atF l k).ok=true)(h2:0<k→backB (atF l (k-1)) (atF l k)=false):ordTo l (k+1):=fun i hi=>by
 rcases Nat.lt_succ_iff_lt_or_eq.1 hi with h' | rfl
 ·exact h i h'
 ·exact ⟨h1,h2⟩
theorem atF_get {l:List Fct}{i:Nat}(h:i<l.length):atF l i=l[i]:=by unfold atF;rw [List.getElem?_eq_getElem h];rfl
theorem ordTo_ok {l:List Fct}(h:ordTo l l.length):∀ f∈l,f.Ok:=fun f hf=>by
 obtain ⟨i,hi,rfl⟩:=List.getElem_of_mem hf
 rw [← atF_get hi]
 exact (Fct.ok_iff _).1 (h i hi).1
theorem ordTo_T {l:List Fct}(h:ordTo l l.length):ordT l:=by
 intro i j hij hj
 induction j with
 | zero=>
  obtain rfl:i=0:=by omega
  exact Int.le_refl _
 | succ j ih=>
  rcases Nat.lt_or_eq_of_le hij with h' | rfl
  ·have h1:=ih (by omega) (by omega)
   have h2:=(h (j+1) hj).2 (by omega)
   rw [Nat.add_sub_cancel] at h2
   unfold backB at h2
   rw [Bool.or_eq_false_iff,decide_eq_false_iff_not] at h2
   omega
  ·exact Int.le_refl _
def argB (l:List Fct)(w lim:Int):Prop:=0≤w∧w≤1099511627776∧1≤lim∧ordTo l l.length
def begF (l:List Fct)(w:Int)(ad:Bool)(i:Nat):Int:=(atF l ((winF l w ad i).head?.getD i)).t
def LOW (l:List Fct)(g:List Nat)(win:Int)(low p:Nat):Prop:=∀ q j p' i,q<low→g[q]? = some j→p≤p'→g[p']? = some i→(atF l j).t<(atF l i).t-win
theorem LOW.zero (l:List Fct)(g:List Nat)(win:Int)(p:Nat):LOW l g win 0 p:=fun q j p' i hq=>absurd hq (Nat.not_lt_zero q)
theorem LOW.mono {l:List Fct}{g:List Nat}{win:Int}{low p p':Nat}(h:LOW l g win low p)(hp:p≤p'):LOW l g win low p':=fun q j r i hq hj hr hi=>h q j r i hq hj (Nat.le_trans hp hr) hi
theorem LOW.step {l:List Fct}(ho:ordT l){ad:Bool}{x:Who}{win:Int}{low p j i:Nat}(h:LOW l (grpF l ad x) win low p)(hj:(grpF l ad x)[low]? = some j)(hi:(grpF l ad x)[p]? = some i)(hlt:(atF l j).t<(atF l i).t-win):LOW l (grpF l ad x) win (low+1) p:=by
 intro q j' p' i' hq hj' hp' hi'
 rcases Nat.lt_succ_iff_lt_or_eq.1 hq with h1 | rfl
 ·exact h q j' p' i' h1 hj' hp' hi'
 ·obtain rfl:j'=j:=by rw [hj] at hj';injection hj' with e;exact e.symm
  have hl':=(List.getElem?_eq_some_iff.1 hi').1
  have hl:=(List.getElem?_eq_some_iff.1 hi).1
  have hle:i≤i':=by
   rcases Nat.lt_or_eq_of_le hp' with h2 | rfl
   ·have:=List.pairwise_iff_getElem.1 (grp_sorted (l:=l) (ad:=ad) (x:=x)) p p' hl hl' h2
    rw [List.getElem?_eq_getElem hl] at hi
    rw [List.getElem?_eq_getElem hl'] at hi'
    injection hi with hi;injection hi' with hi'
    omega
   ·rw [hi] at hi';injection hi' with e;omega
  have:=ho i i' hle (grp_mem.1 (List.mem_of_getElem? hi')).1
  omega
theorem winIs {l:List Fct} (ho:ordT l) {win:Int} {ad:Bool} {x:Who} {p low i j:Nat} (h:LOW l (grpF l ad x) win low p) (hi:(grpF l ad x)[p]? = some i) (hlow:low≤p) (hj:(grpF l ad x)[low]? = some j) (hge:¬ (atF l j).t<(atF l i).t-win):
  winF l win ad i=((grpF l ad x).take (p+1)).drop low:=
 win_slice ho hi (by omega) (fun q j' hq hj'=>h q j' p i hq hj' (Nat.le_refl _) hi) (fun j' hj' _=>by
  rw [hj] at hj'
  injection hj' with e
  subst e
  omega)
def NOH (l:List Fct)(g:List Nat)(win lim:Int)(ad:Bool)(p:Nat):Prop:=∀ q i,q<p→g[q]? = some i→hitF l win lim ad i=false
theorem NOH.zero (l:List Fct)(g:List Nat)(win lim:Int)(ad:Bool):NOH l g win lim ad 0:=fun q i hq=>absurd hq (Nat.not_lt_zero q)
theorem NOH.step {l:List Fct}{g:List Nat}{win lim:Int}{ad:Bool}{p i:Nat}(h:NOH l g win lim ad p)(hi:g[p]? = some i)(hh:hitF l win lim ad i=false):NOH l g win lim ad (p+1):=by
 intro q i' hq hi'
 rcases Nat.lt_succ_iff_lt_or_eq.1 hq with h1 | rfl
 ·exact h q i' h1 hi'
 ·rw [hi] at hi';injection hi' with e;rw [← e];exact hh
theorem NOH.found {l:List Fct}{g:List Nat}{win lim:Int}{ad:Bool}{p i:Nat}(h:NOH l g win lim ad p)(hi:g[p]? = some i)(hh:hitF l win lim ad i=true):g.find? (hitF l win lim ad)=some i:=by
 have hl:=(List.getElem?_eq_some_iff.1 hi).1
 rw [List.find?_eq_some_iff_getElem]
 refine ⟨hh,p,hl,(List.getElem?_eq_some_iff.1 hi).2,fun q hq=>?_⟩
 rw [h q _ hq (List.getElem?_eq_getElem (by omega))]
 rfl
theorem NOH.none {l:List Fct}{g:List Nat}{win lim:Int}{ad:Bool}(h:NOH l g win lim ad g.length):g.find? (hitF l win lim ad)=none:=by
 rw [List.find?_eq_none]
 intro i hi
 obtain ⟨q,hq,rfl⟩:=List.getElem_of_mem hi
 rw [h q _ hq (List.getElem?_eq_getElem hq)]
 simp
theorem hit_iff {l:List Fct}{win lim:Int}{ad:Bool}{x:Who}{i:Nat}(hi:i∈grpF l ad x):hitF l win lim ad i=decide (lim≤(cntF l win ad i:Int)):=by
 unfold hitF
 rw [(grp_mem.1 hi).2.1,Bool.true_and]
theorem take_snoc {g:List Nat}{p i:Nat}(h:g[p]? = some i):g.take (p+1)=g.take p++[i]:=by rw [List.take_add_one,h];rfl
theorem drop_cons {g:List Nat}{low j:Nat}(h:g[low]? = some j):g.drop low=j::g.drop (low+1):=by
 obtain ⟨hl,rfl⟩:=List.getElem?_eq_some_iff.1 h
 exact List.drop_eq_getElem_cons hl
theorem win_snoc {g:List Nat}{p low i:Nat}(h:g[p]? = some i)(hl:low≤p):(g.take (p+1)).drop low=(g.take p).drop low++[i]:=by
 have hp:=(List.getElem?_eq_some_iff.1 h).1
 rw [take_snoc h,List.drop_append_of_le_length (by rw [List.length_take];omega)]
theorem win_cons {g:List Nat}{p low j:Nat}(h:g[low]? = some j)(hl:low≤p):(g.take (p+1)).drop low=j::(g.take (p+1)).drop (low+1):=
 drop_cons (by rw [List.getElem?_take_of_lt (by omega)];exact h)
theorem beg_of {l:List Fct}{win:Int}{ad:Bool}{i p low j:Nat}{g:List Nat}(hw:winF l win ad i=(g.take (p+1)).drop low)(h:g[low]? = some j)(hl:low≤p):begF l win ad i=(atF l j).t:=by
 unfold begF
 rw [hw,win_cons h hl]
 rfl
end Go.Proofs.YtnjmndofcpnmeaaGreatDoor
namespace Go.Proofs.YtnjmndofcpnmeaaGreatDoor
open Go Go.RowKit
set_option linter.unusedVariables false
end Go.Proofs.YtnjmndofcpnmeaaGreatDoor
namespace Go.Proofs.YtnjmndofcpnmeaaGreatDoor
open Go.Lib
theorem d0:decDigits 0=[48]:=by rw [dec_lo _ (by decide)];rfl
theorem d1:decDigits 1=[49]:=by rw [dec_lo _ (by decide)];rfl
theorem d10:decDigits 10=[49,48]:=by rw [dec_hi _ (by decide),show 10 / 10=1 from rfl,d1];rfl
theorem x0:hexD 0=[48]:=by rw [hexD_lo (by decide)];rfl
theorem x1:hexD 1=[49]:=by rw [hexD_lo (by decide)];rfl
def one:List UInt8:=[0,0,0,0,0,0,0,0,0,0,0,0,0,0,0,1]
theorem t1:txtA 2 [10,0,0,1]=[49,48,46,48,46,48,46,49]:=by
 show txt4 _=_
 rw [txt4_eq]
 show decDigits 10++46::(decDigits 0++46::(decDigits 0++46::decDigits 1))=_
 rw [d10,d0,d1];rfl
theorem t10:txtA 2 [10,0,1,0]=[49,48,46,48,46,49,46,48]:=by
 show txt4 _=_
 rw [txt4_eq]
 show decDigits 10++46::(decDigits 0++46::(decDigits 1++46::decDigits 0))=_
 rw [d10,d0,d1];rfl
theorem ta:txtA 20 [97]=[104,111,115,116,47,97]:=rfl
theorem p1:prsA [49,48,46,48,46,48,46,49]=some (2,[10,0,0,1]):=by rw [← t1];exact prsA_txt (by decide)
theorem p10:prsA [49,48,46,48,46,49,46,48]=some (2,[10,0,1,0]):=by rw [← t10];exact prsA_txt (by decide)
theorem pa:prsA [104,111,115,116,47,97]=some (20,[97]):=by rw [← ta];exact prsA_txt (by decide)
end Go.Proofs.YtnjmndofcpnmeaaGreatDoor
namespace Go.Proofs.YtnjmndofcpnmeaaGreatDoor
open Go Go.RowKit
set_option linter.unusedVariables false
end Go.Proofs.YtnjmndofcpnmeaaGreatDoor
