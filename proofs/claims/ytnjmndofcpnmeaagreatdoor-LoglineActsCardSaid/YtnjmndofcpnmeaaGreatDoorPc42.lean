/- Pc42. -/
import Derived.Test.YtnjmndofcpnmeaaGreatDoorPc0
import Derived.Test.YtnjmndofcpnmeaaGreatDoorPc41
import Derived.Test.YtnjmndofcpnmeaaGreatDoorPc33
import Derived.Test.YtnjmndofcpnmeaaGreatDoorPc36
import Derived.Test.YtnjmndofcpnmeaaGreatDoorPc30
import Derived.Shelf.SlSortCmp.WholeK
import Derived.Test.YtnjmndofcpnmeaaGreatDoorShelf
namespace Go.Proofs.YtnjmndofcpnmeaaGreatDoor
open Go Go.RowKit
set_option linter.unusedVariables false
set_option maxRecDepth 100000 in
set_option maxHeartbeats 1000000 in
theorem wanted_at (m:FV) (w:World) (hm:m.In w) (hz:m.Sz):
  Calls Tryz.prog 69 #[m.val] w fun e w'=>e=.returned (.bool (wantB m.fct))∧Ext w w':=by
 have hfb:wantB m.fct=(m.kd != 0 && !noneN m.fct.cp m.fct.cr):=by
  unfold wantB
  rw [show (!decide (m.fct.kd=0))=(m.kd != 0) from rfl]
 rw [hfb]
 clear hfb
 have h0:FQ (w.alloc (.cells #[.int .i64 m.t,.int .i64 m.mi,.int .i64 m.kd,.int .i64 m.fk,.slice m.FA m.fb.length m.fc,.slice m.CA m.cp.length m.cc,.string m.cr,.slice m.SA m.sp.length m.sc,.string m.sr,.int .i64 m.co,.int .i64 m.pr,.int .u32 (m.fl.toNat:Int)] 41)) w.heap.size m:=heap_alloc_new w _
 have hx:=(Ext.refl w).alloc (.cells #[.int .i64 m.t,.int .i64 m.mi,.int .i64 m.kd,.int .i64 m.fk,.slice m.FA m.fb.length m.fc,.slice m.CA m.cp.length m.cc,.string m.cr,.slice m.SA m.sp.length m.sc,.string m.sr,.int .i64 m.co,.int .i64 m.pr,.int .u32 (m.fl.toNat:Int)] 41)
 obtain ⟨W1,e1⟩:∃ W,w.alloc (.cells #[.int .i64 m.t,.int .i64 m.mi,.int .i64 m.kd,.int .i64 m.fk,.slice m.FA m.fb.length m.fc,.slice m.CA m.cp.length m.cc,.string m.cr,.slice m.SA m.sp.length m.sc,.string m.sr,.int .i64 m.co,.int .i64 m.pr,.int .u32 (m.fl.toNat:Int)] 41)=W:=⟨_,rfl⟩
 rw [e1] at h0 hx
 have HM:=Lib.hid h0;have HX:=Lib.hid hx
 have HC0:=Lib.hid (fun W (hw:Ext W1 W)=>noName_at m.CA m.cc m.cp m.cr hz.cp W (hm.cp.ext (hx.trans hw)))
 obtain ⟨bc,hbc⟩:∃ q,noneN (dat m.cp) m.cr.data.toList=q:=⟨_,rfl⟩
 rw [show noneN m.fct.cp m.fct.cr=noneN (dat m.cp) m.cr.data.toList from rfl]
 rw [hbc] at HC0 ⊢
 unfold FV.val
 clear h0 hx hm hbc
 obtain ⟨q1,hq1⟩:∃ q1:Bool,(m.kd != 0)=q1:=⟨_,rfl⟩
 have Hq1:=Lib.hid hq1;clear hq1
 obtain ⟨q2,hq2⟩:∃ q2:Bool,(!bc)=q2:=⟨_,rfl⟩
 have Hq2:=Lib.hid hq2;clear hq2
 obtain ⟨p3,hp3⟩:∃ p3:Bool,(q1&&q2)=p3:=⟨_,rfl⟩
 have Hp3:=Lib.hid hp3;clear hp3
 have HX0:=Lib.hid (Ext.refl W1)
 go_enter Tryz.func69,Tryz.ntmps69
 go_upto_region 1 with fail
 refine wp_region_lit ?_
 refine wpL_val (.pointer (some ⟨w.heap.size,2,none⟩)) rfl (fun K' hK'=>?_) ?_
 ·go_step
  exact hK'
 simp only [Act.put,sT1,sT2,sT3]
 refine wpL_val (.int .i64 m.kd) rfl (fun K' hK'=>?_) ?_
 ·obtain ⟨u0,u1,u2,u3,u4,u5,u6,u7,u8,u9,u10,u11⟩:=(HM.out.ext HX0.out).cells
  go_step
  exact hK'
 simp only [Act.put,sT1,sT2,sT3]
 refine wpL_val (.bool q1) rfl (fun K' hK'=>?_) ?_
 ·have hq:=Hq1.out
  subst hq
  go_step
  exact hK'
 simp only [Act.put,sT1,sT2,sT3]
 refine wpL_val (.bool q1) rfl (fun K' hK'=>?_) ?_
 ·go_step
  exact hK'
 simp only [Act.put,sT1,sT2,sT3]
 refine wpL_sym q1 (.pointer (some ⟨w.heap.size,5,none⟩)) (by cases q1<;>kernel_rfl) (fun hc K' hK'=>?_) ?_
 ·subst hc
  try simp only [cond_true]
  go_step
  exact hK'
 simp only [Act.put,sT1,sT2,sT3]
 refine wpL_sym q1 (.agg #[.slice m.CA m.cp.length m.cc,.string m.cr]) (by cases q1<;>kernel_rfl) (fun hc K' hK'=>?_) ?_
 ·subst hc
  try simp only [cond_true]
  obtain ⟨u0,u1,u2,u3,u4,u5,u6,u7,u8,u9,u10,u11⟩:=(HM.out.ext HX0.out).cells
  go_step
  exact hK'
 simp only [Act.put,sT1,sT2,sT3]
 refine wpL_symcall q1 (.bool bc) (by cases q1<;>kernel_rfl) (fun hc K' hK'=>?_) (fun wc9 hx=>?_)
 ·subst hc
  try simp only [cond_true]
  go_step
  refine (HC0.out W1 HX0.out).mono ?_
  rintro _ w2 ⟨rfl,hx⟩
  exact hK' _ hx
 have HX9:=Lib.hid (HX0.out.trans hx);clear hx
 simp only [Act.put,sT1,sT2,sT3]
 refine wpL_sym q1 (.bool q2) (by cases q1<;>kernel_rfl) (fun hc K' hK'=>?_) ?_
 ·subst hc
  try simp only [cond_true]
  have hq:=Hq2.out
  subst hq
  go_step
  exact hK'
 simp only [Act.put,sT1,sT2,sT3]
 refine wpL_val (.bool p3) rfl (fun K' hK'=>?_) ?_
 ·have hp:=Hp3.out
  subst hp
  cases q1
  ·go_step
   exact hK'
  ·go_step
   exact hK'
 simp only [Act.put,sT1,sT2,sT3]
 go_wp2_with fail
 go_ret
 refine ⟨?_,HX.out.trans HX9.out⟩
 have h:=Hp3.out;subst h
 have h:=Hq2.out;subst h
 have h:=Hq1.out;subst h
 rfl
theorem grpA_head {l:List Fct}{i:Nat}:(∃ x,(grpA l x).head? = some i) ↔ i∈fstK l.length (fun i=>wantB (atF l i)) (fun i=>who false (atF l i)):=by
 have key:∀ x,(grpA l x).head? = some i ↔ i<l.length∧wantB (atF l i)=true∧who false (atF l i)=x∧∀ j,j<i→wantB (atF l j)=true→who false (atF l j)≠x:=fun x=>by
  unfold grpA
  rw [List.head?_filter,List.find?_range_eq_some]
  simp only [Bool.and_eq_true,decide_eq_true_eq,List.mem_range,Bool.not_eq_true',Bool.and_eq_false_iff,decide_eq_false_iff_not]
  constructor
  ·rintro ⟨⟨h1,h2⟩,h3,h4⟩
   refine ⟨h3,h1,h2,fun j hj hw e=>?_⟩
   rcases h4 j hj with h | h
   ·rw [hw] at h;cases h
   ·exact h e
  ·rintro ⟨h1,h2,h3,h4⟩
   refine ⟨⟨h2,h3⟩,h1,fun j hj=>?_⟩
   cases hb:wantB (atF l j) with
   | false=>exact .inl rfl
   | true=>exact .inr (h4 j hj hb)
 rw [fstK_mem]
 constructor
 ·rintro ⟨x,h⟩
  obtain ⟨h1,h2,h3,h4⟩:=(key x).1 h
  exact ⟨h1,h2,fun j hj hw e=>h4 j hj hw (e.trans h3)⟩
 ·rintro ⟨h1,h2,h3⟩
  exact ⟨_,(key _).2 ⟨h1,h2,rfl,h3⟩⟩
theorem grpK_whoA {l:List Fct}{s:List UInt8}(h:grpK l.length (fun j=>wantB (atF l j)) (fun j=>keyF false (atF l j)) s≠[]):∃ x,grpK l.length (fun j=>wantB (atF l j)) (fun j=>keyF false (atF l j)) s=grpA l x:=by
 obtain ⟨j,_,_,e⟩:=grpK_ne.1 h
 exact ⟨who false (atF l j),by rw [← e,grpK_A]⟩
theorem act_ex {l:List Fct}{i:Nat}:(∃ s,(grpK l.length (fun j=>wantB (atF l j)) (fun j=>keyF false (atF l j)) s).head? = some i) ↔ i∈fstK l.length (fun i=>wantB (atF l i)) (fun i=>who false (atF l i)):=by
 rw [← grpA_head]
 constructor
 ·rintro ⟨s,h⟩
  obtain ⟨x,hx⟩:=grpK_whoA (s:=s) (fun e=>by rw [e] at h;cases h)
  exact ⟨x,by rw [← hx];exact h⟩
 ·rintro ⟨x,h⟩
  have hm:=(grpA_mem.1 (List.mem_of_mem_head? h)).2.2
  exact ⟨keyF false (atF l i),by rw [grpK_A,hm];exact h⟩
theorem head_mem {g:List Nat}{i:Nat}(h:g.head? = some i):i∈g:=List.mem_of_mem_head? h
def AIs (l:List Fct)(ms:List VV)(js:List Nat):Prop:=ms.length=js.length∧(∀ (k:Nat) (h:k<ms.length) (h2:k<js.length),ms[k].Is (actF l js[k]))∧∀ m∈ms,m.cp.length≤1000
theorem AIs.nil (l:List Fct):AIs l [] []:=⟨rfl,fun k h=>absurd h (Nat.not_lt_zero k),fun m hm=>(by cases hm)⟩
theorem AIs.snoc {l:List Fct}{ms:List VV}{js:List Nat}{m:VV}{i:Nat}(h:AIs l ms js)(hm:m.Is (actF l i))(hl:m.cp.length≤1000):AIs l (ms++[m]) (js++[i]):=by
 refine ⟨by rw [List.length_append,List.length_append,h.1];rfl,fun k hk hk2=>?_,fun x hx=>?_⟩
 ·by_cases hlt:k<ms.length
  ·rw [List.getElem_append_left hlt,List.getElem_append_left (by rw [← h.1];exact hlt)]
   exact h.2.1 k hlt _
  ·rw [List.length_append] at hk
   have:k=ms.length:=by simp at hk;omega
   subst this
   have e:=h.1
   rw [List.getElem_append_right (Nat.le_refl _)]
   have e2:(js++[i])[ms.length]? = some i:=by rw [e];exact List.getElem?_concat_length
   have e3:=List.getElem?_eq_some_iff.1 e2
   rw [e3.2]
   simpa using hm
 ·rcases List.mem_append.1 hx with hx | hx
  ·exact h.2.2 x hx
  ·rw [List.mem_singleton] at hx;subst hx;exact hl
theorem VV.Is.name {l:List Fct}{m:VV}{i:Nat}(h:m.Is (actF l i)):m.nm=nmA l i:=by
 unfold VV.nm nmA
 rw [h.1,h.2]
 rfl
theorem acts_of {l:List Fct} {ms:List VV} {js ys:List Nat} (h:AIs l ms js) (hp:ys.Perm (List.range ms.length)) (hs:ys.Pairwise (fun a b=>¬ cmpP (atV ms b).nm (atV ms a).nm<0)) (hd:js.Nodup)
  (hj:∀ i,i∈js ↔ i∈fstK l.length (fun i=>wantB (atF l i)) (fun i=>who false (atF l i))):∃ zs,AIs l (ys.map (atV ms)) zs∧ActL l l.length zs:=by
 have hlt:∀ y∈ys,y<ms.length:=fun y hy=>List.mem_range.1 (hp.mem_iff.1 hy)
 have hnd:ys.Nodup:=hp.nodup_iff.2 List.nodup_range
 have hat:∀ y (hy:y∈ys),atV ms y=ms[y]'(hlt y hy):=fun y hy=>atV_get (hlt y hy)
 have hjg:∀ y (hy:y<ms.length),js.getD y 0=js[y]'(by rw [← h.1];exact hy):=fun y hy=>by
  rw [List.getD_eq_getElem?_getD,List.getElem?_eq_getElem (by rw [← h.1];exact hy)];rfl
 have his:∀ y (hy:y∈ys),(atV ms y).Is (actF l (js.getD y 0)):=fun y hy=>by
  rw [hat y hy,hjg y (hlt y hy)]
  exact h.2.1 y (hlt y hy) _
 refine ⟨ys.map fun y=>js.getD y 0,⟨by rw [List.length_map,List.length_map],fun k hk hk2=>?_,fun m hm=>?_⟩,?_,fun i=>?_⟩
 ·rw [List.getElem_map,List.getElem_map]
  exact his _ (List.getElem_mem _)
 ·obtain ⟨y,hy,rfl⟩:=List.mem_map.1 hm
  rw [hat y hy]
  exact h.2.2 _ (List.getElem_mem _)
 ·rw [List.pairwise_map]
  refine (List.pairwise_and_iff.2 ⟨hs,hnd⟩).imp_of_mem ?_
  intro a b ha hb hab
  have hla:=hlt a ha;have hlb:=hlt b hb
  have ja:js.getD a 0∈js:=by rw [hjg a hla];exact List.getElem_mem _
  have jb:js.getD b 0∈js:=by rw [hjg b hlb];exact List.getElem_mem _
  have fa:=fstK_mem.1 ((hj _).1 ja);have fb:=fstK_mem.1 ((hj _).1 jb)
  have hne:js.getD a 0≠js.getD b 0:=fun e=>by
   rw [hjg a hla,hjg b hlb] at e
   have la:a<js.length:=by rw [← h.1];exact hla
   have lb:b<js.length:=by rw [← h.1];exact hlb
   rcases Nat.lt_trichotomy a b with h1 | h1 | h1
   ·exact List.pairwise_iff_getElem.1 hd a b la lb h1 e
   ·exact hab.2 h1
   ·exact List.pairwise_iff_getElem.1 hd b a lb la h1 e.symm
  have hw:who false (atF l (js.getD a 0))≠who false (atF l (js.getD b 0)):=fun e=>by
   rcases Nat.lt_trichotomy (js.getD a 0) (js.getD b 0) with h1 | h1 | h1
   ·exact fb.2.2 _ h1 fa.2.1 e
   ·exact hne h1
   ·exact fa.2.2 _ h1 fb.2.1 e.symm
  refine ltA_tot (fun e=>hw e.symm) ?_
  have e1:(atV ms a).nm=nmA l (js.getD a 0):=VV.Is.name (his a ha)
  have e2:(atV ms b).nm=nmA l (js.getD b 0):=VV.Is.name (his b hb)
  rw [e1,e2] at hab
  exact hab.1
 ·rw [← hj i]
  constructor
  ·intro hi
   obtain ⟨y,hy,rfl⟩:=List.mem_map.1 hi
   rw [hjg y (hlt y hy)]
   exact List.getElem_mem _
  ·intro hi
   obtain ⟨y,hy,rfl⟩:=List.getElem_of_mem hi
   have hym:y<ms.length:=by rw [h.1];exact hy
   exact List.mem_map.2 ⟨y,hp.mem_iff.2 (List.mem_range.2 hym),hjg y hym⟩
end Go.Proofs.YtnjmndofcpnmeaaGreatDoor
namespace Go.Proofs.YtnjmndofcpnmeaaGreatDoor
open Go Go.RowKit Go.Shelf Go.Sort
set_option linter.unusedVariables false
set_option maxRecDepth 100000 in
set_option maxHeartbeats 1000000 in
theorem sortActs_at (ms:List VV) (hn:ms.length≤1000) (hcp:∀ m∈ms,m.cp.length≤1000) (B:Nat) (v:Value) (w:World) (h:ROW EV 58 w B v ms):
  Calls Tryz.prog 73 #[v,.func (.func 74) #[] #[]] w fun e w'=>e=.returned (.tuple #[])∧∃ ys:List Nat,ys.Perm (List.range ms.length)∧ys.Pairwise (fun a b=>¬ cmpP (atV ms b).nm (atV ms a).nm<0)∧RDS EV w' v (ys.map (atV ms))∧(∀ m∈ms,m.In w')∧w.grownBy w' v.ownBlock:=by
 rcases h.2.1.2 with ⟨rfl,h0⟩ | ⟨g,cap,cur,rfl,_⟩
 ·obtain rfl:ms=[]:=List.length_eq_zero_iff.1 h0
  refine (AnyF.slices_SortFunc_none Tryz.sortAct none 0 _ w).mono ?_
  rintro e w' ⟨rfl,rfl⟩
  exact ⟨rfl,[],List.Perm.nil,List.Pairwise.nil,RDS.nil _,fun m hm=>(by cases hm),(Ext.refl _).but _⟩
 ·have h':ROW (EVi ms) 58 w B (.slice (some ⟨g,0,none⟩) (List.range ms.length).length cap) (List.range ms.length):=by rw [List.length_range];exact h.byIx
  obtain ⟨hH,hg,hB,hc,hm⟩:=h'.holds
  have hin:∀ i,(atV ms i).cp.length≤1000:=fun i=>by
   rcases atV_mem ms i with h1 | h1
   ·exact hcp _ h1
   ·rw [h1];exact Nat.zero_le _
  have key:∀ W':World,w.grownBy W' (some g)→∀ m∈ms,m.In W':=fun W' hgr m hm=>by
   refine EV.keep w W' m (some g) (h.2.2 m hm).1 hgr (fun b hb=>?_)
   injection hb with hb
   subst hb
   exact ⟨h.1 _ rfl,(h.2.2 m hm).2 _ rfl⟩
  have key2:∀ W':World,w.grownBy W' (some g)→∀ i,(atV ms i).In W':=fun W' hgr i=>by
   rcases atV_mem ms i with h1 | h1
   ·exact key W' hgr _ h1
   ·rw [h1];exact RS.nil _
  have eg:∀ args w,(callFunc 74 args).run Tryz.prog w=.ok (.enter 74 args) w:=enters_of Tryz.func74 (by kernel_rfl) rfl
  have hcon:=AnyQ.slices_SortFunc Tryz.sortAct 8 Tryz.isAgg58 Tryz.sizeOf58 (EVi ms).cs (EVi ms).len (EVi ms).one (fun x y:Nat=>cmpP (atV ms x).nm (atV ms y).nm) (swoV ms) 74 #[] g 0 cap (List.range ms.length).toArray w eg
   (fun m os dk hd x y=>by
    have hgr:w.grownBy (sortWorldK (EVi ms).cs 8 w g 0 m dk os) (some g):=sort_grown (E:=EVi ms) w g m dk os
    refine (cmpAct_at (atV ms x) (atV ms y) _ (key2 _ hgr x) (key2 _ hgr y) (hin x) (hin y)).mono ?_
    rintro e w' ⟨rfl,hx⟩
    exact ⟨rfl,hx.grow⟩) hH hg (by rw [List.size_toArray,List.length_range];omega)
  rw [List.size_toArray,List.length_range] at hcon
  refine hcon.mono ?_
  rintro e w' ⟨rfl,d',n,os,⟨hs1,_,hs2⟩,hso,rfl⟩
  have hs1:d'.size=ms.length:=hs1.trans (by simp)
  have e1:d'.extract 0 ms.length=d':=by rw [← hs1];exact Array.extract_size
  have e2:(List.range ms.length).toArray.extract 0 ms.length=(List.range ms.length).toArray:=by
   have:=Array.extract_size (xs:=(List.range ms.length).toArray)
   rwa [List.size_toArray,List.length_range] at this
  rw [e1,e2] at hs2
  have hgr:=sort_grown (E:=EVi ms) w g n d' os
  refine ⟨rfl,d'.toList,hs2,?_,?_,key _ hgr,hgr⟩
  ·rw [List.pairwise_iff_getElem]
   intro i j hi hj hij
   rw [Array.length_toList] at hi hj
   have:=hso i j (Nat.zero_le _) hij (by omega)
   unfold ltOf at this
   rw [decide_eq_false_iff_not] at this
   simpa [hi,hj] using this
  ·refine RDS.ofIx ?_
   have hr:=sort_rds (E:=EVi ms) (n:=n) (ys:=d'.toList) (os:=os) hH hg (by rw [List.length_range,Array.length_toList];exact hs1) hc hm
   rw [List.length_range] at hr
   exact hr
end Go.Proofs.YtnjmndofcpnmeaaGreatDoor
