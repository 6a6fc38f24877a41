/- Pc16. -/
import Derived.Test.YtnjmndofcpnmeaaGreatDoorPc1
import Derived.Test.YtnjmndofcpnmeaaGreatDoorPc12
import Derived.Laws.Append
import Derived.Test.YtnjmndofcpnmeaaGreatDoorPc4
import Derived.Test.YtnjmndofcpnmeaaGreatDoorPc10
import Derived.Test.YtnjmndofcpnmeaaGreatDoorPc15
import Derived.Laws.EntriesVeiled
import Derived.Test.YtnjmndofcpnmeaaGreatDoorPc5
import Derived.Test.YtnjmndofcpnmeaaGreatDoorPc3
import Derived.Lib.CountLaws
import Derived.Lib.SplitLaws
import Derived.Test.YtnjmndofcpnmeaaGreatDoorPc7
namespace Go.Proofs.YtnjmndofcpnmeaaGreatDoor
open Go Go.RowKit
def dcs (vs:List (Int × Value)):List Value:=vs.flatMap fun x=>[.int .i64 x.1,x.2]
theorem dcs_snoc (vs:List (Int × Value))(x:Int × Value):dcs (vs++[x])=dcs vs++[.int .i64 x.1,x.2]:=by simp [dcs]
theorem dcs_get (vs:List (Int × Value)):∀ (i:Nat) (h:i<vs.length),(dcs vs)[i*2]? = some (.int .i64 vs[i].1)∧(dcs vs)[i*2+1]? = some vs[i].2:=by
 induction vs with
 | nil=>intro i h;simp at h
 | cons x t ih=>
  intro i h
  cases i with
  | zero=>simp [dcs]
  | succ j=>
   have:=ih j (by simpa using h)
   have e1:(j+1)*2=j*2+2:=by omega
   rw [e1]
   simpa [dcs] using this
theorem NoU8.of {w:World}{b:Nat}{cs:Array Value}{e:TypeId}{fr:Nat × Nat}(h:w.heap[b]? = some (.cells cs e fr))(hc:∀ x∈cs.toList,∀ n,x≠.int .u8 n):NoU8 w b:=by
 intro q hq v hv
 unfold World.cell? at hv
 rw [hq,h] at hv
 simp only at hv
 split at hv
 ·cases hv
 ·obtain ⟨hlt,he⟩:=Array.getElem?_eq_some_iff.1 hv
  exact hc _ (by rw [← Array.mem_def];exact Array.getElem_mem hlt) v he
theorem NoU8.mem {w:World}{b:Nat}{cs:Array Value}{e:TypeId}(h:NoU8 w b)(hh:w.heap[b]? = some (.cells cs e (0,0))):∀ x∈cs.toList,∀ n,x≠.int .u8 n:=by
 intro x hx n e0
 subst e0
 obtain ⟨j,hj,he⟩:=List.getElem_of_mem hx
 refine h ⟨b,j,none⟩ rfl n ?_
 rw [cell_of_row w b j cs e (0,0) hh,Array.getElem?_eq_getElem (by simpa using hj)]
 simpa using he
theorem NoU8.same {w w':World}{b:Nat}(h:NoU8 w b)(hb:w'.heap[b]? = w.heap[b]?):NoU8 w' b:=by
 intro q hq v hv
 exact h q hq v ((World.cell?_of_block (by rw [hq];exact hb.symm)).trans hv)
theorem mem_zeroCells (z:Array Value)(hz:0<z.size)(n:Nat):∀ x∈(Builtin.zeroCells z n).toList,x∈z.toList:=by
 intro x hx
 unfold Builtin.zeroCells at hx
 simp only [Array.toList_map,List.mem_map] at hx
 obtain ⟨i,_,rfl⟩:=hx
 have hlt:i % z.size<z.size:=Nat.mod_lt _ hz
 rw [getElem!_pos z _ hlt]
 rw [← Array.mem_def]
 exact Array.getElem_mem hlt
def DOV (e:TypeId)(w:World)(B:Nat)(v:Value)(ls:List (Int × List UInt8)):Prop:=
 (∀ r,v.ownBlock=some r→NoU8 w r)∧∃ vs:List (Int × Value),vs.length=ls.length∧w.ownsRow B e 2 v vs.length (dcs vs)∧∀ i (h:i<vs.length) (h':i<ls.length),vs[i].1=ls[i].1∧BS w vs[i].2 ls[i].2∧(ls[i].2≠[]→∀ b,vs[i].2.ownBlock=some b→v.ownBlock≠some b)
theorem DOV.nil (e:TypeId)(w:World)(B:Nat):DOV e w B (.slice none 0 0) []:=⟨fun r h=>by simp [Value.ownBlock] at h,[],rfl,World.ownsRow_nil _ _ _ _,fun i h=>absurd h (by simp)⟩
theorem DOV.ext {e:TypeId}{w w':World}{B:Nat}{v:Value}{ls:List (Int × List UInt8)}(h:DOV e w B v ls)(he:Ext w w'):DOV e w' B v ls:=by
 obtain ⟨h0,vs,h1,h2,h3⟩:=h
 exact ⟨fun r hr=>(h0 r hr).same (he.block r (World.ownsRow.lt h2 r hr).2),vs,h1,h2.kept (he.but none) (by cases hv:v.ownBlock<;>simp),fun i hi hi'=>⟨(h3 i hi hi').1,(h3 i hi hi').2.1.ext he,(h3 i hi hi').2.2⟩⟩
theorem DOV.off {e:TypeId}{w w':World}{B:Nat}{v:Value}{ls:List (Int × List UInt8)}{g:Nat}(h:DOV e w B v ls)(hn:NoU8 w g)(hg:w.grownBy w' (some g))(hv:v.ownBlock≠some g):DOV e w' B v ls:=by
 obtain ⟨h0,vs,h1,h2,h3⟩:=h
 exact ⟨fun r hr=>(h0 r hr).same (hg.block r (World.ownsRow.lt h2 r hr).2 (by intro e;cases e;exact hv hr)),vs,h1,h2.kept hg (.inr hv),fun i hi hi'=>⟨(h3 i hi hi').1,(h3 i hi hi').2.1.but hn hg,(h3 i hi hi').2.2⟩⟩
theorem DOV.shape {e:TypeId}{w:World}{B:Nat}{v:Value}{ls:List (Int × List UInt8)}(h:DOV e w B v ls):∃ A c,v=.slice A ls.length c:=by
 obtain ⟨_,vs,h1,h2,_⟩:=h
 rcases h2.2 with ⟨rfl,h0⟩ | ⟨g,cap,cur,rfl,_⟩
 ·exact ⟨none,0,by rw [← h1,h0]⟩
 ·exact ⟨_,cap,by rw [h1]⟩
theorem DOV.ds {e:TypeId}{w:World}{B:Nat}{v:Value}{ls:List (Int × List UInt8)}(h:DOV e w B v ls):DS w v ls:=by
 obtain ⟨_,vs,h1,h2,h3⟩:=h
 have h2':=h2
 rcases h2.2 with ⟨rfl,h0⟩ | ⟨g,cap,cur,rfl,hb,hh,hnc,hcm,_⟩
 ·have:ls.length=0:=by omega
  exact ⟨none,0,by rw [this],by omega,by unfold maxLen;omega,fun i hi=>by omega⟩
 ·refine ⟨some ⟨g,0,none⟩,cap,by rw [h1],by omega,hcm,fun i hi=>?_⟩
  have hi':i<vs.length:=by omega
  obtain ⟨e1,e2,_⟩:=h3 i hi' hi
  obtain ⟨k1,k2⟩:=dcs_get vs i hi'
  have c1:=h2'.cells rfl _ _ k1
  have c2:=h2'.cells rfl _ _ k2
  obtain ⟨B',d,hv,_⟩:=e2.open_
  rw [hv] at c2 e2
  exact ⟨_,B',d,rfl,by rw [c1,e1],c2,e2⟩
theorem DOV.lt {e:TypeId}{w:World}{B:Nat}{v:Value}{ls:List (Int × List UInt8)}(h:DOV e w B v ls):∀ k,v.ownBlock=some k→B≤k∧k<w.heap.size:=by
 obtain ⟨_,vs,_,h2,_⟩:=h
 exact World.ownsRow.lt h2
theorem DOV.down {e:TypeId}{w:World}{B B':Nat}{v:Value}{ls:List (Int × List UInt8)}(h:DOV e w B v ls)(hB:B'≤B):DOV e w B' v ls:=by
 obtain ⟨h0,vs,h1,⟨h2,h2'⟩,h3⟩:=h
 refine ⟨h0,vs,h1,⟨h2,?_⟩,h3⟩
 rcases h2' with h | ⟨g,cap,cur,e1,e2,r⟩
 ·exact .inl h
 ·exact .inr ⟨g,cap,cur,e1,Nat.le_trans hB e2,r⟩
section
variable {P:Program}
theorem append_noU8 (w:World) (base:Nat) (t ty e:TypeId) (i:TypeInfo) (z:Value) (size bytes:Nat) (ht:P.underlying t=some (.slice e)) (hi:P.info? e=some i) (hz:i.zero=some z)
  (hsize:i.size=size) (hby:i.bytes=bytes) (hzs:z.cells.size=size) (hsz:0<size)
  (v:Value) (n:Nat) (xs:List Value) (hown:w.ownsRow base e size v n xs)
  (a:Addr) (m c:Nat) (news:List Value) (hl:news.length=m*size) (hnews:∀ j u,news[j]? = some u→w.cell? (a.add j)=some u) (h1:∀ u∈news,u.oneCell'=true)
  (hm0:0<m) (h63:n+m≤maxLen) (hbytes:(n+m)*bytes≤140737488355328)
  (h0:∀ r,v.ownBlock=some r→NoU8 w r) (hzn:∀ x∈z.cells.toList,∀ n,x≠.int .u8 n) (hnn:∀ x∈news,∀ n,x≠.int .u8 n)
  (v':Value) (w':World) (hrun:(Builtin.append_ #[t,t] ty #[v,.slice (some a) m c]).run P w=.ok v' w'):∀ r,v'.ownBlock=some r→NoU8 w' r:=by
 subst hsize
 subst hby
 have hsmall:n+m≤9223372036854775807:=by simp only [maxLen] at h63;omega
 rcases hown.2 with ⟨rfl,rfl⟩ | ⟨g,cap,cur,rfl,hbg,hg,hnc,hcm,hcs,htake⟩
 ·have hr:=run_append_nil (P:=P) w t ty e i z ht hi hz a m c news hl hnews hm0 (by omega) (by have hb:=hbytes;simp only [Nat.zero_add] at hb;omega)
  rw [hrun] at hr
  injection hr with e1 e2
  subst e1;subst e2
  intro r hr
  simp only [Value.ownBlock,Option.some.injEq] at hr
  subst hr
  refine NoU8.of (heap_alloc_new w.drew _) fun x hx n=>?_
  simp only [Array.toList_append,List.mem_append] at hx
  rcases hx with hx | hx
  ·exact hnn x hx n
  ·exact hzn x (mem_zeroCells _ (by omega) _ x hx) n
 ·by_cases hroom:n+m≤cap
  ·have hfit:n*i.size+news.length≤cur.size:=by rw [hl,hcs,← Nat.add_mul];exact Nat.mul_le_mul_right _ hroom
   have hr:=run_append_room (P:=P) w t ty e i ht hi g n cap cur hg a m c news hl hnews h1 hroom hfit
   rw [hrun] at hr
   injection hr with e1 e2
   subst e1;subst e2
   intro r hr
   simp only [Value.ownBlock,Option.some.injEq] at hr
   subst hr
   have hcur:=(h0 g rfl).mem hg
   refine NoU8.of (setRow_heap w g cur _ e _ hg) fun x hx n=>?_
   simp only [List.mem_append] at hx
   rcases hx with (hx | hx) | hx
   ·exact hcur x (List.mem_of_mem_take hx) n
   ·exact hnn x hx n
   ·exact hcur x (List.mem_of_mem_drop hx) n
  ·have holds:∀ j u,xs[j]? = some u→w.cell? ((⟨g,0,none⟩:Addr).add j)=some u:=hown.cells (g:=g) rfl
   have hr:=run_append_grow (P:=P) w t ty e i z ht hi hz ⟨g,0,none⟩ n cap xs hown.1 holds a m c news hl hnews (by omega) (by omega) (growslice_fits (by omega) hbytes)
   rw [hrun] at hr
   injection hr with e1 e2
   subst e1;subst e2
   intro r hr
   simp only [Value.ownBlock,Option.some.injEq] at hr
   subst hr
   have hcur:=(h0 g rfl).mem hg
   refine NoU8.of (heap_alloc_new w.drew _) fun x hx n=>?_
   simp only [Array.toList_append,List.mem_append] at hx
   rcases hx with (hx | hx) | hx
   ·refine hcur x ?_ n
    rw [← htake] at hx
    exact List.mem_of_mem_take hx
   ·exact hnn x hx n
   ·exact hzn x (mem_zeroCells _ (by omega) _ x hx) n
theorem wpList_append_dov (w:World) {ops:Array Oper} {rest:List Oper} {o:Oper} {a:Act} {Q:Exit→Act→World→Prop} (hgd:o.guard=none) (s x:Operand) (t:TypeId)
  (ho:o.op=.call { callee:=.builtin .append,args:=#[s,x],argTypes:=#[t,t] })
  (base:Nat) (e:TypeId) (i:TypeInfo) (z:Value) (bytes:Nat) (ht:P.underlying t=some (.slice e)) (hi:P.info? e=some i) (hz:i.zero=some z)
  (hsize:i.size=2) (hby:i.bytes=bytes) (hzs:z.cells.size=2) (hzn:∀ x∈z.cells.toList,∀ n,x≠.int .u8 n)
  (v:Value) (ls:List (Int × List UInt8)) (hs:a.eval s=v) (hown:DOV e w base v ls)
  (ad:Addr) (c:Nat) (k:Int) (A:Option Addr) (n d:Nat) (l:List UInt8) (hx:a.eval x=.slice (some ad) 1 c) (hc0:w.cell? (ad.add 0)=some (.int .i64 k)) (hc1:w.cell? (ad.add 1)=some (.slice A n d)) (hu:BS w (.slice A n d) l) (hap:l≠[]→∀ b,(Value.slice A n d).ownBlock=some b→v.ownBlock≠some b)
  (hbytes:(ls.length+1)*bytes≤140737488355328) (hby0:0<bytes) (hbase:base≤w.heap.size)
  (h:∀ v' w',DOV e w' base v' (ls++[(k,l)])→w.grownBy w' v.ownBlock→(v'.ownBlock=v.ownBlock∨v'.ownBlock=some w.heap.size)→wpList P ops Q rest (a.put o.dst v') w'):wpList P ops Q (o::rest) a w:=by
 obtain ⟨h0,vs,h1,h2,h3⟩:=hown
 refine wpList_plain hgd fun K hK=>?_
 have h63:vs.length+1≤maxLen:=by
  have:ls.length+1≤(ls.length+1)*bytes:=Nat.le_mul_of_pos_right _ hby0
  unfold maxLen;omega
 have hnews:∀ j u,([.int .i64 k,.slice A n d]:List Value)[j]? = some u→w.cell? (ad.add j)=some u:=by
  intro j u hju
  rcases j with _ | _ | j
  ·simp at hju;subst hju;exact hc0
  ·simp at hju;subst hju;exact hc1
  ·simp at hju
 have hone:∀ u∈([.int .i64 k,.slice A n d]:List Value),u.oneCell'=true:=by intro u hm;simp at hm;rcases hm with rfl | rfl<;>rfl
 obtain ⟨v',w',hrun,g1,g2,_,g3⟩:=run_append_own_at (P:=P) w base t o.type e i z 2 bytes ht hi hz hsize hby hzs (by omega) v vs.length (dcs vs) h2 ad 1 c [.int .i64 k,.slice A n d] rfl
  hnews hone h63 (by rw [h1];exact hbytes) hbase
 have g4:=append_noU8 (P:=P) w base t o.type e i z 2 bytes ht hi hz hsize hby hzs (by omega) v vs.length (dcs vs) h2 ad 1 c [.int .i64 k,.slice A n d] rfl hnews hone (by omega) h63 (by rw [h1];exact hbytes) h0 hzn (by intro x hm n;simp at hm;rcases hm with rfl | rfl<;>simp) v' w' hrun
 unfold Oper.wp execOp
 simp only [ho,resolve,invoke,builtin,Sem.run_bind,Sem.run_pure,Result.andThen_ok,List.map_toArray,List.map_cons,List.map_nil,hs,hx,hrun]
 refine hK _ _ (h v' w' ⟨g4,vs++[(k,.slice A n d)],by simp [h1],?_,fun i hi hi'=>?_⟩ g2 g3)
 ·rw [dcs_snoc]
  simpa using g1
 ·have key:∀ (y:Value) (m:List UInt8),BS w y m→(m≠[]→∀ b,y.ownBlock=some b→v.ownBlock≠some b)→BS w' y m∧(m≠[]→∀ b,y.ownBlock=some b→v'.ownBlock≠some b):=by
   intro y m hy ha
   refine ⟨hy.apart ha g2,fun hne b hb=>?_⟩
   rcases g3 with g | g
   ·rw [g];exact ha hne b hb
   ·rw [g]
    have:=hy.blockLt hne b hb
    intro e;injection e with e;omega
  by_cases hlt:i<vs.length
  ·have e1:(vs++[(k,Value.slice A n d)])[i]=vs[i]:=List.getElem_append_left hlt
   have e2:(ls++[(k,l)])[i]=ls[i]'(by omega):=List.getElem_append_left (by omega)
   rw [e1,e2]
   exact ⟨(h3 i hlt (by omega)).1,key _ _ (h3 i hlt (by omega)).2.1 (h3 i hlt (by omega)).2.2⟩
  ·have hi2:i=vs.length:=by simp at hi;omega
   subst hi2
   have e1:(vs++[(k,Value.slice A n d)])[vs.length]=(k,.slice A n d):=by simp
   have e2:(ls++[(k,l)])[vs.length]'hi'=(k,l):=by simp [h1]
   rw [e1,e2]
   exact ⟨rfl,key _ _ hu hap⟩
end
end Go.Proofs.YtnjmndofcpnmeaaGreatDoor
namespace Go.Proofs.YtnjmndofcpnmeaaGreatDoor
open Go Go.Lib
set_option linter.unusedVariables false
theorem parse_zeros (n:Nat)(r:List UInt8):parseUint10 0 (List.replicate n 48++r)=parseUint10 0 r:=by
 induction n with
 | zero=>rfl
 | succ n ih=>
  have e:(48:UInt8).toNat=48:=by decide
  rw [List.replicate_succ,List.cons_append,parseUint10,e,if_pos (by omega),if_neg (by omega),if_neg (by omega)]
  exact ih
theorem atoi_pad (n u:Nat)(h:u<1844674407370955162):atoiAll (List.replicate n 48++decDigits u)=.ok (u:Int):=by
 cases n with
 | zero=>exact atoi_dec u h
 | succ n=>
  have hp:parseMag (List.replicate (n+1) 48++decDigits u)=.ok u:=by
   rw [parseMag,if_neg (by simp),parse_zeros]
   have:=parse_dec u h []
   rw [List.append_nil] at this
   rw [this]
   rfl
  rw [List.replicate_succ,List.cons_append] at hp ⊢
  rw [atoiAll_plain 48 _ (by decide) (by decide),hp]
  unfold signless
  simp only
  rw [if_neg (by omega)]
theorem atoi_itoa' {x:Int}(h0:0≤x)(h1:x≤1099511627776):atoiAll (itoa x)=.ok x:=by
 rw [itoa_nn h0,atoi_dec _ (by omega)]
 congr 1
 omega
theorem atoi_mi {m:Int}(h0:0≤m)(h1:m≤999999)(n:Nat):atoiAll (List.replicate n 48++itoa m)=.ok m:=by
 rw [itoa_nn h0,atoi_pad _ _ (by omega)]
 congr 1
 omega
theorem cut_tim {t m:Int}(h:0≤t):cut (timW t m) [46]=(itoa t,List.replicate (6-(itoa m).length) 48++itoa m,true):=by
 have n1:(46:UInt8) ∉ itoa t:=by rw [itoa_nn h];exact dec_no _ _ (by decide)
 unfold cut timW
 rw [index_hit 46 _ _ n1,if_pos (by omega)]
 simp
theorem decD_len (u n:Nat)(h:u<10 ^ (n+1)):(decDigits u).length≤n+1:=by
 induction n generalizing u with
 | zero=>rw [dec_lo u (by omega)];simp
 | succ n ih=>
  by_cases h10:u<10
  ·rw [dec_lo u h10];simp
  ·rw [dec_hi u h10,List.length_append,List.length_singleton]
   have:=ih (u / 10) (by rw [Nat.pow_succ] at h;omega)
   omega
end Go.Proofs.YtnjmndofcpnmeaaGreatDoor
namespace Go.Proofs.YtnjmndofcpnmeaaGreatDoor
open Go Go.RowKit
set_option linter.unusedVariables false
def fcs (f:FV):Array Value:=#[.int .i64 f.t,.int .i64 f.mi,.int .i64 f.kd,.int .i64 f.fk,.slice f.FA f.fb.length f.fc,.slice f.CA f.cp.length f.cc,.string f.cr,.slice f.SA f.sp.length f.sc,.string f.sr,.int .i64 f.co,.int .i64 f.pr,.int .u32 (f.fl.toNat:Int)]
theorem FBx.rw {w:World}{g:Nat}{f:FV}(h:FBx w g f):RW w g 41 (fcs f):=h
def EBx (w:World)(g:Nat):Prop:=∃ x:Int,RW w g 25 #[.int .i64 x]
theorem EBx.ext {w w':World}{g:Nat}(h:EBx w g)(hx:Ext w w'):EBx w' g:=let ⟨x,h⟩:=h;⟨x,h.ext hx⟩
theorem fbx_noU8 {w:World}{g:Nat}{f:FV}(h:FBx w g f):NoU8 w g:=
 NoU8.of h fun x hx n e=>by
  subst e
  simp at hx
def Trn (gF gE:Nat)(W W':World):Prop:=∃ W1,W.grownBy W1 (some gF)∧W1.grownBy W' (some gE)
theorem Trn.one {gF gE:Nat}{W W':World}(h:W.grownBy W' (some gF)):Trn gF gE W W':=⟨W',h,grown_refl _ _⟩
theorem Trn.size {gF gE:Nat}{W W':World}(h:Trn gF gE W W'):W.heap.size≤W'.heap.size:=let ⟨_,a,b⟩:=h;Nat.le_trans a.size b.size
theorem Trn.heap {gF gE k:Nat}{o:Obj}{W W':World}(h:Trn gF gE W W')(hk:W.heap[k]? = some o)(h1:k≠gF)(h2:k≠gE):W'.heap[k]? = some o:=let ⟨_,a,b⟩:=h;heap_far b (heap_far a hk h1) h2
theorem Trn.ext {gF gE:Nat}{w W W':World}(h:Trn gF gE W W')(hx:Ext w W)(h1:w.heap.size≤gF)(h2:w.heap.size≤gE):Ext w W':=let ⟨_,a,b⟩:=h;(hx.of_grown a h1).of_grown b h2
theorem DotCut_at (s:ByteArray) (hs:s.size≤3000) (w:World) (hm:MaxL w):
  Calls Tryz.prog 40 #[.string s,.string ⟨#[46]⟩] w fun e w'=>e=.returned (.tuple #[.string ⟨(Lib.cut s.data.toList [46]).1.toArray⟩,.string ⟨(Lib.cut s.data.toList [46]).2.1.toArray⟩,.bool (Lib.cut s.data.toList [46]).2.2])∧Ext w w':=by
 obtain ⟨m,hm⟩:=hm 0 (by kernel_rfl)
 refine (Tryz.strings_Cut s ⟨#[46]⟩ m w (by omega) hm).mono ?_
 rintro e w' ⟨rfl,n,rfl⟩
 exact ⟨rfl,(Ext.refl _).drewN n⟩
set_option maxRecDepth 100000 in
set_option maxHeartbeats 1000000 in
theorem C1_at (s:ByteArray) (hs:s.size≤3000) (gF:Nat) (f:FV) (W:World) (hE:Env W) (hF:FBx W gF f) (hEx:∀ W',W.grownBy W' (some gF)→Env W'):
  Calls Tryz.prog 39 #[.string s,.pointer (some ⟨gF,0,none⟩)] W fun e W'=>∃ (t mi:Int) (b:Bool),e=.returned (.bool b)∧W.grownBy W' (some gF)∧FBx W' gF { f with t:=t,mi:=mi } ∧
   ∀ t' mi':Int,0≤t'∧t'≤1099511627776→0≤mi'∧mi'≤999999→timW t' mi'=s.data.toList→t=t'∧mi=mi'∧b=true:=by
 have HC:=Lib.hid (DotCut_at s hs W hE.maxl)
 have hcl:=cut_len1 s.data.toList [46]
 rw [size_list] at hcl
 have hcv:∀ t' mi':Int,0≤t'∧t'≤1099511627776→0≤mi'∧mi'≤999999→timW t' mi'=s.data.toList→Lib.atoiAll (Lib.cut s.data.toList [46]).1=.ok t'∧Lib.atoiAll (Lib.cut s.data.toList [46]).2.1=.ok mi':=by
  intro t' mi' h1 h2 e
  rw [← e,cut_tim h1.1]
  exact ⟨atoi_itoa' h1.1 h1.2,atoi_mi h2.1 h2.2 _⟩
 have HCV:=Lib.hid hcv
 generalize (Lib.cut s.data.toList [46]).1=P at *
 generalize (Lib.cut s.data.toList [46]).2.1=Q at *
 generalize (Lib.cut s.data.toList [46]).2.2=b0 at *
 have hp:(⟨P.toArray⟩:ByteArray).size≤3000:=by show P.toArray.size≤3000;simp;omega
 have hq:(⟨Q.toArray⟩:ByteArray).size≤3000:=by show Q.toArray.size≤3000;simp;omega
 have H1:=Lib.hid (fun W2 (hx:Ext W W2)=>readNumber_at ⟨P.toArray⟩ hp gF 0 41 (fcs f) (by show 0<12;decide) W2 (hE.ext hx) (hF.rw.ext hx))
 have HEX:=Lib.hid hEx;have HQ:=Lib.hid hq
 clear hcl hcv hp hq hE hF hEx
 go_enter Tryz.func39,Tryz.ntmps39
 go_wp2_with fail
 refine HC.out.mono ?_
 rintro _ w2 ⟨rfl,hx⟩
 have HX:=Lib.hid hx
 clear hx
 go_wp2_with fail
 refine (H1.out w2 HX.out).mono ?_
 rintro _ w3 ⟨v,b,⟨rfl,hg,hr⟩,hs1⟩
 have HG:=Lib.hid (grown_trans (HX.out.but (some gF)) hg);have HR:=Lib.hid (show FBx w3 gF { f with t:=v } from hr);have HS1:=Lib.hid hs1
 clear hg hr hs1
 cases b with
 | false=>
  go_wp2_with fail
  go_ret
  exact ⟨v,f.mi,false,rfl,HG.out,HR.out,fun t' mi' h1 h2 e=>absurd (HS1.out t' (HCV.out t' mi' h1 h2 e).1).2 (by decide)⟩
 | true=>
  have H2:=Lib.hid (readNumber_at ⟨Q.toArray⟩ HQ.out gF 1 41 (fcs { f with t:=v }) (by show 1<12;decide) w3 (HEX.out w3 HG.out) HR.out)
  go_wp2_with fail
  refine H2.out.mono ?_
  rintro _ w4 ⟨u,b,⟨rfl,hg,hr⟩,hs2⟩
  have HG2:=Lib.hid (grown_trans HG.out hg);have HR2:=Lib.hid (show FBx w4 gF { f with t:=v,mi:=u } from hr);have HS2:=Lib.hid hs2
  clear hg hr hs2
  go_wp2_with fail
  go_ret
  exact ⟨v,u,b,rfl,HG2.out,HR2.out,fun t' mi' h1 h2 e=>⟨(HS1.out t' (HCV.out t' mi' h1 h2 e).1).1,HS2.out mi' (HCV.out t' mi' h1 h2 e).2⟩⟩
set_option maxRecDepth 100000 in
theorem C2_at (s:ByteArray) (gF:Nat) (f:FV) (W:World) (hF:FBx W gF f):
  Calls Tryz.prog 42 #[.string s,.pointer (some ⟨gF,0,none⟩)] W fun e W'=>∃ (k:Int) (b:Bool),e=.returned (.bool b)∧W.grownBy W' (some gF)∧FBx W' gF { f with kd:=k } ∧
   ∀ k':Int,(k'=0∨k'=10∨k'=12)→kindW k'=s.data.toList→k=k'∧b=true:=by
 have H1:=Lib.hid (readKind_at s gF 2 41 (fcs f) (by show 2<12;decide) W hF.rw)
 have HF:=Lib.hid hF
 clear hF
 go_enter Tryz.func42,Tryz.ntmps42
 go_wp2_with fail
 refine H1.out.mono ?_
 rintro en w3 (⟨k,hk,hw,rfl,hg,hr⟩ | ⟨hn,rfl,rfl⟩)
 ·have HK:=Lib.hid hk;have HW:=Lib.hid hw;have HG:=Lib.hid hg;have HR:=Lib.hid (show FBx w3 gF { f with kd:=k } from hr)
  clear hk hw hg hr
  go_wp2_with fail
  go_ret
  exact ⟨k,true,rfl,HG.out,HR.out,fun k' hk' e=>⟨kindW_inj HK.out hk' (HW.out.trans e.symm),rfl⟩⟩
 ·have HN:=Lib.hid hn
  clear hn
  go_wp2_with fail
  go_ret
  exact ⟨f.kd,false,rfl,grown_refl _ _,HF.out,fun k' hk' e=>absurd e (HN.out k' hk')⟩
set_option maxRecDepth 100000 in
theorem C3_at (s:ByteArray) (hs:s.size≤3000) (gF:Nat) (f:FV) (W:World) (hF:FBx W gF f):
  Calls Tryz.prog 44 #[.string s,.pointer (some ⟨gF,0,none⟩)] W fun e W'=>
   (s.data.toList=[45]∧e=.returned (.bool true)∧W'=W) ∨
   (∃ A c ps r,prsB (dat ps) r.data.toList=true∧prsW (dat ps) r.data.toList=s.data.toList∧e=.returned (.bool true)∧W.grownBy W' (some gF)∧FBx W' gF { f with CA:=A,cp:=ps,cc:=c,cr:=r }∧RS W' (.slice A ps.length c) (sv ps)∧(∀ ad,A=some ad→W.heap.size≤ad.block)∧(∀ p∈ps,p.size≤1000)∧r.size≤1000∧ps.length≤1000) ∨
   ((∀ (ls:List (List UInt8)) (r:List UInt8),prsB ls r=true→prsW ls r≠s.data.toList)∧e=.returned (.bool false)∧W.grownBy W' (some gF)):=by
 have H1:=Lib.hid (readName_at' s hs gF 5 41 (fcs f) (by show 5+1<12;decide) W hF.rw)
 clear hF
 go_enter Tryz.func44,Tryz.ntmps44
 go_wp2_with fail
 refine H1.out.mono ?_
 rintro en w3 (⟨h1,rfl,rfl⟩ | ⟨A,c,ps,r,h1,h2,rfl,h3,h4,h5⟩ | ⟨h1,rfl,h2⟩)
 ·have HA:=Lib.hid h1
  clear h1
  go_wp2_with fail
  go_ret
  exact .inl ⟨HA.out,rfl,rfl⟩
 ·have HA:=Lib.hid h1;have HB:=Lib.hid h2;have HC:=Lib.hid h3;have HD:=Lib.hid (show FBx w3 gF { f with CA:=A,cp:=ps,cc:=c,cr:=r } from h4);have HE:=Lib.hid h5
  clear h1 h2 h3 h4 h5
  go_wp2_with fail
  go_ret
  exact .inr (.inl ⟨A,c,ps,r,HA.out,HB.out,rfl,HC.out,HD.out,HE.out⟩)
 ·have HA:=Lib.hid h1;have HB:=Lib.hid h2
  clear h1 h2
  go_wp2_with fail
  go_ret
  exact .inr (.inr ⟨HA.out,rfl,HB.out⟩)
set_option maxRecDepth 100000 in
theorem C4_at (s:ByteArray) (hs:s.size≤3000) (gF:Nat) (f:FV) (W:World) (hF:FBx W gF f):
  Calls Tryz.prog 46 #[.string s,.pointer (some ⟨gF,0,none⟩)] W fun e W'=>
   (s.data.toList=[45]∧e=.returned (.bool true)∧W'=W) ∨
   (∃ A c ps r,prsB (dat ps) r.data.toList=true∧prsW (dat ps) r.data.toList=s.data.toList∧e=.returned (.bool true)∧W.grownBy W' (some gF)∧FBx W' gF { f with SA:=A,sp:=ps,sc:=c,sr:=r }∧RS W' (.slice A ps.length c) (sv ps)∧(∀ ad,A=some ad→W.heap.size≤ad.block)∧(∀ p∈ps,p.size≤1000)∧r.size≤1000∧ps.length≤1000) ∨
   ((∀ (ls:List (List UInt8)) (r:List UInt8),prsB ls r=true→prsW ls r≠s.data.toList)∧e=.returned (.bool false)∧W.grownBy W' (some gF)):=by
 have H1:=Lib.hid (readName_at' s hs gF 7 41 (fcs f) (by show 7+1<12;decide) W hF.rw)
 clear hF
 go_enter Tryz.func46,Tryz.ntmps46
 go_wp2_with fail
 refine H1.out.mono ?_
 rintro en w3 (⟨h1,rfl,rfl⟩ | ⟨A,c,ps,r,h1,h2,rfl,h3,h4,h5⟩ | ⟨h1,rfl,h2⟩)
 ·have HA:=Lib.hid h1
  clear h1
  go_wp2_with fail
  go_ret
  exact .inl ⟨HA.out,rfl,rfl⟩
 ·have HA:=Lib.hid h1;have HB:=Lib.hid h2;have HC:=Lib.hid h3;have HD:=Lib.hid (show FBx w3 gF { f with SA:=A,sp:=ps,sc:=c,sr:=r } from h4);have HE:=Lib.hid h5
  clear h1 h2 h3 h4 h5
  go_wp2_with fail
  go_ret
  exact .inr (.inl ⟨A,c,ps,r,HA.out,HB.out,rfl,HC.out,HD.out,HE.out⟩)
 ·have HA:=Lib.hid h1;have HB:=Lib.hid h2
  clear h1 h2
  go_wp2_with fail
  go_ret
  exact .inr (.inr ⟨HA.out,rfl,HB.out⟩)
set_option maxRecDepth 100000 in
theorem C6_at (s:ByteArray) (hs:s.size≤3000) (gF:Nat) (f:FV) (W:World) (hE:Env W) (hF:FBx W gF f):
  Calls Tryz.prog 49 #[.string s,.pointer (some ⟨gF,0,none⟩)] W fun e W'=>∃ (v:Int) (b:Bool),e=.returned (.bool b)∧W.grownBy W' (some gF)∧FBx W' gF { f with co:=v } ∧
   ∀ v':Int,0≤v'∧v'≤1099511627776→Lib.itoa v'=s.data.toList→v=v'∧b=true:=by
 have H1:=Lib.hid (readNumber_at s hs gF 9 41 (fcs f) (by show 9<12;decide) W hE hF.rw)
 clear hF hE
 go_enter Tryz.func49,Tryz.ntmps49
 go_wp2_with fail
 refine H1.out.mono ?_
 rintro _ w3 ⟨v,b,⟨rfl,hg,hr⟩,hs1⟩
 have HG:=Lib.hid hg;have HR:=Lib.hid (show FBx w3 gF { f with co:=v } from hr);have HS1:=Lib.hid hs1
 clear hg hr hs1
 go_wp2_with fail
 go_ret
 exact ⟨v,b,rfl,HG.out,HR.out,fun v' h e=>HS1.out v' (by rw [← e];exact atoi_itoa' h.1 h.2)⟩
set_option maxRecDepth 100000 in
theorem C7_at (s:ByteArray) (hs:s.size≤3000) (gF:Nat) (f:FV) (W:World) (hE:Env W) (hF:FBx W gF f):
  Calls Tryz.prog 50 #[.string s,.pointer (some ⟨gF,0,none⟩)] W fun e W'=>∃ (v:Int) (b:Bool),e=.returned (.bool b)∧W.grownBy W' (some gF)∧FBx W' gF { f with pr:=v } ∧
   ∀ v':Int,0≤v'∧v'≤1099511627776→Lib.itoa v'=s.data.toList→v=v'∧b=true:=by
 have H1:=Lib.hid (readNumber_at s hs gF 10 41 (fcs f) (by show 10<12;decide) W hE hF.rw)
 clear hF hE
 go_enter Tryz.func50,Tryz.ntmps50
 go_wp2_with fail
 refine H1.out.mono ?_
 rintro _ w3 ⟨v,b,⟨rfl,hg,hr⟩,hs1⟩
 have HG:=Lib.hid hg;have HR:=Lib.hid (show FBx w3 gF { f with pr:=v } from hr);have HS1:=Lib.hid hs1
 clear hg hr hs1
 go_wp2_with fail
 go_ret
 exact ⟨v,b,rfl,HG.out,HR.out,fun v' h e=>HS1.out v' (by rw [← e];exact atoi_itoa' h.1 h.2)⟩
set_option maxRecDepth 100000 in
set_option maxHeartbeats 1000000 in
theorem C5_at (s:ByteArray) (hs:s.size≤3000) (gF gE:Nat) (hne:gF≠gE) (f:FV) (W:World) (hE:EnvA W) (hF:FBx W gF f) (hEb:EBx W gE):
  Calls Tryz.prog 47 #[.string s,.pointer (some ⟨gF,0,none⟩),.pointer (some ⟨gE,0,none⟩)] W fun e W'=>
   (∃ k b A c,okA k b=true∧txtA k b=s.data.toList∧e=.returned (.bool true)∧Trn gF gE W W'∧EBx W' gE∧FBx W' gF { f with fk:=k,FA:=A,fb:=b,fc:=c }∧BS W' (.slice A b.length c) b) ∨
   ((∀ k b,okA k b=true→txtA k b≠s.data.toList)∧e=.returned (.bool false)∧Trn gF gE W W'):=by
 obtain ⟨xe,heb⟩:=hEb
 have H1:=Lib.hid (AParse_at s hs W hE)
 have HF:=Lib.hid hF;have HEB:=Lib.hid heb;have HNE:=Lib.hid hne
 clear hE hF heb hne
 go_enter Tryz.func47,Tryz.ntmps47
 go_wp2_with fail
 refine H1.out.mono ?_
 rintro en w2 ⟨⟨k,b,A,c,h1,rfl,h2⟩ | ⟨h1,rfl⟩,hx⟩
 ·unfold adv
  have hf2:RW w2 gF 41 (fcs f):=HF.out.rw.ext hx
  have he2:RW w2 gE 25 #[.int .i64 xe]:=HEB.out.ext hx
  have hg2:W.grownBy w2 (some gF):=hx.but _
  obtain ⟨u2,c2⟩:=hf2.get 3 (by simp [fcs])
  have s2:=hf2.soft 3
  have hf3:=hf2.set 3 (.int .i64 k)
  have hg3:=grown_set hg2 3 (.int .i64 k)
  have he3:RW (w2.setCell ⟨gF,3,none⟩ (.int .i64 k)) gE 25 #[.int .i64 xe]:=heap_far (grown_set (grown_refl _ _) 3 _) he2 (fun e=>HNE.out e.symm)
  obtain ⟨w3,e3⟩:∃ W3,w2.setCell ⟨gF,3,none⟩ (.int .i64 k)=W3:=⟨_,rfl⟩
  rw [e3] at hf3 hg3 he3
  obtain ⟨u3,c3⟩:=hf3.get 4 (by simp [fcs])
  have s3:=hf3.soft 4
  have hf4:=hf3.set 4 (.slice A b.length c)
  have hg4:=grown_set hg3 4 (.slice A b.length c)
  have he4:RW (w3.setCell ⟨gF,4,none⟩ (.slice A b.length c)) gE 25 #[.int .i64 xe]:=heap_far (grown_set (grown_refl _ _) 4 _) he3 (fun e=>HNE.out e.symm)
  obtain ⟨w4,e4⟩:∃ W3,w3.setCell ⟨gF,4,none⟩ (.slice A b.length c)=W3:=⟨_,rfl⟩
  rw [e4] at hf4 hg4 he4
  obtain ⟨u4,c4⟩:=he4.get 0 (by show 0<1;decide)
  have s4:=he4.soft 0
  have he5:=he4.set 0 (.int .i64 0)
  have hf5:=heap_far (grown_set (grown_refl w4 (some gE)) 0 (.int .i64 0)) hf4 HNE.out
  have ht5:Trn gF gE W (w4.setCell ⟨gE,0,none⟩ (.int .i64 0)):=⟨_,hg4,grown_set (grown_refl _ _) 0 _⟩
  obtain ⟨w5,e5⟩:∃ W3,w4.setCell ⟨gE,0,none⟩ (.int .i64 0)=W3:=⟨_,rfl⟩
  rw [e5] at hf5 he5 ht5
  have c5:w5.cell? ⟨gE,0,none⟩=some (.int .i64 0):=by rw [cell_of_row _ _ 0 _ _ (0,0) he5];rfl
  have HT:=Lib.hid ht5;have HE9:=Lib.hid he5;have HF9:=Lib.hid hf5
  have hbs:BS w5 (.slice A b.length c) b:=by
   have hb1:BS w4 (.slice A b.length c) b:=by
    rw [← e4,← e3]
    exact h2.but (fbx_noU8 hf2) (grown_set (grown_set (grown_refl _ _) 3 _) 4 _)
   rw [← e5]
   exact hb1.but (NoU8.of he4 fun x hx n e=>by subst e;simp at hx) (grown_set (grown_refl _ _) 0 _)
  have HBS:=Lib.hid hbs;have HA:=Lib.hid h1
  clear hf2 he2 hf3 he3 hf4 he4 hf5 he5 hg2 hg3 hg4 ht5 hbs h1 h2 hx
  go_wp2_with fail
  go_ret
  obtain ⟨k1,k2⟩:=prsA_some HA.out
  exact .inl ⟨k,b,A,c,k1,k2,rfl,HT.out,⟨_,HE9.out⟩,HF9.out,HBS.out⟩
 ·unfold adv
  have hf2:RW w2 gF 41 (fcs f):=HF.out.rw.ext hx
  have he2:RW w2 gE 25 #[.int .i64 xe]:=HEB.out.ext hx
  have hg2:W.grownBy w2 (some gF):=hx.but _
  obtain ⟨u2,c2⟩:=hf2.get 3 (by simp [fcs])
  have s2:=hf2.soft 3
  have hf3:=hf2.set 3 (.int .i64 0)
  have hg3:=grown_set hg2 3 (.int .i64 0)
  have he3:RW (w2.setCell ⟨gF,3,none⟩ (.int .i64 0)) gE 25 #[.int .i64 xe]:=heap_far (grown_set (grown_refl _ _) 3 _) he2 (fun e=>HNE.out e.symm)
  obtain ⟨w3,e3⟩:∃ W3,w2.setCell ⟨gF,3,none⟩ (.int .i64 0)=W3:=⟨_,rfl⟩
  rw [e3] at hf3 hg3 he3
  obtain ⟨u3,c3⟩:=hf3.get 4 (by simp [fcs])
  have s3:=hf3.soft 4
  have hf4:=hf3.set 4 (.slice none 0 0)
  have hg4:=grown_set hg3 4 (.slice none 0 0)
  have he4:RW (w3.setCell ⟨gF,4,none⟩ (.slice none 0 0)) gE 25 #[.int .i64 xe]:=heap_far (grown_set (grown_refl _ _) 4 _) he3 (fun e=>HNE.out e.symm)
  obtain ⟨w4,e4⟩:∃ W3,w3.setCell ⟨gF,4,none⟩ (.slice none 0 0)=W3:=⟨_,rfl⟩
  rw [e4] at hf4 hg4 he4
  obtain ⟨u4,c4⟩:=he4.get 0 (by show 0<1;decide)
  have s4:=he4.soft 0
  have he5:=he4.set 0 (.int .i64 6)
  have hf5:=heap_far (grown_set (grown_refl w4 (some gE)) 0 (.int .i64 6)) hf4 HNE.out
  have ht5:Trn gF gE W (w4.setCell ⟨gE,0,none⟩ (.int .i64 6)):=⟨_,hg4,grown_set (grown_refl _ _) 0 _⟩
  obtain ⟨w5,e5⟩:∃ W3,w4.setCell ⟨gE,0,none⟩ (.int .i64 6)=W3:=⟨_,rfl⟩
  rw [e5] at hf5 he5 ht5
  have c5:w5.cell? ⟨gE,0,none⟩=some (.int .i64 6):=by rw [cell_of_row _ _ 0 _ _ (0,0) he5];rfl
  have HT:=Lib.hid ht5;have HE9:=Lib.hid he5;have HF9:=Lib.hid hf5
  have HA:=Lib.hid h1
  clear hf2 he2 hf3 he3 hf4 he4 hf5 he5 hg2 hg3 hg4 ht5 h1 hx
  go_wp2_with fail
  go_ret
  exact .inr ⟨fun k b ho e=>(by have:=HA.out;rw [← e,prsA_txt ho] at this;cases this),rfl,HT.out⟩
set_option maxRecDepth 100000 in
set_option maxHeartbeats 1000000 in
theorem C8_at (s:ByteArray) (hs:s.size≤3000) (gF gE:Nat) (hne:gF≠gE) (f:FV) (W:World) (hF:FBx W gF f) (hEb:EBx W gE):
  Calls Tryz.prog 51 #[.string s,.pointer (some ⟨gF,0,none⟩),.pointer (some ⟨gE,0,none⟩)] W fun e W'=>
   (∃ x:W32,nmB x=true∧textF x=s.data.toList∧e=.returned (.bool true)∧Trn gF gE W W'∧EBx W' gE∧FBx W' gF { f with fl:=x }) ∨
   ((∀ x:W32,nmB x=true→textF x≠s.data.toList)∧e=.returned (.bool false)∧Trn gF gE W W'):=by
 obtain ⟨xe,heb⟩:=hEb
 have H1:=Lib.hid (FParse_at s hs W)
 have HF:=Lib.hid hF;have HEB:=Lib.hid heb;have HNE:=Lib.hid hne
 clear hF heb hne
 go_enter Tryz.func51,Tryz.ntmps51
 go_wp2_with fail
 refine H1.out.mono ?_
 rintro en w2 ⟨⟨x,h1,h2,rfl⟩ | ⟨h1,rfl⟩,hx⟩
 ·have hf2:RW w2 gF 41 (fcs f):=HF.out.rw.ext hx
  have he2:RW w2 gE 25 #[.int .i64 xe]:=HEB.out.ext hx
  have hg2:W.grownBy w2 (some gF):=hx.but _
  obtain ⟨u2,c2⟩:=hf2.get 11 (by simp [fcs])
  have s2:=hf2.soft 11
  have hf3:=hf2.set 11 (.int .u32 (x.toNat:Int))
  have hg3:=grown_set hg2 11 (.int .u32 (x.toNat:Int))
  have he3:RW (w2.setCell ⟨gF,11,none⟩ (.int .u32 (x.toNat:Int))) gE 25 #[.int .i64 xe]:=heap_far (grown_set (grown_refl _ _) 11 _) he2 (fun e=>HNE.out e.symm)
  obtain ⟨w3,e3⟩:∃ W3,w2.setCell ⟨gF,11,none⟩ (.int .u32 (x.toNat:Int))=W3:=⟨_,rfl⟩
  rw [e3] at hf3 hg3 he3
  obtain ⟨u3,c3⟩:=he3.get 0 (by show 0<1;decide)
  have s3:=he3.soft 0
  have he4:=he3.set 0 (.int .i64 0)
  have hf4:=heap_far (grown_set (grown_refl w3 (some gE)) 0 (.int .i64 0)) hf3 HNE.out
  have ht4:Trn gF gE W (w3.setCell ⟨gE,0,none⟩ (.int .i64 0)):=⟨_,hg3,grown_set (grown_refl _ _) 0 _⟩
  obtain ⟨w4,e4⟩:∃ W3,w3.setCell ⟨gE,0,none⟩ (.int .i64 0)=W3:=⟨_,rfl⟩
  rw [e4] at hf4 he4 ht4
  have c4:w4.cell? ⟨gE,0,none⟩=some (.int .i64 0):=by rw [cell_of_row _ _ 0 _ _ (0,0) he4];rfl
  have HT:=Lib.hid ht4;have HE9:=Lib.hid he4;have HF9:=Lib.hid hf4
  have HA:=Lib.hid h1;have HB:=Lib.hid h2
  clear hf2 he2 hf3 he3 hf4 he4 hg2 hg3 ht4 h1 h2 hx
  go_wp2_with fail
  go_ret
  exact .inl ⟨x,HA.out,HB.out,rfl,HT.out,⟨_,HE9.out⟩,HF9.out⟩
 ·have hf2:RW w2 gF 41 (fcs f):=HF.out.rw.ext hx
  have he2:RW w2 gE 25 #[.int .i64 xe]:=HEB.out.ext hx
  have hg2:W.grownBy w2 (some gF):=hx.but _
  obtain ⟨u2,c2⟩:=hf2.get 11 (by simp [fcs])
  have s2:=hf2.soft 11
  have hf3:=hf2.set 11 (.int .u32 0)
  have hg3:=grown_set hg2 11 (.int .u32 0)
  have he3:RW (w2.setCell ⟨gF,11,none⟩ (.int .u32 0)) gE 25 #[.int .i64 xe]:=heap_far (grown_set (grown_refl _ _) 11 _) he2 (fun e=>HNE.out e.symm)
  obtain ⟨w3,e3⟩:∃ W3,w2.setCell ⟨gF,11,none⟩ (.int .u32 0)=W3:=⟨_,rfl⟩
  rw [e3] at hf3 hg3 he3
  obtain ⟨u3,c3⟩:=he3.get 0 (by show 0<1;decide)
  have s3:=he3.soft 0
  have he4:=he3.set 0 (.int .i64 6)
  have hf4:=heap_far (grown_set (grown_refl w3 (some gE)) 0 (.int .i64 6)) hf3 HNE.out
  have ht4:Trn gF gE W (w3.setCell ⟨gE,0,none⟩ (.int .i64 6)):=⟨_,hg3,grown_set (grown_refl _ _) 0 _⟩
  obtain ⟨w4,e4⟩:∃ W3,w3.setCell ⟨gE,0,none⟩ (.int .i64 6)=W3:=⟨_,rfl⟩
  rw [e4] at hf4 he4 ht4
  have c4:w4.cell? ⟨gE,0,none⟩=some (.int .i64 6):=by rw [cell_of_row _ _ 0 _ _ (0,0) he4];rfl
  have HT:=Lib.hid ht4;have HE9:=Lib.hid he4;have HF9:=Lib.hid hf4
  have HA:=Lib.hid h1
  clear hf2 he2 hf3 he3 hf4 he4 hg2 hg3 ht4 h1 hx
  go_wp2_with fail
  go_ret
  exact .inr ⟨HA.out,rfl,HT.out⟩
end Go.Proofs.YtnjmndofcpnmeaaGreatDoor
namespace Go.Proofs.YtnjmndofcpnmeaaGreatDoor
open Go Go.Lib
set_option linter.unusedVariables false
theorem splitK_splb (x:UInt8):∀ (n:Nat) (l:List UInt8),l.length≤n→splitK [x] 0 (count l [x]) l=splb x [] l:=by
 intro n
 induction n with
 | zero=>
  intro l hl
  have:l=[]:=List.eq_nil_of_length_eq_zero (by omega)
  subst this
  rfl
 | succ n ih=>
  intro l hl
  by_cases hx:x∈l
  ·obtain ⟨a,b,rfl,ha⟩:=List.eq_append_cons_of_mem hx
   have hi:=index_hit x a b ha
   rw [count_hit (by simp) hi,Nat.add_comm,splitK,if_neg (by rw [hi,beq_iff_eq];omega),hi,splb_hit x a [] b (fun c hc e=>ha (e ▸ hc))]
   have hd:(a++x::b).drop (a.length+1)=b:=by
    rw [List.drop_append]
    simp
   rw [show ((a.length:Int)).toNat=a.length from rfl]
   simp only [List.length_singleton,Nat.add_zero,List.nil_append]
   rw [hd,ih b (by simp at hl;omega)]
   simp
  ·have hi:=index_miss x l hx
   rw [count_miss hi,splb_acc x l [] (fun c hc e=>hx (e ▸ hc))]
   rfl
theorem splitB_splb (x:UInt8)(s:ByteArray):(splitB ⟨#[x]⟩ 0 (countB s ⟨#[x]⟩) s).map (·.data.toList)=splb x [] s.data.toList:=by
 rw [splitB_data]
 exact splitK_splb x _ _ (Nat.le_refl _)
end Go.Proofs.YtnjmndofcpnmeaaGreatDoor
namespace Go.Proofs.YtnjmndofcpnmeaaGreatDoor
open Go Go.RowKit
set_option linter.unusedVariables false
def fv0:FV:=⟨0,0,0,0,none,[],0,none,[],0,⟨#[]⟩,none,[],0,⟨#[]⟩,0,0,0#32⟩
structure PSt (w W:World) (k:Nat) (f:FV):Prop where
 ex:Ext w W
 r:FBx W w.heap.size fv0
 fb:FBx W (w.heap.size+1) f
 eb:EBx W (w.heap.size+1+1)
 mem:f.In W
 sz:f.Sz
 nc:∀ ad,f.CA=some ad→w.heap.size+3≤ad.block
 ns:∀ ad,f.SA=some ad→w.heap.size+3≤ad.block
 zc:k≤2→f.cp=[]∧f.cr=⟨#[]⟩
 zs:k≤3→f.sp=[]∧f.sr=⟨#[]⟩
theorem PSt.lt {w W:World}{k:Nat}{f:FV}(h:PSt w W k f):w.heap.size+3≤W.heap.size:=by obtain ⟨x,h⟩:=h.eb;exact (Array.getElem?_eq_some_iff.1 h).1
structure Agr (k:Nat) (F:Fct) (f:FV):Prop where
 a0:0<k→f.t=F.t∧f.mi=F.mi
 a1:1<k→f.kd=F.kd
 a2:2<k→dat f.cp=F.cp∧f.cr.data.toList=F.cr
 a3:3<k→dat f.sp=F.sp∧f.sr.data.toList=F.sr
 a4:4<k→f.fk=F.fk∧f.fb=F.fb
 a5:5<k→f.co=F.co
 a6:6<k→f.pr=F.pr
 a7:7<k→f.fl=F.fl
theorem Agr.zero (F:Fct)(f:FV):Agr 0 F f:=by constructor<;>intro h<;>omega
theorem Agr.eight {F:Fct}{f:FV}(h:Agr 8 F f):f.fct=F:=by
 cases F
 obtain ⟨h0,h1,h2,h3,h4,h5,h6,h7⟩:=h
 have k0:=h0 (by omega);have k1:=h1 (by omega);have k2:=h2 (by omega);have k3:=h3 (by omega);have k4:=h4 (by omega);have k5:=h5 (by omega);have k6:=h6 (by omega);have k7:=h7 (by omega)
 simp only at k0 k1 k2 k3 k4 k5 k6 k7
 unfold FV.fct
 rw [k0.1,k0.2,k1,k2.1,k2.2,k3.1,k3.2,k4.1,k4.2,k5,k6,k7]
theorem In_trn {w W W':World}{k:Nat}{f:FV}(h:PSt w W k f)(ht:Trn (w.heap.size+1) (w.heap.size+1+1) W W'):f.In W':=by
 obtain ⟨W1,a,b⟩:=ht
 obtain ⟨x,he⟩:=h.eb
 have he1:RW W1 (w.heap.size+1+1) _ _:=heap_far a he (by omega)
 have hn1:=fbx_noU8 h.fb
 have hn2:NoU8 W1 (w.heap.size+1+1):=NoU8.of he1 fun x hx n e=>by subst e;simp at hx
 exact ⟨(h.mem.fb.but hn1 a).but hn2 b,(h.mem.cp.far (fun ad ha=>by have:=h.nc ad ha;omega) a).far (fun ad ha=>by have:=h.nc ad ha;omega) b,(h.mem.sp.far (fun ad ha=>by have:=h.ns ad ha;omega) a).far (fun ad ha=>by have:=h.ns ad ha;omega) b⟩
theorem Eb_trn {w W W':World}{k:Nat}{f:FV}(h:PSt w W k f)(hg:W.grownBy W' (some (w.heap.size+1))):EBx W' (w.heap.size+1+1):=by
 obtain ⟨x,he⟩:=h.eb
 exact ⟨x,heap_far hg he (by omega)⟩
theorem R_trn {w W W':World}{k:Nat}{f:FV}(h:PSt w W k f)(ht:Trn (w.heap.size+1) (w.heap.size+1+1) W W'):FBx W' w.heap.size fv0:=ht.heap h.r (by omega) (by omega)
theorem X_trn {w W W':World}{k:Nat}{f:FV}(h:PSt w W k f)(ht:Trn (w.heap.size+1) (w.heap.size+1+1) W W'):Ext w W':=ht.ext h.ex (by omega) (by omega)
def fnK (k:Nat):Nat:=match k with | 0=>39 | 1=>42 | 2=>44 | 3=>46 | 4=>47 | 5=>49 | 6=>50 | _=>51
def capK (n k:Nat):Array Value:=if k=4∨k=7 then #[.pointer (some ⟨n+1,0,none⟩),.pointer (some ⟨n+1+1,0,none⟩)] else #[.pointer (some ⟨n+1,0,none⟩)]
def StepP (w W:World)(k:Nat)(s:List UInt8)(f:FV)(e:Ending)(W':World):Prop:=∃ b,e=.returned (.bool b)∧Trn (w.heap.size+1) (w.heap.size+1+1) W W' ∧
 ((b=true∧∃ f',PSt w W' (k+1) f'∧∀ F:Fct,F.Ok→F.wrd[k]? = some s→Agr k F f→Agr (k+1) F f')∨(b=false∧∀ F:Fct,F.Ok→F.wrd[k]?≠some s))
theorem word_eq {F:Fct}{k:Nat}{x s:List UInt8}(h:F.wrd[k]? = some s)(hx:F.wrd[k]? = some x):x=s:=by rw [hx] at h;injection h
theorem step0 (s:ByteArray) (hs:s.size≤3000) (w W:World) (f:FV) (hP:PSt w W 0 f) (hE:EnvA w):
  Calls Tryz.prog 39 (#[.string s,.pointer (some ⟨w.heap.size+1,0,none⟩)]) W (StepP w W 0 s.data.toList f):=by
 have hW:=hE.ext hP.ex
 have hEx:∀ W',W.grownBy W' (some (w.heap.size+1))→Env W':=fun W' hg=>(hE.env).ext (X_trn hP (Trn.one hg))
 refine (C1_at s hs (w.heap.size+1) f W hW.env hP.fb hEx).mono ?_
 rintro e W' ⟨t,mi,b,rfl,hg,hr,hq⟩
 have ht:Trn (w.heap.size+1) (w.heap.size+1+1) W W':=Trn.one hg
 have hv:∀ F:Fct,F.Ok→F.wrd[0]? = some s.data.toList→t=F.t∧mi=F.mi∧b=true:=fun F hF hw=>hq F.t F.mi hF.t hF.mi (word_eq hw rfl)
 refine ⟨b,rfl,ht,?_⟩
 cases b with
 | true=>exact .inl ⟨rfl,_,⟨X_trn hP ht,R_trn hP ht,hr,Eb_trn hP hg,⟨(In_trn hP ht).fb,(In_trn hP ht).cp,(In_trn hP ht).sp⟩,⟨hP.sz.fb,hP.sz.cp,hP.sz.cps,hP.sz.cr,hP.sz.sp,hP.sz.sps,hP.sz.sr⟩,hP.nc,hP.ns,fun h=>hP.zc (by omega),fun h=>hP.zs (by omega)⟩,fun F hF hw ha=>⟨fun _=>⟨(hv F hF hw).1,(hv F hF hw).2.1⟩,fun h=>absurd h (by omega),fun h=>absurd h (by omega),fun h=>absurd h (by omega),fun h=>absurd h (by omega),fun h=>absurd h (by omega),fun h=>absurd h (by omega),fun h=>absurd h (by omega)⟩⟩
 | false=>exact .inr ⟨rfl,fun F hF hw=>absurd (hv F hF hw).2.2 (by decide)⟩
theorem step1 (s:ByteArray) (hs:s.size≤3000) (w W:World) (f:FV) (hP:PSt w W 1 f) (hE:EnvA w):
  Calls Tryz.prog 42 (#[.string s,.pointer (some ⟨w.heap.size+1,0,none⟩)]) W (StepP w W 1 s.data.toList f):=by
 have hW:=hE.ext hP.ex
 refine (C2_at s (w.heap.size+1) f W hP.fb).mono ?_
 rintro e W' ⟨k,b,rfl,hg,hr,hq⟩
 have ht:Trn (w.heap.size+1) (w.heap.size+1+1) W W':=Trn.one hg
 have hv:∀ F:Fct,F.Ok→F.wrd[1]? = some s.data.toList→k=F.kd∧b=true:=fun F hF hw=>hq F.kd hF.kd (word_eq hw rfl)
 refine ⟨b,rfl,ht,?_⟩
 cases b with
 | true=>exact .inl ⟨rfl,_,⟨X_trn hP ht,R_trn hP ht,hr,Eb_trn hP hg,⟨(In_trn hP ht).fb,(In_trn hP ht).cp,(In_trn hP ht).sp⟩,⟨hP.sz.fb,hP.sz.cp,hP.sz.cps,hP.sz.cr,hP.sz.sp,hP.sz.sps,hP.sz.sr⟩,hP.nc,hP.ns,fun h=>hP.zc (by omega),fun h=>hP.zs (by omega)⟩,fun F hF hw ha=>⟨fun _=>ha.a0 (by omega),fun _=>(hv F hF hw).1,fun h=>absurd h (by omega),fun h=>absurd h (by omega),fun h=>absurd h (by omega),fun h=>absurd h (by omega),fun h=>absurd h (by omega),fun h=>absurd h (by omega)⟩⟩
 | false=>exact .inr ⟨rfl,fun F hF hw=>absurd (hv F hF hw).2 (by decide)⟩
theorem step2 (s:ByteArray) (hs:s.size≤3000) (w W:World) (f:FV) (hP:PSt w W 2 f) (hE:EnvA w):
  Calls Tryz.prog 44 (#[.string s,.pointer (some ⟨w.heap.size+1,0,none⟩)]) W (StepP w W 2 s.data.toList f):=by
 have hW:=hE.ext hP.ex
 refine (C3_at s hs (w.heap.size+1) f W hP.fb).mono ?_
 rintro e W' (⟨h1,rfl,rfl⟩ | ⟨A,c,ps,r,h1,h2,rfl,hg,hr,h5,h6,h7,h8,h9⟩ | ⟨h1,rfl,hg⟩)
 ·have ht:Trn (w.heap.size+1) (w.heap.size+1+1) W' W':=Trn.one (grown_refl _ _)
  refine ⟨true,rfl,ht,.inl ⟨rfl,f,⟨X_trn hP ht,R_trn hP ht,hP.fb,hP.eb,hP.mem,⟨hP.sz.fb,hP.sz.cp,hP.sz.cps,hP.sz.cr,hP.sz.sp,hP.sz.sps,hP.sz.sr⟩,hP.nc,hP.ns,fun h=>absurd h (by omega),fun h=>hP.zs (by omega)⟩,fun F hF hw ha=>?_⟩⟩
  have e0:prsW F.cp F.cr=prsW [] []:=by rw [word_eq hw rfl,h1];rfl
  obtain ⟨e1,e2⟩:=prsW_inj hF.cl (by decide) e0
  obtain ⟨z1,z2⟩:=hP.zc (by omega)
  have hh:dat f.cp=F.cp∧f.cr.data.toList=F.cr:=by rw [z1,z2,e1,e2];exact ⟨rfl,rfl⟩
  exact ⟨fun _=>ha.a0 (by omega),fun _=>ha.a1 (by omega),fun _=>hh,fun h=>absurd h (by omega),fun h=>absurd h (by omega),fun h=>absurd h (by omega),fun h=>absurd h (by omega),fun h=>absurd h (by omega)⟩
 ·have ht:Trn (w.heap.size+1) (w.heap.size+1+1) W W':=Trn.one hg
  refine ⟨true,rfl,ht,.inl ⟨rfl,_,⟨X_trn hP ht,R_trn hP ht,hr,Eb_trn hP hg,⟨(In_trn hP ht).fb,h5,(In_trn hP ht).sp⟩,⟨hP.sz.fb,h9,h7,h8,hP.sz.sp,hP.sz.sps,hP.sz.sr⟩,fun ad ha=>Nat.le_trans hP.lt (h6 ad ha),hP.ns,fun h=>absurd h (by omega),fun h=>hP.zs (by omega)⟩,fun F hF hw ha=>?_⟩⟩
  obtain ⟨e1,e2⟩:=prsW_inj hF.cl h1 ((word_eq hw rfl).trans h2.symm)
  exact ⟨fun _=>ha.a0 (by omega),fun _=>ha.a1 (by omega),fun _=>⟨e1.symm,e2.symm⟩,fun h=>absurd h (by omega),fun h=>absurd h (by omega),fun h=>absurd h (by omega),fun h=>absurd h (by omega),fun h=>absurd h (by omega)⟩
 ·have ht:Trn (w.heap.size+1) (w.heap.size+1+1) W W':=Trn.one hg
  exact ⟨false,rfl,ht,.inr ⟨rfl,fun F hF hw=>h1 F.cp F.cr hF.cl (word_eq hw rfl)⟩⟩
theorem step3 (s:ByteArray) (hs:s.size≤3000) (w W:World) (f:FV) (hP:PSt w W 3 f) (hE:EnvA w):
  Calls Tryz.prog 46 (#[.string s,.pointer (some ⟨w.heap.size+1,0,none⟩)]) W (StepP w W 3 s.data.toList f):=by
 have hW:=hE.ext hP.ex
 refine (C4_at s hs (w.heap.size+1) f W hP.fb).mono ?_
 rintro e W' (⟨h1,rfl,rfl⟩ | ⟨A,c,ps,r,h1,h2,rfl,hg,hr,h5,h6,h7,h8,h9⟩ | ⟨h1,rfl,hg⟩)
 ·have ht:Trn (w.heap.size+1) (w.heap.size+1+1) W' W':=Trn.one (grown_refl _ _)
  refine ⟨true,rfl,ht,.inl ⟨rfl,f,⟨X_trn hP ht,R_trn hP ht,hP.fb,hP.eb,hP.mem,⟨hP.sz.fb,hP.sz.cp,hP.sz.cps,hP.sz.cr,hP.sz.sp,hP.sz.sps,hP.sz.sr⟩,hP.nc,hP.ns,fun h=>absurd h (by omega),fun h=>absurd h (by omega)⟩,fun F hF hw ha=>?_⟩⟩
  have e0:prsW F.sp F.sr=prsW [] []:=by rw [word_eq hw rfl,h1];rfl
  obtain ⟨e1,e2⟩:=prsW_inj hF.sv (by decide) e0
  obtain ⟨z1,z2⟩:=hP.zs (by omega)
  have hh:dat f.sp=F.sp∧f.sr.data.toList=F.sr:=by rw [z1,z2,e1,e2];exact ⟨rfl,rfl⟩
  exact ⟨fun _=>ha.a0 (by omega),fun _=>ha.a1 (by omega),fun _=>ha.a2 (by omega),fun _=>hh,fun h=>absurd h (by omega),fun h=>absurd h (by omega),fun h=>absurd h (by omega),fun h=>absurd h (by omega)⟩
 ·have ht:Trn (w.heap.size+1) (w.heap.size+1+1) W W':=Trn.one hg
  refine ⟨true,rfl,ht,.inl ⟨rfl,_,⟨X_trn hP ht,R_trn hP ht,hr,Eb_trn hP hg,⟨(In_trn hP ht).fb,(In_trn hP ht).cp,h5⟩,⟨hP.sz.fb,hP.sz.cp,hP.sz.cps,hP.sz.cr,h9,h7,h8⟩,hP.nc,fun ad ha=>Nat.le_trans hP.lt (h6 ad ha),fun h=>absurd h (by omega),fun h=>absurd h (by omega)⟩,fun F hF hw ha=>?_⟩⟩
  obtain ⟨e1,e2⟩:=prsW_inj hF.sv h1 ((word_eq hw rfl).trans h2.symm)
  exact ⟨fun _=>ha.a0 (by omega),fun _=>ha.a1 (by omega),fun _=>ha.a2 (by omega),fun _=>⟨e1.symm,e2.symm⟩,fun h=>absurd h (by omega),fun h=>absurd h (by omega),fun h=>absurd h (by omega),fun h=>absurd h (by omega)⟩
 ·have ht:Trn (w.heap.size+1) (w.heap.size+1+1) W W':=Trn.one hg
  exact ⟨false,rfl,ht,.inr ⟨rfl,fun F hF hw=>h1 F.sp F.sr hF.sv (word_eq hw rfl)⟩⟩
theorem step4 (s:ByteArray) (hs:s.size≤3000) (w W:World) (f:FV) (hP:PSt w W 4 f) (hE:EnvA w):
  Calls Tryz.prog 47 (#[.string s,.pointer (some ⟨w.heap.size+1,0,none⟩),.pointer (some ⟨w.heap.size+1+1,0,none⟩)]) W (StepP w W 4 s.data.toList f):=by
 have hW:=hE.ext hP.ex
 refine (C5_at s hs (w.heap.size+1) (w.heap.size+1+1) (by omega) f W hW hP.fb hP.eb).mono ?_
 rintro e W' (⟨k,b,A,c,h1,h2,rfl,ht,heb,hr,h5⟩ | ⟨h1,rfl,ht⟩)
 ·have hb:b.length≤1000:=by rcases okA_kinds h1 with ⟨_,h⟩ | ⟨_,h⟩ | ⟨_,h,_⟩<;>omega
  refine ⟨true,rfl,ht,.inl ⟨rfl,_,⟨X_trn hP ht,R_trn hP ht,hr,heb,⟨h5,(In_trn hP ht).cp,(In_trn hP ht).sp⟩,⟨hb,hP.sz.cp,hP.sz.cps,hP.sz.cr,hP.sz.sp,hP.sz.sps,hP.sz.sr⟩,hP.nc,hP.ns,fun h=>absurd h (by omega),fun h=>absurd h (by omega)⟩,fun F hF hw ha=>?_⟩⟩
  obtain ⟨e1,e2⟩:=txtA_inj hF.fr h1 ((word_eq hw rfl).trans h2.symm)
  exact ⟨fun _=>ha.a0 (by omega),fun _=>ha.a1 (by omega),fun _=>ha.a2 (by omega),fun _=>ha.a3 (by omega),fun _=>⟨e1.symm,e2.symm⟩,fun h=>absurd h (by omega),fun h=>absurd h (by omega),fun h=>absurd h (by omega)⟩
 ·exact ⟨false,rfl,ht,.inr ⟨rfl,fun F hF hw=>h1 F.fk F.fb hF.fr (word_eq hw rfl)⟩⟩
theorem step5 (s:ByteArray) (hs:s.size≤3000) (w W:World) (f:FV) (hP:PSt w W 5 f) (hE:EnvA w):
  Calls Tryz.prog 49 (#[.string s,.pointer (some ⟨w.heap.size+1,0,none⟩)]) W (StepP w W 5 s.data.toList f):=by
 have hW:=hE.ext hP.ex
 refine (C6_at s hs (w.heap.size+1) f W hW.env hP.fb).mono ?_
 rintro e W' ⟨v,b,rfl,hg,hr,hq⟩
 have ht:Trn (w.heap.size+1) (w.heap.size+1+1) W W':=Trn.one hg
 have hv:∀ F:Fct,F.Ok→F.wrd[5]? = some s.data.toList→v=F.co∧b=true:=fun F hF hw=>hq F.co ⟨hF.co.1,by have:=hF.co.2;omega⟩ (word_eq hw rfl)
 refine ⟨b,rfl,ht,?_⟩
 cases b with
 | true=>exact .inl ⟨rfl,_,⟨X_trn hP ht,R_trn hP ht,hr,Eb_trn hP hg,⟨(In_trn hP ht).fb,(In_trn hP ht).cp,(In_trn hP ht).sp⟩,⟨hP.sz.fb,hP.sz.cp,hP.sz.cps,hP.sz.cr,hP.sz.sp,hP.sz.sps,hP.sz.sr⟩,hP.nc,hP.ns,fun h=>absurd h (by omega),fun h=>absurd h (by omega)⟩,fun F hF hw ha=>⟨fun _=>ha.a0 (by omega),fun _=>ha.a1 (by omega),fun _=>ha.a2 (by omega),fun _=>ha.a3 (by omega),fun _=>ha.a4 (by omega),fun _=>(hv F hF hw).1,fun h=>absurd h (by omega),fun h=>absurd h (by omega)⟩⟩
 | false=>exact .inr ⟨rfl,fun F hF hw=>absurd (hv F hF hw).2 (by decide)⟩
theorem step6 (s:ByteArray) (hs:s.size≤3000) (w W:World) (f:FV) (hP:PSt w W 6 f) (hE:EnvA w):
  Calls Tryz.prog 50 (#[.string s,.pointer (some ⟨w.heap.size+1,0,none⟩)]) W (StepP w W 6 s.data.toList f):=by
 have hW:=hE.ext hP.ex
 refine (C7_at s hs (w.heap.size+1) f W hW.env hP.fb).mono ?_
 rintro e W' ⟨v,b,rfl,hg,hr,hq⟩
 have ht:Trn (w.heap.size+1) (w.heap.size+1+1) W W':=Trn.one hg
 have hv:∀ F:Fct,F.Ok→F.wrd[6]? = some s.data.toList→v=F.pr∧b=true:=fun F hF hw=>hq F.pr ⟨hF.pr.1,by have:=hF.pr.2;omega⟩ (word_eq hw rfl)
 refine ⟨b,rfl,ht,?_⟩
 cases b with
 | true=>exact .inl ⟨rfl,_,⟨X_trn hP ht,R_trn hP ht,hr,Eb_trn hP hg,⟨(In_trn hP ht).fb,(In_trn hP ht).cp,(In_trn hP ht).sp⟩,⟨hP.sz.fb,hP.sz.cp,hP.sz.cps,hP.sz.cr,hP.sz.sp,hP.sz.sps,hP.sz.sr⟩,hP.nc,hP.ns,fun h=>absurd h (by omega),fun h=>absurd h (by omega)⟩,fun F hF hw ha=>⟨fun _=>ha.a0 (by omega),fun _=>ha.a1 (by omega),fun _=>ha.a2 (by omega),fun _=>ha.a3 (by omega),fun _=>ha.a4 (by omega),fun _=>ha.a5 (by omega),fun _=>(hv F hF hw).1,fun h=>absurd h (by omega)⟩⟩
 | false=>exact .inr ⟨rfl,fun F hF hw=>absurd (hv F hF hw).2 (by decide)⟩
theorem step7 (s:ByteArray) (hs:s.size≤3000) (w W:World) (f:FV) (hP:PSt w W 7 f) (hE:EnvA w):
  Calls Tryz.prog 51 (#[.string s,.pointer (some ⟨w.heap.size+1,0,none⟩),.pointer (some ⟨w.heap.size+1+1,0,none⟩)]) W (StepP w W 7 s.data.toList f):=by
 have hW:=hE.ext hP.ex
 refine (C8_at s hs (w.heap.size+1) (w.heap.size+1+1) (by omega) f W hP.fb hP.eb).mono ?_
 rintro e W' (⟨x,h1,h2,rfl,ht,heb,hr⟩ | ⟨h1,rfl,ht⟩)
 ·refine ⟨true,rfl,ht,.inl ⟨rfl,_,⟨X_trn hP ht,R_trn hP ht,hr,heb,⟨(In_trn hP ht).fb,(In_trn hP ht).cp,(In_trn hP ht).sp⟩,⟨hP.sz.fb,hP.sz.cp,hP.sz.cps,hP.sz.cr,hP.sz.sp,hP.sz.sps,hP.sz.sr⟩,hP.nc,hP.ns,fun h=>absurd h (by omega),fun h=>absurd h (by omega)⟩,fun F hF hw ha=>?_⟩⟩
  have e1:=textF_inj (tk_nm hF.fl) h1 ((word_eq hw rfl).trans h2.symm)
  exact ⟨fun _=>ha.a0 (by omega),fun _=>ha.a1 (by omega),fun _=>ha.a2 (by omega),fun _=>ha.a3 (by omega),fun _=>ha.a4 (by omega),fun _=>ha.a5 (by omega),fun _=>ha.a6 (by omega),fun _=>e1.symm⟩
 ·exact ⟨false,rfl,ht,.inr ⟨rfl,fun F hF hw=>h1 F.fl (tk_nm hF.fl) (word_eq hw rfl)⟩⟩
theorem cl_at (k:Nat) (hk:k<8) (s:ByteArray) (hs:s.size≤3000) (w W:World) (f:FV) (hP:PSt w W k f) (hE:EnvA w):
  Calls Tryz.prog (fnK k) (#[.string s]++capK w.heap.size k) W (StepP w W k s.data.toList f):=by
 rcases (show k=0∨k=1∨k=2∨k=3∨k=4∨k=5∨k=6∨k=7 by omega) with rfl | rfl | rfl | rfl | rfl | rfl | rfl | rfl
 ·exact step0 s hs w W f hP hE
 ·exact step1 s hs w W f hP hE
 ·exact step2 s hs w W f hP hE
 ·exact step3 s hs w W f hP hE
 ·exact step4 s hs w W f hP hE
 ·exact step5 s hs w W f hP hE
 ·exact step6 s hs w W f hP hE
 ·exact step7 s hs w W f hP hE
theorem fnK_enters (k:Nat)(hk:k<8)(args:Array Value)(W:World):(callFunc (fnK k) args).run Tryz.prog W=.ok (.enter (fnK k) args) W:=by
 rcases (show k=0∨k=1∨k=2∨k=3∨k=4∨k=5∨k=6∨k=7 by omega) with rfl | rfl | rfl | rfl | rfl | rfl | rfl | rfl
 ·exact Go.Proofs.enters_of Tryz.func39 (by kernel_rfl) rfl args W
 ·exact Go.Proofs.enters_of Tryz.func42 (by kernel_rfl) rfl args W
 ·exact Go.Proofs.enters_of Tryz.func44 (by kernel_rfl) rfl args W
 ·exact Go.Proofs.enters_of Tryz.func46 (by kernel_rfl) rfl args W
 ·exact Go.Proofs.enters_of Tryz.func47 (by kernel_rfl) rfl args W
 ·exact Go.Proofs.enters_of Tryz.func49 (by kernel_rfl) rfl args W
 ·exact Go.Proofs.enters_of Tryz.func50 (by kernel_rfl) rfl args W
 ·exact Go.Proofs.enters_of Tryz.func51 (by kernel_rfl) rfl args W
end Go.Proofs.YtnjmndofcpnmeaaGreatDoor
namespace Go.Proofs.YtnjmndofcpnmeaaGreatDoor
open Go Go.Lib
set_option linter.unusedVariables false
theorem kindW_len (k:Int):(kindW k).length≤7:=by
 unfold kindW
 split
 ·decide
 ·split<;>decide
theorem itoa_len13 {x:Int}(h0:0≤x)(h1:x≤1099511627776):(itoa x).length≤13:=by
 rw [itoa_nn h0]
 exact decD_len x.toNat 12 (by omega)
theorem itoa_len6 {x:Int}(h0:0≤x)(h1:x≤999999):(itoa x).length≤6:=by
 rw [itoa_nn h0]
 exact decD_len x.toNat 5 (by omega)
theorem timW_len {t m:Int}(h:0≤t∧t≤1099511627776)(k:0≤m∧m≤999999):(timW t m).length≤20:=by
 have h1:=itoa_len13 h.1 h.2
 have h2:=itoa_len6 k.1 k.2
 unfold timW
 rw [List.length_append,List.length_cons,List.length_append,List.length_replicate]
 omega
theorem prsW_len {p:List (List UInt8)}{r:List UInt8}(h:prsB p r=true):(prsW p r).length≤293:=by
 unfold prsW
 split
 ·decide
 ·next hn=>
  unfold prsB at h
  rw [Bool.or_eq_true] at h
  obtain ⟨h1,h2,h3,h4⟩:=nameB_parts (h.resolve_left hn)
  have h5:=partsT_len p h1
  have h6:=realmB_len h4
  unfold textN
  rw [List.length_append,List.length_cons]
  omega
theorem txtA_len {k:Int}{b:List UInt8}(h:okA k b=true):(txtA k b).length≤41:=by
 rcases okA_kinds h with ⟨rfl,hl⟩ | ⟨rfl,hl⟩ | ⟨rfl,hl,hv⟩
 ·obtain ⟨x,y,z,t,rfl⟩:=list4 hl
  show (txt4 [x,y,z,t]).length≤41
  rw [txt4_eq]
  have d:∀ c:UInt8,(decDigits c.toNat).length≤3:=fun c=>decD_len _ 2 (by have:=c.toNat_lt;omega)
  have:=d x;have:=d y;have:=d z;have:=d t
  simp only [List.length_append,List.length_cons]
  omega
 ·exact (txt6_len hl).2
 ·show (txtH b).length≤41
  unfold txtH
  rw [List.length_append]
  have:([104,111,115,116,47]:List UInt8).length=5:=rfl
  omega
theorem textF_len (f:W32):(textF f).length≤416:=by
 unfold textF
 split
 ·decide
 ·unfold joinF
  refine Nat.le_trans (join_len _ fun l hl=>?_) ?_
  ·obtain ⟨b,hb,rfl⟩:=List.mem_map.1 hl
   unfold nmL at hb
   obtain ⟨k,hk,rfl⟩:=List.mem_map.1 hb
   have:=nmS_len k
   rwa [Array.length_toList]
  ·have h2:=bitsF_len f
   unfold nmL
   simp only [List.length_map]
   omega
theorem join_lens:∀ (ws:List (List UInt8)) (x:UInt8),(join ws [x]).length≤(ws.map fun w=>w.length+1).sum
 | [],x=>by rw [join_nil];exact Nat.zero_le _
 | [y],x=>by rw [join_one];simp
 | y::z::r,x=>by
  have h:=join_lens (z::r) x
  rw [join_cons]
  rw [join_cons] at h
  unfold joinTail at h ⊢
  rw [List.map_cons,List.flatten_cons,List.length_append,List.length_append,List.length_append]
  rw [List.length_append] at h
  rw [List.map_cons,List.sum_cons]
  simp only [List.length_singleton]
  omega
theorem txt_len {f:Fct}(h:f.Ok):f.txt.length≤1200:=by
 have h0:=join_lens f.wrd 32
 have h1:=timW_len h.t h.mi
 have h2:=kindW_len f.kd
 have h3:=prsW_len h.cl
 have h4:=prsW_len h.sv
 have h5:=txtA_len h.fr
 have h6:=itoa_len13 h.co.1 (by have:=h.co.2;omega)
 have h7:=itoa_len13 h.pr.1 (by have:=h.pr.2;omega)
 have h8:=textF_len f.fl
 unfold Fct.txt
 refine Nat.le_trans h0 ?_
 unfold Fct.wrd
 simp only [List.map_cons,List.map_nil,List.sum_cons,List.sum_nil]
 omega
end Go.Proofs.YtnjmndofcpnmeaaGreatDoor
