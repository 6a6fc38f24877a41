/- Pa21. -/
import Derived.Test.YtnjmndofcpnmeaaGreatDoorPa20
import Derived.Maps.RangeWalk
import Derived.Maps.OwnRows
import Derived.Maps.Ext
import Derived.Test.YtnjmndofcpnmeaaGreatDoorPa17
import Derived.Test.YtnjmndofcpnmeaaGreatDoorPa5
import Derived.Test.YtnjmndofcpnmeaaGreatDoorPa2
import Derived.Laws.EntriesVeiled
import Derived.Maps.GroupsBeside
import Derived.WalkSpells
namespace Go.Proofs.YtnjmndofcpnmeaaGreatDoor
open Go Go.Lib Go.Maps
open Go.ChangeShapes (lits)
set_option linter.unusedVariables false
def grpK (n:Nat)(P:Nat→Bool)(K:Nat→List UInt8)(s:List UInt8):List Nat:=(List.range n).filter fun j=>P j&&decide (K j=s)
theorem grpK_zero (P:Nat→Bool)(K:Nat→List UInt8)(s:List UInt8):grpK 0 P K s=[]:=rfl
theorem grpK_succ (n:Nat)(P:Nat→Bool)(K:Nat→List UInt8)(s:List UInt8):grpK (n+1) P K s=grpK n P K s++(if P n&&decide (K n=s) then [n] else []):=filt_succ n _
theorem grpK_mem {n:Nat}{P:Nat→Bool}{K:Nat→List UInt8}{s:List UInt8}{i:Nat}:i∈grpK n P K s ↔ i<n∧P i=true∧K i=s:=by
 unfold grpK
 rw [List.mem_filter,List.mem_range,Bool.and_eq_true,decide_eq_true_eq]
theorem grpK_ne {n:Nat}{P:Nat→Bool}{K:Nat→List UInt8}{s:List UInt8}:grpK n P K s≠[] ↔ ∃ j,j<n∧P j=true∧K j=s:=by
 rw [List.ne_nil_iff_length_pos,List.length_pos_iff_exists_mem]
 exact ⟨fun ⟨j,h⟩=>⟨j,grpK_mem.1 h⟩,fun ⟨j,h⟩=>⟨j,grpK_mem.2 h⟩⟩
def zI (l:List Nat):List Int:=l.map fun n:Nat=>(n:Int)
theorem zI_append (a b:List Nat):zI (a++b)=zI a++zI b:=by simp [zI]
theorem zI_len (a:List Nat):(zI a).length=a.length:=by simp [zI]
section
variable {H:Type}
theorem lits_inj {a b:List Int}(h:lits (H:=H) .i64 a=lits .i64 b):a=b:=by
 unfold lits at h
 refine (List.map_inj_right (fun x y e=>?_)).1 h
 injection e with e
 injection e
structure GD (D:DataW H) (n:Nat) (P:Nat→Bool) (K:Nat→List UInt8):Prop where
 map:IsMap D
 has:∀ s,Maps.has D (.string s)=true ↔ grpK n P K s≠[]
 at_:∀ s,grpK n P K s≠[]→∀ z,D.atKey (.string s) z=.slice (lits .i64 (zI (grpK n P K s))) []
theorem GD.start (P:Nat→Bool)(K:Nat→List UInt8):GD (.map []:DataW H) 0 P K:=
 ⟨isMap_empty,fun s=>by simp [Maps.has,grpK_zero],fun s h=>absurd rfl h⟩
theorem GD.skip {D:DataW H}{n:Nat}{P:Nat→Bool}{K:Nat→List UInt8}(h:GD D n P K)(hp:P n=false):GD D (n+1) P K:=by
 have e:∀ s,grpK (n+1) P K s=grpK n P K s:=fun s=>by rw [grpK_succ,hp];simp
 exact ⟨h.map,fun s=>by rw [e];exact h.has s,fun s hs=>by rw [e] at hs ⊢;exact h.at_ s hs⟩
theorem GD.look {w:World} {base:Nat} {e:TypeId} {v:Value} {zs:List Int} {D:DataW H} {n:Nat} {P:Nat→Bool} {K:Nat→List UInt8} (h:GD D n P K) (s:List UInt8) (ho:w.ownsInts base e .i64 v zs)
  (hat:D.atKey (.string s) .nil=rowDatum .i64 v zs):zs=zI (grpK n P K s):=by
 by_cases hg:grpK n P K s=[]
 ·have hn:Maps.has D (.string s)=false:=by
   cases hh:Maps.has D (.string s) with
   | false=>rfl
   | true=>exact absurd hg ((h.has s).1 hh)
  rw [atKey_of_not_has hn] at hat
  rw [hg]
  rcases ho.datum (H:=H) with ⟨_,h1⟩ | h1
  ·exact h1
  ·rw [h1] at hat;cases hat
 ·rw [h.at_ s hg] at hat
  rcases ho.datum (H:=H) with ⟨h1,_⟩ | h1
  ·rw [h1] at hat;cases hat
  ·rw [h1] at hat
   injection hat with hat _
   exact (lits_inj hat).symm
theorem GD.step {zs:List Int}{D:DataW H}{n:Nat}{P:Nat→Bool}{K:Nat→List UInt8}(h:GD D n P K)(hp:P n=true)(hz:zs=zI (grpK n P K (K n))):GD (D.put (.string (K n)) (.slice (lits .i64 (zs++[(n:Int)])) [])) (n+1) P K:=by
 have e1:grpK (n+1) P K (K n)=grpK n P K (K n)++[n]:=by rw [grpK_succ,hp];simp
 have e2:∀ s,s≠K n→grpK (n+1) P K s=grpK n P K s:=fun s hs=>by rw [grpK_succ,hp,decide_eq_false (fun e=>hs e.symm)];simp
 have hlit:∀ s,s≠K n→(Lit.string s)≠.string (K n):=fun s hs e=>hs (by injection e)
 refine ⟨h.map.put _ _,fun s=>?_,fun s hs z=>?_⟩
 ·by_cases hk:s=K n
  ·subst hk
   rw [has_put_same h.map (by trivial),e1]
   simp
  ·rw [has_put_other (hlit s hk),e2 s hk]
   exact h.has s
 ·by_cases hk:s=K n
  ·subst hk
   rw [atKey_put_same h.map (by trivial),e1,hz,zI_append]
   rfl
  ·rw [atKey_put_other (hlit s hk),e2 s hk]
   rw [e2 s hk] at hs
   exact h.at_ s hs z
end
def keyF (ad:Bool)(f:Fct):List UInt8:=if ad then keyA f.fk f.fb else keyN f.cp f.cr
theorem keyF_inj {ad:Bool}{f g:Fct}:keyF ad f=keyF ad g ↔ who ad f=who ad g:=by
 unfold keyF who
 cases ad with
 | true=>
  simp only [if_pos]
  constructor
  ·intro h;obtain ⟨h1,h2⟩:=keyA_inj h;rw [h1,h2]
  ·intro h;injection h with h1 h2;rw [h1,h2]
 | false=>
  simp only [Bool.false_eq_true,if_false]
  constructor
  ·intro h;obtain ⟨h1,h2⟩:=keyN_inj h;rw [h1,h2]
  ·intro h;injection h with h1 h2;rw [h1,h2]
theorem grpK_F {l:List Fct}{ad:Bool}{i:Nat}:grpK l.length (fun j=>failB (atF l j)) (fun j=>keyF ad (atF l j)) (keyF ad (atF l i))=grpF l ad (who ad (atF l i)):=by
 unfold grpK grpF
 congr 1
 funext j
 rw [decide_eq_decide.2 keyF_inj]
end Go.Proofs.YtnjmndofcpnmeaaGreatDoor
namespace Go.Proofs.YtnjmndofcpnmeaaGreatDoor
open Go Go.RowKit
set_option linter.unusedVariables false
structure Ek (α:Type) where
 k:Nat
 kp:0<k
 cs:α→List Value
 len:∀ x,(cs x).length=k
 one:∀ x,∀ u∈cs x,u.oneCell'=true
 no8:∀ x,∀ u∈cs x,∀ n,u≠.int .u8 n
 In:World→α→Prop
 Blk:α→Nat→Prop
 blt:∀ w x b,In w x→Blk x b→b<w.heap.size
 keep:∀ w w' x row,In w x→w.grownBy w' row→(∀ b,row=some b→NoU8 w b∧¬ Blk x b)→In w' x
section
variable {α:Type} (E:Ek α)
theorem Ek.ext {w w':World}{x:α}(h:E.In w x)(hx:Ext w w'):E.In w' x:=E.keep w w' x none h (hx.but none) (fun b e=>by cases e)
def Ek.all (xs:List α):List Value:=xs.flatMap E.cs
theorem Ek.all_len:∀ xs:List α,(E.all xs).length=xs.length*E.k
 | []=>by simp [Ek.all]
 | x::xs=>by
  have h:=Ek.all_len xs
  unfold Ek.all at h ⊢
  rw [List.flatMap_cons,List.length_append,E.len,h,List.length_cons,Nat.succ_mul,Nat.add_comm]
theorem Ek.all_append (xs ys:List α):E.all (xs++ys)=E.all xs++E.all ys:=by simp [Ek.all]
theorem Ek.all_one (x:α):E.all [x]=E.cs x:=by simp [Ek.all]
theorem Ek.all_get:∀ (xs:List α) (i j:Nat) (h:i<xs.length),j<E.k→(E.all xs)[i*E.k+j]? = (E.cs xs[i])[j]?
 | [],i,j,h,_=>by simp at h
 | x::xs,0,j,h,hj=>by
  unfold Ek.all
  rw [List.flatMap_cons,Nat.zero_mul,Nat.zero_add,List.getElem?_append_left (by rw [E.len];exact hj)]
  rfl
 | x::xs,i+1,j,h,hj=>by
  have hh:=Ek.all_get xs i j (by simpa using h) hj
  unfold Ek.all at hh ⊢
  rw [List.flatMap_cons,List.getElem?_append_right (by rw [E.len,Nat.succ_mul];omega),E.len,show (i+1)*E.k+j-E.k=i*E.k+j by rw [Nat.succ_mul];omega]
  exact hh
def ROW (e:TypeId)(w:World)(B:Nat)(v:Value)(xs:List α):Prop:=
 (∀ r,v.ownBlock=some r→NoU8 w r)∧w.ownsRow B e E.k v xs.length (E.all xs)∧∀ x∈xs,E.In w x∧∀ b,v.ownBlock=some b→¬ E.Blk x b
variable {E} {e:TypeId} {w w':World} {B:Nat} {v:Value} {xs ys:List α}
theorem ROW.nil (e:TypeId)(w:World)(B:Nat):ROW E e w B (.slice none 0 0) []:=⟨fun r h=>by simp [Value.ownBlock] at h,World.ownsRow_nil _ _ _ _,fun x h=>by cases h⟩
theorem ROW.lt (h:ROW E e w B v xs):∀ b,v.ownBlock=some b→B≤b∧b<w.heap.size:=World.ownsRow.lt h.2.1
theorem ROW.shape (h:ROW E e w B v xs):∃ A c,v=.slice A xs.length c:=by
 rcases h.2.1.2 with ⟨rfl,h0⟩ | ⟨g,cap,cur,rfl,_⟩
 ·exact ⟨none,0,by rw [h0]⟩
 ·exact ⟨_,cap,rfl⟩
theorem ROW.keep (h:ROW E e w B v xs){row:Option Nat}(hg:w.grownBy w' row)(hne:∀ b,row=some b→v.ownBlock≠some b∧NoU8 w b∧∀ x∈xs,¬ E.Blk x b):ROW E e w' B v xs:=by
 obtain ⟨h0,h1,h2⟩:=h
 refine ⟨fun r hr=>(h0 r hr).same (hg.block r (World.ownsRow.lt h1 r hr).2 (fun e'=>(hne r e'.symm).1 hr)),h1.kept hg ?_,fun x hx=>⟨E.keep w w' x row (h2 x hx).1 hg (fun b hb=>⟨(hne b hb).2.1,(hne b hb).2.2 x hx⟩),(h2 x hx).2⟩⟩
 cases hv:v.ownBlock with
 | none=>exact .inl rfl
 | some r=>exact .inr (fun e'=>(hne r e'.symm).1 hv)
theorem ROW.ext (h:ROW E e w B v xs)(hx:Ext w w'):ROW E e w' B v xs:=h.keep (hx.but none) (fun b e=>by cases e)
theorem ROW.down {B':Nat}(h:ROW E e w B v xs)(hB:B'≤B):ROW E e w B' v xs:=by
 obtain ⟨h0,⟨h1,h2⟩,h3⟩:=h
 refine ⟨h0,⟨h1,?_⟩,h3⟩
 rcases h2 with h | ⟨g,cap,cur,e1,e2,r⟩
 ·exact .inl h
 ·exact .inr ⟨g,cap,cur,e1,Nat.le_trans hB e2,r⟩
theorem ROW.cells (h:ROW E e w B v xs):∃ A c,v=.slice A xs.length c∧xs.length≤c∧c≤maxLen∧∀ i (hi:i<xs.length),E.In w xs[i]∧∃ ad,A=some ad∧∀ j u,(E.cs xs[i])[j]? = some u→w.cell? (ad.add (i*E.k+j))=some u:=by
 obtain ⟨_,h1,h2⟩:=h
 rcases h1.2 with ⟨rfl,h0⟩ | ⟨g,cap,cur,rfl,hb,hg,hnc,hcm,_⟩
 ·exact ⟨none,0,by rw [h0],by omega,by unfold maxLen;omega,fun i hi=>by omega⟩
 ·refine ⟨some ⟨g,0,none⟩,cap,rfl,hnc,hcm,fun i hi=>⟨(h2 _ (List.getElem_mem hi)).1,_,rfl,fun j u hu=>?_⟩⟩
  have hj:j<E.k:=by rw [← E.len xs[i]];exact (List.getElem?_eq_some_iff.1 hu).1
  exact h1.cells rfl _ _ (by rw [E.all_get xs i j hi hj];exact hu)
end
section
variable {α:Type} {E:Ek α} {P:Program}
theorem run_append_row (w:World) (base:Nat) (t ty e:TypeId) (i:TypeInfo) (z:Value) (bytes:Nat) (ht:P.underlying t=some (.slice e)) (hi:P.info? e=some i) (hz:i.zero=some z)
  (hsize:i.size=E.k) (hby:i.bytes=bytes) (hzs:z.cells.size=E.k) (hzn:∀ x∈z.cells.toList,∀ n,x≠.int .u8 n)
  (v:Value) (xs:List α) (hown:ROW E e w base v xs) (ad:Addr) (c:Nat) (ys:List α) (hy0:0<ys.length) (hnews:∀ j u,(E.all ys)[j]? = some u→w.cell? (ad.add j)=some u)
  (hys:∀ y∈ys,E.In w y∧∀ b,v.ownBlock=some b→¬ E.Blk y b)
  (hbytes:(xs.length+ys.length)*bytes≤140737488355328) (hby0:0<bytes) (hbase:base≤w.heap.size):
  ∃ v' w',(Builtin.append_ #[t,t] ty #[v,.slice (some ad) ys.length c]).run P w=.ok v' w'∧ROW E e w' base v' (xs++ys)∧w.grownBy w' v.ownBlock∧(v'.ownBlock=v.ownBlock∨v'.ownBlock=some w.heap.size):=by
 obtain ⟨h0,h1,h2⟩:=hown
 have h63:xs.length+ys.length≤maxLen:=by
  have:xs.length+ys.length≤(xs.length+ys.length)*bytes:=Nat.le_mul_of_pos_right _ hby0
  unfold maxLen;omega
 have hone:∀ u∈E.all ys,u.oneCell'=true:=by
  intro u hu
  unfold Ek.all at hu
  obtain ⟨y,_,hu⟩:=List.mem_flatMap.1 hu
  exact E.one y u hu
 have hno8:∀ u∈E.all ys,∀ n,u≠.int .u8 n:=by
  intro u hu
  unfold Ek.all at hu
  obtain ⟨y,_,hu⟩:=List.mem_flatMap.1 hu
  exact E.no8 y u hu
 obtain ⟨v',w',hrun,g1,g2,_,g3⟩:=run_append_own_at (P:=P) w base t ty e i z E.k bytes ht hi hz hsize hby hzs E.kp v xs.length (E.all xs) h1 ad ys.length c (E.all ys) (E.all_len ys) hnews hone h63 hbytes hbase
 have g4:=append_noU8 (P:=P) w base t ty e i z E.k bytes ht hi hz hsize hby hzs E.kp v xs.length (E.all xs) h1 ad ys.length c (E.all ys) (E.all_len ys) hnews hone hy0 h63 hbytes h0 hzn hno8 v' w' hrun
 have key:∀ x,(E.In w x∧∀ b,v.ownBlock=some b→¬ E.Blk x b)→E.In w' x∧∀ b,v'.ownBlock=some b→¬ E.Blk x b:=by
  rintro x ⟨k1,k2⟩
  refine ⟨E.keep w w' x v.ownBlock k1 g2 (fun b hb=>⟨h0 b hb,k2 b hb⟩),fun b hb hB=>?_⟩
  rcases g3 with g | g
  ·exact k2 b (g ▸ hb) hB
  ·rw [g] at hb
   injection hb with hb
   have:=E.blt w x b k1 hB
   omega
 refine ⟨v',w',hrun,⟨g4,?_,fun x hx=>?_⟩,g2,g3⟩
 ·rw [E.all_append,List.length_append];exact g1
 ·rcases List.mem_append.1 hx with hx | hx
  ·exact key x (h2 x hx)
  ·exact key x (hys x hx)
theorem wpList_append_row (w:World) {ops:Array Oper} {rest:List Oper} {o:Oper} {a:Act} {Q:Exit→Act→World→Prop} (hgd:o.guard=none) (s x:Operand) (t:TypeId)
  (ho:o.op=.call { callee:=.builtin .append,args:=#[s,x],argTypes:=#[t,t] })
  (base:Nat) (e:TypeId) (i:TypeInfo) (z:Value) (bytes:Nat) (ht:P.underlying t=some (.slice e)) (hi:P.info? e=some i) (hz:i.zero=some z)
  (hsize:i.size=E.k) (hby:i.bytes=bytes) (hzs:z.cells.size=E.k) (hzn:∀ x∈z.cells.toList,∀ n,x≠.int .u8 n)
  (v:Value) (xs:List α) (hs:a.eval s=v) (hown:ROW E e w base v xs) (ad:Addr) (c:Nat) (ys:List α) (hx:a.eval x=.slice (some ad) ys.length c) (hy0:0<ys.length) (hnews:∀ j u,(E.all ys)[j]? = some u→w.cell? (ad.add j)=some u)
  (hys:∀ y∈ys,E.In w y∧∀ b,v.ownBlock=some b→¬ E.Blk y b)
  (hbytes:(xs.length+ys.length)*bytes≤140737488355328) (hby0:0<bytes) (hbase:base≤w.heap.size)
  (h:∀ v' w',ROW E e w' base v' (xs++ys)→w.grownBy w' v.ownBlock→(v'.ownBlock=v.ownBlock∨v'.ownBlock=some w.heap.size)→wpList P ops Q rest (a.put o.dst v') w'):wpList P ops Q (o::rest) a w:=by
 refine wpList_plain hgd fun K hK=>?_
 obtain ⟨v',w',hrun,h2,h3,h4⟩:=run_append_row (P:=P) w base t o.type e i z bytes ht hi hz hsize hby hzs hzn v xs hown ad c ys hy0 hnews hys hbytes hby0 hbase
 unfold Oper.wp execOp
 simp only [ho,resolve,invoke,builtin,Sem.run_bind,Sem.run_pure,Result.andThen_ok,List.map_toArray,List.map_cons,List.map_nil,hs,hx,hrun]
 exact hK _ _ (h v' w' h2 h3 h4)
theorem wpListIn_append_row {F:Fence} {n:Nat} (w:World) {ops:Array Oper} {rest:List Oper} {o:Oper} {a:Act} {Q:Exit→Act→World→Prop} (hgd:o.guard=none) (s x:Operand) (t:TypeId)
  (ho:o.op=.call { callee:=.builtin .append,args:=#[s,x],argTypes:=#[t,t] })
  (base:Nat) (e:TypeId) (i:TypeInfo) (z:Value) (bytes:Nat) (ht:P.underlying t=some (.slice e)) (hi:P.info? e=some i) (hz:i.zero=some z)
  (hsize:i.size=E.k) (hby:i.bytes=bytes) (hzs:z.cells.size=E.k) (hzn:∀ x∈z.cells.toList,∀ n,x≠.int .u8 n)
  (v:Value) (xs:List α) (hs:a.eval s=v) (hown:ROW E e w base v xs) (ad:Addr) (c:Nat) (ys:List α) (hx:a.eval x=.slice (some ad) ys.length c) (hy0:0<ys.length) (hnews:∀ j u,(E.all ys)[j]? = some u→w.cell? (ad.add j)=some u)
  (hys:∀ y∈ys,E.In w y∧∀ b,v.ownBlock=some b→¬ E.Blk y b)
  (hbytes:(xs.length+ys.length)*bytes≤140737488355328) (hby0:0<bytes) (hbase:base≤w.heap.size)
  (h:∀ v' w',ROW E e w' base v' (xs++ys)→w.grownBy w' v.ownBlock→(v'.ownBlock=v.ownBlock∨v'.ownBlock=some w.heap.size)→wpListIn F n P ops Q rest (a.put o.dst v') w'):wpListIn F n P ops Q (o::rest) a w:=by
 refine wpListIn_plain hgd fun K hK=>?_
 obtain ⟨v',w',hrun,h2,h3,h4⟩:=run_append_row (P:=P) w base t o.type e i z bytes ht hi hz hsize hby hzs hzn v xs hown ad c ys hy0 hnews hys hbytes hby0 hbase
 unfold Oper.wpIn
 refine ⟨?_,?_⟩
 ·simp [Oper.about,ho,resolve,Target.leads,Sem.run_pure]
 ·rw [Oper.semAt_plain F _ _ (by rw [ho];intro c hc';cases hc')]
  simp [execOp,ho,resolve,invoke,builtin,hs,hx,hrun,Result.andThen]
  exact hK _ _ (h v' w' h2 h3 h4)
end
theorem ROW.keepsOthers {α:Type}{E:Ek α}{e:TypeId}{w W':World}{B:Nat}{v:Value}{xs:List α}(h:ROW E e w B v xs)(hg:w.grownBy W' v.ownBlock):KeepsOthers w W':=
 KeepsOthers.of_grownBy hg (fun j o hj ho=>by
  rcases h.2.1.2 with ⟨rfl,_⟩ | ⟨g,cap,cur,rfl,hb,hgg,_⟩
  ·simp [Value.ownBlock] at hj
  ·have:g=j:=Option.some.inj hj
   subst this
   rw [hgg] at ho;injection ho with ho;subst ho;rfl)
theorem Stab.row {α:Type}{E:Ek α}{B:Nat}(e:TypeId)(b0:Nat)(v:Value)(xs:List α)(hB:∀ w l x,NC w l→E.In w x→¬ E.Blk x l):Stab B (fun W=>ROW E e W b0 v xs):=fun W W' l _ hn hg h=>
 h.keep hg (fun b hb=>by
  injection hb with hb
  subst hb
  refine ⟨fun hv=>?_,hn.noU8,fun x hx=>hB W l x hn (h.2.2 x hx).1⟩
  rcases h.2.1.2 with ⟨rfl,_⟩ | ⟨g,cap,cur,rfl,hb,hgg,_⟩
  ·simp [Value.ownBlock] at hv
  ·have:g=l:=Option.some.inj hv
   subst this
   exact hn _ _ _ hgg)
end Go.Proofs.YtnjmndofcpnmeaaGreatDoor
namespace Go.Proofs.YtnjmndofcpnmeaaGreatDoor
open Go Go.Lib
set_option linter.unusedVariables false
noncomputable def prsF (l:List UInt8):Option Fct:=open Classical in if h:∃ f:Fct,f.Ok∧f.txt=l then some h.choose else none
theorem prsF_spec (l:List UInt8):PrsS l (prsF l):=by
 unfold prsF
 split
 ·next h=>exact .inl ⟨_,rfl,h.choose_spec⟩
 ·next h=>exact .inr ⟨rfl,fun f hf e=>h ⟨f,hf,e⟩⟩
theorem prsF_txt {f:Fct}(h:f.Ok):prsF f.txt=some f:=(prsF_spec f.txt).uniq (.inl ⟨f,rfl,h,rfl⟩)
noncomputable def plogF:List (List UInt8)→List Fct→List Fct × Nat × Int
 | [],acc=>(acc,0,0)
 | [x],acc=>if x=[] then (acc,0,0) else ([],acc.length+1,6)
 | x::y::r,acc=>match prsF x with
  | none=>([],acc.length+1,6)
  | some f=>plogF (y::r) (acc++[f])
theorem plog_one (x:List UInt8)(acc:List Fct):plogF [x] acc=if x=[] then (acc,0,0) else ([],acc.length+1,6):=by rw [plogF]
theorem plog_none {x y:List UInt8}{r:List (List UInt8)}{acc:List Fct}(h:prsF x=none):plogF (x::y::r) acc=([],acc.length+1,6):=by rw [plogF,h]
theorem plog_some {x y:List UInt8}{r:List (List UInt8)}{acc:List Fct}{f:Fct}(h:prsF x=some f):plogF (x::y::r) acc=plogF (y::r) (acc++[f]):=by rw [plogF,h]
theorem splb_ne (x:UInt8):∀ (s acc:List UInt8),splb x acc s≠[]
 | [],acc=>by rw [splb];simp
 | c::r,acc=>by
  rw [splb]
  split
  ·simp
  ·exact splb_ne x r _
def lnP:List (List UInt8)→List (List UInt8 × Bool)
 | []=>[]
 | [x]=>if x=[] then [] else [(x,false)]
 | x::y::r=>(x,true)::lnP (y::r)
def lnF (l:List UInt8):List (List UInt8 × Bool):=lnP (splb 10 [] l)
theorem lnF_nil:lnF []=[]:=rfl
theorem lnP_two {x:List UInt8}{ls:List (List UInt8)}(h:ls≠[]):lnP (x::ls)=(x,true)::lnP ls:=by
 cases ls with
 | nil=>exact absurd rfl h
 | cons y r=>rfl
theorem lnF_cut {l:List UInt8}(h:l≠[]):lnF l=((cut l [10]).1,(cut l [10]).2.2)::lnF (cut l [10]).2.1∧(cut l [10]).2.1.length<l.length:=by
 unfold lnF
 by_cases hx:(10:UInt8)∈l
 ·obtain ⟨a,b,rfl,ha⟩:=List.eq_append_cons_of_mem hx
  have hi:=index_hit 10 a b ha
  have hc:cut (a++10::b) [10]=(a,b,true):=by
   unfold cut
   rw [hi,if_pos (by omega),show ((a.length:Int)).toNat=a.length from rfl]
   simp
  rw [hc,splb_hit 10 a [] b (fun c hc e=>ha (e ▸ hc)),lnP_two (splb_ne 10 b []),List.nil_append]
  exact ⟨rfl,by simp;omega⟩
 ·have hi:=index_miss 10 l hx
  have hc:cut l [10]=(l,[],false):=by
   unfold cut
   rw [hi,if_neg (by decide)]
  rw [hc,splb_acc 10 l [] (fun c hc e=>hx (e ▸ hc)),List.nil_append]
  refine ⟨?_,List.length_pos_iff.2 h⟩
  show (if l=[] then [] else [(l,false)])=_
  rw [if_neg h]
  rfl
noncomputable def plogN:List (List UInt8 × Bool)→List Fct→List Fct × Nat × Int
 | [],acc=>(acc,0,0)
 | (x,e)::r,acc=>match prsF x with
  | none=>([],acc.length+1,6)
  | some f=>if e then plogN r (acc++[f]) else ([],acc.length+1,6)
theorem plogN_P:∀ (ls:List (List UInt8)) (acc:List Fct),plogN (lnP ls) acc=plogF ls acc
 | [],acc=>rfl
 | [x],acc=>by
  rw [plog_one]
  show plogN (if x=[] then [] else [(x,false)]) acc=_
  split
  ·rfl
  ·rw [plogN]
   cases prsF x<;>rfl
 | x::y::r,acc=>by
  show plogN ((x,true)::lnP (y::r)) acc=_
  rw [plogN]
  cases hp:prsF x with
  | none=>rw [plog_none hp]
  | some f=>rw [plog_some hp];exact plogN_P (y::r) _
theorem plogN_pre:∀ (fs:List Fct) (rest:List (List UInt8 × Bool)) (acc:List Fct),(∀ f∈fs,f.Ok)→plogN (fs.map (fun f=>(f.txt,true))++rest) acc=plogN rest (acc++fs)
 | [],rest,acc,_=>by simp
 | f::fs,rest,acc,h=>by
  rw [List.map_cons,List.cons_append,plogN,prsF_txt (h f (by simp))]
  show (if true=true then _ else _)=_
  rw [if_pos rfl,plogN_pre fs rest (acc++[f]) (fun g hg=>h g (List.mem_cons_of_mem _ hg))]
  simp
theorem plog_all {l:List UInt8}{fs:List Fct}(h:∀ f∈fs,f.Ok)(e:lnF l=fs.map (fun f=>(f.txt,true))):plogF (splb 10 [] l) []=(fs,0,0):=by
 rw [← plogN_P]
 show plogN (lnF l) []=_
 have:=plogN_pre fs [] [] h
 rw [List.append_nil] at this
 rw [e,this]
 rfl
theorem plog_bad {l:List UInt8}{fs:List Fct}{x:List UInt8}{b:Bool}{rest:List (List UInt8 × Bool)}(h:∀ f∈fs,f.Ok)(e:lnF l=fs.map (fun f=>(f.txt,true))++(x,b)::rest)(hb:prsF x=none∨b=false):plogF (splb 10 [] l) []=([],fs.length+1,6):=by
 rw [← plogN_P]
 show plogN (lnF l) []=_
 rw [e,plogN_pre fs _ [] h,plogN,List.nil_append]
 rcases hb with hb | rfl
 ·rw [hb]
 ·cases prsF x<;>rfl
end Go.Proofs.YtnjmndofcpnmeaaGreatDoor
namespace Go.Proofs.YtnjmndofcpnmeaaGreatDoor
open Go Go.RowKit
set_option linter.unusedVariables false
def dtL (xs:List (ByteArray × Bool)):List (List UInt8 × Bool):=xs.map fun x=>(x.1.data.toList,x.2)
theorem dtL_snoc (xs:List (ByteArray × Bool))(x:ByteArray × Bool):dtL (xs++[x])=dtL xs++[(x.1.data.toList,x.2)]:=by simp [dtL]
theorem Stab.maxl (B:Nat):Stab B MaxL:=fun W W' l _ hn hg h g hgl=>by
 obtain ⟨m,hm⟩:=h g hgl
 refine ⟨m,?_⟩
 have hm0:=hm
 unfold World.cell? at hm0
 simp only at hm0
 cases ho:W.heap[g]? with
 | none=>rw [ho] at hm0;simp at hm0
 | some o=>
  rw [ho] at hm0
  cases o<;>simp at hm0
  case cells cs t fr=>
   rw [← hm]
   exact World.cell?_of_block ((heap_nc hn hg ho).trans ho.symm)
def LnIt (s:ByteArray)(b:Nat)(W:World):Prop:=W.heap[b]? = some (.cells #[.string s] 9 (0,0))∧MaxL W
theorem LnIt.stab (B:Nat)(s:ByteArray)(b:Nat):Stab B (LnIt s b):=(Stab.heap _ _ _ _).and (Stab.maxl B)
theorem LnIt.ext {s:ByteArray}{b:Nat}{W W':World}(h:LnIt s b W)(hx:Ext W W'):LnIt s b W':=⟨hx.heap h.1,h.2.ext hx⟩
def LnG (s:ByteArray)(pre:List (ByteArray × Bool))(x:ByteArray × Bool)(_:World):Prop:=(∃ rest,lnF s.data.toList=dtL pre++(x.1.data.toList,x.2)::rest)∧x.1.size≤s.size
def strLn (v:Value):Nat:=match v with | .string b=>b.size | _=>0
theorem NlCut_at (s:ByteArray) (hs:s.size≤100000000) (w:World) (hm:MaxL w):
  Calls Tryz.prog 40 #[.string s,.string ⟨#[10]⟩] w fun e w'=>e=.returned (.tuple #[.string ⟨(Lib.cut s.data.toList [10]).1.toArray⟩,.string ⟨(Lib.cut s.data.toList [10]).2.1.toArray⟩,.bool (Lib.cut s.data.toList [10]).2.2])∧Ext w w':=by
 obtain ⟨m,hm⟩:=hm 0 (by kernel_rfl)
 refine (Tryz.strings_Cut s ⟨#[10]⟩ m w (by omega) hm).mono ?_
 rintro e w' ⟨rfl,n,rfl⟩
 exact ⟨rfl,(Ext.refl _).drewN n⟩
theorem lines_at (s:ByteArray) (w:World):
  Calls Tryz.prog 36 #[.string s] w fun e w'=>e=.returned (.func (.func 99) #[] #[.pointer (some ⟨w.heap.size,0,none⟩)])∧w'=w.alloc (.cells #[.string s] 9):=by
 have hmf:∀ (fn:Fn) (first cap:Array Value) (w:World),(Instr.makeFunc fn first cap).run Tryz.prog w=.ok (.func fn first cap) w:=fun _ _ _ _=>rfl
 go_enter Tryz.func36,Tryz.ntmps36
 go_wp2
 go_ret
 exact ⟨rfl,rfl⟩
attribute [local go_sem] Oper.semAt_some
set_option maxRecDepth 100000 in
set_option maxHeartbeats 2000000 in
theorem lines_iter (s:ByteArray) (hs:s.size≤100000000) (b:Nat):
  Iter Tryz.prog 99 #[.pointer (some ⟨b,0,none⟩)] (fun x:ByteArray × Bool=>#[.string x.1,.bool x.2]) (LnIt s b) (LnG s) (fun _=>False) (fun xs=>lnF s.data.toList=dtL xs) (fun pre=>∃ rest,lnF s.data.toList=dtL pre++rest):=by
 intro lp J Jx W hJ hJx hY hit h0
 refine callsIn_of_wp Tryz.func99 rfl trivial ?_ rfl
 simp only [Tryz.ntmps99,List.size_toArray,List.length_cons,List.length_nil,Nat.reduceAdd,Nat.reduceSub,Array.replicate_succ,Array.replicate_zero,List.push_toArray,List.append_toArray,List.nil_append,List.cons_append]
 have k1:W.cell? ⟨b,0,none⟩=some (.string s):=(row1 hit.1).1
 gi_wp2
 gi_loopw [3,4,5,6] (fun v _ _ _ wr=>∃ (pre:List (ByteArray × Bool)) (cur:ByteArray),v=.string cur∧J pre wr∧LnIt s b wr∧lnF s.data.toList=dtL pre++lnF cur.data.toList∧cur.size≤s.size) (fun v _ _ _ _=>strLn v)
 case atStart=>exact ⟨[],s,rfl,h0,hit,rfl,Nat.le_refl _⟩
 case round=>
  obtain ⟨pre,cur,rfl,hj,hi,he,hz⟩:=hrel
  have HI:=Lib.hid hi;have HE:=Lib.hid he;have HJ:=Lib.hid hj;have HZ:=Lib.hid hz
  clear hi he hj hz k1
  by_cases hemp:cur.data.toList=[]
  ·have e1:cur.toList=[]:=by rw [ByteArray.toList_eq];exact hemp
   have HS:=Lib.hid (show lnF s.data.toList=dtL pre by rw [HE.out,hemp,lnF_nil,List.append_nil])
   clear hemp
   gi_wp2_with fail
   first | go_end0 | refine bodyPost_ret (results_none rfl _ _ _) rfl ?_
   exact ⟨⟨_,rfl⟩,.inl ⟨pre,HS.out,HJ.out,HI.out⟩⟩
  ·have e1:cur.toList.isEmpty=false:=by rw [ByteArray.toList_eq];cases hx:cur.data.toList with | nil=>exact absurd hx hemp | cons a b=>rfl
   have e2:cur.toList≠[]:=by rw [ByteArray.toList_eq];exact hemp
   obtain ⟨hlc,hll⟩:=lnF_cut hemp
   have HC:=Lib.hid (NlCut_at cur (by have:=HZ.out;omega) wr HI.out.2)
   have hcl:=cut_len1 cur.data.toList [10]
   rw [size_list] at hcl hll
   generalize (Lib.cut cur.data.toList [10]).1=P at *
   generalize (Lib.cut cur.data.toList [10]).2.1=Q at *
   generalize (Lib.cut cur.data.toList [10]).2.2=b0 at *
   have HS:=Lib.hid (show lnF s.data.toList=dtL (pre++[(⟨P.toArray⟩,b0)])++lnF Q by rw [HE.out,hlc,dtL_snoc];simp)
   have HQL:=Lib.hid hll;have HPL:=Lib.hid hcl
   clear hemp hlc hll hcl
   gi_wp2_with fail
   refine wide_call HC.out ?_
   rintro e w' ⟨rfl,hx⟩
   obtain ⟨fn,tmps,assign,body,hy,hR⟩:=hY pre (⟨P.toArray⟩,b0) w' (hJ _ _ _ none (fun k hk=>by cases hk) (hx.but none) HJ.out) (HI.out.ext hx) ⟨⟨lnF Q,by rw [HS.out,dtL_snoc];simp⟩,by show P.toArray.size≤_;have:=HPL.out;have:=HZ.out;simp;omega⟩
   gi_wp2_with fail
   refine ⟨rfl,hR.mono ?_⟩
   rintro e W3 (⟨rfl,hJ3,hI3⟩ | ⟨rfl,hJx3⟩)
   ·have HI3:=Lib.hid hI3;have HJ3:=Lib.hid hJ3;clear hI3 hJ3
    gi_wp2_with fail
    go_roundw
    case rel=>exact ⟨pre++[(⟨P.toArray⟩,b0)],⟨Q.toArray⟩,rfl,HJ3.out,HI3.out,by rw [HS.out],by show Q.toArray.size≤_;have:=HPL.out;have:=HZ.out;simp;omega⟩
    case measure=>show Q.toArray.size<cur.size;rw [List.size_toArray];exact HQL.out
   ·gi_wp2_with fail
    first | go_end0 | refine bodyPost_ret (results_none rfl _ _ _) rfl ?_
    exact ⟨⟨_,rfl⟩,.inr ⟨_,⟨_,HS.out⟩,hJx3⟩⟩
end Go.Proofs.YtnjmndofcpnmeaaGreatDoor
namespace Go.Proofs.YtnjmndofcpnmeaaGreatDoor
open Go Go.RowKit
set_option linter.unusedVariables false
theorem RS.off {w w':World}{A:Option Addr}{n c:Nat}{row:Option Nat}{xs:List Value}(h:RS w (.slice A n c) xs)(hA:xs≠[]→∀ ad,A=some ad→row≠some ad.block)(hg:w.grownBy w' row):RS w' (.slice A n c) xs:=by
 obtain ⟨A',c',he,h1,h2,h3⟩:=h
 injection he with e1 e2 e3
 subst e1;subst e3
 refine ⟨A,c,by rw [e2],h1,h2,fun hp=>?_⟩
 obtain ⟨ad,ha,hb,hc⟩:=h3 hp
 refine ⟨ad,ha,Nat.lt_of_lt_of_le hb hg.size,fun j u hu=>?_⟩
 have hblk:(ad.add j).block=ad.block:=block_of_add ad j
 have:=hg.block ad.block hb (fun e=>hA (List.ne_nil_of_length_pos hp) ad ha e.symm)
 rw [← hc j u hu]
 exact World.cell?_of_block (by rw [hblk];exact this)
theorem RS.lt {w:World}{A:Option Addr}{n c:Nat}{xs:List Value}(h:RS w (.slice A n c) xs)(hne:xs≠[]){ad:Addr}(ha:A=some ad):ad.block<w.heap.size∧∃ cs t fr,w.heap[ad.block]? = some (.cells cs t fr):=by
 obtain ⟨A',c',he,h1,h2,h3⟩:=h
 injection he with e1 e2 e3
 subst e1
 obtain ⟨ad',ha',hb,hc⟩:=h3 (List.length_pos_iff.2 hne)
 rw [ha] at ha'
 injection ha' with ha'
 subst ha'
 refine ⟨hb,?_⟩
 have hpos:=List.length_pos_iff.2 hne
 have h0:=hc 0 xs[0] (List.getElem?_eq_getElem hpos)
 unfold World.cell? at h0
 rw [block_of_add] at h0
 cases ho:w.heap[ad.block]? with
 | none=>rw [ho] at h0;simp at h0
 | some o=>
  rw [ho] at h0
  cases o<;>simp at h0
  case cells cs t fr=>exact ⟨cs,t,fr,rfl⟩
theorem BS.offRow {w w':World}{v:Value}{l:List UInt8}{row:Option Nat}(h:BS w v l)(hn:∀ b,row=some b→NoU8 w b)(hg:w.grownBy w' row):BS w' v l:=by
 cases row with
 | none=>exact h.ext (grown_of_ext hg)
 | some b=>exact h.but (hn b rfl) hg
def FV.Blk (f:FV)(b:Nat):Prop:=(f.cp≠[]∧∃ ad,f.CA=some ad∧ad.block=b)∨(f.sp≠[]∧∃ ad,f.SA=some ad∧ad.block=b)
theorem sv_ne {ps:List ByteArray}(h:ps≠[]):sv ps≠[]:=by cases ps with | nil=>exact absurd rfl h | cons a b=>simp [sv]
theorem ne_sv {ps:List ByteArray}(h:sv ps≠[]):ps≠[]:=fun e=>h (by rw [e];rfl)
theorem FV.In.off {w w':World}{f:FV}{row:Option Nat}(h:f.In w)(hg:w.grownBy w' row)(hr:∀ b,row=some b→NoU8 w b∧¬ f.Blk b):f.In w':=
 ⟨h.fb.offRow (fun b hb=>(hr b hb).1) hg,h.cp.off (fun hne ad ha e=>(hr _ e).2 (.inl ⟨ne_sv hne,ad,ha,rfl⟩)) hg,h.sp.off (fun hne ad ha e=>(hr _ e).2 (.inr ⟨ne_sv hne,ad,ha,rfl⟩)) hg⟩
theorem FV.In.blk {w:World}{f:FV}(h:f.In w){b:Nat}(hb:f.Blk b):b<w.heap.size∧∃ cs t fr,w.heap[b]? = some (.cells cs t fr):=by
 rcases hb with ⟨hne,ad,ha,rfl⟩ | ⟨hne,ad,ha,rfl⟩
 ·exact h.cp.lt (sv_ne hne) ha
 ·exact h.sp.lt (sv_ne hne) ha
theorem FV.In.notOne {w:World}{f:FV}(h:f.In w){b:Nat}{v:Value}{t:TypeId}(hb:w.heap[b]? = some (.cells #[v] t (0,0)))(hv:∀ s,v≠.string s):¬ f.Blk b:=by
 have key:∀ {A:Option Addr} {n c:Nat} {ps:List ByteArray} {ad:Addr},RS w (.slice A n c) (sv ps)→ps≠[]→A=some ad→ad.block=b→False:=by
  intro A n c ps ad hr hne ha hbk
  obtain ⟨A',c',he,_,_,h3⟩:=hr
  injection he with e1 _ _
  subst e1
  obtain ⟨ad',ha',_,hc⟩:=h3 (List.length_pos_iff.2 (sv_ne hne))
  rw [ha] at ha'
  injection ha' with ha'
  subst ha'
  cases ps with
  | nil=>exact hne rfl
  | cons p r=>
   have h0:=hc 0 (.string p) rfl
   unfold World.cell? at h0
   rw [block_of_add,hbk,hb] at h0
   simp only at h0
   split at h0
   ·cases h0
   ·obtain ⟨hlt,he⟩:=Array.getElem?_eq_some_iff.1 h0
    have hz:(ad.add 0).off=0:=by simp at hlt;omega
    simp only [hz] at he
    exact hv p he
 rintro (⟨hne,ad,ha,hbk⟩ | ⟨hne,ad,ha,hbk⟩)
 ·exact key h.cp hne ha hbk
 ·exact key h.sp hne ha hbk
def EF:Ek FV where
 k:=12
 kp:=by decide
 cs:=FV.cs
 len:=fun _=>rfl
 one:=fun x u hu=>by
  unfold FV.cs at hu
  simp only [List.mem_cons,List.not_mem_nil,or_false] at hu
  rcases hu with rfl | rfl | rfl | rfl | rfl | rfl | rfl | rfl | rfl | rfl | rfl | rfl<;>rfl
 no8:=fun x u hu n e=>by
  subst e
  unfold FV.cs at hu
  simp at hu
 In:=fun w f=>f.In w
 Blk:=fun f b=>f.Blk b
 blt:=fun w x b h hb=>(h.blk hb).1
 keep:=fun w w' x row h hg hr=>h.off hg hr
theorem EF_nc (w:World)(l:Nat)(x:FV)(hn:NC w l)(h:x.In w):¬ x.Blk l:=fun hb=>by
 obtain ⟨_,cs,t,fr,e⟩:=h.blk hb
 exact hn _ _ _ e
theorem ROW.fs {e:TypeId}{w:World}{B:Nat}{v:Value}{xs:List FV}(h:ROW EF e w B v xs):FS w v xs:=by
 obtain ⟨A,c,h1,h2,h3,h4⟩:=h.cells
 exact ⟨A,c,h1,h2,h3,fun i hi=>⟨(h4 i hi).1,(h4 i hi).2⟩⟩
theorem finfo:(Tryz.prog.info? 41).map (fun i=>(i.zero,i.size,i.bytes))=some (some (.agg #[.int .i64 0,.int .i64 0,.int .i64 0,.int .i64 0,.slice none 0 0,.slice none 0 0,.string ⟨#[]⟩,.slice none 0 0,.string ⟨#[]⟩,.int .i64 0,.int .i64 0,.int .u32 0]),12,160):=by kernel_rfl
theorem fact_zn:∀ x∈(Value.agg #[.int .i64 0,.int .i64 0,.int .i64 0,.int .i64 0,.slice none 0 0,.slice none 0 0,.string ⟨#[]⟩,.slice none 0 0,.string ⟨#[]⟩,.int .i64 0,.int .i64 0,.int .u32 0]).cells.toList,∀ n,x≠.int .u8 n:=by
 intro x hx n e
 subst e
 simp [Value.cells] at hx
def factZ:Value:=.agg #[.int .i64 0,.int .i64 0,.int .i64 0,.int .i64 0,.slice none 0 0,.slice none 0 0,.string ⟨#[]⟩,.slice none 0 0,.string ⟨#[]⟩,.int .i64 0,.int .i64 0,.int .u32 0]
theorem fact_zs:factZ.cells.size=EF.k:=rfl
theorem fact_zn':∀ x∈factZ.cells.toList,∀ n,x≠.int .u8 n:=fact_zn
theorem fact_info:∃ i:TypeInfo,Tryz.prog.info? 41=some i∧i.zero=some factZ∧i.size=EF.k∧i.bytes=160:=by
 obtain ⟨i0,hi,hz0,hz1,hz2⟩:=info_parts finfo
 exact ⟨i0,hi,hz0,hz1,hz2⟩
theorem add0 (g:Nat)(j:Nat):(⟨g,0,none⟩:Addr).add j=⟨g,j,none⟩:=by unfold Addr.add;split<;>simp_all
theorem FBx.news {w:World}{g:Nat}{f:FV}(h:FBx w g f):∀ j u,(EF.all [f])[j]? = some u→w.cell? ((⟨g,0,none⟩:Addr).add j)=some u:=fun j u hu=>by
 rw [Ek.all_one] at hu
 rw [add0,cell_of_row _ _ j _ _ (0,0) h]
 rw [← hu]
 show _=(FV.cs f)[j]?
 unfold FV.cs
 rw [← List.getElem?_toArray]
end Go.Proofs.YtnjmndofcpnmeaaGreatDoor
namespace Go.Proofs.YtnjmndofcpnmeaaGreatDoor
open Go Go.RowKit Go.Maps
open Go.ChangeShapes (lits)
set_option linter.unusedVariables false
theorem lawStr:Keyed Tryz.prog 9:=string_keyed Tryz.underlying9
theorem infoInt:(Tryz.prog.info? 3).map (fun i=>(i.zero,i.size,i.bytes))=some (some (.int .i64 0),1,8):=by kernel_rfl
theorem zeroInts (w:World):(zeroValue 126).run Tryz.prog w=.ok (.slice none 0 0) w:=by kernel_rfl
def GM (w:World)(b n:Nat)(D:DataW Unit):Prop:=w.ownsGroups Tryz.prog 9 (b+1) 3 .i64 b n D
theorem GM.ext {w w':World}{b n:Nat}{D:DataW Unit}(h:GM w b n D)(hx:Ext w w'):GM w' b n D:=by
 unfold GM at h ⊢
 exact h.kept (hx.but none) (by simp) (fun es clock _ x _=>by cases x.val.ownBlock<;>simp)
theorem keyLit (s:List UInt8)(hs:s.length≤maxLen):keyOf Tryz.prog 9 (.string ⟨s.toArray⟩)=some (.string s):=by
 have:=WideMaps.keyOf_string_mk Tryz.underlying9 (s:=⟨s.toArray⟩) (by simpa [ByteArray.size] using hs)
 simpa using this
theorem below_ext {w0 w w':World}(h:Ext w0 w)(k:Below w0.heap.size w w'):Ext w0 w':=Below.trans h k
theorem atF_xs {xs:List FV}{k:Nat}(h:k<xs.length):atF (xs.map FV.fct) k=xs[k].fct:=by
 unfold atF
 rw [List.getElem?_map,List.getElem?_eq_getElem h]
 rfl
set_option maxRecDepth 100000 in
set_option maxHeartbeats 4000000 in
theorem group_at (fW fK:Nat) (pB:Fct→Bool) (kS:Fct→List UInt8) (A:Option Addr) (c:Nat) (xs:List FV) (w:World) (hF:FS w (.slice A xs.length c) xs) (hn:xs.length≤1000)
  (hEW:∀ (args:Array Value) (W:World),(callFunc fW args).run Tryz.prog W=.ok (.enter fW args) W) (hEK:∀ (args:Array Value) (W:World),(callFunc fK args).run Tryz.prog W=.ok (.enter fK args) W)
  (hW:∀ f∈xs,∀ W,f.In W→Ext w W→Calls Tryz.prog fW #[f.val] W fun e w'=>e=.returned (.bool (pB f.fct))∧Ext W w')
  (hK:∀ f∈xs,∀ W,f.In W→Ext w W→Calls Tryz.prog fK #[f.val] W fun e w'=>e=.returned (.string ⟨(kS f.fct).toArray⟩)∧Ext W w')
  (hkl:∀ f∈xs,(kS f.fct).length≤2000000):
  Calls Tryz.prog 71 #[.slice A xs.length c,.func (.func fW) #[] #[],.func (.func fK) #[] #[]] w fun e w'=>
   ∃ D:DataW Unit,e=.returned (.map (some w.heap.size))∧GM w' w.heap.size xs.length D∧GD D xs.length (fun j=>pB (atF (xs.map FV.fct) j)) (fun j=>kS (atF (xs.map FV.fct) j))∧Ext w w':=by
 have hmm:=@run_makeMap Tryz.prog
 obtain ⟨i0,hi,hz0,hz1,hz2⟩:=info_parts infoInt
 have HF:=Lib.hid hF;have HEW:=Lib.hid hEW;have HEK:=Lib.hid hEK;have HWC:=Lib.hid hW;have HKC:=Lib.hid hK;have HKL:=Lib.hid hkl
 obtain ⟨_,c',he,hc1,hc2⟩:=hF.shape
 injection he with e1 _ e3
 subst e1;subst e3
 unfold maxLen at hc2
 obtain ⟨n,hn'⟩:∃ n,xs.length=n:=⟨_,rfl⟩
 have HN:=Lib.hid hn'
 have HM0:=Lib.hid (show GM (w.alloc (.map #[] 0)) w.heap.size 0 (.map []) from World.ownsGroups_made _ _ _ _ _)
 have HX0:=Lib.hid ((Ext.refl w).alloc (.map #[] 0))
 clear hF hEW hEK hW hK hkl
 rw [hn'] at hc1 hn ⊢
 clear hn'
 go_enter Tryz.func71,Tryz.ntmps71
 go_wp2_with fail
 go_loopw [8,9,10,14] (fun _ _ _ i wr=>∃ (k:Nat) (D:DataW Unit),i=.int .i64 (k:Int)∧k≤n∧Hid (GM wr w.heap.size k D)∧Hid (GD D k (fun j=>pB (atF (xs.map FV.fct) j)) (fun j=>kS (atF (xs.map FV.fct) j)))∧Hid (Ext w wr)∧Hid (w.heap.size+1≤wr.heap.size)) (fun _ _ _ i _=>n-(intOf i).toNat)
 case atStart=>exact ⟨0,.map [],rfl,by omega,HM0,Lib.hid (GD.start _ _),HX0,Lib.hid (by simp)⟩
 case round=>
  obtain ⟨k,D,rfl,hk,HM,HD,HX,HS⟩:=hrel
  by_cases hlt:k<n
  ·have hlx:k<xs.length:=by rw [HN.out];exact hlt
   have hF:=HF.out.ext HX.out
   obtain ⟨hin,ad,rfl,u0,u1,u2,u3,u4,u5,u6,u7,u8,u9,u10,u11⟩:=hF.at_ k hlx
   have hatk:=atF_xs hlx
   have HWK:=Lib.hid (HWC.out xs[k] (List.getElem_mem hlx))
   have HKK:=Lib.hid (HKC.out xs[k] (List.getElem_mem hlx))
   have HKL1:=Lib.hid (HKL.out xs[k] (List.getElem_mem hlx))
   have HSKIP:=Lib.hid (show pB xs[k].fct=false→GD D (k+1) (fun j=>pB (atF (xs.map FV.fct) j)) (fun j=>kS (atF (xs.map FV.fct) j)) from fun h=>HD.out.skip (by show pB (atF (xs.map FV.fct) k)=false;rw [hatk];exact h))
   have HLOOK:=Lib.hid (show ∀ (w1:World) (v:Value) (zs:List Int),w1.ownsInts (w.heap.size+1) 3 .i64 v zs→D.atKey (.string (kS xs[k].fct)) .nil=rowDatum .i64 v zs→pB xs[k].fct=true→GD (D.put (.string (kS xs[k].fct)) (.slice (lits .i64 (zs++[(k:Int)])) [])) (k+1) (fun j=>pB (atF (xs.map FV.fct) j)) (fun j=>kS (atF (xs.map FV.fct) j)) from fun w1 v zs ho hat hp=>by
    have h1:=HD.out.look (kS xs[k].fct) ho hat
    rw [show kS xs[k].fct=(fun j=>kS (atF (xs.map FV.fct) j)) k by show _=kS (atF (xs.map FV.fct) k);rw [hatk]]
    exact HD.out.step (by show pB (atF (xs.map FV.fct) k)=true;rw [hatk];exact hp) (by show zs=zI (grpK k _ _ (kS (atF (xs.map FV.fct) k)));rw [hatk];exact h1))
   generalize xs[k]=f at *
   have hbx:=FBx.new wr f
   have hxa:=(Ext.refl wr).alloc (.cells #[.int .i64 f.t,.int .i64 f.mi,.int .i64 f.kd,.int .i64 f.fk,.slice f.FA f.fb.length f.fc,.slice f.CA f.cp.length f.cc,.string f.cr,.slice f.SA f.sp.length f.sc,.string f.sr,.int .i64 f.co,.int .i64 f.pr,.int .u32 (f.fl.toNat:Int)] 41)
   obtain ⟨Wa,ea⟩:∃ Wa,wr.alloc (.cells #[.int .i64 f.t,.int .i64 f.mi,.int .i64 f.kd,.int .i64 f.fk,.slice f.FA f.fb.length f.fc,.slice f.CA f.cp.length f.cc,.string f.cr,.slice f.SA f.sp.length f.sc,.string f.sr,.int .i64 f.co,.int .i64 f.pr,.int .u32 (f.fl.toNat:Int)] 41)=Wa:=⟨_,rfl⟩
   rw [ea] at hbx hxa
   have HBX:=Lib.hid hbx
   obtain ⟨v0,v1,v2,v3,v4,v5,v6,v7,v8,v9,v10,v11⟩:=fv_cells hbx
   have HXA:=Lib.hid (HX.out.trans hxa)
   have HMA:=Lib.hid (HM.out.ext hxa)
   have HINA:=Lib.hid (hin.ext hxa)
   have HCW:=Lib.hid (HWK.out Wa HINA.out HXA.out)
   have HKW:=Lib.hid (fun W2 (hx2:Ext Wa W2)=>HKK.out W2 (HINA.out.ext hx2) (HXA.out.trans hx2))
   unfold FV.val at HCW HKW
   have HSA:=Lib.hid (show w.heap.size+1≤Wa.heap.size from Nat.le_trans HS.out hxa.size)
   clear hbx hxa hin hF hlx hatk HWK HKK
   go_wp2_with fail
   rw [HEW.out]
   refine HCW.out.mono ?_
   rintro _ w2 ⟨rfl,hx2⟩
   have HX2:=Lib.hid (HXA.out.trans hx2)
   have HM2:=Lib.hid (HMA.out.ext hx2)
   have HC2:=Lib.hid (HKW.out w2 hx2)
   have HB2:=Lib.hid (HBX.out.ext hx2)
   have HS2:=Lib.hid (Nat.le_trans HSA.out hx2.size)
   clear hx2 u0 u1 u2 u3 u4 u5 u6 u7 u8 u9 u10 u11 v0 v1 v2 v3 v4 v5 v6 v7 v8 v9 v10 v11
   cases hp:pB f.fct with
   | false=>
    have HD2:=Lib.hid (HSKIP.out hp)
    have HM3:=Lib.hid (show GM w2 w.heap.size (k+1) D by
     obtain ⟨es,cl,h1,h2,h3,h4,h5,h6,h7⟩:=HM2.out
     exact ⟨es,cl,h1,h2,by omega,h4,h5,fun x hx zs ho=>by have:=h6 x hx zs ho;omega,h7⟩)
    clear hp
    go_wp2_with fail
    go_roundw
    case rel=>exact ⟨k+1,D,by go_num,by omega,HM3,HD2,HX2,HS2⟩
    case measure=>simp [intOf];omega
   | true=>
    have HP:=Lib.hid hp
    clear hp
    obtain ⟨v0,v1,v2,v3,v4,v5,v6,v7,v8,v9,v10,v11⟩:=fv_cells HB2.out
    go_wp2_with fail
    rw [HEK.out]
    refine HC2.out.mono ?_
    rintro _ w3 ⟨rfl,hx3⟩
    have hown:GM w3 w.heap.size k D:=HM2.out.ext hx3
    unfold GM at hown
    have hkey:=keyLit (kS f.fct) (by have:=HKL1.out;unfold maxLen;omega)
    have HX3:=Lib.hid (HX2.out.trans hx3)
    have hs3:w.heap.size+1≤w3.heap.size:=Nat.le_trans HS2.out hx3.size
    generalize kS f.fct=ky at *
    clear hx3 v0 v1 v2 v3 v4 v5 v6 v7 v8 v9 v10 v11
    go_wp2_with (first
     | (at_lookup;refine wpList_lookup_groups _ rfl _ _ 124 rfl 9 126 3 .i64 lawStr Tryz.underlying124 (zeroInts _) (w.heap.size+1) w.heap.size k _ rfl hown (by unfold maxLen;omega) _ _ rfl hkey ?_;intro v zs hat hoi hzl hback)
     | (at_builtin;refine wpList_append_own_at _ rfl _ _ 126 rfl (w.heap.size+1) 3 i0 (.int .i64 0) 1 8 Tryz.underlying126 hi hz0 hz1 hz2 rfl (by decide) _ _ _ rfl (hoi.1.alloc _) ⟨w3.heap.size,0,none⟩ 1 1 [.int .i64 k] rfl rfl (cell_one_new _ _ _) (ints_oneCell .i64 [(k:Int)]) (by unfold maxLen;omega) (by omega) (by simp;omega) ?_;intro v' w4 hown' hgrow hnil hloc)
     | (at_mapUpdate;refine wpList_mapUpdate_back _ rfl _ _ _ 124 rfl hback rfl rfl rfl ((World.grownBy_alloc _ _ _).trans hgrow) (hoi.appended hown' (WalkArith.wf_i64 (by omega))) (by simp;omega) (hloc.imp id (fun h=>⟨_,h,by simp⟩)) ?_;intro w5 hown2 hgrow2)
     | fail)
    have hall:=(World.grownBy_alloc w3 _ _).trans hgrow
    have HD5:=Lib.hid (HLOOK.out _ _ _ hoi hat HP.out)
    have hdp:=(hoi.appended hown' (WalkArith.wf_i64 (by omega))).datum_pos (H:=Unit) (by simp)
    have HM5:=Lib.hid (show GM w5 w.heap.size (k+1) (D.put (.string ky) (.slice (lits .i64 (zs++[(k:Int)])) [])) by unfold GM;rw [← hdp];exact hown2)
    have HX5:=Lib.hid (below_ext HX3.out ((Below.refl w.heap.size w3).groups hoi hall hgrow2 HX3.out.size (Nat.le_succ _) (Nat.le_refl _)))
    have HS5:=Lib.hid (Nat.le_trans hs3 (Nat.le_trans hall.size hgrow2.size))
    clear hown hown' hown2 hgrow hgrow2 hnil hloc hall hoi hback hat hkey hdp
    go_roundw
    case rel=>exact ⟨k+1,_,by go_num,by omega,HM5,HD5,HX5,HS5⟩
    case measure=>simp [intOf];omega
  ·obtain rfl:k=n:=by omega
   go_wp2_with fail
   go_ret
   exact ⟨D,rfl,HM.out,HD.out,HX.out⟩
end Go.Proofs.YtnjmndofcpnmeaaGreatDoor
