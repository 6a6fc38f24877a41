/- Pc27. -/
import Derived.Test.YtnjmndofcpnmeaaGreatDoorPc20
import Derived.Test.YtnjmndofcpnmeaaGreatDoorPc21
import Derived.Shelf.SlSortCmp.WholeK
import Derived.Shelf.SlSortCmp.NoneTotal
import Derived.Test.YtnjmndofcpnmeaaGreatDoorShelf
import Derived.Test.YtnjmndofcpnmeaaGreatDoorPc26
namespace Go.Proofs.YtnjmndofcpnmeaaGreatDoor
open Go Go.RowKit Go.Shelf Go.Sort
set_option linter.unusedVariables false
section
variable {α:Type} (E:Ek α)
def RDS (w:World)(v:Value)(xs:List α):Prop:=
 ∃ A c,v=.slice A xs.length c∧xs.length≤c∧c≤maxLen∧∀ i (h:i<xs.length),∃ ad,A=some ad∧∀ j u,(E.cs xs[i])[j]? = some u→w.cell? (ad.add (i*E.k+j))=some u
variable {E}
theorem RDS.ext {w w':World}{v:Value}{xs:List α}(h:RDS E w v xs)(hx:Ext w w'):RDS E w' v xs:=by
 obtain ⟨A,c,h1,h2,h3,h4⟩:=h
 refine ⟨A,c,h1,h2,h3,fun i hi=>?_⟩
 obtain ⟨ad,k1,k2⟩:=h4 i hi
 exact ⟨ad,k1,fun j u hu=>hx.cell (k2 j u hu)⟩
theorem RDS.nil (w:World):RDS E w (.slice none 0 0) ([]:List α):=⟨none,0,rfl,Nat.le_refl _,Nat.zero_le _,fun i h=>absurd h (Nat.not_lt_zero i)⟩
theorem ROW.rds {e:TypeId}{w:World}{B:Nat}{v:Value}{xs:List α}(h:ROW E e w B v xs):RDS E w v xs:=by
 obtain ⟨A,c,h1,h2,h3,h4⟩:=h.cells
 exact ⟨A,c,h1,h2,h3,fun i hi=>(h4 i hi).2⟩
variable [Inhabited α]
theorem getB {xs:List α}{i:Nat}(hi:i<xs.length):xs.toArray[i]! = xs[i]:=by simp [hi]
theorem ROW.holds {e:TypeId}{w:World}{B g cap:Nat}{xs:List α}(h:ROW E e w B (.slice (some ⟨g,0,none⟩) xs.length cap) xs):HoldsK E.cs E.k w g 0 xs.toArray∧g<w.heap.size∧B≤g∧xs.length≤cap∧cap≤maxLen:=by
 obtain ⟨_,h1,h2⟩:=h
 rcases h1.2 with ⟨h0,_⟩ | ⟨g',cap',cur,hv,hb,hg,hnc,hcm,hcs,_⟩
 ·cases h0
 ·injection hv with e1 _ e3
  injection e1 with e1
  injection e1 with e1
  subst e1;subst e3
  refine ⟨fun t ht=>?_,(Array.getElem?_eq_some_iff.1 hg).1,hb,hnc,hcm⟩
  rw [size_flatK,List.size_toArray] at ht
  have kp:=E.kp
  have hi:t / E.k<xs.length:=by rw [Nat.div_lt_iff_lt_mul kp];exact ht
  have hm:t % E.k<E.k:=Nat.mod_lt _ kp
  have hcl:t % E.k<(E.cs xs[t / E.k]).length:=by rw [E.len];exact hm
  rw [get_flatK _ _ _ _ (by rw [List.size_toArray];exact ht),getB hi]
  have hc:=h1.cells rfl t (E.cs xs[t / E.k])[t % E.k] (by
   have:=E.all_get xs (t / E.k) (t % E.k) hi hm
   rw [Nat.div_add_mod'] at this
   rw [this]
   exact List.getElem?_eq_getElem hcl)
  refine ⟨?_,frozen_of_row w g _ _ _ hg⟩
  have e1:(⟨g,0,none⟩:Addr).add t=⟨g,0+t,none⟩:=by unfold Addr.add;by_cases h0:t=0<;>simp [h0]
  rw [e1] at hc
  rw [hc]
  simp [hcl]
theorem sort_grown (w:World)(g n:Nat)(d:Array α)(os:Array Obj):w.grownBy (sortWorldK E.cs E.k w g 0 n d os) (some g):=by
 refine ⟨rfl,rfl,rfl,?_,fun i hi hne=>?_⟩
 ·simp [sortWorldK,putRowK,putRow,mapBlock,Sort.ahead]
 ·unfold sortWorldK
  rw [heap_grow_old _ _ (by simpa [putRowK,putRow,mapBlock,Sort.ahead] using hi)]
  have:g≠i:=fun e=>hne (by rw [e])
  simp [putRowK,putRow,mapBlock,Sort.ahead,Array.getElem?_modify,this]
theorem sort_rds {w:World}{g cap n:Nat}{xs ys:List α}{os:Array Obj}(hH:HoldsK E.cs E.k w g 0 xs.toArray)(hg:g<w.heap.size)(hl:ys.length=xs.length)(hc:xs.length≤cap)(hm:cap≤maxLen):RDS E (sortWorldK E.cs E.k w g 0 n ys.toArray os) (.slice (some ⟨g,0,none⟩) xs.length cap) ys:=by
 have h1:HoldsK E.cs E.k (sortWorldK E.cs E.k w g 0 n ys.toArray os) g 0 ys.toArray:=
  holdsK_grow _ _ _ _ _ _ _ (by simpa [putRowK,putRow,mapBlock,Sort.ahead] using hg) (holdsK_putRowK _ _ _ _ _ xs.toArray _ (holdsK_ahead _ _ _ _ _ _ _ hH) (by simp [hl]))
 refine ⟨_,_,by rw [hl],by omega,hm,fun i hi=>⟨_,rfl,fun j u hu=>?_⟩⟩
 have hj:j<E.k:=by rw [← E.len ys[i]];exact (List.getElem?_eq_some_iff.1 hu).1
 have:=(h1.cell (i:=i) (c:=j) (by simpa using hi) hj).1
 rw [getB hi] at this
 have e1:(⟨g,0,none⟩:Addr).add (i*E.k+j)=⟨g,0+i*E.k+j,none⟩:=by unfold Addr.add;by_cases h0:i*E.k+j=0<;>simp [h0];omega
 rw [e1,this]
 obtain ⟨h2,h3⟩:=List.getElem?_eq_some_iff.1 hu
 rw [← h3]
 simp [h2]
end
def almV (l:List Fct)(win:Int)(ad:Bool)(i:Nat):List Value:=[.slice none 0 0,.string ⟨#[]⟩,.int .i64 0,.slice none 0 0,.int .i64 (cntF l win ad i:Int),.int .i64 (begF l win ad i),.int .i64 (atF l i).t,.int .i64 (i:Int)]
def EA (l:List Fct) (win:Int) (ad:Bool):Ek Nat where
 k:=8
 kp:=by decide
 cs:=almV l win ad
 len:=fun _=>rfl
 one:=fun x u hu=>by simp [almV] at hu;rcases hu with rfl | rfl | rfl | rfl | rfl | rfl | rfl | rfl<;>rfl
 no8:=fun x u hu n e=>by subst e;simp [almV] at hu
 In:=fun _ _=>True
 Blk:=fun _ _=>False
 blt:=fun _ _ _ _ h=>h.elim
 keep:=fun _ _ _ _ _ _ _=>trivial
end Go.Proofs.YtnjmndofcpnmeaaGreatDoor
namespace Go.Proofs.YtnjmndofcpnmeaaGreatDoor
open Go Go.RowKit Go.Shelf Go.Sort Go.Maps
set_option linter.unusedVariables false
def COL (D:DataW Unit)(left:Lit→Bool)(n:Nat)(P:Nat→Bool)(K:Nat→List UInt8)(F:List Nat→Option Nat)(js:List Nat):Prop:=
 js.Nodup∧∀ i,i∈js ↔ ∃ s,Maps.has D (.string s)=true∧left (.string s)=false∧F (grpK n P K s)=some i
def LFT (D:DataW Unit)(left:Lit→Bool):Prop:=∀ kl,left kl=true→Maps.has D kl=true
theorem LFT.start (D:DataW Unit):LFT D (Maps.has D):=fun _ h=>h
theorem LFT.step {D:DataW Unit}{left:Lit→Bool}(h:LFT D left)(kl:Lit):LFT D (fun z=>left z && !z.sameKey kl):=fun z hz=>h z (by simp only [Bool.and_eq_true] at hz;exact hz.1)
section
variable {D:DataW Unit} {left:Lit→Bool} {n:Nat} {P:Nat→Bool} {K:Nat→List UInt8} {F:List Nat→Option Nat} {js:List Nat} {s:List UInt8}
theorem COL.start:COL D (Maps.has D) n P K F []:=⟨List.nodup_nil,fun i=>⟨fun h=>by simp at h,fun ⟨s,h1,h2,_⟩=>by rw [h1] at h2;cases h2⟩⟩
theorem left_iff {t:List UInt8}:(left (.string t) && !(Lit.string t).sameKey (.string s))=false ↔ left (.string t)=false∨t=s:=by
 by_cases h:t=s
 ·subst h
  rw [WideAt.sameKey_self (by trivial)]
  simp
 ·rw [sameKey_ne (litS_ne h)]
  simp [h]
theorem COL.pass (h:COL D left n P K F js)(e:F (grpK n P K s)=none):COL D (fun z=>left z && !z.sameKey (.string s)) n P K F js:=by
 refine ⟨h.1,fun i=>?_⟩
 rw [h.2]
 constructor
 ·rintro ⟨t,h1,h2,h3⟩
  exact ⟨t,h1,left_iff.2 (.inl h2),h3⟩
 ·rintro ⟨t,h1,h2,h3⟩
  rcases left_iff.1 h2 with h2 | rfl
  ·exact ⟨t,h1,h2,h3⟩
  ·rw [e] at h3;cases h3
theorem COL.hit {i:Nat}(h:COL D left n P K F js)(hF:∀ g i,F g=some i→i∈g)(hh:Maps.has D (.string s)=true)(hl:left (.string s)=true)(e:F (grpK n P K s)=some i):COL D (fun z=>left z && !z.sameKey (.string s)) n P K F (js++[i]):=by
 refine ⟨?_,fun j=>?_⟩
 ·rw [List.nodup_append]
  refine ⟨h.1,by simp,fun a ha b hb=>?_⟩
  rw [List.mem_singleton] at hb
  subst hb
  rintro rfl
  obtain ⟨t,h1,h2,h3⟩:=(h.2 a).1 ha
  have e1:=(grpK_mem.1 (hF _ _ h3)).2.2
  have e2:=(grpK_mem.1 (hF _ _ e)).2.2
  rw [e1] at e2
  rw [e2,hl] at h2
  cases h2
 ·rw [List.mem_append,List.mem_singleton,h.2]
  constructor
  ·rintro (⟨t,h1,h2,h3⟩ | rfl)
   ·exact ⟨t,h1,left_iff.2 (.inl h2),h3⟩
   ·exact ⟨s,hh,left_iff.2 (.inr rfl),e⟩
  ·rintro ⟨t,h1,h2,h3⟩
   rcases left_iff.1 h2 with h2 | rfl
   ·exact .inl ⟨t,h1,h2,h3⟩
   ·rw [e] at h3;injection h3 with h3;exact .inr h3.symm
theorem COL.fin (h:COL D left n P K F js)(hF:∀ g i,F g=some i→i∈g)(hD:GD D n P K)(hl:∀ kl,left kl=false)(i:Nat):i∈js ↔ ∃ s,F (grpK n P K s)=some i:=by
 rw [h.2]
 constructor
 ·rintro ⟨t,_,_,h3⟩;exact ⟨t,h3⟩
 ·rintro ⟨t,h3⟩
  exact ⟨t,(hD.has t).2 (List.ne_nil_of_mem (hF _ _ h3)),hl _,h3⟩
theorem COL.len (h:COL D left n P K F js)(hF:∀ g i,F g=some i→i∈g):js.length≤n:=by
 have:=nodup_le h.1 (b:=List.range n) fun i hi=>by
  obtain ⟨s,_,_,e⟩:=(h.2 i).1 hi
  exact List.mem_range.2 (grpK_mem.1 (hF _ _ e)).1
 rwa [List.length_range] at this
end
theorem elem_iv {w1:World} {base:Nat} {D:DataW Unit} {n:Nat} {P:Nat→Bool} {K:Nat→List UInt8} {s:List UInt8} {v:Value} {y:DataW Unit × List MemPlace} (hD:GD D n P K) (hR:rowElem w1 base 3 .i64 v=some y) (hat:∀ zd,D.atKey (.string s) zd=y.1):
  ∃ A c,v=.slice A (grpK n P K s).length c∧RS w1 (.slice A (grpK n P K s).length c) (iv (grpK n P K s)):=by
 obtain ⟨zs,ho,rfl⟩:=rowElem_inv hR
 have hz:=hD.look s ho (hat .nil)
 have hO:OwI w1 base v (grpK n P K s):=by
  have h1:=ho.1
  rw [hz,zI_len] at h1
  have e:(zI (grpK n P K s)).map (Value.int .i64)=iv (grpK n P K s):=by simp [zI,iv]
  rw [e] at h1
  exact h1
 obtain ⟨A,c,rfl,_⟩:=hO.shape
 exact ⟨A,c,rfl,hO.rs⟩
def mkS:Option Addr × Nat × Nat→Value:=fun c=>.slice c.1 c.2.1 c.2.2
theorem elem_shape {w1:World}{base:Nat}(v:Value)(y:DataW Unit × List MemPlace)(h:rowElem w1 base 3 .i64 v=some y):∃ c,v=mkS c:=by
 obtain ⟨zs,ho,rfl⟩:=rowElem_inv h
 rcases ho.1.2 with ⟨rfl,_⟩ | ⟨g,cap,cur,rfl,_⟩
 ·exact ⟨(none,0,0),rfl⟩
 ·exact ⟨(_,_,_),rfl⟩
theorem key_shape (key:Value)(kl:Lit)(h:keyOf Tryz.prog 9 key=some kl):∃ x:ByteArray,key=.string x:=by
 have hk:=Tryz.underlying9
 cases key<;>simp [keyOf,hk,mapKey] at h
 exact ⟨_,rfl⟩
theorem key_lit (x:ByteArray)(kl:Lit)(h:keyOf Tryz.prog 9 (.string x)=some kl):kl=.string x.data.toList:=by
 have hk:=Tryz.underlying9
 simp [keyOf,hk,mapKey] at h
 exact h.2.symm
theorem GM.owns {w:World}{b n:Nat}{D:DataW Unit}(h:GM w b n D):w.ownsMap Tryz.prog 9 (rowElem w (b+1) 3 .i64) b n D:=by
 obtain ⟨es,clock,h1,h2,h3,h4,_⟩:=h
 exact ⟨es,clock,h1,h2,h3,h4⟩
theorem ranges_nc {P:Program}{k:TypeId}{R:Value→Option (DataW Unit × List MemPlace)}{w:World}{b r n:Nat}{D:DataW Unit}{left:Lit→Bool}{cnt:Nat}(h:w.ranges P k R b r n D left cnt):NC w r∧NC w b:=by
 obtain ⟨es,clock,since,seen,c0,hb,_,_,_,hr,_⟩:=h
 refine ⟨fun cs t fr h=>?_,fun cs t fr h=>?_⟩
 ·rw [hr] at h;cases h
 ·rw [hb] at h;cases h
theorem row_cells {α:Type}{E:Ek α}{e:TypeId}{w:World}{B:Nat}{v:Value}{xs:List α}(h:ROW E e w B v xs){g:Nat}(hg:v.ownBlock=some g):∃ cs t fr,w.heap[g]? = some (.cells cs t fr):=by
 rcases h.2.1.2 with ⟨rfl,_⟩ | ⟨g',cap,cur,rfl,hb,hgg,_⟩
 ·simp [Value.ownBlock] at hg
 ·have:g'=g:=Option.some.inj hg
  subst this
  exact ⟨_,_,_,hgg⟩
theorem row_ne {α:Type}{E:Ek α}{e:TypeId}{w:World}{B b:Nat}{v:Value}{xs:List α}(h:ROW E e w B v xs)(hn:NC w b):some b≠v.ownBlock:=fun e1=>by
 obtain ⟨cs,t,fr,h1⟩:=row_cells h e1.symm
 exact hn _ _ _ h1
set_option maxRecDepth 100000 in
set_option maxHeartbeats 1000000 in
theorem cmpAlarm_at (l:List Fct)(win:Int)(ad:Bool)(x y:Nat)(W:World):Calls Tryz.prog 121 #[.agg (almV l win ad x).toArray,.agg (almV l win ad y).toArray] W fun e w'=>e=.returned (.int .i64 (Lib.compareInt (x:Int) (y:Int)))∧∃ q os',w'=grow (W.drewN q) os':=by
 unfold almV
 have hcon:=fun W'=>Tryz.cmp_Compare_int (x:Int) (y:Int) W'
 generalize Lib.compareInt (x:Int) (y:Int)=r at hcon ⊢
 generalize (cntF l win ad x:Int)=c1
 generalize (cntF l win ad y:Int)=c2
 generalize begF l win ad x=b1
 generalize begF l win ad y=b2
 generalize (atF l x).t=t1
 generalize (atF l y).t=t2
 generalize (x:Int)=x at *
 generalize (y:Int)=y at *
 go_enter Tryz.func121,Tryz.ntmps121
 go_wp2_with (go_at_call 122;refine (hcon _).mono ?_;rintro e w' ⟨rfl,rfl⟩)
 go_ret
 exact ⟨rfl,0,_,by rw [alloc_eq_grow,alloc_eq_grow,grow_grow];rfl⟩
theorem ltN (x y:Nat):ltOf (fun x y:Nat=>Lib.compareInt (x:Int) (y:Int)) x y=decide (x<y):=by
 unfold ltOf Lib.compareInt
 by_cases h1:(x:Int)<y
 ·have:x<y:=by omega
  simp [h1,this]
 ·have h3:¬ x<y:=by omega
  by_cases h2:(y:Int)<x<;>simp [h1,h2,h3]
theorem swoN:SWO (ltOf fun x y:Nat=>Lib.compareInt (x:Int) (y:Int)) where
 irrefl x:=by rw [ltN];simp
 trans x y z h1 h2:=by rw [ltN] at *;simp at *;omega
 ntrans x y z h1 h2:=by rw [ltN] at *;simp at *;omega
theorem sortAlarms_at (l:List Fct) (win:Int) (ad:Bool) (js:List Nat) (hd:js.Nodup) (hn:js.length≤1000) (B:Nat) (v:Value) (w:World) (h:ROW (EA l win ad) 120 w B v js):
  Calls Tryz.prog 120 #[v,.func (.func 121) #[] #[]] w fun e w'=>e=.returned (.tuple #[])∧∃ ys:List Nat,ys.Pairwise (· < ·)∧(∀ x,x∈ys ↔ x∈js)∧RDS (EA l win ad) w' v ys∧Below B w w':=by
 rcases h.2.1.2 with ⟨rfl,h0⟩ | ⟨g,cap,cur,rfl,_⟩
 ·obtain rfl:js=[]:=List.length_eq_zero_iff.1 h0
  refine (AnyF.slices_SortFunc_none Tryz.sortAlarm none 0 _ w).mono ?_
  rintro e w' ⟨rfl,rfl⟩
  exact ⟨rfl,[],List.Pairwise.nil,fun _=>Iff.rfl,RDS.nil _,Below.refl _ _⟩
 ·obtain ⟨hH,hg,hB,hc,hm⟩:=h.holds
  have eg:∀ args w,(callFunc 121 args).run Tryz.prog w=.ok (.enter 121 args) w:=enters_of Tryz.func121 (by kernel_rfl) rfl
  have hcon:=AnyQ.slices_SortFunc_total Tryz.sortAlarm 8 Tryz.isAgg120 Tryz.sizeOf120 (almV l win ad) (fun _=>rfl) (EA l win ad).one (fun x y:Nat=>Lib.compareInt (x:Int) (y:Int)) swoN 121 #[] g 0 cap js.toArray w eg (fun _ _ _ _ x y=>cmpAlarm_at l win ad x y _) hH hg (by rw [List.size_toArray];omega) (fun x y h1 h2=>by rw [ltN] at h1 h2;simp at h1 h2;omega)
  rw [List.size_toArray] at hcon
  refine hcon.mono ?_
  rintro e w' ⟨rfl,n,os,rfl⟩
  have hp:=List.mergeSort_perm js (fun x y=>!(ltOf fun x y:Nat=>Lib.compareInt (x:Int) (y:Int)) y x)
  have hs:=List.pairwise_mergeSort (le:=fun x y=>!(ltOf fun x y:Nat=>Lib.compareInt (x:Int) (y:Int)) y x) (fun a b c h1 h2=>by rw [ltN] at *;simp at *;omega) (fun a b=>by rw [ltN,ltN];simp;omega) js
  have hnd:=hp.nodup_iff.2 hd
  refine ⟨rfl,_,?_,fun x=>hp.mem_iff,sort_rds hH hg hp.length_eq hc hm,(Below.refl B w).grown (sort_grown (E:=EA l win ad) w g n _ os) (by omega) (fun j hj=>by cases hj;exact hB)⟩
  refine (hs.and hnd).imp fun {a b} hab=>?_
  have h1:=hab.1
  have h2:=hab.2
  rw [ltN] at h1
  simp at h1
  omega
end Go.Proofs.YtnjmndofcpnmeaaGreatDoor
namespace Go.Proofs.YtnjmndofcpnmeaaGreatDoor
open Go Go.RowKit Go.Maps
set_option linter.unusedVariables false
def almZ:Value:=.agg #[.slice none 0 0,.string ⟨#[]⟩,.int .i64 0,.slice none 0 0,.int .i64 0,.int .i64 0,.int .i64 0,.int .i64 0]
theorem alm_info:∃ i:TypeInfo,Tryz.prog.info? 120=some i∧i.zero=some almZ∧i.size=8∧i.bytes=104:=
 info_parts (show (Tryz.prog.info? 120).map (fun i=>(i.zero,i.size,i.bytes))=some (some almZ,8,104) by kernel_rfl)
theorem alm_zs:almZ.cells.size=8:=rfl
theorem alm_zn:∀ x∈almZ.cells.toList,∀ n,x≠.int .u8 n:=by
 intro x hx n e
 subst e
 simp [almZ,Value.cells] at hx
def AVx (w:World)(g:Nat)(l:List Fct)(win:Int)(ad:Bool)(i:Nat):Prop:=w.heap[g]? = some (.cells #[.slice none 0 0,.string ⟨#[]⟩,.int .i64 0,.slice none 0 0,.int .i64 (cntF l win ad i:Int),.int .i64 (begF l win ad i),.int .i64 (atF l i).t,.int .i64 (i:Int)] 120 (0,0))
theorem AVx.cells {w:World}{g:Nat}{l:List Fct}{win:Int}{ad:Bool}{i:Nat}(h:AVx w g l win ad i):w.cell? ⟨g,0,none⟩=some (.slice none 0 0)∧w.cell? ⟨g,1,none⟩=some (.string ⟨#[]⟩)∧w.cell? ⟨g,2,none⟩=some (.int .i64 0)∧w.cell? ⟨g,3,none⟩=some (.slice none 0 0)∧w.cell? ⟨g,4,none⟩=some (.int .i64 (cntF l win ad i:Int))∧w.cell? ⟨g,5,none⟩=some (.int .i64 (begF l win ad i))∧w.cell? ⟨g,6,none⟩=some (.int .i64 (atF l i).t)∧w.cell? ⟨g,7,none⟩=some (.int .i64 (i:Int)):=by
 unfold AVx at h
 refine ⟨?_,?_,?_,?_,?_,?_,?_,?_⟩<;>(rw [cell_of_row _ _ _ _ _ (0,0) h];rfl)
theorem AVx.news {w:World}{g:Nat}{l:List Fct}{win:Int}{ad:Bool}{i:Nat}(h:AVx w g l win ad i):∀ j u,((EA l win ad).all [i])[j]? = some u→w.cell? ((⟨g,0,none⟩:Addr).add j)=some u:=fun j u hu=>by
 rw [Ek.all_one] at hu
 rw [add0,cell_of_row _ _ j _ _ (0,0) h,← hu]
 show _=(almV l win ad i)[j]?
 unfold almV
 rw [← List.getElem?_toArray]
theorem find_mem {f:Nat→Bool}(g:List Nat)(i:Nat)(h:g.find? f=some i):i∈g:=List.mem_of_find?_eq_some h
theorem grpK_who {l:List Fct}{ad:Bool}{s:List UInt8}(h:grpK l.length (fun j=>failB (atF l j)) (fun j=>keyF ad (atF l j)) s≠[]):∃ x,grpK l.length (fun j=>failB (atF l j)) (fun j=>keyF ad (atF l j)) s=grpF l ad x:=by
 obtain ⟨j,_,_,e⟩:=grpK_ne.1 h
 exact ⟨who ad (atF l j),by rw [← e,grpK_F]⟩
theorem alm_ex {l:List Fct}{win lim:Int}{ad:Bool}{i:Nat}:(∃ s,(grpK l.length (fun j=>failB (atF l j)) (fun j=>keyF ad (atF l j)) s).find? (hitF l win lim ad)=some i) ↔ ∃ x,(grpF l ad x).find? (hitF l win lim ad)=some i:=by
 constructor
 ·rintro ⟨s,h⟩
  obtain ⟨x,hx⟩:=grpK_who (List.ne_nil_of_mem (find_mem _ _ h))
  exact ⟨x,by rw [← hx];exact h⟩
 ·rintro ⟨x,h⟩
  have hm:=(grp_mem.1 (find_mem _ _ h)).2.2
  exact ⟨keyF ad (atF l i),by rw [grpK_F,hm];exact h⟩
set_option maxRecDepth 100000 in
set_option maxHeartbeats 800000 in
theorem alarms_at (ad:Bool) (fK fC:Nat) (A:Option Addr) (c:Nat) (xs:List FV) (win lim:Int) (w:World) (hF:FS w (.slice A xs.length c) xs) (hn:xs.length≤1000) (hz:∀ f∈xs,f.Sz) (ht:∀ f∈xs,0≤f.t∧f.t≤1099511627776) (hp:Pow w)
  (hor:ordT (xs.map FV.fct)) (hw0:0≤win) (hw1:win≤1099511627776) (hl:i64B lim)
  (hEK:∀ (args:Array Value) (W:World),(callFunc fK args).run Tryz.prog W=.ok (.enter fK args) W) (hEC:∀ (args:Array Value) (W:World),(callFunc fC args).run Tryz.prog W=.ok (.enter fC args) W)
  (hK:∀ f∈xs,∀ W,f.In W→Ext w W→Calls Tryz.prog fK #[f.val] W fun e w'=>e=.returned (.string ⟨(keyF ad f.fct).toArray⟩)∧Ext W w')
  (hkl:∀ f∈xs,(keyF ad f.fct).length≤2000000)
  (hC:∀ W B b m D js,TAL W B b m D js (fun j=>keyF false (atF (xs.map FV.fct) j))→Calls Tryz.prog fC #[.pointer (some ⟨b,0,none⟩)] W fun e w'=>e=.returned (.int .i64 (cJ ad js (fun j=>keyF false (atF (xs.map FV.fct) j)):Int))∧Ext W w'):
  Calls Tryz.prog 62 #[.slice A xs.length c,.int .i64 win,.int .i64 lim,.func (.func fK) #[] #[],.func (.func fC) #[] #[]] w fun e w'=>(∃ v,e=.returned v∧RDS (EA (xs.map FV.fct) win ad) w' v (almF (xs.map FV.fct) win lim ad))∧Ext w w':=by
 have hgr:=group_at 118 fK failB (keyF ad) A c xs w hF hn (enters_of Tryz.func118 (by kernel_rfl) rfl) hEK (fun f hf W hM hx=>failure_at f W hM (hz f hf)) hK hkl
 have hL:(xs.map FV.fct).length=xs.length:=List.length_map ..
 have HFI:=Lib.hid (fun (g:List Nat) (G:Option Addr) (gc:Nat) (x:Who) (W:World) (hx:Ext w W) (hg:g=grpF (xs.map FV.fct) ad x) (hG:RS W (.slice G g.length gc) (iv g))=>first_at ad fC A c xs G gc g x win lim W (hF.ext hx) hn hz ht (hp.ext hx) hor hg hG hw0 hw1 hl hEC hC)
 have HGR:=Lib.hid hgr;have HLL:=Lib.hid hL
 obtain ⟨_,c',he,hc1,hc2⟩:=hF.shape
 injection he with e1 _ e3
 subst e1;subst e3
 obtain ⟨i0,hi,iz0,iz1,iz2⟩:=alm_info
 obtain ⟨n,hn'⟩:∃ n,xs.length=n:=⟨_,rfl⟩
 have HN:=Lib.hid hn'
 clear hgr hL hF hz ht hp hor hEK hEC hK hkl hC
 rw [hn'] at hc1 hn ⊢ HGR HLL HFI
 clear hn'
 go_enter Tryz.func62,Tryz.ntmps62
 go_wp2_with fail
 refine HGR.out.mono ?_
 rintro _ w1 ⟨D,rfl,hgm,hgd,hx1⟩
 have HX1:=Lib.hid hx1;have HGD:=Lib.hid hgd
 have hown:=hgm.owns
 have hbl:=hown.lt
 clear hx1 hgm hgd
 go_wp2_with (first
  | (at_range;refine wpList_range_own _ rfl _ 124 rfl 9 126 lawStr Tryz.underlying124 _ w.heap.size n D rfl hown ?_;intro w0 hrg0 hg0 hs0)
  | fail)
 go_frame
 have HX0:=Lib.hid (show Ext w1 w0 from Below.grown (Below.refl _ _) hg0 (Nat.le_refl _) (fun j hj=>by cases hj))
 generalize hR:rowElem (H:=Unit) w1 (w.heap.size+1) 3 .i64=R at *
 have HR:=Lib.hid hR
 clear hR hown hg0
 go_loopw [11,13,14,15] (fun v11 _ _ _ wr=>∃ (left:Lit→Bool) (cnt:Nat) (js:List Nat) (FA:Option Addr) (fc:Nat),v11=.slice FA js.length fc∧wr.ranges Tryz.prog 9 R w.heap.size w1.heap.size n D left cnt∧Hid (ROW (EA (xs.map FV.fct) win ad) 120 wr w1.heap.size (.slice FA js.length fc) js)∧Hid (COL D left n (fun j=>failB (atF (xs.map FV.fct) j)) (fun j=>keyF ad (atF (xs.map FV.fct) j)) (fun g=>g.find? (hitF (xs.map FV.fct) win lim ad)) js)∧Hid (LFT D left)∧Hid (Ext w1 wr)) (fun _ _ _ _ wr=>wr.rangeLeft w.heap.size w1.heap.size)
 case atStart=>exact ⟨_,_,[],none,0,rfl,hrg0,Lib.hid (ROW.nil _ _ _),Lib.hid COL.start,Lib.hid (LFT.start D),HX0⟩
 case round=>
  obtain ⟨left,cnt,js,FA,fc,rfl,hrg,HRW,HCO,HLF,HX⟩:=hrel
  have HJL:=Lib.hid (HCO.out.len find_mem)
  go_wp2_with (first
   | (at_next;refine wpList_next_ranges (α:=ByteArray) (β:=Option Addr × Nat × Nat) _ rfl _ rfl 9 lawStr R Value.string mkS key_shape (by rw [← HR.out];exact elem_shape) w.heap.size w1.heap.size n _ _ _ rfl hrg ?_ ?_)
   | fail)
  ·intro hc0 hl0
   have hso:=sortAlarms_at (xs.map FV.fct) win ad js HCO.out.1 (by have:=HJL.out;omega) w1.heap.size _ wr HRW.out
   have HSO:=Lib.hid hso
   have HIN:=Lib.hid (show ∀ i,i∈js ↔ ∃ x,(grpF (xs.map FV.fct) ad x).find? (hitF (xs.map FV.fct) win lim ad)=some i from fun i=>by
    rw [HCO.out.fin find_mem HGD.out hl0 i,← alm_ex,HLL.out])
   clear hso hrg
   go_wp2_with fail
   refine HSO.out.mono ?_
   rintro _ w3 ⟨rfl,ys,hys,hym,hrd,hb3⟩
   have hya:ys=almF (xs.map FV.fct) win lim ad:=alms_of hys fun i=>by rw [hym,HIN.out]
   subst hya
   have HRD:=Lib.hid hrd
   have HX3:=Lib.hid (HX1.out.trans (below_ext HX.out hb3))
   clear hrd hb3 hys hym
   go_wp2_with fail
   go_ret
   exact ⟨⟨_,rfl,HRD.out⟩,HX3.out⟩
  ·intro x GA0 gn gc0 kl yd yp w2 cnt2 hkey hlk hRv hat hrg2 hlt2 hg2 hs2 hen
   obtain rfl:=key_lit x kl hkey
   rw [← HR.out] at hRv
   obtain ⟨GA,gc,hv,hrs⟩:=elem_iv HGD.out hRv hat
   have hne:grpK n (fun j=>failB (atF (xs.map FV.fct) j)) (fun j=>keyF ad (atF (xs.map FV.fct) j)) x.data.toList≠[]:=(HGD.out.has _).1 (HLF.out _ hlk)
   obtain ⟨q,hq⟩:=grpK_who (l:=xs.map FV.fct) (ad:=ad) (s:=x.data.toList) (by rw [HLL.out];exact hne)
   rw [HLL.out] at hq
   have hx2:Ext w1 w2:=Below.grown HX.out hg2 HX.out.size (fun j hj=>by cases hj;exact Nat.le_refl _)
   have hrw2:=HRW.out.keep hg2 (fun b hb=>by
    injection hb with hb
    subst hb
    have hnc:=(ranges_nc hrg).1
    exact ⟨fun e=>row_ne HRW.out hnc e.symm,hnc.noU8,fun x _=>id⟩)
   have hpass:=HCO.out.pass (s:=x.data.toList)
   have hhit:=fun i=>HCO.out.hit (i:=i) find_mem (HLF.out _ hlk) hlk
   have hlf2:=HLF.out.step (.string x.data.toList)
   generalize hg:grpK n (fun j=>failB (atF (xs.map FV.fct) j)) (fun j=>keyF ad (atF (xs.map FV.fct) j)) x.data.toList=g at *
   have hfi:=HFI.out g GA gc q w2 (HX1.out.trans hx2) hq (hrs.ext hx2)
   have HHIT:=Lib.hid hhit;have HPASS:=Lib.hid hpass;have HLF2:=Lib.hid hlf2;have HRW2:=Lib.hid hrw2;have HX2:=Lib.hid hx2;have HFI2:=Lib.hid hfi
   rw [hv] at hen ⊢
   clear hhit hpass hlf2 hrw2 hx2 hfi hv hrs hne hq hRv hat hlk hg hkey hg2
   go_wp2_with fail
   refine HFI2.out.mono ?_
   rintro e w3 ⟨hres,hx3⟩
   have HX3:=Lib.hid (HX2.out.trans hx3)
   have HRW3:=Lib.hid (HRW2.out.ext hx3)
   have hrg3:=hrg2.kept (hx3.but none) (by simp) (by simp)
   clear hx3
   rcases hres with ⟨i,hfd,rfl⟩ | ⟨hfd,rfl⟩
   ·have HCO3:=Lib.hid (HHIT.out i hfd)
    clear hfd
    unfold alm0
    have a4:AVx (w3.alloc (.cells #[.slice none 0 0,.string ⟨#[]⟩,.int .i64 0,.slice none 0 0,.int .i64 (cntF (xs.map FV.fct) win ad i:Int),.int .i64 (begF (xs.map FV.fct) win ad i),.int .i64 (atF (xs.map FV.fct) i).t,.int .i64 (i:Int)] 120)) w3.heap.size (xs.map FV.fct) win ad i:=heap_alloc_new w3 _
    have x4:=(Ext.refl w3).alloc (.cells #[.slice none 0 0,.string ⟨#[]⟩,.int .i64 0,.slice none 0 0,.int .i64 (cntF (xs.map FV.fct) win ad i:Int),.int .i64 (begF (xs.map FV.fct) win ad i),.int .i64 (atF (xs.map FV.fct) i).t,.int .i64 (i:Int)] 120)
    obtain ⟨W4,e4⟩:∃ W,w3.alloc (.cells #[.slice none 0 0,.string ⟨#[]⟩,.int .i64 0,.slice none 0 0,.int .i64 (cntF (xs.map FV.fct) win ad i:Int),.int .i64 (begF (xs.map FV.fct) win ad i),.int .i64 (atF (xs.map FV.fct) i).t,.int .i64 (i:Int)] 120)=W:=⟨_,rfl⟩
    rw [e4] at a4 x4
    have a5:AVx (W4.alloc (.cells #[.slice none 0 0,.string ⟨#[]⟩,.int .i64 0,.slice none 0 0,.int .i64 (cntF (xs.map FV.fct) win ad i:Int),.int .i64 (begF (xs.map FV.fct) win ad i),.int .i64 (atF (xs.map FV.fct) i).t,.int .i64 (i:Int)] 120)) W4.heap.size (xs.map FV.fct) win ad i:=heap_alloc_new W4 _
    have x5:=(Ext.refl W4).alloc (.cells #[.slice none 0 0,.string ⟨#[]⟩,.int .i64 0,.slice none 0 0,.int .i64 (cntF (xs.map FV.fct) win ad i:Int),.int .i64 (begF (xs.map FV.fct) win ad i),.int .i64 (atF (xs.map FV.fct) i).t,.int .i64 (i:Int)] 120)
    obtain ⟨W5,e5⟩:∃ W,W4.alloc (.cells #[.slice none 0 0,.string ⟨#[]⟩,.int .i64 0,.slice none 0 0,.int .i64 (cntF (xs.map FV.fct) win ad i:Int),.int .i64 (begF (xs.map FV.fct) win ad i),.int .i64 (atF (xs.map FV.fct) i).t,.int .i64 (i:Int)] 120)=W:=⟨_,rfl⟩
    rw [e5] at a5 x5
    have HA5:=Lib.hid a5
    obtain ⟨c0,c1,c2,c3,c4,c5,c6,c7⟩:=a4.cells
    have HRW5:=Lib.hid (HRW3.out.ext (x4.trans x5))
    have hrg5:=hrg3.kept ((x4.trans x5).but none) (by simp) (by simp)
    have HX5:=Lib.hid (HX3.out.trans (x4.trans x5))
    have HS5:=Lib.hid HX5.out.size
    have HBY:=Lib.hid (show (js.length + [i].length)*104≤140737488355328 by have:=HJL.out;simp only [List.length_singleton];omega)
    clear a4 x4 a5 x5
    go_wp2_with (first
     | (at_builtin;refine wpList_append_row (E:=EA (xs.map FV.fct) win ad) W5 rfl (.tmp 34) (.tmp 36) 114 rfl w1.heap.size 120 i0 almZ 104 Tryz.underlying114 hi iz0 iz1 iz2 alm_zs alm_zn _ js rfl HRW5.out ⟨W4.heap.size,0,none⟩ 1 [i] rfl (by show 0<1;decide) HA5.out.news (fun y hy=>⟨trivial,fun b _=>id⟩) HBY.out (by decide) HS5.out ?_;intro v6 w6 hown6 hg6 ho6;obtain ⟨A6,c6',rfl⟩:=hown6.shape)
     | fail)
    obtain ⟨hnr,hnb⟩:=ranges_nc hrg5
    have hrg6:=hrg5.kept hg6 (row_ne HRW5.out hnb) (row_ne HRW5.out hnr)
    have HX6:=Lib.hid (show Ext w1 w6 from Below.grown HX5.out hg6 HX5.out.size (fun j hj=>(HRW5.out.lt j hj).1))
    have HRW6:=Lib.hid hown6
    clear hown6 hg6 ho6 hnr hnb
    go_roundw
    case rel=>exact ⟨_,cnt2,js++[i],A6,c6',by rw [List.length_append];rfl,hrg6,HRW6,HCO3,HLF2,HX6⟩
    case measure=>rw [hrg6.left_eq,hrg.left_eq];exact hlt2
   ·have HCO3:=Lib.hid (HPASS.out hfd)
    clear hfd
    unfold alm0
    go_wp2_with fail
    go_roundw
    case rel=>exact ⟨_,cnt2,js,FA,fc,rfl,hrg3.alloc _,Lib.hid (HRW3.out.ext ((Ext.refl _).alloc _)),HCO3,HLF2,Lib.hid (HX3.out.trans ((Ext.refl _).alloc _))⟩
    case measure=>rw [(hrg3.alloc _).left_eq,hrg.left_eq];exact hlt2
end Go.Proofs.YtnjmndofcpnmeaaGreatDoor
