/- Pc49. -/
import Derived.Test.YtnjmndofcpnmeaaGreatDoorPc48
namespace Go.Proofs.YtnjmndofcpnmeaaGreatDoor
open Go Go.RowKit
set_option linter.unusedVariables false
theorem AIs.ins {l:List Fct}{ms:List VV}{js:List Nat}{m:VV}{i p:Nat}(h:AIs l ms js)(hm:m.Is (actF l i))(hl:m.cp.length≤1000)(hp:p≤ms.length):AIs l (ms.take p++m::ms.drop p) (js.take p++i::js.drop p):=by
 have e:=h.1
 refine ⟨by simp [e],fun k hk hk2=>?_,fun x hx=>?_⟩
 ·have hpl:(ms.take p).length=p:=List.length_take_of_le hp
  have hpj:(js.take p).length=p:=List.length_take_of_le (by omega)
  rcases Nat.lt_trichotomy k p with hlt | rfl | hgt
  ·rw [List.getElem_append_left (by omega),List.getElem_append_left (by omega),List.getElem_take,List.getElem_take]
   exact h.2.1 k (by omega) (by omega)
  ·have e1:(ms.take k++m::ms.drop k)[k]? = some m:=by rw [List.getElem?_append_right (by omega),hpl,Nat.sub_self];rfl
   have e2:(js.take k++i::js.drop k)[k]? = some i:=by rw [List.getElem?_append_right (by omega),hpj,Nat.sub_self];rfl
   rw [(List.getElem?_eq_some_iff.1 e1).2,(List.getElem?_eq_some_iff.1 e2).2]
   exact hm
  ·have hk3:k-1<ms.length:=by simp at hk;omega
   have e1:(ms.take p++m::ms.drop p)[k]? = some (ms[k-1]'hk3):=by
    rw [List.getElem?_append_right (by omega),hpl,show k-p=(k-1-p)+1 by omega,List.getElem?_cons_succ,List.getElem?_drop,show p+(k-1-p)=k-1 by omega,List.getElem?_eq_getElem hk3]
   have hk4:k-1<js.length:=by omega
   have e2:(js.take p++i::js.drop p)[k]? = some (js[k-1]'hk4):=by
    rw [List.getElem?_append_right (by omega),hpj,show k-p=(k-1-p)+1 by omega,List.getElem?_cons_succ,List.getElem?_drop,show p+(k-1-p)=k-1 by omega,List.getElem?_eq_getElem hk4]
   rw [(List.getElem?_eq_some_iff.1 e1).2,(List.getElem?_eq_some_iff.1 e2).2]
   exact h.2.1 _ hk3 hk4
 ·rcases List.mem_append.1 hx with hx | hx
  ·exact h.2.2 x (List.mem_of_mem_take hx)
  ·rcases List.mem_cons.1 hx with rfl | hx
   ·exact hl
   ·exact h.2.2 x (List.mem_of_mem_drop hx)
theorem RDS.take {w:World}{A:Option Addr}{c:Nat}{ms:List VV}(h:RDS EV w (.slice A ms.length c) ms)(p:Nat)(hp:p≤ms.length):RDS EV w (.slice A (ms.take p).length (ms.take p).length) (ms.take p):=by
 obtain ⟨A',c',he,h1,h2,h3⟩:=h
 injection he with e1 _ e3
 subst e1
 refine ⟨A,_,rfl,Nat.le_refl _,by rw [List.length_take];omega,fun i hi=>?_⟩
 rw [List.length_take] at hi
 obtain ⟨ad,k1,k2⟩:=h3 i (by omega)
 exact ⟨ad,k1,fun j u hu=>k2 j u (by rw [List.getElem_take] at hu;exact hu)⟩
theorem RDS.drop {w:World}{g:Nat}{c:Nat}{ms:List VV}(h:RDS EV w (.slice (some ⟨g,0,none⟩) ms.length c) ms)(p:Nat)(hp:p≤ms.length):RDS EV w (.slice (if c=p then some ⟨g,0,none⟩ else some ⟨g,p*8,none⟩) (ms.drop p).length (c-p)) (ms.drop p):=by
 obtain ⟨A',c',he,h1,h2,h3⟩:=h
 injection he with e1 _ e3
 subst e1;subst e3
 refine ⟨_,_,rfl,by rw [List.length_drop];omega,by omega,fun i hi=>?_⟩
 rw [List.length_drop] at hi
 obtain ⟨ad,k1,k2⟩:=h3 (p+i) (by omega)
 injection k1 with k1
 subst k1
 rw [if_neg (by omega)]
 refine ⟨_,rfl,fun j u hu=>?_⟩
 have h5:=k2 j u (by rw [List.getElem_drop] at hu;exact hu)
 have e:(⟨g,0,none⟩:Addr).add ((p+i)*EV.k+j)=(⟨g,p*8,none⟩:Addr).add (i*EV.k+j):=by
  show (⟨g,0,none⟩:Addr).add ((p+i)*8+j)=(⟨g,p*8,none⟩:Addr).add (i*8+j)
  rw [Addr.add_lit,Addr.add_lit]
  congr 1
  omega
 rw [← e]
 exact h5
theorem run_app_one (w:World) (ty:TypeId) (b0:Nat) (m:VV) (X:Option Addr) (n d:Nat) (ys:List VV) (h1:V8 w b0 m) (hn:ys.length=n) (hX:ys≠[]→∃ a,X=some a) (h2:RDS EV w (.slice X n d) ys) (hb:n≤1000):
  ∃ g c w',(Builtin.append_ #[55,55] ty #[.slice (some ⟨b0,0,none⟩) 1 1,.slice X n d]).run Tryz.prog w=.ok (.slice (some ⟨g,0,none⟩) (m::ys).length c) w'∧RDS EV w' (.slice (some ⟨g,0,none⟩) (m::ys).length c) (m::ys)∧Ext w w':=by
 subst hn
 obtain ⟨i0,hi,iz0,iz1,iz2⟩:=act_info
 have hml:[m].length≤maxLen:=by
  rw [List.length_singleton]
  unfold maxLen
  omega
 have h0:RDS EV w (.slice (some ⟨b0,0,none⟩) [m].length [m].length) [m]:=by
  refine ⟨_,_,rfl,Nat.le_refl _,hml,fun k hk=>⟨_,rfl,fun j u hu=>?_⟩⟩
  rw [List.length_singleton] at hk
  obtain rfl:k=0:=Nat.lt_one_iff.1 hk
  rw [Nat.zero_mul,Nat.zero_add,add0,cell_of_row _ _ j _ _ (0,0) h1,← hu]
  show _=(VV.cs m)[j]?
  unfold VV.cs
  rw [← List.getElem?_toArray]
 by_cases hy:ys=[]
 ·subst hy
  refine ⟨b0,1,w,?_,h0,Ext.refl _⟩
  cases X with
  | none=>exact run_append_nothing w _ _ ty _ i0 Tryz.underlying55 hi (some ⟨b0,0,none⟩) 1 1 (Nat.le_refl _) _ (Src.ofNil w Tryz.underlying55 d)
  | some a=>exact run_append_nothing w _ _ ty _ i0 Tryz.underlying55 hi (some ⟨b0,0,none⟩) 1 1 (Nat.le_refl _) _ (Src.ofSlice w Tryz.underlying55 a 0 d [] (by simp) (by simp) (by simp))
 ·obtain ⟨g,c,w',k1,k2,k3⟩:=run_app_rds w 55 ty 58 i0 actZ 88 Tryz.underlying55 hi iz0 iz1 iz2 act_zs (some ⟨b0,0,none⟩) X d [m] ys hX h0 h2 hy (by simp;omega) (by omega)
  exact ⟨g,c,w',k1,k2,k3⟩
theorem run_app_two (w:World) (ty:TypeId) (A:Option Addr) (g9 nx ny d:Nat) (xs ys:List VV) (hnx:xs.length=nx) (hny:ys.length=ny) (h1:RDS EV w (.slice A nx nx) xs) (h2:RDS EV w (.slice (some ⟨g9,0,none⟩) ny d) ys) (hne:ys≠[]) (hb:nx+ny≤10000):
  ∃ g c w',(Builtin.append_ #[55,55] ty #[.slice A nx nx,.slice (some ⟨g9,0,none⟩) ny d]).run Tryz.prog w=.ok (.slice (some ⟨g,0,none⟩) (xs++ys).length c) w'∧RDS EV w' (.slice (some ⟨g,0,none⟩) (xs++ys).length c) (xs++ys)∧Ext w w':=by
 subst hnx;subst hny
 obtain ⟨i0,hi,iz0,iz1,iz2⟩:=act_info
 exact run_app_rds w 55 ty 58 i0 actZ 88 Tryz.underlying55 hi iz0 iz1 iz2 act_zs A (some ⟨g9,0,none⟩) d xs ys (fun _=>⟨_,rfl⟩) h1 h2 hne (by omega) (by omega)
theorem ins_in {w:World}{ms:List VV}{m:VV}{a:Nat}(h:∀ x∈ms,x.In w)(hm:m.In w):∀ x∈ms.take a++m::ms.drop a,x.In w:=fun x hx=>by
 rcases List.mem_append.1 hx with hx | hx
 ·exact h x (List.mem_of_mem_take hx)
 ·rcases List.mem_cons.1 hx with rfl | hx
  ·exact hm
  ·exact h x (List.mem_of_mem_drop hx)
theorem act_ins {l:List Fct} {ms:List VV} {js:List Nat} {i a:Nat} (hAI:AIs l ms js) (hAL:ActL l i js) (hw:wantB (atF l i)=true) (hf:∀ j,j<i→wantB (atF l j)=true→who false (atF l j)≠who false (atF l i)) (ha:a≤ms.length)
  (hC:∀ y (h:y<ms.length),a≤y→cmpP (nmA l i) (ms[y]'h).nm<0) (hD:∀ (r:Nat) (h:r<ms.length),r+1=a→¬ cmpP (nmA l i) (ms[r]'h).nm<0):ActL l (i+1) (js.take a++i::js.drop a):=by
 have e:=hAI.1
 have hnm:∀ y (h:y<ms.length) (h2:y<js.length),(ms[y]'h).nm=nmA l (js[y]'h2):=fun y h h2=>VV.Is.name (hAI.2.1 y h h2)
 refine hAL.ins hw hf (by omega) (fun y hy=>?_) (fun q hq h=>?_)
 ·obtain ⟨k,hk,rfl⟩:=List.getElem_of_mem hy
  rw [List.length_drop] at hk
  rw [List.getElem_drop]
  have h1:=hC (a+k) (by omega) (by omega)
  rw [hnm (a+k) (by omega) (by omega)] at h1
  exact h1
 ·have h1:=hD q (by omega) h
  rw [hnm q (by omega) hq] at h1
  exact h1
end Go.Proofs.YtnjmndofcpnmeaaGreatDoor
