/- Pq10. -/
import Derived.Test.YtnjmndofcpnmeaaGreatDoorPq9
import Derived.Test.YtnjmndofcpnmeaaGreatDoorPq4
namespace Go.Proofs.YtnjmndofcpnmeaaGreatDoor
open Go Go.RowKit
set_option linter.unusedVariables false
theorem still_all {P:Program} {id:Nat} {Q:Exit→Act→World→Prop} {a:Act} {w:World} {l:List Oper} (hm:P.follows .mixedOrders=true) (hB:Region.lexB .any l.toArray=true)
  (h:wpStill P l.toArray w.drew (fun a'=>Q .normal a' w.drew) l a):(Code.region id l.toArray true).wp P Q a w:=wp_region_still_lit hm hB h
theorem eqL_drop {la lb:List (List UInt8)}{k:Nat}(h1:k<la.length)(h2:k<lb.length):(la.drop k=lb.drop k) ↔ (la[k]=lb[k]∧la.drop (k+1)=lb.drop (k+1)):=by
 rw [List.drop_eq_getElem_cons h1,List.drop_eq_getElem_cons h2,List.cons.injEq]
set_option maxRecDepth 100000 in
set_option maxHeartbeats 1000000 in
theorem sEqual_at (A:Option Addr) (c:Nat) (ps:List ByteArray) (B:Option Addr) (d:Nat) (qs:List ByteArray) (hn:ps.length≤1000) (hm:qs.length≤1000) (w:World) (hR:RS w (.slice A ps.length c) (sv ps)) (hQ:RS w (.slice B qs.length d) (sv qs)):
  Calls Tryz.prog 170 #[.slice A ps.length c,.slice B qs.length d] w fun e w'=>e=.returned (.bool (decide (dat ps=dat qs)))∧Ext w w':=by
 obtain ⟨X,hX⟩:∃ X,decide (dat ps=dat qs)=X:=⟨_,rfl⟩
 rw [hX]
 have HX:=Lib.hid (show decide ((dat ps).drop 0=(dat qs).drop 0)=X by rw [List.drop_zero,List.drop_zero];exact hX)
 have HR:=Lib.hid hR;have HQ:=Lib.hid hQ
 by_cases hl:ps.length=qs.length
 ·clear hX hR hQ
  have HL:=Lib.hid hl
  obtain ⟨n,hn0⟩:∃ n,qs.length=n:=⟨_,rfl⟩
  have HN:=Lib.hid hn0
  rw [hn0] at hl HQ hm ⊢
  rw [hl] at HR ⊢
  clear hl hn0 hn
  go_enter Tryz.func170,Tryz.ntmps170
  go_wp2_with fail
  go_loopw [13] (fun i wr=>∃ k:Nat,k≤n∧i=.int .i64 k∧Hid (decide ((dat ps).drop k=(dat qs).drop k)=X)∧Hid (Ext w wr)) (fun i _=>n-(intOf i).toNat)
  case atStart=>exact ⟨0,Nat.zero_le _,rfl,HX,Lib.hid (Ext.refl _)⟩
  case round=>
   obtain ⟨k,hk1,rfl,HC,HE⟩:=hrel
   by_cases h1:k<n
   ·have hp:k<ps.length:=by have:=HL.out;have:=HN.out;omega
    have hq:k<qs.length:=by have:=HN.out;omega
    obtain ⟨A',c',he,e1,e2,e3⟩:=(HR.out.ext HE.out).ext (Ext.drew wr)
    obtain ⟨B',d',he',e1',e2',e3'⟩:=(HQ.out.ext HE.out).ext (Ext.drew wr)
    rw [sv_length,HL.out,HN.out] at he
    rw [sv_length,HN.out] at he'
    injection he with z1 _ z3
    injection he' with z1' _ z3'
    subst z1;subst z3;subst z1';subst z3'
    obtain ⟨ad,rfl,_,hcell⟩:=e3 (by rw [sv_length];omega)
    obtain ⟨bd,rfl,_,hcell'⟩:=e3' (by rw [sv_length];omega)
    have g1:=hcell k _ (sv_get ps k hp)
    have g2:=hcell' k _ (sv_get qs k hq)
    have HD:=Lib.hid (show decide (ps[k].data.toList=qs[k].data.toList∧(dat ps).drop (k+1)=(dat qs).drop (k+1))=X by
     rw [← HC.out]
     apply decide_eq_decide.2
     rw [eqL_drop (k:=k) (la:=dat ps) (lb:=dat qs) (by rw [dat_length];exact hp) (by rw [dat_length];exact hq)]
     simp [dat])
    clear hcell hcell' e1 e2 e3 e1' e2' e3'
    generalize hpk:ps[k]=p at g1 HD
    generalize hqk:qs[k]=q at g2 HD
    clear hpk hqk hp hq
    by_cases hz:p.data.toList=q.data.toList
    ·have e0:(p.toList==q.toList)=true:=by rw [ByteArray.toList_eq,ByteArray.toList_eq,hz];exact beq_self_eq_true _
     have HD2:=Lib.hid (show decide ((dat ps).drop (k+1)=(dat qs).drop (k+1))=X by
      rw [← HD.out];apply decide_eq_decide.2;exact ⟨fun h=>⟨hz,h⟩,fun h=>h.2⟩)
     clear hz
     go_wp2_with fail
     refine still_all (by kernel_rfl) (by kernel_rfl) ?_
     repeat still_step
     refine wpStill_nil ?_
     go_wp2_with fail
     go_roundw
     case rel=>exact ⟨k+1,by omega,by go_num,HD2,Lib.hid (HE.out.trans (Ext.drew wr))⟩
     case measure=>simp [intOf];omega
    ·have e0:(p.toList==q.toList)=false:=by
      rw [ByteArray.toList_eq,ByteArray.toList_eq,beq_eq_false_iff_ne];exact hz
     have HD2:=Lib.hid (show false=X by
      rw [← HD.out];symm;apply decide_eq_false;exact fun h=>hz h.1)
     clear hz
     go_wp2_with fail
     refine still_all (by kernel_rfl) (by kernel_rfl) ?_
     repeat still_step
     refine wpStill_nil ?_
     go_wp2_with fail
     go_ret
     refine ⟨?_,HE.out.trans (Ext.drew wr)⟩
     rw [← HD2.out];rfl
   ·have hkp:k=n:=by omega
    subst hkp
    have HF:=Lib.hid (show true=X by
     rw [← HC.out];symm;apply decide_eq_true
     rw [List.drop_eq_nil_of_le (by rw [dat_length,HL.out,HN.out];exact Nat.le_refl _),List.drop_eq_nil_of_le (by rw [dat_length,HN.out];exact Nat.le_refl _)])
    go_wp2_with fail
    go_ret
    refine ⟨?_,HE.out⟩
    rw [← HF.out];rfl
 ·have HF:=Lib.hid (show false=X by
   rw [← hX];symm;apply decide_eq_false
   intro h
   have:=congrArg List.length h
   rw [dat_length,dat_length] at this
   exact hl this)
  have hz:((ps.length:Int) != (qs.length:Int))=true:=by rw [bne_iff_ne];omega
  clear hX hR hQ hl
  go_enter Tryz.func170,Tryz.ntmps170
  go_wp2_with fail
  go_ret
  refine ⟨?_,Ext.refl _⟩
  rw [← HF.out];rfl
set_option maxRecDepth 100000 in
set_option maxHeartbeats 1000000 in
theorem NEqual_at (A:Option Addr) (c:Nat) (ps:List ByteArray) (r:ByteArray) (B:Option Addr) (d:Nat) (qs:List ByteArray) (t:ByteArray) (hn:ps.length≤1000) (hm:qs.length≤1000) (w:World) (hR:RS w (.slice A ps.length c) (sv ps)) (hQ:RS w (.slice B qs.length d) (sv qs)):
  Calls Tryz.prog 126 #[.agg #[.slice A ps.length c,.string r],.agg #[.slice B qs.length d,.string t]] w fun e w'=>e=.returned (.bool (decide (dat ps=dat qs∧r.data.toList=t.data.toList)))∧Ext w w':=by
 have hT:=heap_alloc_new w (.cells #[.slice A ps.length c,.string r] 37)
 have hU:=heap_alloc_new (w.alloc (.cells #[.slice A ps.length c,.string r] 37)) (.cells #[.slice B qs.length d,.string t] 37)
 rw [World.size_alloc] at hU
 have x1:=(Ext.refl w).alloc (.cells #[.slice A ps.length c,.string r] 37)
 have x2:=(Ext.refl (w.alloc (.cells #[.slice A ps.length c,.string r] 37))).alloc (.cells #[.slice B qs.length d,.string t] 37)
 have hT2:=x2.heap hT
 have hx:=x1.trans x2
 obtain ⟨wb,hwb⟩:∃ wb,wb=(w.alloc (.cells #[.slice A ps.length c,.string r] 37)).alloc (.cells #[.slice B qs.length d,.string t] 37):=⟨_,rfl⟩
 rw [← hwb] at hT2 hU hx
 have HT:Hid (PB wb w.heap.size (.slice A ps.length c) r):=Lib.hid hT2
 have HU:Hid (PB wb (w.heap.size+1) (.slice B qs.length d) t):=Lib.hid hU
 have HXB:=Lib.hid hx
 have HC:=Lib.hid (sEqual_at A c ps B d qs hn hm wb (hR.ext hx) (hQ.ext hx))
 obtain ⟨q0,q1⟩:=HT.out.cells
 obtain ⟨q2,q3⟩:=HU.out.cells
 obtain ⟨X,hX⟩:∃ X,decide (dat ps=dat qs)=X:=⟨_,rfl⟩
 rw [hX] at HC
 obtain ⟨b,hb⟩:∃ b,decide (dat ps=dat qs∧r.data.toList=t.data.toList)=b:=⟨_,rfl⟩
 rw [hb]
 clear hT hT2 hU hx x1 x2 hR hQ
 by_cases hz:r.data.toList=t.data.toList
 ·have e0:(r.toList==t.toList)=true:=by rw [ByteArray.toList_eq,ByteArray.toList_eq,hz];exact beq_self_eq_true _
  have HBT:=Lib.hid (show X=b by
   rw [← hb,← hX];apply decide_eq_decide.2;exact ⟨fun h=>⟨h,hz⟩,fun h=>h.1⟩)
  clear hb hX hz
  go_enter Tryz.func126,Tryz.ntmps126
  go_wp2_with fail
  rw [← hwb]
  clear hwb
  refine HC.out.mono ?_
  rintro _ w2 ⟨rfl,hx2⟩
  have HX2:=Lib.hid (HXB.out.trans hx2);clear hx2
  go_wp2_with fail
  go_ret
  refine ⟨?_,HX2.out⟩
  rw [← HBT.out];rfl
 ·have e0:(r.toList==t.toList)=false:=by
   rw [ByteArray.toList_eq,ByteArray.toList_eq,beq_eq_false_iff_ne];exact hz
  have HBT:=Lib.hid (show b=false by rw [← hb];exact decide_eq_false (fun h=>hz h.2))
  clear hb hX hz
  go_enter Tryz.func126,Tryz.ntmps126
  go_wp2_with fail
  go_ret
  refine ⟨?_,hwb ▸ HXB.out⟩
  rw [HBT.out];rfl
theorem eq_none (ps:List ByteArray)(r:ByteArray):decide (dat ps=dat []∧r.data.toList=(ByteArray.mk #[]).data.toList)=noneN (dat ps) r.data.toList:=by
 unfold noneN
 rw [Bool.eq_iff_iff,decide_eq_true_eq,Bool.and_eq_true,List.isEmpty_iff,List.isEmpty_iff]
 exact Iff.rfl
set_option maxRecDepth 100000 in
theorem noName_at (A:Option Addr) (c:Nat) (ps:List ByteArray) (r:ByteArray) (hn:ps.length≤1000) (w:World) (hR:RS w (.slice A ps.length c) (sv ps)):
  Calls Tryz.prog 70 #[.agg #[.slice A ps.length c,.string r]] w fun e w'=>e=.returned (.bool (noneN (dat ps) r.data.toList))∧Ext w w':=by
 have hg:=heap_alloc_new w (.cells #[.slice A ps.length c,.string r] 37)
 have hx:=(Ext.refl w).alloc (.cells #[.slice A ps.length c,.string r] 37)
 obtain ⟨W1,e1⟩:∃ W,w.alloc (.cells #[.slice A ps.length c,.string r] 37)=W:=⟨_,rfl⟩
 rw [e1] at hg hx
 have c0:W1.cell? ⟨w.heap.size,0,none⟩=some (.slice A ps.length c):=by rw [cell_of_row _ w.heap.size 0 _ _ (0,0) hg];rfl
 have c1:W1.cell? ⟨w.heap.size,1,none⟩=some (.string r):=by rw [cell_of_row _ w.heap.size 1 _ _ (0,0) hg];rfl
 have HQ:=Lib.hid (NEqual_at A c ps r none 0 [] (ByteArray.mk #[]) hn (by simp) W1 (hR.ext hx) (RS.nil _))
 rw [eq_none] at HQ
 have HX:=Lib.hid hx
 clear hg hx hR
 generalize noneN (dat ps) r.data.toList=q at *
 go_enter Tryz.func70,Tryz.ntmps70
 go_wp2_with fail
 refine HQ.out.mono ?_
 rintro _ w2 ⟨rfl,hx2⟩
 have HX2:=Lib.hid (HX.out.trans hx2)
 clear hx2
 go_wp2_with fail
 go_ret
 exact ⟨rfl,HX2.out⟩
end Go.Proofs.YtnjmndofcpnmeaaGreatDoor
