/- Pq42. -/
import Derived.Test.YtnjmndofcpnmeaaGreatDoorPq41
import Derived.Test.YtnjmndofcpnmeaaGreatDoorPq0
import Derived.Test.YtnjmndofcpnmeaaGreatDoorPq10
import Derived.Test.YtnjmndofcpnmeaaGreatDoorPq4
import Derived.Test.YtnjmndofcpnmeaaGreatDoorPq6
import Derived.Lib.IndexMore
namespace Go.Proofs.YtnjmndofcpnmeaaGreatDoor
open Go Go.RowKit
end Go.Proofs.YtnjmndofcpnmeaaGreatDoor
namespace Go.Proofs.YtnjmndofcpnmeaaGreatDoor
end Go.Proofs.YtnjmndofcpnmeaaGreatDoor
namespace Go.Proofs.YtnjmndofcpnmeaaGreatDoor
open Go Go.RowKit
set_option linter.unusedVariables false
end Go.Proofs.YtnjmndofcpnmeaaGreatDoor
namespace Go.Proofs.YtnjmndofcpnmeaaGreatDoor
set_option linter.unusedVariables false
end Go.Proofs.YtnjmndofcpnmeaaGreatDoor
namespace Go.Proofs.YtnjmndofcpnmeaaGreatDoor
open Go Go.RowKit
set_option linter.unusedVariables false
theorem Stab.cell {B:Nat}(p:Addr)(v:Value):Stab B (fun W=>W.cell? p=some v):=fun W W' l _ hn hg h=>by
 have hlt:=World.block_lt_of_cell? W p h
 refine (World.cell?_of_block (hg.block p.block hlt (fun e=>?_))).trans h
 injection e with e
 subst e
 have h':W.cell? p=some v:=h
 unfold World.cell? at h'
 cases ho:W.heap[p.block]? with
 | none=>rw [ho] at h';simp at h'
 | some o=>
  rw [ho] at h'
  cases o<;>simp at h'
  case cells cs t fr=>exact hn _ _ _ ho
attribute [local go_sem] Oper.semAt_some
end Go.Proofs.YtnjmndofcpnmeaaGreatDoor
namespace Go.Proofs.YtnjmndofcpnmeaaGreatDoor
open Go Go.RowKit
set_option linter.unusedVariables false
theorem own_none (w:World)(e:TypeId):(w.alloc (.cells #[] e)).ownsRow w.heap.size e 1 (.slice (some ⟨w.heap.size,0,none⟩) 0 0) 0 []:=
 ⟨rfl,.inr ⟨w.heap.size,0,#[],rfl,Nat.le_refl _,heap_alloc_new w _,Nat.le_refl _,by simp [maxLen],rfl,rfl⟩⟩
theorem rs_none {w:World}{n c:Nat}{xs:List Value}(h:RS w (.slice none n c) xs):xs=[]:=by
 obtain ⟨A',c',he,_,_,hc⟩:=h
 injection he with e1 _ _
 subst e1
 rcases Nat.eq_zero_or_pos xs.length with h0 | h0
 ·exact List.eq_nil_of_length_eq_zero h0
 ·obtain ⟨ad,ha,_⟩:=hc h0;cases ha
set_option maxRecDepth 100000 in
set_option maxHeartbeats 1000000 in
theorem SClone_at (A:Option Addr) (c:Nat) (ps:List ByteArray) (hn:ps.length≤1000) (w:World) (h:RS w (.slice A ps.length c) (sv ps)):
  Calls Tryz.prog 124 #[.slice A ps.length c] w fun e w'=>∃ A c,e=.returned (.slice A ps.length c)∧w'.ownsRow w.heap.size 9 1 (.slice A ps.length c) (sv ps).length (sv ps)∧Ext w w':=by
 obtain ⟨i0,hi,hz0,hz1,hz2⟩:=info_parts sinfo'
 rcases A with _ | ad
 ·have h0:ps=[]:=by
   have:=rs_none h
   unfold sv at this
   exact List.map_eq_nil_iff.1 this
  subst h0
  have qT:∀ (w:World),(binOp .eql 35 (.slice none 0 c) (.slice none 0 0)).run Tryz.prog w=.ok (.bool true) w:=fun w=>Lib.run_eql_slice_nil w _ _ none 0 c 0 0 Tryz.underlying35
  go_enter Tryz.func124,Tryz.ntmps124
  go_wp2
  go_ret
  exact ⟨none,0,rfl,World.ownsRow_nil _ _ _ _,Ext.refl _⟩
 ·have qT:∀ (w:World),(binOp .eql 35 (.slice (some ad) ps.length c) (.slice none 0 0)).run Tryz.prog w=.ok (.bool false) w:=fun w=>Lib.run_eql_slice_nil w _ _ (some ad) ps.length c 0 0 Tryz.underlying35
  have HO:=Lib.hid (own_none w 9)
  have HL:=Lib.hid hn;clear hn
  have HS1:=Lib.hid (show ∀ u∈sv ps,u.oneCell'=true from fun u hu=>by
   simp only [sv,List.mem_map] at hu
   obtain ⟨b,_,rfl⟩:=hu
   rfl)
  have HH:=Lib.hid h;clear h
  go_enter Tryz.func124,Tryz.ntmps124
  go_wp2_with (at_builtin;refine wpList_append_rs _ rfl (.tmp 5) (.tmp 6) 35 rfl w.heap.size 9 i0 (.string ⟨#[]⟩) 16 Tryz.underlying35 hi hz0 hz1 hz2 rfl _ [] rfl HO.out _ (sv ps) rfl (HH.out.ext ((Ext.refl w).alloc _)) HS1.out ?hb (by omega) ?hm ?_;rotate_right;intro v3 w3 hown3 hg3 _)
  case hb=>have:=HL.out;rw [sv_length];simp;omega
  case hm=>simp
  go_ret
  rw [List.nil_append] at hown3
  obtain ⟨A3,c3,rfl⟩:=rs_shape8 (RS.of_own hown3)
  exact ⟨_,_,rfl,hown3,((Ext.refl w).alloc _).grown hg3 (fun j hj=>(World.ownsRow.lt HO.out j hj).1)⟩
set_option maxRecDepth 100000 in
set_option maxHeartbeats 1000000 in
theorem NCopy_at (A:Option Addr) (c:Nat) (ps:List ByteArray) (r:ByteArray) (hn:ps.length≤1000) (w:World) (hR:RS w (.slice A ps.length c) (sv ps)):
  Calls Tryz.prog 65 #[.agg #[.slice A ps.length c,.string r]] w fun e w'=>∃ A' c',e=.returned (.agg #[.slice A' ps.length c',.string r])∧w'.ownsRow (w.heap.size+2) 9 1 (.slice A' ps.length c') (sv ps).length (sv ps)∧Ext w w':=by
 have hT:=heap_alloc_new w (.cells #[.slice A ps.length c,.string r] 37)
 have hU:=heap_alloc_new (w.alloc (.cells #[.slice A ps.length c,.string r] 37)) (.cells #[.slice none 0 0,.string ⟨#[]⟩] 37)
 rw [World.size_alloc] at hU
 have x1:=(Ext.refl w).alloc (.cells #[.slice A ps.length c,.string r] 37)
 have x2:=(Ext.refl (w.alloc (.cells #[.slice A ps.length c,.string r] 37))).alloc (.cells #[.slice none 0 0,.string ⟨#[]⟩] 37)
 have hT2:=x2.heap hT
 have hx:=x1.trans x2
 have hz:((w.alloc (.cells #[.slice A ps.length c,.string r] 37)).alloc (.cells #[.slice none 0 0,.string ⟨#[]⟩] 37)).heap.size=w.heap.size+2:=by simp
 obtain ⟨wb,hwb⟩:∃ wb,wb=(w.alloc (.cells #[.slice A ps.length c,.string r] 37)).alloc (.cells #[.slice none 0 0,.string ⟨#[]⟩] 37):=⟨_,rfl⟩
 rw [← hwb] at hT2 hU hx hz
 have HT:Hid (PB wb w.heap.size (.slice A ps.length c) r):=Lib.hid hT2
 have HU:Hid (PB wb (w.heap.size+1) (.slice none 0 0) ⟨#[]⟩):=Lib.hid hU
 have HXB:=Lib.hid hx
 have HC:=SClone_at A c ps hn wb (hR.ext hx)
 rw [hz] at HC
 have HCL:=Lib.hid HC
 obtain ⟨q0,q1⟩:=HT.out.cells
 clear hT hT2 hU hx x1 x2 hR HC hz
 go_enter Tryz.func65,Tryz.ntmps65
 go_wp2_with fail
 rw [← hwb]
 clear hwb
 refine HCL.out.mono ?_
 rintro _ w1 ⟨A1,c1,rfl,how,hx1⟩
 have hT1:=HT.out.ext hx1;have hU1:=HU.out.ext hx1
 clear q0 q1
 obtain ⟨p0,p1⟩:=hT1.cells
 obtain ⟨v1,hv1⟩:∃ v1,Value.slice A1 ps.length c1=v1:=⟨_,rfl⟩
 have hT2:PB (w1.setCell ⟨w.heap.size,0,none⟩ v1) w.heap.size v1 r:=by
  unfold PB at hT1 ⊢
  rw [heap_setCell_same w1 _ 0 _ _ _ hT1];rfl
 have hU2:PB (w1.setCell ⟨w.heap.size,0,none⟩ v1) (w.heap.size+1) (.slice none 0 0) ⟨#[]⟩:=heap_far (grown_set1 w1 w.heap.size v1) hU1 (by omega)
 have how2:=rs_set (u:=v1) (i:=0) how (show w.heap.size<w.heap.size+2 by omega)
 have hx2:=(HXB.out.trans hx1).setCell (p:=⟨w.heap.size,0,none⟩) (Nat.le_refl _) v1
 have f0:w1.frozen? ⟨w.heap.size,0,none⟩=false:=frozen_of_row w1 _ 0 _ _ hT1
 obtain ⟨w2,hw2⟩:∃ w2,w1.setCell ⟨w.heap.size,0,none⟩ v1=w2:=⟨_,rfl⟩
 rw [hw2] at hT2 hU2 how2 hx2
 rw [← hv1] at hw2 hT2
 obtain ⟨q0,q1⟩:=hT2.cells
 obtain ⟨z0,z1,y0,y1,WF,hWF,hxF,d0,d1⟩:=put_end (n:=w.heap.size+1) hU2 hx2 (.slice A1 ps.length c1) (.string r)
 have HWF:=Lib.hid (show WF.ownsRow (w.heap.size+2) 9 1 (.slice A1 ps.length c1) (sv ps).length (sv ps) from hWF ▸ rs_set (rs_set how2 (by omega)) (by omega))
 have HXF:=Lib.hid hxF
 clear hxF how2 hx2 hU2 hT2 how hx1 hT1 hU1 hv1
 go_wp2_with fail
 refine bodyPost_ret (v:=.agg #[.slice A1 ps.length c1,.string r]) (by simp [results,Tryz.results65,go_sem,d0,d1];try rfl) rfl ?_
 exact ⟨_,_,rfl,HWF.out,HXF.out⟩
end Go.Proofs.YtnjmndofcpnmeaaGreatDoor
