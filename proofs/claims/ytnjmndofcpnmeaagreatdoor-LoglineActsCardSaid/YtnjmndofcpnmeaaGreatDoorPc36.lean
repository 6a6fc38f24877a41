/- Pc36. -/
import Derived.Test.YtnjmndofcpnmeaaGreatDoorPc35
import Derived.Test.YtnjmndofcpnmeaaGreatDoorPc4
import Derived.Test.YtnjmndofcpnmeaaGreatDoorPc6
import Derived.Lib.IndexMore
import Derived.Test.YtnjmndofcpnmeaaGreatDoorPc30
import Derived.Test.YtnjmndofcpnmeaaGreatDoorPc28
import Derived.Test.YtnjmndofcpnmeaaGreatDoorPc29
namespace Go.Proofs.YtnjmndofcpnmeaaGreatDoor
open Go Go.RowKit
set_option linter.unusedVariables false
def gE9:Fct:={ gE with t:=109 }
def l3E:List Fct:=[gE,gE,gE9]
set_option maxRecDepth 100000 in
theorem gE_ok:gE.ok=true:=by decide
set_option maxRecDepth 100000 in
theorem gE9_ok:gE9.ok=true:=by decide
theorem l3_arg (win lim:Int)(h0:0≤win)(h1:win≤1099511627776)(h2:1≤lim):argB l3E win lim:=by
 refine ⟨h0,h1,h2,fun i hi=>?_⟩
 have hi':i<3:=hi
 rcases (show i=0∨i=1∨i=2 by omega) with rfl | rfl | rfl
 ·exact ⟨gE_ok,fun h=>absurd h (by decide)⟩
 ·exact ⟨gE_ok,fun _=>by decide⟩
 ·exact ⟨gE9_ok,fun _=>by decide⟩
set_option maxRecDepth 100000 in
theorem l3_a:almF l3E 5 2 false=[1]∧cntF l3E 5 false 1=2∧begF l3E 5 false 1=103∧(atF l3E 1).t=103:=by decide
set_option maxRecDepth 100000 in
theorem l3_b:almF l3E 5 3 false=[]:=by decide
set_option maxRecDepth 100000 in
theorem l3_c:almF l3E 6 3 false=[2]∧cntF l3E 6 false 2=3∧begF l3E 6 false 2=103∧(atF l3E 2).t=109:=by decide
end Go.Proofs.YtnjmndofcpnmeaaGreatDoor
namespace Go.Proofs.YtnjmndofcpnmeaaGreatDoor
set_option linter.unusedVariables false
end Go.Proofs.YtnjmndofcpnmeaaGreatDoor
namespace Go.Proofs.YtnjmndofcpnmeaaGreatDoor
open Go Go.RowKit
set_option linter.unusedVariables false
theorem Stab.cell {B:Nat}(p:Addr)(v:Value):Stab B (fun W=>W.cell? p=some v):=fun W W' l _ hn hg h=>by
 have hlt:=World.block_lt_of_cell? W p h
 refine (World.cell?_of_block (hg.block p.block hlt (fun e=>?_))).trans h
 injection e with e
 subst e
 have h':W.cell? p=some v:=h
 unfold World.cell? at h'
 cases ho:W.heap[p.block]? with
 | none=>rw [ho] at h';simp at h'
 | some o=>
  rw [ho] at h'
  cases o<;>simp at h'
  case cells cs t fr=>exact hn _ _ _ ho
attribute [local go_sem] Oper.semAt_some
end Go.Proofs.YtnjmndofcpnmeaaGreatDoor
namespace Go.Proofs.YtnjmndofcpnmeaaGreatDoor
open Go Go.RowKit
set_option linter.unusedVariables false
theorem own_none (w:World)(e:TypeId):(w.alloc (.cells #[] e)).ownsRow w.heap.size e 1 (.slice (some ⟨w.heap.size,0,none⟩) 0 0) 0 []:=
 ⟨rfl,.inr ⟨w.heap.size,0,#[],rfl,Nat.le_refl _,heap_alloc_new w _,Nat.le_refl _,by simp [maxLen],rfl,rfl⟩⟩
theorem rs_none {w:World}{n c:Nat}{xs:List Value}(h:RS w (.slice none n c) xs):xs=[]:=by
 obtain ⟨A',c',he,_,_,hc⟩:=h
 injection he with e1 _ _
 subst e1
 rcases Nat.eq_zero_or_pos xs.length with h0 | h0
 ·exact List.eq_nil_of_length_eq_zero h0
 ·obtain ⟨ad,ha,_⟩:=hc h0;cases ha
set_option maxRecDepth 100000 in
set_option maxHeartbeats 1000000 in
theorem SClone_at (A:Option Addr) (c:Nat) (ps:List ByteArray) (hn:ps.length≤1000) (w:World) (h:RS w (.slice A ps.length c) (sv ps)):
  Calls Tryz.prog 124 #[.slice A ps.length c] w fun e w'=>∃ A c,e=.returned (.slice A ps.length c)∧w'.ownsRow w.heap.size 9 1 (.slice A ps.length c) (sv ps).length (sv ps)∧Ext w w':=by
 obtain ⟨i0,hi,hz0,hz1,hz2⟩:=info_parts sinfo'
 rcases A with _ | ad
 ·have h0:ps=[]:=by
   have:=rs_none h
   unfold sv at this
   exact List.map_eq_nil_iff.1 this
  subst h0
  have qT:∀ (w:World),(binOp .eql 35 (.slice none 0 c) (.slice none 0 0)).run Tryz.prog w=.ok (.bool true) w:=fun w=>Lib.run_eql_slice_nil w _ _ none 0 c 0 0 Tryz.underlying35
  go_enter Tryz.func124,Tryz.ntmps124
  go_wp2
  go_ret
  exact ⟨none,0,rfl,World.ownsRow_nil _ _ _ _,Ext.refl _⟩
 ·have qT:∀ (w:World),(binOp .eql 35 (.slice (some ad) ps.length c) (.slice none 0 0)).run Tryz.prog w=.ok (.bool false) w:=fun w=>Lib.run_eql_slice_nil w _ _ (some ad) ps.length c 0 0 Tryz.underlying35
  have HO:=Lib.hid (own_none w 9)
  have HL:=Lib.hid hn;clear hn
  have HS1:=Lib.hid (show ∀ u∈sv ps,u.oneCell'=true from fun u hu=>by
   simp only [sv,List.mem_map] at hu
   obtain ⟨b,_,rfl⟩:=hu
   rfl)
  have HH:=Lib.hid h;clear h
  go_enter Tryz.func124,Tryz.ntmps124
  go_wp2_with (at_builtin;refine wpList_append_rs _ rfl (.tmp 5) (.tmp 6) 35 rfl w.heap.size 9 i0 (.string ⟨#[]⟩) 16 Tryz.underlying35 hi hz0 hz1 hz2 rfl _ [] rfl HO.out _ (sv ps) rfl (HH.out.ext ((Ext.refl w).alloc _)) HS1.out ?hb (by omega) ?hm ?_;rotate_right;intro v3 w3 hown3 hg3 _)
  case hb=>have:=HL.out;rw [sv_length];simp;omega
  case hm=>simp
  go_ret
  rw [List.nil_append] at hown3
  obtain ⟨A3,c3,rfl⟩:=rs_shape8 (RS.of_own hown3)
  exact ⟨_,_,rfl,hown3,((Ext.refl w).alloc _).grown hg3 (fun j hj=>(World.ownsRow.lt HO.out j hj).1)⟩
set_option maxRecDepth 100000 in
set_option maxHeartbeats 1000000 in
theorem NCopy_at (A:Option Addr) (c:Nat) (ps:List ByteArray) (r:ByteArray) (hn:ps.length≤1000) (w:World) (hR:RS w (.slice A ps.length c) (sv ps)):
  Calls Tryz.prog 65 #[.agg #[.slice A ps.length c,.string r]] w fun e w'=>∃ A' c',e=.returned (.agg #[.slice A' ps.length c',.string r])∧w'.ownsRow (w.heap.size+2) 9 1 (.slice A' ps.length c') (sv ps).length (sv ps)∧Ext w w':=by
 have hT:=heap_alloc_new w (.cells #[.slice A ps.length c,.string r] 37)
 have hU:=heap_alloc_new (w.alloc (.cells #[.slice A ps.length c,.string r] 37)) (.cells #[.slice none 0 0,.string ⟨#[]⟩] 37)
 rw [World.size_alloc] at hU
 have x1:=(Ext.refl w).alloc (.cells #[.slice A ps.length c,.string r] 37)
 have x2:=(Ext.refl (w.alloc (.cells #[.slice A ps.length c,.string r] 37))).alloc (.cells #[.slice none 0 0,.string ⟨#[]⟩] 37)
 have hT2:=x2.heap hT
 have hx:=x1.trans x2
 have hz:((w.alloc (.cells #[.slice A ps.length c,.string r] 37)).alloc (.cells #[.slice none 0 0,.string ⟨#[]⟩] 37)).heap.size=w.heap.size+2:=by simp
 obtain ⟨wb,hwb⟩:∃ wb,wb=(w.alloc (.cells #[.slice A ps.length c,.string r] 37)).alloc (.cells #[.slice none 0 0,.string ⟨#[]⟩] 37):=⟨_,rfl⟩
 rw [← hwb] at hT2 hU hx hz
 have HT:Hid (PB wb w.heap.size (.slice A ps.length c) r):=Lib.hid hT2
 have HU:Hid (PB wb (w.heap.size+1) (.slice none 0 0) ⟨#[]⟩):=Lib.hid hU
 have HXB:=Lib.hid hx
 have HC:=SClone_at A c ps hn wb (hR.ext hx)
 rw [hz] at HC
 have HCL:=Lib.hid HC
 obtain ⟨q0,q1⟩:=HT.out.cells
 clear hT hT2 hU hx x1 x2 hR HC hz
 go_enter Tryz.func65,Tryz.ntmps65
 go_wp2_with fail
 rw [← hwb]
 clear hwb
 refine HCL.out.mono ?_
 rintro _ w1 ⟨A1,c1,rfl,how,hx1⟩
 have hT1:=HT.out.ext hx1;have hU1:=HU.out.ext hx1
 clear q0 q1
 obtain ⟨p0,p1⟩:=hT1.cells
 obtain ⟨v1,hv1⟩:∃ v1,Value.slice A1 ps.length c1=v1:=⟨_,rfl⟩
 have hT2:PB (w1.setCell ⟨w.heap.size,0,none⟩ v1) w.heap.size v1 r:=by
  unfold PB at hT1 ⊢
  rw [heap_setCell_same w1 _ 0 _ _ _ hT1];rfl
 have hU2:PB (w1.setCell ⟨w.heap.size,0,none⟩ v1) (w.heap.size+1) (.slice none 0 0) ⟨#[]⟩:=heap_far (grown_set1 w1 w.heap.size v1) hU1 (by omega)
 have how2:=rs_set (u:=v1) (i:=0) how (show w.heap.size<w.heap.size+2 by omega)
 have hx2:=(HXB.out.trans hx1).setCell (p:=⟨w.heap.size,0,none⟩) (Nat.le_refl _) v1
 have f0:w1.frozen? ⟨w.heap.size,0,none⟩=false:=frozen_of_row w1 _ 0 _ _ hT1
 obtain ⟨w2,hw2⟩:∃ w2,w1.setCell ⟨w.heap.size,0,none⟩ v1=w2:=⟨_,rfl⟩
 rw [hw2] at hT2 hU2 how2 hx2
 rw [← hv1] at hw2 hT2
 obtain ⟨q0,q1⟩:=hT2.cells
 obtain ⟨z0,z1,y0,y1,WF,hWF,hxF,d0,d1⟩:=put_end (n:=w.heap.size+1) hU2 hx2 (.slice A1 ps.length c1) (.string r)
 have HWF:=Lib.hid (show WF.ownsRow (w.heap.size+2) 9 1 (.slice A1 ps.length c1) (sv ps).length (sv ps) from hWF ▸ rs_set (rs_set how2 (by omega)) (by omega))
 have HXF:=Lib.hid hxF
 clear hxF how2 hx2 hU2 hT2 how hx1 hT1 hU1 hv1
 go_wp2_with fail
 refine bodyPost_ret (v:=.agg #[.slice A1 ps.length c1,.string r]) (by simp [results,Tryz.results65,go_sem,d0,d1];try rfl) rfl ?_
 exact ⟨_,_,rfl,HWF.out,HXF.out⟩
end Go.Proofs.YtnjmndofcpnmeaaGreatDoor
namespace Go.Proofs.YtnjmndofcpnmeaaGreatDoor
open Go Go.RowKit Go.Maps
set_option linter.unusedVariables false
theorem ok_times {xs:List FV}{win lim:Int}(h:argB (xs.map FV.fct) win lim):∀ f∈xs,0≤f.t∧f.t≤1099511627776:=fun f hf=>(ordTo_ok h.2.2.2 f.fct (List.mem_map.2 ⟨f,hf,rfl⟩)).t
set_option maxRecDepth 100000 in
set_option maxHeartbeats 800000 in
theorem Clients_at (A:Option Addr) (c:Nat) (xs:List FV) (win lim:Int) (w:World) (hF:FS w (.slice A xs.length c) xs) (hn:xs.length≤1000) (hz:∀ f∈xs,f.Sz) (hE:EnvA w) (hl:i64B lim):
  Calls Tryz.prog 16 #[.slice A xs.length c,.int .i64 win,.int .i64 lim] w fun e w'=>ALM (xs.map FV.fct) win lim false w e w'∧Ext w w':=by
 have HV:=Lib.hid (Lvalid_at A c xs win lim w hF hn hz hE)
 have HA:=Lib.hid (fun (W:World) (hx:Ext w W) (hb:argB (xs.map FV.fct) win lim)=>alarms_at false 63 64 A c xs win lim W (hF.ext hx) hn hz (ok_times hb) (hE.ext hx).env.pow (ordTo_T hb.2.2.2) hb.1 hb.2.1 hl
  (enters_of Tryz.func63 (by kernel_rfl) rfl) (enters_of Tryz.func64 (by kernel_rfl) rfl)
  (fun f hf W' hM hx'=>keyClient_at f W' hM (hz f hf) ((hE.ext hx).env.pow.ext hx'))
  (fun f hf=>key_len (hz f hf).cp (hz f hf).cps (hz f hf).cr)
  (fun W' B b m D js h=>failures_at W' B b m D js _ h))
 have HF:=Lib.hid hF;have HZ:=Lib.hid hz
 obtain ⟨_,c',he,hc1,hc2⟩:=hF.shape
 injection he with e1 _ e3
 subst e1;subst e3
 obtain ⟨i0,hi,iz0,iz1,iz2⟩:=alm7_info
 obtain ⟨n,hn'⟩:∃ n,xs.length=n:=⟨_,rfl⟩
 have HN:=Lib.hid hn'
 clear hF hz hE hl
 rw [hn'] at hc1 hn ⊢ HA HV
 clear hn'
 go_enter Tryz.func16,Tryz.ntmps16
 go_wp2_with fail
 refine HV.out.mono ?_
 rintro _ w1 ⟨b,rfl,hb,hx1⟩
 have HX1:=Lib.hid hx1
 cases b with
 | false=>
  have hno:¬ argB (xs.map FV.fct) win lim:=fun h=>Bool.noConfusion (hb.2 h)
  have HNO:=Lib.hid hno
  clear hno hb hx1
  go_wp2_with fail
  go_ret2
  exact ⟨.inl ⟨HNO.out,rfl⟩,HX1.out⟩
 | true=>
  have hyes:=hb.1 rfl
  have HYES:=Lib.hid hyes
  have HA1:=Lib.hid (HA.out w1 hx1 hyes)
  clear hyes hb hx1
  go_wp2_with fail
  refine HA1.out.mono ?_
  rintro _ w2 ⟨⟨v,rfl,hrd⟩,hx2⟩
  have HX2:=Lib.hid (HX1.out.trans hx2)
  obtain ⟨AA,ac,rfl,ha1,ha2⟩:=hrd.shape
  unfold maxLen at ha2
  have HRD:=Lib.hid hrd
  have hal:(almF (xs.map FV.fct) win lim false).length≤1000:=by
   have h1:=List.length_filter_le (fun i=>hitF (xs.map FV.fct) win lim false i&&(List.range i).all fun j=>!(hitF (xs.map FV.fct) win lim false j&&decide (who false (atF (xs.map FV.fct) j)=who false (atF (xs.map FV.fct) i)))) (List.range (xs.map FV.fct).length)
   rw [List.length_range] at h1
   have h2:(almF (xs.map FV.fct) win lim false).length≤(xs.map FV.fct).length:=h1
   have:=HN.out
   rw [List.length_map] at h2
   omega
  have HLT:=Lib.hid (fun i (hi:i∈almF (xs.map FV.fct) win lim false)=>alm_lt hi)
  clear hx2 hrd
  generalize hALF:almF (xs.map FV.fct) win lim false=al at *
  have HALF:=Lib.hid hALF
  clear hALF
  obtain ⟨N,hN⟩:∃ N,al.length=N:=⟨_,rfl⟩
  have HNA:=Lib.hid hN
  rw [hN] at ha1 hal ⊢ HRD
  clear hN
  go_wp2_with fail
  go_loopw [8,10,21] (fun v8 _ v21 wr=>∃ (k:Nat) (ms:List MV) (oA:Option Addr) (oc:Nat),v21=.int .i64 (k:Int)∧k≤N∧v8=.slice oA ms.length oc∧Hid (ms.length=k)∧Hid (ROW EM 50 wr w2.heap.size (.slice oA ms.length oc) ms)∧Hid (ms.map MV.alm=(al.take k).map (almO (xs.map FV.fct) win false))∧Hid (Ext w2 wr)) (fun _ _ v _=>N-(intOf v).toNat)
  case atStart=>exact ⟨0,[],none,0,rfl,by omega,rfl,Lib.hid rfl,Lib.hid (ROW.nil _ _ _),Lib.hid rfl,Lib.hid (Ext.refl _)⟩
  case round=>
   obtain ⟨k,ms,oA,oc,rfl,hk,rfl,HML,HR,HMS,HX⟩:=hrel
   by_cases hlt:k<N
   ·have hka:k<al.length:=by rw [HNA.out];exact hlt
    obtain ⟨p,rfl,y0,y1,y2,y3,y4,y5,y6,y7⟩:=(HRD.out.ext HX.out).alm_at k hka
    have hix:=HLT.out _ (List.getElem_mem hka)
    rw [List.length_map] at hix
    have HTK:=Lib.hid (show (al.take (k+1)).map (almO (xs.map FV.fct) win false)=(al.take k).map (almO (xs.map FV.fct) win false)++[almO (xs.map FV.fct) win false al[k]] by rw [List.take_succ_eq_append_getElem hka,List.map_append,List.map_cons,List.map_nil])
    generalize al[k]=i at *
    have hin:i<n:=by rw [← HN.out];exact hix
    obtain ⟨hIn,lad,rfl,u0,u1,u2,u3,u4,u5,u6,u7,u8,u9,u10,u11⟩:=(HF.out.ext (HX2.out.trans HX.out)).at_ i hix
    have hsz:=HZ.out _ (List.getElem_mem hix)
    have HATX:=Lib.hid (show (atF (xs.map FV.fct) i).cp=dat xs[i].cp∧(atF (xs.map FV.fct) i).cr=xs[i].cr.data.toList by rw [atF_xs hix];exact ⟨rfl,rfl⟩)
    generalize xs[i]=f at *
    have b4:RW (wr.alloc (.cells #[.slice none 0 0,.string ⟨#[]⟩,.int .i64 0,.slice none 0 0,.int .i64 (cntF (xs.map FV.fct) win false i:Int),.int .i64 (begF (xs.map FV.fct) win false i),.int .i64 (atF (xs.map FV.fct) i).t,.int .i64 (i:Int)] 120)) wr.heap.size 120 #[.slice none 0 0,.string ⟨#[]⟩,.int .i64 0,.slice none 0 0,.int .i64 (cntF (xs.map FV.fct) win false i:Int),.int .i64 (begF (xs.map FV.fct) win false i),.int .i64 (atF (xs.map FV.fct) i).t,.int .i64 (i:Int)]:=heap_alloc_new wr _
    have x4:=(Ext.refl wr).alloc (.cells #[.slice none 0 0,.string ⟨#[]⟩,.int .i64 0,.slice none 0 0,.int .i64 (cntF (xs.map FV.fct) win false i:Int),.int .i64 (begF (xs.map FV.fct) win false i),.int .i64 (atF (xs.map FV.fct) i).t,.int .i64 (i:Int)] 120)
    obtain ⟨W4,e4⟩:∃ W,wr.alloc (.cells #[.slice none 0 0,.string ⟨#[]⟩,.int .i64 0,.slice none 0 0,.int .i64 (cntF (xs.map FV.fct) win false i:Int),.int .i64 (begF (xs.map FV.fct) win false i),.int .i64 (atF (xs.map FV.fct) i).t,.int .i64 (i:Int)] 120)=W:=⟨_,rfl⟩
    have s4:W4.heap.size=wr.heap.size+1:=by rw [← e4,World.size_alloc]
    rw [e4] at b4 x4
    obtain ⟨⟨q0,q1,q2,q3,q4,q5,q6,q7⟩,_⟩:=rw8 b4
    have u5':=x4.cell u5
    have u6':=x4.cell u6
    have HCP:=Lib.hid (NCopy_at f.CA f.cc f.cp f.cr hsz.cp W4 (hIn.cp.ext x4))
    have HB4:=Lib.hid b4;have HX4:=Lib.hid x4;have HS4:=Lib.hid s4
    clear b4 x4 s4 u0 u1 u2 u3 u4 u5 u6 u7 u8 u9 u10 u11 hIn hsz hix hka
    go_wp2_with fail
    refine HCP.out.mono ?_
    rintro _ w5 ⟨A2,c2,rfl,how,hx5⟩
    have b5:=HB4.out.ext hx5
    obtain ⟨⟨d0,d1,d2,d3,d4,d5,d6,d7⟩,g0,g1,_⟩:=rw8 b5
    have b6:=(b5.set 0 (.slice A2 f.cp.length c2)).set 1 (.string f.cr)
    obtain ⟨W6,e6⟩:∃ W,(w5.setCell ⟨wr.heap.size,0,none⟩ (.slice A2 f.cp.length c2)).setCell ⟨wr.heap.size,1,none⟩ (.string f.cr)=W:=⟨_,rfl⟩
    rw [e6] at b6
    change RW W6 wr.heap.size 120 #[.slice A2 f.cp.length c2,.string f.cr,.int .i64 0,.slice none 0 0,.int .i64 (cntF (xs.map FV.fct) win false i:Int),.int .i64 (begF (xs.map FV.fct) win false i),.int .i64 (atF (xs.map FV.fct) i).t,.int .i64 (i:Int)] at b6
    obtain ⟨⟨h0,h1,h2,h3,h4,h5,h6,h7⟩,_⟩:=rw8 b6
    have x6:Ext wr W6:=by rw [← e6];exact ((HX4.out.trans hx5).setCell (p:=⟨wr.heap.size,0,none⟩) (Nat.le_refl _) _).setCell (p:=⟨wr.heap.size,1,none⟩) (Nat.le_refl _) _
    have how6:W6.ownsRow (W4.heap.size+2) 9 1 (.slice A2 f.cp.length c2) (sv f.cp).length (sv f.cp):=by
     rw [← e6]
     exact rs_set (rs_set how (by have:=HS4.out;show wr.heap.size<_;omega)) (by have:=HS4.out;show wr.heap.size<_;omega)
    have m7:M7 (W6.alloc (.cells #[.slice A2 f.cp.length c2,.string f.cr,.int .i64 0,.slice none 0 0,.int .i64 (cntF (xs.map FV.fct) win false i:Int),.int .i64 (begF (xs.map FV.fct) win false i),.int .i64 (atF (xs.map FV.fct) i).t] 50)) W6.heap.size ⟨A2,f.cp,c2,f.cr,0,none,[],0,(cntF (xs.map FV.fct) win false i:Int),begF (xs.map FV.fct) win false i,(atF (xs.map FV.fct) i).t⟩:=heap_alloc_new W6 _
    have x7:=(Ext.refl W6).alloc (.cells #[.slice A2 f.cp.length c2,.string f.cr,.int .i64 0,.slice none 0 0,.int .i64 (cntF (xs.map FV.fct) win false i:Int),.int .i64 (begF (xs.map FV.fct) win false i),.int .i64 (atF (xs.map FV.fct) i).t] 50)
    obtain ⟨W7,e7⟩:∃ W,W6.alloc (.cells #[.slice A2 f.cp.length c2,.string f.cr,.int .i64 0,.slice none 0 0,.int .i64 (cntF (xs.map FV.fct) win false i:Int),.int .i64 (begF (xs.map FV.fct) win false i),.int .i64 (atF (xs.map FV.fct) i).t] 50)=W:=⟨_,rfl⟩
    rw [e7] at m7 x7
    have HM7:=Lib.hid m7
    have HR7:=Lib.hid (HR.out.ext (x6.trans x7))
    have HX7:=Lib.hid (HX.out.trans (x6.trans x7))
    have HS7:=Lib.hid (show w2.heap.size≤W7.heap.size from HX7.out.size)
    have HIN:=Lib.hid (show ∀ y∈[(⟨A2,f.cp,c2,f.cr,0,none,[],0,(cntF (xs.map FV.fct) win false i:Int),begF (xs.map FV.fct) win false i,(atF (xs.map FV.fct) i).t⟩:MV)],EM.In W7 y∧∀ b,(Value.slice oA ms.length oc).ownBlock=some b→¬ EM.Blk y b from fun y hy=>by
     rw [List.mem_singleton] at hy
     subst hy
     refine ⟨⟨(RS.of_own how6).ext x7,BS.nil W7⟩,fun b hb hB=>?_⟩
     obtain ⟨_,ad,ha,rfl⟩:=hB
     have h8:=(HR.out.lt _ hb).2
     have ha':A2=some ad:=ha
     subst ha'
     have h9:=(World.ownsRow.lt how6 ad.block (by
      rcases how6.2 with ⟨h,_⟩ | ⟨g,cap,cur,h,_⟩
      ·cases h
      ·injection h with h _ _;injection h with h;rw [h];rfl)).1
     have:=HS4.out
     omega)
    have HBY:=Lib.hid (show (ms.length + [(⟨A2,f.cp,c2,f.cr,0,none,[],0,(cntF (xs.map FV.fct) win false i:Int),begF (xs.map FV.fct) win false i,(atF (xs.map FV.fct) i).t⟩:MV)].length)*96≤140737488355328 by have:=HML.out;simp only [List.length_singleton];omega)
    have HMS2:=Lib.hid (show (ms++[(⟨A2,f.cp,c2,f.cr,0,none,[],0,(cntF (xs.map FV.fct) win false i:Int),begF (xs.map FV.fct) win false i,(atF (xs.map FV.fct) i).t⟩:MV)]).map MV.alm=(al.take (k+1)).map (almO (xs.map FV.fct) win false) by
     rw [List.map_append,HMS.out,HTK.out]
     congr 1
     show [(_:Alm)]=[almO (xs.map FV.fct) win false i]
     unfold almO
     rw [if_neg (by decide),HATX.out.1,HATX.out.2]
     rfl)
    have HML2:=Lib.hid (show (ms++[(⟨A2,f.cp,c2,f.cr,0,none,[],0,(cntF (xs.map FV.fct) win false i:Int),begF (xs.map FV.fct) win false i,(atF (xs.map FV.fct) i).t⟩:MV)]).length=k+1 by rw [List.length_append,HML.out];rfl)
    clear b5 b6 how how6 m7 x6 x7 hx5
    go_wp2_with (first
     | (at_builtin;refine wpList_append_row (E:=EM) W7 rfl (.tmp 34) (.tmp 37) 45 rfl w2.heap.size 50 i0 almZ7 96 Tryz.underlying45 hi iz0 iz1 iz2 alm7_zs alm7_zn _ ms rfl HR7.out ⟨W6.heap.size,0,none⟩ 1 [⟨A2,f.cp,c2,f.cr,0,none,[],0,(cntF (xs.map FV.fct) win false i:Int),begF (xs.map FV.fct) win false i,(atF (xs.map FV.fct) i).t⟩] rfl (by show 0<1;decide) HM7.out.news HIN.out HBY.out (by decide) HS7.out ?_;intro v8 w8 hown8 hg8 ho8;obtain ⟨A8,c8,rfl⟩:=hown8.shape)
     | fail)
    have HX8:=Lib.hid (show Ext w2 w8 from Below.grown HX7.out hg8 HX7.out.size (fun j hj=>(HR7.out.lt j hj).1))
    have HR8:=Lib.hid hown8
    clear hown8 hg8 ho8
    go_roundw
    case rel=>exact ⟨k+1,_,A8,c8,by go_num,by omega,by rw [List.length_append];rfl,HML2,HR8,HMS2,HX8⟩
    case measure=>simp [intOf];omega
   ·obtain rfl:k=N:=by omega
    have hms:=HMS.out
    rw [List.take_of_length_le (by rw [HNA.out];exact Nat.le_refl _)] at hms
    have HMF:=Lib.hid hms
    clear hms
    go_wp2_with fail
    go_ret2
    exact ⟨.inr ⟨HYES.out,_,ms,rfl,HR.out.down HX2.out.size,by rw [HALF.out];exact HMF.out⟩,HX2.out.trans HX.out⟩
end Go.Proofs.YtnjmndofcpnmeaaGreatDoor
namespace Go.Proofs.YtnjmndofcpnmeaaGreatDoor
open Go Go.RowKit
set_option linter.unusedVariables false
theorem FS.new (w:World)(xs:List FV)(hn:xs.length≤maxLen)(hI:∀ x∈xs,x.In w):FS (w.alloc (.cells (EF.all xs).toArray 41)) (.slice (some ⟨w.heap.size,0,none⟩) xs.length xs.length) xs:=by
 refine ⟨_,_,rfl,Nat.le_refl _,hn,fun i hi=>⟨(hI _ (List.getElem_mem hi)).ext ((Ext.refl w).alloc _),_,rfl,fun j u hu=>?_⟩⟩
 have hj:j<12:=by
  have:=(List.getElem?_eq_some_iff.1 hu).1
  exact this
 have hg:(w.alloc (.cells (EF.all xs).toArray 41)).heap[w.heap.size]? = some (.cells (EF.all xs).toArray 41 (0,0)):=heap_alloc_new w _
 have e1:(⟨w.heap.size,0,none⟩:Addr).add (i*12+j)=⟨w.heap.size,i*12+j,none⟩:=by unfold Addr.add;split<;>simp_all
 rw [e1,cell_of_row _ _ _ _ _ (0,0) hg,List.getElem?_toArray]
 have:=EF.all_get xs i j hi hj
 exact this.trans hu
theorem l3_fct (b:Nat):[gX 103 b,gX 103 b,gX 109 b].map FV.fct=l3E:=rfl
theorem l2_fct (b:Nat):[fX b,gX 103 b].map FV.fct=[fE,gE]:=rfl
theorem l3_sz (b:Nat):∀ f∈[gX 103 b,gX 103 b,gX 109 b],f.Sz:=fun f hf=>by
 simp at hf
 rcases hf with rfl | rfl
 ·exact gX_sz _ _
 ·exact gX_sz _ _
theorem l3_in {w:World}{b:Nat}(h:SX w b):∀ f∈[gX 103 b,gX 103 b,gX 109 b],f.In w:=fun f hf=>by
 simp at hf
 rcases hf with rfl | rfl
 ·exact h.g _
 ·exact h.g _
theorem l2_in {w:World}{b:Nat}(h:SX w b):∀ f∈[fX b,gX 103 b],f.In w:=fun f hf=>by
 simp at hf
 rcases hf with rfl | rfl
 ·exact h.f
 ·exact h.g _
theorem clients3_at (win lim:Int) (h0:0≤win) (h1:win≤1099511627776) (h2:1≤lim) (h3:lim≤1000) (b:Nat) (A:Option Addr) (w:World) (hF:FS w (.slice A 3 3) [gX 103 b,gX 103 b,gX 109 b]) (hE:EnvA w):
  Calls Tryz.prog 16 #[.slice A 3 3,.int .i64 win,.int .i64 lim] w fun e w'=>(∃ v ms,e=.returned (.tuple #[v,.int .i64 0])∧ROW EM 50 w' w.heap.size v ms∧ms.map MV.alm=(almF l3E win lim false).map (almO l3E win false))∧Ext w w':=by
 refine (Clients_at A 3 [gX 103 b,gX 103 b,gX 109 b] win lim w hF (show 3≤1000 by decide) (l3_sz b) hE ⟨by omega,by omega⟩).mono ?_
 rintro e w' ⟨h,hx⟩
 rw [l3_fct] at h
 rcases h with ⟨hn,_⟩ | ⟨_,v,ms,k1,k2,k3⟩
 ·exact absurd (l3_arg win lim h0 h1 h2) hn
 ·exact ⟨⟨v,ms,k1,k2,k3⟩,hx⟩
theorem ms_none {ms:List MV}{l:List Alm}(h:ms.map MV.alm=l)(e:l=[]):ms=[]:=by
 subst e
 exact List.map_eq_nil_iff.1 h
theorem ms_one {ms:List MV}{a:Alm}(h:ms.map MV.alm=[a]):∃ m,ms=[m]∧m.alm=a:=by
 match ms,h with
 | [m],h=>exact ⟨m,rfl,by simpa using h⟩
def mX (A:Option Addr)(n b t:Int):MV:=⟨A,[⟨#[117]⟩],1,⟨#[82]⟩,0,none,[],0,n,b,t⟩
theorem a_alm:(almF l3E 5 2 false).map (almO l3E 5 false)=[(mX none 2 103 103).alm]:=by
 rw [l3_a.1,List.map_cons,List.map_nil]
 congr 1
theorem c_alm:(almF l3E 6 3 false).map (almO l3E 6 false)=[(mX none 3 103 109).alm]:=by
 rw [l3_c.1,List.map_cons,List.map_nil]
 congr 1
end Go.Proofs.YtnjmndofcpnmeaaGreatDoor
