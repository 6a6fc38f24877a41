/- Pc28. -/
import Derived.Test.YtnjmndofcpnmeaaGreatDoorPc19
import Derived.Test.YtnjmndofcpnmeaaGreatDoorPc21
import Derived.Test.YtnjmndofcpnmeaaGreatDoorPc27
import Derived.BigQuiet
namespace Go.Proofs.YtnjmndofcpnmeaaGreatDoor
open Go Go.RowKit
set_option linter.unusedVariables false
def VLP (l:List Fct)(win lim:Int)(w:World)(e:Ending)(w':World):Prop:=∃ b:Bool,e=.returned (.bool b)∧(b=true ↔ argB l win lim)∧Ext w w'
theorem atF_map {xs:List FV}{k:Nat}(h:k<xs.length):atF (xs.map FV.fct) k=xs[k].fct:=by
 rw [atF_get (by rw [List.length_map];exact h),List.getElem_map]
set_option maxRecDepth 100000 in
set_option maxHeartbeats 4000000 in
theorem Lvalid_at (A:Option Addr) (c:Nat) (xs:List FV) (win lim:Int) (w:World) (hF:FS w (.slice A xs.length c) xs) (hn:xs.length≤1000) (hz:∀ x∈xs,x.Sz) (hE:EnvA w):
  Calls Tryz.prog 61 #[.slice A xs.length c,.int .i64 win,.int .i64 lim] w (VLP (xs.map FV.fct) win lim w):=by
 have HF:=Lib.hid hF;have HZ:=Lib.hid hz;have HE:=Lib.hid hE
 obtain ⟨_,c',he,hc1,hc2⟩:=hF.shape
 injection he with e1 _ e3
 subst e1;subst e3
 unfold maxLen at hc2
 obtain ⟨n,hn'⟩:∃ n,xs.length=n:=⟨_,rfl⟩
 have HN:=Lib.hid hn'
 clear hF hz hE
 rw [hn'] at hc1 hn ⊢
 clear hn'
 by_cases h1:win<0
 ·have HW:=Lib.hid (show argB (xs.map FV.fct) win lim→(false=true) from fun h=>by have:=h.1;omega)
  have d1:decide (win<0)=true:=decide_eq_true h1
  clear h1
  go_enter Tryz.func61,Tryz.ntmps61
  go_wp2_with fail
  go_ret
  exact ⟨false,rfl,⟨fun h=>absurd h (by decide),fun h=>absurd (HW.out h) (by decide)⟩,Ext.refl _⟩
 have d1:decide (win<0)=false:=decide_eq_false h1
 by_cases h2:1099511627776<win
 ·have HW:=Lib.hid (show argB (xs.map FV.fct) win lim→(false=true) from fun h=>by have:=h.2.1;omega)
  have d2:decide (1099511627776<win)=true:=decide_eq_true h2
  clear h1 h2
  go_enter Tryz.func61,Tryz.ntmps61
  go_wp2_with fail
  go_ret
  exact ⟨false,rfl,⟨fun h=>absurd h (by decide),fun h=>absurd (HW.out h) (by decide)⟩,Ext.refl _⟩
 have d2:decide (1099511627776<win)=false:=decide_eq_false h2
 by_cases h3:lim<1
 ·have HW:=Lib.hid (show argB (xs.map FV.fct) win lim→(false=true) from fun h=>by have:=h.2.2.1;omega)
  have d3:decide (lim<1)=true:=decide_eq_true h3
  clear h1 h2 h3
  go_enter Tryz.func61,Tryz.ntmps61
  go_wp2_with fail
  go_ret
  exact ⟨false,rfl,⟨fun h=>absurd h (by decide),fun h=>absurd (HW.out h) (by decide)⟩,Ext.refl _⟩
 have d3:decide (lim<1)=false:=decide_eq_false h3
 have HA3:=Lib.hid (show 0≤win∧win≤1099511627776∧1≤lim by omega)
 clear h1 h2 h3
 go_enter Tryz.func61,Tryz.ntmps61
 go_wp2_with fail
 go_loopw [7,8,9,22] (fun _ _ _ i wr=>∃ k:Nat,i=.int .i64 (k:Int)∧k≤n∧Hid (ordTo (xs.map FV.fct) k)∧Hid (Ext w wr)) (fun _ _ _ i _=>n-(intOf i).toNat)
 case atStart=>exact ⟨0,rfl,by omega,Lib.hid (ordTo_zero _),Lib.hid (Ext.refl _)⟩
 case round=>
  obtain ⟨k,rfl,hk,HO,HX⟩:=hrel
  by_cases hlt:k<n
  ·have hlx:k<xs.length:=by rw [HN.out];exact hlt
   have hF:=HF.out.ext HX.out
   obtain ⟨hin,ad,rfl,u0,u1,u2,u3,u4,u5,u6,u7,u8,u9,u10,u11⟩:=hF.at_ k hlx
   have hsz:=HZ.out xs[k] (List.getElem_mem hlx)
   have HAK:=Lib.hid (atF_map hlx)
   have HKN:=Lib.hid (show k<(xs.map FV.fct).length by rw [List.length_map];exact hlx)
   obtain ⟨f,hf⟩:∃ f,xs[k]=f:=⟨_,rfl⟩
   rw [hf] at hin hsz HAK u0 u1 u2 u3 u4 u5 u6 u7 u8 u9 u10 u11
   have hbx:=FBx.new wr f
   have hxa:=(Ext.refl wr).alloc (.cells #[.int .i64 f.t,.int .i64 f.mi,.int .i64 f.kd,.int .i64 f.fk,.slice f.FA f.fb.length f.fc,.slice f.CA f.cp.length f.cc,.string f.cr,.slice f.SA f.sp.length f.sc,.string f.sr,.int .i64 f.co,.int .i64 f.pr,.int .u32 (f.fl.toNat:Int)] 41)
   obtain ⟨Wa,ea⟩:∃ Wa,wr.alloc (.cells #[.int .i64 f.t,.int .i64 f.mi,.int .i64 f.kd,.int .i64 f.fk,.slice f.FA f.fb.length f.fc,.slice f.CA f.cp.length f.cc,.string f.cr,.slice f.SA f.sp.length f.sc,.string f.sr,.int .i64 f.co,.int .i64 f.pr,.int .u32 (f.fl.toNat:Int)] 41)=Wa:=⟨_,rfl⟩
   rw [ea] at hbx hxa
   obtain ⟨x0,x1,x2,x3,x4,x5,x6,x7,x8,x9,x10,x11⟩:=fv_cells hbx
   have HXA:=Lib.hid (HX.out.trans hxa)
   have HBX:=Lib.hid hbx;have hxaw:=Lib.hid hxa
   have HV:=Lib.hid (LValid_at f Wa (hin.ext hxa) hsz (HE.out.ext HXA.out))
   unfold FV.val at HV
   obtain ⟨b,hb⟩:∃ b,f.fct.ok=b:=⟨_,rfl⟩
   rw [hb] at HV
   have HBK:=Lib.hid hb
   clear hbx hxa hin hsz hb hf hF
   cases b with
   | false=>
    go_wp2_with fail
    refine HV.out.mono ?_
    rintro _ w2 ⟨rfl,hx2⟩
    have HX2:=Lib.hid (HXA.out.trans hx2)
    clear hx2
    go_wp2_with fail
    go_ret
    exact ⟨false,rfl,⟨fun h=>absurd h (by decide),fun h=>by
     have:=(h.2.2.2 k HKN.out).1
     rw [HAK.out,HBK.out] at this
     cases this⟩,HX2.out⟩
   | true=>
    have HAO:=Lib.hid (show (atF (xs.map FV.fct) k).ok=true by rw [HAK.out];exact HBK.out)
    by_cases hk0:k=0
    ·have q0:((k:Int)==0)=true:=by rw [hk0];rfl
     have HOS:=Lib.hid (ordTo_succ HO.out HAO.out (fun h=>absurd h (by omega)))
     clear hk0
     go_wp2_with fail
     refine HV.out.mono ?_
     rintro _ w2 ⟨rfl,hx2⟩
     have HX2:=Lib.hid (HXA.out.trans hx2)
     clear hx2
     go_wp2_with fail
     go_roundw
     case rel=>exact ⟨k+1,by go_num,by omega,HOS,HX2⟩
     case measure=>simp [intOf];omega
    ·have q0:((k:Int)==0)=false:=by rw [beq_eq_false_iff_ne];omega
     obtain ⟨j,hj⟩:∃ j,k=j+1:=⟨k-1,by omega⟩
     have ej:(k:Int)-1=(j:Int):=by omega
     have hjn:j<n:=by omega
     have hjx:j<xs.length:=by rw [HN.out];exact hjn
     have HJK:=Lib.hid hj
     have HAJ:=Lib.hid (atF_map hjx)
     obtain ⟨hinj,ad',hadr,jj⟩:=(HF.out.ext HX.out).at_ j hjx
     injection hadr with hadr
     subst hadr
     obtain ⟨g,hg⟩:∃ g,xs[j]=g:=⟨_,rfl⟩
     rw [hg] at jj HAJ
     have HJJ:=Lib.hid jj
     clear hk0 hj hjx hinj jj hg
     go_wp2_with fail
     refine HV.out.mono ?_
     rintro _ w2 ⟨rfl,hx2⟩
     have HX2:=Lib.hid (HXA.out.trans hx2)
     have hw2:=hxaw.out.trans hx2
     obtain ⟨z0,z1,z2,z3,z4,z5,z6,z7,z8,z9,z10,z11⟩:=HJJ.out
     have z0:=hw2.cell z0;have z1:=hw2.cell z1;have z2:=hw2.cell z2;have z3:=hw2.cell z3;have z4:=hw2.cell z4;have z5:=hw2.cell z5;have z6:=hw2.cell z6;have z7:=hw2.cell z7;have z8:=hw2.cell z8;have z9:=hw2.cell z9;have z10:=hw2.cell z10;have z11:=hw2.cell z11
     clear x0 x1 x2 x3 x4 x5 x6 x7 x8 x9 x10 x11 u0 u1 u2 u3 u4 u5 u6 u7 u8 u9 u10 u11
     obtain ⟨x0,x1,x2,x3,x4,x5,x6,x7,x8,x9,x10,x11⟩:=fv_cells (HBX.out.ext hx2)
     have hbx:=FBx.new w2 g
     have hxa:=(Ext.refl w2).alloc (.cells #[.int .i64 g.t,.int .i64 g.mi,.int .i64 g.kd,.int .i64 g.fk,.slice g.FA g.fb.length g.fc,.slice g.CA g.cp.length g.cc,.string g.cr,.slice g.SA g.sp.length g.sc,.string g.sr,.int .i64 g.co,.int .i64 g.pr,.int .u32 (g.fl.toNat:Int)] 41)
     obtain ⟨Wb,eb⟩:∃ Wb,w2.alloc (.cells #[.int .i64 g.t,.int .i64 g.mi,.int .i64 g.kd,.int .i64 g.fk,.slice g.FA g.fb.length g.fc,.slice g.CA g.cp.length g.cc,.string g.cr,.slice g.SA g.sp.length g.sc,.string g.sr,.int .i64 g.co,.int .i64 g.pr,.int .u32 (g.fl.toNat:Int)] 41)=Wb:=⟨_,rfl⟩
     rw [eb] at hbx hxa
     obtain ⟨y0,y1,y2,y3,y4,y5,y6,y7,y8,y9,y10,y11⟩:=fv_cells hbx
     have x0:=hxa.cell x0;have x1:=hxa.cell x1
     have HX5:=Lib.hid (HX2.out.trans hxa)
     have HGF:=Lib.hid (show atF (xs.map FV.fct) k=f.fct∧atF (xs.map FV.fct) j=g.fct from ⟨HAK.out,HAJ.out⟩)
     clear hbx hxa hw2 hx2
     by_cases hl1:f.t<g.t
     ·have HBT:=Lib.hid (show backB g.fct f.fct=true by unfold backB;rw [decide_eq_true (show f.fct.t<g.fct.t from hl1)];rfl)
      go_wp2_with fail
      go_ret
      refine ⟨false,rfl,⟨fun h=>absurd h (by decide),fun h=>?_⟩,HX5.out⟩
      have h2:=(h.2.2.2 k HKN.out).2 (by have:=HJK.out;omega)
      rw [show k-1=j by have:=HJK.out;omega,HGF.out.1,HGF.out.2,HBT.out] at h2
      cases h2
     ·by_cases hl2:f.t=g.t
      ·have hl2b:(f.t==g.t)=true:=by rw [hl2];exact beq_self_eq_true _
       by_cases hl3:f.mi<g.mi
       ·have HBT:=Lib.hid (show backB g.fct f.fct=true by unfold backB;rw [decide_eq_true (show f.fct.t=g.fct.t from hl2),decide_eq_true (show f.fct.mi<g.fct.mi from hl3),Bool.and_self,Bool.or_true])
        clear hl2
        go_wp2_with fail
        go_ret
        refine ⟨false,rfl,⟨fun h=>absurd h (by decide),fun h=>?_⟩,HX5.out⟩
        have h2:=(h.2.2.2 k HKN.out).2 (by have:=HJK.out;omega)
        rw [show k-1=j by have:=HJK.out;omega,HGF.out.1,HGF.out.2,HBT.out] at h2
        cases h2
       ·have HBT:=Lib.hid (show backB g.fct f.fct=false by unfold backB;rw [decide_eq_false (show ¬ f.fct.t<g.fct.t from hl1),decide_eq_false (show ¬ f.fct.mi<g.fct.mi from hl3),Bool.and_false];rfl)
        clear hl2
        go_wp2_with fail
        go_roundw
        case rel=>exact ⟨k+1,by go_num,by omega,Lib.hid (ordTo_succ HO.out HAO.out (fun _=>by rw [show k-1=j by have:=HJK.out;omega,HGF.out.1,HGF.out.2];exact HBT.out)),HX5⟩
        case measure=>simp [intOf];omega
      ·have hl2b:(f.t==g.t)=false:=beq_eq_false_iff_ne.2 hl2
       have HBT:=Lib.hid (show backB g.fct f.fct=false by unfold backB;rw [decide_eq_false (show ¬ f.fct.t<g.fct.t from hl1),decide_eq_false (show ¬ f.fct.t=g.fct.t from hl2)];rfl)
       clear hl2
       go_wp2_with fail
       go_roundw
       case rel=>exact ⟨k+1,by go_num,by omega,Lib.hid (ordTo_succ HO.out HAO.out (fun _=>by rw [show k-1=j by have:=HJK.out;omega,HGF.out.1,HGF.out.2];exact HBT.out)),HX5⟩
       case measure=>simp [intOf];omega
  ·obtain rfl:k=n:=by omega
   go_wp2_with fail
   go_ret
   refine ⟨true,rfl,⟨fun _=>⟨HA3.out.1,HA3.out.2.1,HA3.out.2.2,?_⟩,fun _=>rfl⟩,HX.out⟩
   rw [List.length_map,HN.out]
   exact HO.out
end Go.Proofs.YtnjmndofcpnmeaaGreatDoor
namespace Go.Proofs.YtnjmndofcpnmeaaGreatDoor
open Go Go.RowKit Go.Maps
set_option linter.unusedVariables false
structure MV where
 CA:Option Addr
 cp:List ByteArray
 cc:Nat
 cr:ByteArray
 fk:Int
 FA:Option Addr
 fb:List UInt8
 fc:Nat
 n:Int
 b:Int
 t:Int
structure Alm where
 cp:List (List UInt8)
 cr:List UInt8
 fk:Int
 fb:List UInt8
 n:Int
 b:Int
 t:Int
 deriving DecidableEq
def MV.alm (m:MV):Alm:=⟨dat m.cp,m.cr.data.toList,m.fk,m.fb,m.n,m.b,m.t⟩
def MV.cs (m:MV):List Value:=[.slice m.CA m.cp.length m.cc,.string m.cr,.int .i64 m.fk,.slice m.FA m.fb.length m.fc,.int .i64 m.n,.int .i64 m.b,.int .i64 m.t]
structure MV.In (w:World) (m:MV):Prop where
 cp:RS w (.slice m.CA m.cp.length m.cc) (sv m.cp)
 fb:BS w (.slice m.FA m.fb.length m.fc) m.fb
def MV.Blk (m:MV)(b:Nat):Prop:=m.cp≠[]∧∃ ad,m.CA=some ad∧ad.block=b
theorem MV.In.ext {w w':World}{m:MV}(h:m.In w)(hx:Ext w w'):m.In w':=⟨h.cp.ext hx,h.fb.ext hx⟩
def EM:Ek MV where
 k:=7
 kp:=by decide
 cs:=MV.cs
 len:=fun _=>rfl
 one:=fun x u hu=>by simp [MV.cs] at hu;rcases hu with rfl | rfl | rfl | rfl | rfl | rfl | rfl<;>rfl
 no8:=fun x u hu n e=>by subst e;simp [MV.cs] at hu
 In:=MV.In
 Blk:=MV.Blk
 blt:=fun w m b h hb=>by
  obtain ⟨hne,ad,ha,rfl⟩:=hb
  exact (h.cp.lt (sv_ne hne) ha).1
 keep:=fun w w' m row h hg hr=>⟨h.cp.off (fun hne ad ha e=>(hr _ e).2 ⟨ne_sv hne,ad,ha,rfl⟩) hg,h.fb.offRow (fun b hb=>(hr b hb).1) hg⟩
def almZ7:Value:=.agg #[.slice none 0 0,.string ⟨#[]⟩,.int .i64 0,.slice none 0 0,.int .i64 0,.int .i64 0,.int .i64 0]
theorem alm7_info:∃ i:TypeInfo,Tryz.prog.info? 50=some i∧i.zero=some almZ7∧i.size=7∧i.bytes=96:=
 info_parts (show (Tryz.prog.info? 50).map (fun i=>(i.zero,i.size,i.bytes))=some (some almZ7,7,96) by kernel_rfl)
theorem alm7_zs:almZ7.cells.size=7:=rfl
theorem alm7_zn:∀ x∈almZ7.cells.toList,∀ n,x≠.int .u8 n:=by
 intro x hx n e
 subst e
 simp [almZ7,Value.cells] at hx
def M7 (w:World)(g:Nat)(m:MV):Prop:=w.heap[g]? = some (.cells #[.slice m.CA m.cp.length m.cc,.string m.cr,.int .i64 m.fk,.slice m.FA m.fb.length m.fc,.int .i64 m.n,.int .i64 m.b,.int .i64 m.t] 50 (0,0))
theorem M7.news {w:World}{g:Nat}{m:MV}(h:M7 w g m):∀ j u,(EM.all [m])[j]? = some u→w.cell? ((⟨g,0,none⟩:Addr).add j)=some u:=fun j u hu=>by
 rw [Ek.all_one] at hu
 rw [add0,cell_of_row _ _ j _ _ (0,0) h,← hu]
 show _=(MV.cs m)[j]?
 unfold MV.cs
 rw [← List.getElem?_toArray]
def almO (l:List Fct)(win:Int)(ad:Bool)(i:Nat):Alm:=
 if ad then ⟨[],[],(atF l i).fk,(atF l i).fb,(cntF l win ad i:Int),begF l win ad i,(atF l i).t⟩ else ⟨(atF l i).cp,(atF l i).cr,0,[],(cntF l win ad i:Int),begF l win ad i,(atF l i).t⟩
theorem rw8 {w:World}{g:Nat}{t:TypeId}{a0 a1 a2 a3 a4 a5 a6 a7:Value}(h:RW w g t #[a0,a1,a2,a3,a4,a5,a6,a7]):(w.cell? ⟨g,0,none⟩=some a0∧w.cell? ⟨g,1,none⟩=some a1∧w.cell? ⟨g,2,none⟩=some a2∧w.cell? ⟨g,3,none⟩=some a3∧w.cell? ⟨g,4,none⟩=some a4∧w.cell? ⟨g,5,none⟩=some a5∧w.cell? ⟨g,6,none⟩=some a6∧w.cell? ⟨g,7,none⟩=some a7)∧w.frozen? ⟨g,0,none⟩=false∧w.frozen? ⟨g,1,none⟩=false∧w.frozen? ⟨g,2,none⟩=false∧w.frozen? ⟨g,3,none⟩=false:=by
 unfold RW at h
 refine ⟨⟨?_,?_,?_,?_,?_,?_,?_,?_⟩,?_,?_,?_,?_⟩
 all_goals first
  | exact frozen_of_row w g _ _ _ h
  | (rw [cell_of_row _ _ _ _ _ (0,0) h];rfl)
theorem RDS.alm_at {w:World}{A:Option Addr}{n c:Nat}{l:List Fct}{win:Int}{ad:Bool}{al:List Nat}(h:RDS (EA l win ad) w (.slice A n c) al)(k:Nat)(hk:k<al.length):∃ p,A=some p∧w.cell? (p.add (k*8))=some (.slice none 0 0)∧w.cell? ⟨(p.add (k*8)).block,(p.add (k*8)).off+1,none⟩=some (.string ⟨#[]⟩)∧w.cell? ⟨(p.add (k*8)).block,(p.add (k*8)).off+2,none⟩=some (.int .i64 0)∧w.cell? ⟨(p.add (k*8)).block,(p.add (k*8)).off+3,none⟩=some (.slice none 0 0)∧w.cell? ⟨(p.add (k*8)).block,(p.add (k*8)).off+4,none⟩=some (.int .i64 (cntF l win ad al[k]:Int))∧w.cell? ⟨(p.add (k*8)).block,(p.add (k*8)).off+5,none⟩=some (.int .i64 (begF l win ad al[k]))∧w.cell? ⟨(p.add (k*8)).block,(p.add (k*8)).off+6,none⟩=some (.int .i64 (atF l al[k]).t)∧w.cell? ⟨(p.add (k*8)).block,(p.add (k*8)).off+7,none⟩=some (.int .i64 (al[k]:Int)):=by
 obtain ⟨A',c',he,_,_,h4⟩:=h
 injection he with e1 e2 e3
 subst e1
 obtain ⟨p,rfl,k3⟩:=h4 k hk
 change ∀ j u,(almV l win ad al[k])[j]? = some u→w.cell? (p.add (k*8+j))=some u at k3
 refine ⟨p,rfl,?_,?_,?_,?_,?_,?_,?_,?_⟩
 ·exact k3 0 _ rfl
 ·rw [cell_addj w p (k*8) 1 (by decide)];exact k3 1 _ rfl
 ·rw [cell_addj w p (k*8) 2 (by decide)];exact k3 2 _ rfl
 ·rw [cell_addj w p (k*8) 3 (by decide)];exact k3 3 _ rfl
 ·rw [cell_addj w p (k*8) 4 (by decide)];exact k3 4 _ rfl
 ·rw [cell_addj w p (k*8) 5 (by decide)];exact k3 5 _ rfl
 ·rw [cell_addj w p (k*8) 6 (by decide)];exact k3 6 _ rfl
 ·rw [cell_addj w p (k*8) 7 (by decide)];exact k3 7 _ rfl
theorem RDS.shape {α:Type}{E:Ek α}{w:World}{v:Value}{xs:List α}(h:RDS E w v xs):∃ A c,v=.slice A xs.length c∧xs.length≤c∧c≤maxLen:=by
 obtain ⟨A,c,h1,h2,h3,_⟩:=h
 exact ⟨A,c,h1,h2,h3⟩
def ALM (l:List Fct)(win lim:Int)(ad:Bool)(w:World)(e:Ending)(w':World):Prop:=
 (¬ argB l win lim∧e=.returned (.tuple #[.slice none 0 0,.int .i64 2])) ∨
 (argB l win lim∧∃ v ms,e=.returned (.tuple #[v,.int .i64 0])∧ROW EM 50 w' w.heap.size v ms∧ms.map MV.alm=(almF l win lim ad).map (almO l win ad))
end Go.Proofs.YtnjmndofcpnmeaaGreatDoor
namespace Go.Proofs.YtnjmndofcpnmeaaGreatDoor
open Go Go.RowKit
set_option linter.unusedVariables false
def sameP (ps:List ByteArray)(r:ByteArray)(qs:List ByteArray)(t:ByteArray):Bool:=decide (r=t)&&decide (ps=qs)
theorem dat_inj {ps qs:List ByteArray}(h:dat ps=dat qs):ps=qs:=by
 unfold dat at h
 exact (List.map_inj_right (fun x y e=>by cases x;cases y;simp at e;exact congrArg _ e)).1 h
theorem ba_inj {r t:ByteArray}(h:r.data.toList=t.data.toList):r=t:=by cases r;cases t;simp at h;exact congrArg _ h
theorem sameP_eq (ps:List ByteArray)(r:ByteArray)(qs:List ByteArray)(t:ByteArray):sameP ps r qs t=(decide (dat ps=dat qs)&&decide (r.data.toList=t.data.toList)):=by
 unfold sameP
 rw [Bool.and_comm]
 congr 1
 ·exact decide_eq_decide.2 ⟨fun e=>by rw [e],dat_inj⟩
 ·exact decide_eq_decide.2 ⟨fun e=>by rw [e],ba_inj⟩
theorem boxes2 (w:World)(a b c d:Value):∃ W,((w.alloc (.cells #[a,b] 37)).alloc (.cells #[c,d] 37))=W∧RW W w.heap.size 37 #[a,b]∧RW W (w.heap.size+1) 37 #[c,d]∧Ext w W:=by
 have hT:=heap_alloc_new w (.cells #[a,b] 37)
 have hU:=heap_alloc_new (w.alloc (.cells #[a,b] 37)) (.cells #[c,d] 37)
 rw [World.size_alloc] at hU
 have x1:=(Ext.refl w).alloc (.cells #[a,b] 37)
 have x2:=(Ext.refl (w.alloc (.cells #[a,b] 37))).alloc (.cells #[c,d] 37)
 exact ⟨_,rfl,x2.heap hT,hU,x1.trans x2⟩
theorem rw2 {w:World}{g:Nat}{t:TypeId}{a b:Value}(h:RW w g t #[a,b]):w.cell? ⟨g,0,none⟩=some a∧w.cell? ⟨g,1,none⟩=some b:=by
 unfold RW at h
 refine ⟨?_,?_⟩<;>(rw [cell_of_row _ _ _ _ _ (0,0) h];rfl)
set_option maxRecDepth 100000 in
set_option maxHeartbeats 800000 in
theorem SameP_at (A:Option Addr) (c:Nat) (ps:List ByteArray) (r:ByteArray) (B:Option Addr) (d:Nat) (qs:List ByteArray) (t:ByteArray) (hn:ps.length≤1000) (hm:qs.length≤1000) (w:World) (hR:RS w (.slice A ps.length c) (sv ps)) (hQ:RS w (.slice B qs.length d) (sv qs)):
  Calls Tryz.prog 38 #[.agg #[.slice A ps.length c,.string r],.agg #[.slice B qs.length d,.string t]] w fun e w'=>e=.returned (.bool (sameP ps r qs t))∧Ext w w':=by
 obtain ⟨W2,e2,hT,hU,hx⟩:=boxes2 w (.slice A ps.length c) (.string r) (.slice B qs.length d) (.string t)
 have HT:=Lib.hid hT;have HU:=Lib.hid hU;have HX:=Lib.hid hx;have HR:=Lib.hid (hR.ext hx);have HQ:=Lib.hid (hQ.ext hx)
 obtain ⟨c0,c1⟩:=rw2 hT
 obtain ⟨d0,d1⟩:=rw2 hU
 clear hT hU hx hR hQ
 by_cases hr:r=t
 ·subst hr
  by_cases hl:ps.length=qs.length
  ·obtain ⟨n,hnn⟩:∃ n,ps.length=n:=⟨_,rfl⟩
   have HN:=Lib.hid hnn
   have HM:=Lib.hid (hl.symm.trans hnn)
   rw [hnn] at hn c0 HT e2 HR ⊢
   rw [hl.symm.trans hnn] at hm d0 HU e2 HQ ⊢
   clear hnn hl
   have HS:=Lib.hid (show sameP ps r qs r=decide (ps=qs) by unfold sameP;simp)
   generalize sameP ps r qs r=sb at *
   go_enter Tryz.func38,Tryz.ntmps38
   go_wp2_with fail
   go_loopw [5] (fun v wr=>∃ k:Nat,v=.int .i64 (k:Int)∧k≤n∧Hid (ps.take k=qs.take k)∧Hid (Ext W2 wr)) (fun v _=>n-(intOf v).toNat)
   case atStart=>exact ⟨0,rfl,by omega,Lib.hid (by simp),Lib.hid (Ext.refl _)⟩
   case round=>
    obtain ⟨k,rfl,hk,HK,HXK⟩:=hrel
    clear c0 c1 d0 d1
    obtain ⟨c0,c1⟩:=rw2 (HT.out.ext HXK.out)
    obtain ⟨d0,d1⟩:=rw2 (HU.out.ext HXK.out)
    by_cases hlt:k<n
    ·have hkp:k<ps.length:=by rw [HN.out];exact hlt
     have hkq:k<qs.length:=by rw [HM.out];exact hlt
     obtain ⟨A',c',he,h1,h2,h3⟩:=HR.out
     rw [sv_length,HN.out] at he h1 h3
     injection he with e4 _ e5
     subst e4;subst e5
     obtain ⟨pa,rfl,_,hcp⟩:=h3 (by omega)
     obtain ⟨B',d',he',h1',h2',h3'⟩:=HQ.out
     rw [sv_length,HM.out] at he' h1' h3'
     injection he' with e4 _ e5
     subst e4;subst e5
     obtain ⟨qa,rfl,_,hcq⟩:=h3' (by omega)
     unfold maxLen at h2 h2'
     have y0:=HXK.out.cell (hcp k _ (sv_get ps k hkp))
     have y1:=HXK.out.cell (hcq k _ (sv_get qs k hkq))
     have HTP:=Lib.hid (List.take_succ_eq_append_getElem hkp)
     have HTQ:=Lib.hid (List.take_succ_eq_append_getElem hkq)
     have HGP:=Lib.hid (List.getElem?_eq_getElem hkp)
     have HGQ:=Lib.hid (List.getElem?_eq_getElem hkq)
     generalize ps[k]=x at *
     generalize qs[k]=y at *
     clear h3 h3' hcp hcq hkp hkq
     by_cases hxy:x=y
     ·subst hxy
      go_wp2_with fail
      go_quiet (fail)
      go_wp2_with fail
      go_roundw
      case rel=>exact ⟨k+1,by go_num,by omega,Lib.hid (by rw [HTP.out,HTQ.out,HK.out]),Lib.hid (HXK.out.drewN _)⟩
      case measure=>simp [intOf];omega
     ·have hq:(x.toList==y.toList)=false:=by rw [beq_eq_false_iff_ne,ByteArray.toList_eq,ByteArray.toList_eq];exact fun e=>hxy (ba_inj e)
      have HNE:=Lib.hid (show sb=false by rw [HS.out];exact decide_eq_false (fun e=>by
       have h5:=HGP.out
       rw [e,HGQ.out] at h5
       injection h5 with h5
       exact hxy h5.symm))
      clear hxy
      go_wp2_with fail
      go_quiet (fail)
      go_wp2_with fail
      go_ret
      exact ⟨by rw [HNE.out];rfl,(HX.out.trans HXK.out).drewN _⟩
    ·obtain rfl:k=n:=by omega
     have HYES:=Lib.hid (show sb=true by
      rw [HS.out]
      have h5:=HK.out
      rw [List.take_of_length_le (by rw [HN.out];exact Nat.le_refl _),List.take_of_length_le (by rw [HM.out];exact Nat.le_refl _)] at h5
      exact decide_eq_true h5)
     go_wp2_with fail
     go_ret
     exact ⟨by rw [HYES.out];rfl,HX.out.trans HXK.out⟩
  ·have HNE:=Lib.hid (show sameP ps r qs r=false by unfold sameP;rw [decide_eq_false (fun e:ps=qs=>hl (by rw [e]))];simp)
   generalize sameP ps r qs r=sb at *
   have hq:((ps.length:Int)==(qs.length:Int))=false:=by rw [beq_eq_false_iff_ne];omega
   clear hl
   go_enter Tryz.func38,Tryz.ntmps38
   go_wp2_with fail
   go_ret
   exact ⟨by rw [HNE.out];rfl,HX.out⟩
 ·have HNE:=Lib.hid (show sameP ps r qs t=false by unfold sameP;rw [decide_eq_false hr];simp)
  generalize sameP ps r qs t=sb at *
  have hq:(r.toList==t.toList)=false:=by rw [beq_eq_false_iff_ne,ByteArray.toList_eq,ByteArray.toList_eq];exact fun e=>hr (ba_inj e)
  clear hr
  go_enter Tryz.func38,Tryz.ntmps38
  go_wp2_with fail
  go_ret
  exact ⟨by rw [HNE.out];rfl,HX.out⟩
end Go.Proofs.YtnjmndofcpnmeaaGreatDoor
