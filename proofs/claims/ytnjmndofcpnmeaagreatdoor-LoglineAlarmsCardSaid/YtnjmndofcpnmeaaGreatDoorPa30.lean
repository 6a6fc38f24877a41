/- Pa30. -/
import Derived.Test.YtnjmndofcpnmeaaGreatDoorPa20
import Derived.Test.YtnjmndofcpnmeaaGreatDoorPa22
namespace Go.Proofs.YtnjmndofcpnmeaaGreatDoor
open Go Go.RowKit
set_option linter.unusedVariables false
def VLP (l:List Fct)(win lim:Int)(w:World)(e:Ending)(w':World):Prop:=∃ b:Bool,e=.returned (.bool b)∧(b=true ↔ argB l win lim)∧Ext w w'
theorem atF_map {xs:List FV}{k:Nat}(h:k<xs.length):atF (xs.map FV.fct) k=xs[k].fct:=by
 rw [atF_get (by rw [List.length_map];exact h),List.getElem_map]
set_option maxRecDepth 100000 in
set_option maxHeartbeats 4000000 in
theorem Lvalid_at (A:Option Addr) (c:Nat) (xs:List FV) (win lim:Int) (w:World) (hF:FS w (.slice A xs.length c) xs) (hn:xs.length≤1000) (hz:∀ x∈xs,x.Sz) (hE:EnvA w):
  Calls Tryz.prog 61 #[.slice A xs.length c,.int .i64 win,.int .i64 lim] w (VLP (xs.map FV.fct) win lim w):=by
 have HF:=Lib.hid hF;have HZ:=Lib.hid hz;have HE:=Lib.hid hE
 obtain ⟨_,c',he,hc1,hc2⟩:=hF.shape
 injection he with e1 _ e3
 subst e1;subst e3
 unfold maxLen at hc2
 obtain ⟨n,hn'⟩:∃ n,xs.length=n:=⟨_,rfl⟩
 have HN:=Lib.hid hn'
 clear hF hz hE
 rw [hn'] at hc1 hn ⊢
 clear hn'
 by_cases h1:win<0
 ·have HW:=Lib.hid (show argB (xs.map FV.fct) win lim→(false=true) from fun h=>by have:=h.1;omega)
  have d1:decide (win<0)=true:=decide_eq_true h1
  clear h1
  go_enter Tryz.func61,Tryz.ntmps61
  go_wp2_with fail
  go_ret
  exact ⟨false,rfl,⟨fun h=>absurd h (by decide),fun h=>absurd (HW.out h) (by decide)⟩,Ext.refl _⟩
 have d1:decide (win<0)=false:=decide_eq_false h1
 by_cases h2:1099511627776<win
 ·have HW:=Lib.hid (show argB (xs.map FV.fct) win lim→(false=true) from fun h=>by have:=h.2.1;omega)
  have d2:decide (1099511627776<win)=true:=decide_eq_true h2
  clear h1 h2
  go_enter Tryz.func61,Tryz.ntmps61
  go_wp2_with fail
  go_ret
  exact ⟨false,rfl,⟨fun h=>absurd h (by decide),fun h=>absurd (HW.out h) (by decide)⟩,Ext.refl _⟩
 have d2:decide (1099511627776<win)=false:=decide_eq_false h2
 by_cases h3:lim<1
 ·have HW:=Lib.hid (show argB (xs.map FV.fct) win lim→(false=true) from fun h=>by have:=h.2.2.1;omega)
  have d3:decide (lim<1)=true:=decide_eq_true h3
  clear h1 h2 h3
  go_enter Tryz.func61,Tryz.ntmps61
  go_wp2_with fail
  go_ret
  exact ⟨false,rfl,⟨fun h=>absurd h (by decide),fun h=>absurd (HW.out h) (by decide)⟩,Ext.refl _⟩
 have d3:decide (lim<1)=false:=decide_eq_false h3
 have HA3:=Lib.hid (show 0≤win∧win≤1099511627776∧1≤lim by omega)
 clear h1 h2 h3
 go_enter Tryz.func61,Tryz.ntmps61
 go_wp2_with fail
 go_loopw [7,8,9,22] (fun _ _ _ i wr=>∃ k:Nat,i=.int .i64 (k:Int)∧k≤n∧Hid (ordTo (xs.map FV.fct) k)∧Hid (Ext w wr)) (fun _ _ _ i _=>n-(intOf i).toNat)
 case atStart=>exact ⟨0,rfl,by omega,Lib.hid (ordTo_zero _),Lib.hid (Ext.refl _)⟩
 case round=>
  obtain ⟨k,rfl,hk,HO,HX⟩:=hrel
  by_cases hlt:k<n
  ·have hlx:k<xs.length:=by rw [HN.out];exact hlt
   have hF:=HF.out.ext HX.out
   obtain ⟨hin,ad,rfl,u0,u1,u2,u3,u4,u5,u6,u7,u8,u9,u10,u11⟩:=hF.at_ k hlx
   have hsz:=HZ.out xs[k] (List.getElem_mem hlx)
   have HAK:=Lib.hid (atF_map hlx)
   have HKN:=Lib.hid (show k<(xs.map FV.fct).length by rw [List.length_map];exact hlx)
   obtain ⟨f,hf⟩:∃ f,xs[k]=f:=⟨_,rfl⟩
   rw [hf] at hin hsz HAK u0 u1 u2 u3 u4 u5 u6 u7 u8 u9 u10 u11
   have hbx:=FBx.new wr f
   have hxa:=(Ext.refl wr).alloc (.cells #[.int .i64 f.t,.int .i64 f.mi,.int .i64 f.kd,.int .i64 f.fk,.slice f.FA f.fb.length f.fc,.slice f.CA f.cp.length f.cc,.string f.cr,.slice f.SA f.sp.length f.sc,.string f.sr,.int .i64 f.co,.int .i64 f.pr,.int .u32 (f.fl.toNat:Int)] 41)
   obtain ⟨Wa,ea⟩:∃ Wa,wr.alloc (.cells #[.int .i64 f.t,.int .i64 f.mi,.int .i64 f.kd,.int .i64 f.fk,.slice f.FA f.fb.length f.fc,.slice f.CA f.cp.length f.cc,.string f.cr,.slice f.SA f.sp.length f.sc,.string f.sr,.int .i64 f.co,.int .i64 f.pr,.int .u32 (f.fl.toNat:Int)] 41)=Wa:=⟨_,rfl⟩
   rw [ea] at hbx hxa
   obtain ⟨x0,x1,x2,x3,x4,x5,x6,x7,x8,x9,x10,x11⟩:=fv_cells hbx
   have HXA:=Lib.hid (HX.out.trans hxa)
   have HBX:=Lib.hid hbx;have hxaw:=Lib.hid hxa
   have HV:=Lib.hid (LValid_at f Wa (hin.ext hxa) hsz (HE.out.ext HXA.out))
   unfold FV.val at HV
   obtain ⟨b,hb⟩:∃ b,f.fct.ok=b:=⟨_,rfl⟩
   rw [hb] at HV
   have HBK:=Lib.hid hb
   clear hbx hxa hin hsz hb hf hF
   cases b with
   | false=>
    go_wp2_with fail
    refine HV.out.mono ?_
    rintro _ w2 ⟨rfl,hx2⟩
    have HX2:=Lib.hid (HXA.out.trans hx2)
    clear hx2
    go_wp2_with fail
    go_ret
    exact ⟨false,rfl,⟨fun h=>absurd h (by decide),fun h=>by
     have:=(h.2.2.2 k HKN.out).1
     rw [HAK.out,HBK.out] at this
     cases this⟩,HX2.out⟩
   | true=>
    have HAO:=Lib.hid (show (atF (xs.map FV.fct) k).ok=true by rw [HAK.out];exact HBK.out)
    by_cases hk0:k=0
    ·have q0:((k:Int)==0)=true:=by rw [hk0];rfl
     have HOS:=Lib.hid (ordTo_succ HO.out HAO.out (fun h=>absurd h (by omega)))
     clear hk0
     go_wp2_with fail
     refine HV.out.mono ?_
     rintro _ w2 ⟨rfl,hx2⟩
     have HX2:=Lib.hid (HXA.out.trans hx2)
     clear hx2
     go_wp2_with fail
     go_roundw
     case rel=>exact ⟨k+1,by go_num,by omega,HOS,HX2⟩
     case measure=>simp [intOf];omega
    ·have q0:((k:Int)==0)=false:=by rw [beq_eq_false_iff_ne];omega
     obtain ⟨j,hj⟩:∃ j,k=j+1:=⟨k-1,by omega⟩
     have ej:(k:Int)-1=(j:Int):=by omega
     have hjn:j<n:=by omega
     have hjx:j<xs.length:=by rw [HN.out];exact hjn
     have HJK:=Lib.hid hj
     have HAJ:=Lib.hid (atF_map hjx)
     obtain ⟨hinj,ad',hadr,jj⟩:=(HF.out.ext HX.out).at_ j hjx
     injection hadr with hadr
     subst hadr
     obtain ⟨g,hg⟩:∃ g,xs[j]=g:=⟨_,rfl⟩
     rw [hg] at jj HAJ
     have HJJ:=Lib.hid jj
     clear hk0 hj hjx hinj jj hg
     go_wp2_with fail
     refine HV.out.mono ?_
     rintro _ w2 ⟨rfl,hx2⟩
     have HX2:=Lib.hid (HXA.out.trans hx2)
     have hw2:=hxaw.out.trans hx2
     obtain ⟨z0,z1,z2,z3,z4,z5,z6,z7,z8,z9,z10,z11⟩:=HJJ.out
     have z0:=hw2.cell z0;have z1:=hw2.cell z1;have z2:=hw2.cell z2;have z3:=hw2.cell z3;have z4:=hw2.cell z4;have z5:=hw2.cell z5;have z6:=hw2.cell z6;have z7:=hw2.cell z7;have z8:=hw2.cell z8;have z9:=hw2.cell z9;have z10:=hw2.cell z10;have z11:=hw2.cell z11
     clear x0 x1 x2 x3 x4 x5 x6 x7 x8 x9 x10 x11 u0 u1 u2 u3 u4 u5 u6 u7 u8 u9 u10 u11
     obtain ⟨x0,x1,x2,x3,x4,x5,x6,x7,x8,x9,x10,x11⟩:=fv_cells (HBX.out.ext hx2)
     have hbx:=FBx.new w2 g
     have hxa:=(Ext.refl w2).alloc (.cells #[.int .i64 g.t,.int .i64 g.mi,.int .i64 g.kd,.int .i64 g.fk,.slice g.FA g.fb.length g.fc,.slice g.CA g.cp.length g.cc,.string g.cr,.slice g.SA g.sp.length g.sc,.string g.sr,.int .i64 g.co,.int .i64 g.pr,.int .u32 (g.fl.toNat:Int)] 41)
     obtain ⟨Wb,eb⟩:∃ Wb,w2.alloc (.cells #[.int .i64 g.t,.int .i64 g.mi,.int .i64 g.kd,.int .i64 g.fk,.slice g.FA g.fb.length g.fc,.slice g.CA g.cp.length g.cc,.string g.cr,.slice g.SA g.sp.length g.sc,.string g.sr,.int .i64 g.co,.int .i64 g.pr,.int .u32 (g.fl.toNat:Int)] 41)=Wb:=⟨_,rfl⟩
     rw [eb] at hbx hxa
     obtain ⟨y0,y1,y2,y3,y4,y5,y6,y7,y8,y9,y10,y11⟩:=fv_cells hbx
     have x0:=hxa.cell x0;have x1:=hxa.cell x1
     have HX5:=Lib.hid (HX2.out.trans hxa)
     have HGF:=Lib.hid (show atF (xs.map FV.fct) k=f.fct∧atF (xs.map FV.fct) j=g.fct from ⟨HAK.out,HAJ.out⟩)
     clear hbx hxa hw2 hx2
     by_cases hl1:f.t<g.t
     ·have HBT:=Lib.hid (show backB g.fct f.fct=true by unfold backB;rw [decide_eq_true (show f.fct.t<g.fct.t from hl1)];rfl)
      go_wp2_with fail
      go_ret
      refine ⟨false,rfl,⟨fun h=>absurd h (by decide),fun h=>?_⟩,HX5.out⟩
      have h2:=(h.2.2.2 k HKN.out).2 (by have:=HJK.out;omega)
      rw [show k-1=j by have:=HJK.out;omega,HGF.out.1,HGF.out.2,HBT.out] at h2
      cases h2
     ·by_cases hl2:f.t=g.t
      ·have hl2b:(f.t==g.t)=true:=by rw [hl2];exact beq_self_eq_true _
       by_cases hl3:f.mi<g.mi
       ·have HBT:=Lib.hid (show backB g.fct f.fct=true by unfold backB;rw [decide_eq_true (show f.fct.t=g.fct.t from hl2),decide_eq_true (show f.fct.mi<g.fct.mi from hl3),Bool.and_self,Bool.or_true])
        clear hl2
        go_wp2_with fail
        go_ret
        refine ⟨false,rfl,⟨fun h=>absurd h (by decide),fun h=>?_⟩,HX5.out⟩
        have h2:=(h.2.2.2 k HKN.out).2 (by have:=HJK.out;omega)
        rw [show k-1=j by have:=HJK.out;omega,HGF.out.1,HGF.out.2,HBT.out] at h2
        cases h2
       ·have HBT:=Lib.hid (show backB g.fct f.fct=false by unfold backB;rw [decide_eq_false (show ¬ f.fct.t<g.fct.t from hl1),decide_eq_false (show ¬ f.fct.mi<g.fct.mi from hl3),Bool.and_false];rfl)
        clear hl2
        go_wp2_with fail
        go_roundw
        case rel=>exact ⟨k+1,by go_num,by omega,Lib.hid (ordTo_succ HO.out HAO.out (fun _=>by rw [show k-1=j by have:=HJK.out;omega,HGF.out.1,HGF.out.2];exact HBT.out)),HX5⟩
        case measure=>simp [intOf];omega
      ·have hl2b:(f.t==g.t)=false:=beq_eq_false_iff_ne.2 hl2
       have HBT:=Lib.hid (show backB g.fct f.fct=false by unfold backB;rw [decide_eq_false (show ¬ f.fct.t<g.fct.t from hl1),decide_eq_false (show ¬ f.fct.t=g.fct.t from hl2)];rfl)
       clear hl2
       go_wp2_with fail
       go_roundw
       case rel=>exact ⟨k+1,by go_num,by omega,Lib.hid (ordTo_succ HO.out HAO.out (fun _=>by rw [show k-1=j by have:=HJK.out;omega,HGF.out.1,HGF.out.2];exact HBT.out)),HX5⟩
       case measure=>simp [intOf];omega
  ·obtain rfl:k=n:=by omega
   go_wp2_with fail
   go_ret
   refine ⟨true,rfl,⟨fun _=>⟨HA3.out.1,HA3.out.2.1,HA3.out.2.2,?_⟩,fun _=>rfl⟩,HX.out⟩
   rw [List.length_map,HN.out]
   exact HO.out
end Go.Proofs.YtnjmndofcpnmeaaGreatDoor
