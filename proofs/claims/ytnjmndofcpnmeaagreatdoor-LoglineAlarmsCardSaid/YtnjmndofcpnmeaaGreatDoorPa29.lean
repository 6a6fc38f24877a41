/- Pa29. -/
import Derived.Test.YtnjmndofcpnmeaaGreatDoorPa28
import Derived.Test.YtnjmndofcpnmeaaGreatDoorPa22
namespace Go.Proofs.YtnjmndofcpnmeaaGreatDoor
open Go Go.RowKit Go.Maps
set_option linter.unusedVariables false
def almZ:Value:=.agg #[.slice none 0 0,.string ⟨#[]⟩,.int .i64 0,.slice none 0 0,.int .i64 0,.int .i64 0,.int .i64 0,.int .i64 0]
theorem alm_info:∃ i:TypeInfo,Tryz.prog.info? 120=some i∧i.zero=some almZ∧i.size=8∧i.bytes=104:=
 info_parts (show (Tryz.prog.info? 120).map (fun i=>(i.zero,i.size,i.bytes))=some (some almZ,8,104) by kernel_rfl)
theorem alm_zs:almZ.cells.size=8:=rfl
theorem alm_zn:∀ x∈almZ.cells.toList,∀ n,x≠.int .u8 n:=by
 intro x hx n e
 subst e
 simp [almZ,Value.cells] at hx
def AVx (w:World)(g:Nat)(l:List Fct)(win:Int)(ad:Bool)(i:Nat):Prop:=w.heap[g]? = some (.cells #[.slice none 0 0,.string ⟨#[]⟩,.int .i64 0,.slice none 0 0,.int .i64 (cntF l win ad i:Int),.int .i64 (begF l win ad i),.int .i64 (atF l i).t,.int .i64 (i:Int)] 120 (0,0))
theorem AVx.cells {w:World}{g:Nat}{l:List Fct}{win:Int}{ad:Bool}{i:Nat}(h:AVx w g l win ad i):w.cell? ⟨g,0,none⟩=some (.slice none 0 0)∧w.cell? ⟨g,1,none⟩=some (.string ⟨#[]⟩)∧w.cell? ⟨g,2,none⟩=some (.int .i64 0)∧w.cell? ⟨g,3,none⟩=some (.slice none 0 0)∧w.cell? ⟨g,4,none⟩=some (.int .i64 (cntF l win ad i:Int))∧w.cell? ⟨g,5,none⟩=some (.int .i64 (begF l win ad i))∧w.cell? ⟨g,6,none⟩=some (.int .i64 (atF l i).t)∧w.cell? ⟨g,7,none⟩=some (.int .i64 (i:Int)):=by
 unfold AVx at h
 refine ⟨?_,?_,?_,?_,?_,?_,?_,?_⟩<;>(rw [cell_of_row _ _ _ _ _ (0,0) h];rfl)
theorem AVx.news {w:World}{g:Nat}{l:List Fct}{win:Int}{ad:Bool}{i:Nat}(h:AVx w g l win ad i):∀ j u,((EA l win ad).all [i])[j]? = some u→w.cell? ((⟨g,0,none⟩:Addr).add j)=some u:=fun j u hu=>by
 rw [Ek.all_one] at hu
 rw [add0,cell_of_row _ _ j _ _ (0,0) h,← hu]
 show _=(almV l win ad i)[j]?
 unfold almV
 rw [← List.getElem?_toArray]
theorem find_mem {f:Nat→Bool}(g:List Nat)(i:Nat)(h:g.find? f=some i):i∈g:=List.mem_of_find?_eq_some h
theorem grpK_who {l:List Fct}{ad:Bool}{s:List UInt8}(h:grpK l.length (fun j=>failB (atF l j)) (fun j=>keyF ad (atF l j)) s≠[]):∃ x,grpK l.length (fun j=>failB (atF l j)) (fun j=>keyF ad (atF l j)) s=grpF l ad x:=by
 obtain ⟨j,_,_,e⟩:=grpK_ne.1 h
 exact ⟨who ad (atF l j),by rw [← e,grpK_F]⟩
theorem alm_ex {l:List Fct}{win lim:Int}{ad:Bool}{i:Nat}:(∃ s,(grpK l.length (fun j=>failB (atF l j)) (fun j=>keyF ad (atF l j)) s).find? (hitF l win lim ad)=some i) ↔ ∃ x,(grpF l ad x).find? (hitF l win lim ad)=some i:=by
 constructor
 ·rintro ⟨s,h⟩
  obtain ⟨x,hx⟩:=grpK_who (List.ne_nil_of_mem (find_mem _ _ h))
  exact ⟨x,by rw [← hx];exact h⟩
 ·rintro ⟨x,h⟩
  have hm:=(grp_mem.1 (find_mem _ _ h)).2.2
  exact ⟨keyF ad (atF l i),by rw [grpK_F,hm];exact h⟩
set_option maxRecDepth 100000 in
set_option maxHeartbeats 800000 in
theorem alarms_at (ad:Bool) (fK fC:Nat) (A:Option Addr) (c:Nat) (xs:List FV) (win lim:Int) (w:World) (hF:FS w (.slice A xs.length c) xs) (hn:xs.length≤1000) (hz:∀ f∈xs,f.Sz) (ht:∀ f∈xs,0≤f.t∧f.t≤1099511627776) (hp:Pow w)
  (hor:ordT (xs.map FV.fct)) (hw0:0≤win) (hw1:win≤1099511627776) (hl:i64B lim)
  (hEK:∀ (args:Array Value) (W:World),(callFunc fK args).run Tryz.prog W=.ok (.enter fK args) W) (hEC:∀ (args:Array Value) (W:World),(callFunc fC args).run Tryz.prog W=.ok (.enter fC args) W)
  (hK:∀ f∈xs,∀ W,f.In W→Ext w W→Calls Tryz.prog fK #[f.val] W fun e w'=>e=.returned (.string ⟨(keyF ad f.fct).toArray⟩)∧Ext W w')
  (hkl:∀ f∈xs,(keyF ad f.fct).length≤2000000)
  (hC:∀ W B b m D js,TAL W B b m D js (fun j=>keyF false (atF (xs.map FV.fct) j))→Calls Tryz.prog fC #[.pointer (some ⟨b,0,none⟩)] W fun e w'=>e=.returned (.int .i64 (cJ ad js (fun j=>keyF false (atF (xs.map FV.fct) j)):Int))∧Ext W w'):
  Calls Tryz.prog 62 #[.slice A xs.length c,.int .i64 win,.int .i64 lim,.func (.func fK) #[] #[],.func (.func fC) #[] #[]] w fun e w'=>(∃ v,e=.returned v∧RDS (EA (xs.map FV.fct) win ad) w' v (almF (xs.map FV.fct) win lim ad))∧Ext w w':=by
 have hgr:=group_at 118 fK failB (keyF ad) A c xs w hF hn (enters_of Tryz.func118 (by kernel_rfl) rfl) hEK (fun f hf W hM hx=>failure_at f W hM (hz f hf)) hK hkl
 have hL:(xs.map FV.fct).length=xs.length:=List.length_map ..
 have HFI:=Lib.hid (fun (g:List Nat) (G:Option Addr) (gc:Nat) (x:Who) (W:World) (hx:Ext w W) (hg:g=grpF (xs.map FV.fct) ad x) (hG:RS W (.slice G g.length gc) (iv g))=>first_at ad fC A c xs G gc g x win lim W (hF.ext hx) hn hz ht (hp.ext hx) hor hg hG hw0 hw1 hl hEC hC)
 have HGR:=Lib.hid hgr;have HLL:=Lib.hid hL
 obtain ⟨_,c',he,hc1,hc2⟩:=hF.shape
 injection he with e1 _ e3
 subst e1;subst e3
 obtain ⟨i0,hi,iz0,iz1,iz2⟩:=alm_info
 obtain ⟨n,hn'⟩:∃ n,xs.length=n:=⟨_,rfl⟩
 have HN:=Lib.hid hn'
 clear hgr hL hF hz ht hp hor hEK hEC hK hkl hC
 rw [hn'] at hc1 hn ⊢ HGR HLL HFI
 clear hn'
 go_enter Tryz.func62,Tryz.ntmps62
 go_wp2_with fail
 refine HGR.out.mono ?_
 rintro _ w1 ⟨D,rfl,hgm,hgd,hx1⟩
 have HX1:=Lib.hid hx1;have HGD:=Lib.hid hgd
 have hown:=hgm.owns
 have hbl:=hown.lt
 clear hx1 hgm hgd
 go_wp2_with (first
  | (at_range;refine wpList_range_own _ rfl _ 124 rfl 9 126 lawStr Tryz.underlying124 _ w.heap.size n D rfl hown ?_;intro w0 hrg0 hg0 hs0)
  | fail)
 go_frame
 have HX0:=Lib.hid (show Ext w1 w0 from Below.grown (Below.refl _ _) hg0 (Nat.le_refl _) (fun j hj=>by cases hj))
 generalize hR:rowElem (H:=Unit) w1 (w.heap.size+1) 3 .i64=R at *
 have HR:=Lib.hid hR
 clear hR hown hg0
 go_loopw [11,13,14,15] (fun v11 _ _ _ wr=>∃ (left:Lit→Bool) (cnt:Nat) (js:List Nat) (FA:Option Addr) (fc:Nat),v11=.slice FA js.length fc∧wr.ranges Tryz.prog 9 R w.heap.size w1.heap.size n D left cnt∧Hid (ROW (EA (xs.map FV.fct) win ad) 120 wr w1.heap.size (.slice FA js.length fc) js)∧Hid (COL D left n (fun j=>failB (atF (xs.map FV.fct) j)) (fun j=>keyF ad (atF (xs.map FV.fct) j)) (fun g=>g.find? (hitF (xs.map FV.fct) win lim ad)) js)∧Hid (LFT D left)∧Hid (Ext w1 wr)) (fun _ _ _ _ wr=>wr.rangeLeft w.heap.size w1.heap.size)
 case atStart=>exact ⟨_,_,[],none,0,rfl,hrg0,Lib.hid (ROW.nil _ _ _),Lib.hid COL.start,Lib.hid (LFT.start D),HX0⟩
 case round=>
  obtain ⟨left,cnt,js,FA,fc,rfl,hrg,HRW,HCO,HLF,HX⟩:=hrel
  have HJL:=Lib.hid (HCO.out.len find_mem)
  go_wp2_with (first
   | (at_next;refine wpList_next_ranges (α:=ByteArray) (β:=Option Addr × Nat × Nat) _ rfl _ rfl 9 lawStr R Value.string mkS key_shape (by rw [← HR.out];exact elem_shape) w.heap.size w1.heap.size n _ _ _ rfl hrg ?_ ?_)
   | fail)
  ·intro hc0 hl0
   have hso:=sortAlarms_at (xs.map FV.fct) win ad js HCO.out.1 (by have:=HJL.out;omega) w1.heap.size _ wr HRW.out
   have HSO:=Lib.hid hso
   have HIN:=Lib.hid (show ∀ i,i∈js ↔ ∃ x,(grpF (xs.map FV.fct) ad x).find? (hitF (xs.map FV.fct) win lim ad)=some i from fun i=>by
    rw [HCO.out.fin find_mem HGD.out hl0 i,← alm_ex,HLL.out])
   clear hso hrg
   go_wp2_with fail
   refine HSO.out.mono ?_
   rintro _ w3 ⟨rfl,ys,hys,hym,hrd,hb3⟩
   have hya:ys=almF (xs.map FV.fct) win lim ad:=alms_of hys fun i=>by rw [hym,HIN.out]
   subst hya
   have HRD:=Lib.hid hrd
   have HX3:=Lib.hid (HX1.out.trans (below_ext HX.out hb3))
   clear hrd hb3 hys hym
   go_wp2_with fail
   go_ret
   exact ⟨⟨_,rfl,HRD.out⟩,HX3.out⟩
  ·intro x GA0 gn gc0 kl yd yp w2 cnt2 hkey hlk hRv hat hrg2 hlt2 hg2 hs2 hen
   obtain rfl:=key_lit x kl hkey
   rw [← HR.out] at hRv
   obtain ⟨GA,gc,hv,hrs⟩:=elem_iv HGD.out hRv hat
   have hne:grpK n (fun j=>failB (atF (xs.map FV.fct) j)) (fun j=>keyF ad (atF (xs.map FV.fct) j)) x.data.toList≠[]:=(HGD.out.has _).1 (HLF.out _ hlk)
   obtain ⟨q,hq⟩:=grpK_who (l:=xs.map FV.fct) (ad:=ad) (s:=x.data.toList) (by rw [HLL.out];exact hne)
   rw [HLL.out] at hq
   have hx2:Ext w1 w2:=Below.grown HX.out hg2 HX.out.size (fun j hj=>by cases hj;exact Nat.le_refl _)
   have hrw2:=HRW.out.keep hg2 (fun b hb=>by
    injection hb with hb
    subst hb
    have hnc:=(ranges_nc hrg).1
    exact ⟨fun e=>row_ne HRW.out hnc e.symm,hnc.noU8,fun x _=>id⟩)
   have hpass:=HCO.out.pass (s:=x.data.toList)
   have hhit:=fun i=>HCO.out.hit (i:=i) find_mem (HLF.out _ hlk) hlk
   have hlf2:=HLF.out.step (.string x.data.toList)
   generalize hg:grpK n (fun j=>failB (atF (xs.map FV.fct) j)) (fun j=>keyF ad (atF (xs.map FV.fct) j)) x.data.toList=g at *
   have hfi:=HFI.out g GA gc q w2 (HX1.out.trans hx2) hq (hrs.ext hx2)
   have HHIT:=Lib.hid hhit;have HPASS:=Lib.hid hpass;have HLF2:=Lib.hid hlf2;have HRW2:=Lib.hid hrw2;have HX2:=Lib.hid hx2;have HFI2:=Lib.hid hfi
   rw [hv] at hen ⊢
   clear hhit hpass hlf2 hrw2 hx2 hfi hv hrs hne hq hRv hat hlk hg hkey hg2
   go_wp2_with fail
   refine HFI2.out.mono ?_
   rintro e w3 ⟨hres,hx3⟩
   have HX3:=Lib.hid (HX2.out.trans hx3)
   have HRW3:=Lib.hid (HRW2.out.ext hx3)
   have hrg3:=hrg2.kept (hx3.but none) (by simp) (by simp)
   clear hx3
   rcases hres with ⟨i,hfd,rfl⟩ | ⟨hfd,rfl⟩
   ·have HCO3:=Lib.hid (HHIT.out i hfd)
    clear hfd
    unfold alm0
    have a4:AVx (w3.alloc (.cells #[.slice none 0 0,.string ⟨#[]⟩,.int .i64 0,.slice none 0 0,.int .i64 (cntF (xs.map FV.fct) win ad i:Int),.int .i64 (begF (xs.map FV.fct) win ad i),.int .i64 (atF (xs.map FV.fct) i).t,.int .i64 (i:Int)] 120)) w3.heap.size (xs.map FV.fct) win ad i:=heap_alloc_new w3 _
    have x4:=(Ext.refl w3).alloc (.cells #[.slice none 0 0,.string ⟨#[]⟩,.int .i64 0,.slice none 0 0,.int .i64 (cntF (xs.map FV.fct) win ad i:Int),.int .i64 (begF (xs.map FV.fct) win ad i),.int .i64 (atF (xs.map FV.fct) i).t,.int .i64 (i:Int)] 120)
    obtain ⟨W4,e4⟩:∃ W,w3.alloc (.cells #[.slice none 0 0,.string ⟨#[]⟩,.int .i64 0,.slice none 0 0,.int .i64 (cntF (xs.map FV.fct) win ad i:Int),.int .i64 (begF (xs.map FV.fct) win ad i),.int .i64 (atF (xs.map FV.fct) i).t,.int .i64 (i:Int)] 120)=W:=⟨_,rfl⟩
    rw [e4] at a4 x4
    have a5:AVx (W4.alloc (.cells #[.slice none 0 0,.string ⟨#[]⟩,.int .i64 0,.slice none 0 0,.int .i64 (cntF (xs.map FV.fct) win ad i:Int),.int .i64 (begF (xs.map FV.fct) win ad i),.int .i64 (atF (xs.map FV.fct) i).t,.int .i64 (i:Int)] 120)) W4.heap.size (xs.map FV.fct) win ad i:=heap_alloc_new W4 _
    have x5:=(Ext.refl W4).alloc (.cells #[.slice none 0 0,.string ⟨#[]⟩,.int .i64 0,.slice none 0 0,.int .i64 (cntF (xs.map FV.fct) win ad i:Int),.int .i64 (begF (xs.map FV.fct) win ad i),.int .i64 (atF (xs.map FV.fct) i).t,.int .i64 (i:Int)] 120)
    obtain ⟨W5,e5⟩:∃ W,W4.alloc (.cells #[.slice none 0 0,.string ⟨#[]⟩,.int .i64 0,.slice none 0 0,.int .i64 (cntF (xs.map FV.fct) win ad i:Int),.int .i64 (begF (xs.map FV.fct) win ad i),.int .i64 (atF (xs.map FV.fct) i).t,.int .i64 (i:Int)] 120)=W:=⟨_,rfl⟩
    rw [e5] at a5 x5
    have HA5:=Lib.hid a5
    obtain ⟨c0,c1,c2,c3,c4,c5,c6,c7⟩:=a4.cells
    have HRW5:=Lib.hid (HRW3.out.ext (x4.trans x5))
    have hrg5:=hrg3.kept ((x4.trans x5).but none) (by simp) (by simp)
    have HX5:=Lib.hid (HX3.out.trans (x4.trans x5))
    have HS5:=Lib.hid HX5.out.size
    have HBY:=Lib.hid (show (js.length + [i].length)*104≤140737488355328 by have:=HJL.out;simp only [List.length_singleton];omega)
    clear a4 x4 a5 x5
    go_wp2_with (first
     | (at_builtin;refine wpList_append_row (E:=EA (xs.map FV.fct) win ad) W5 rfl (.tmp 34) (.tmp 36) 114 rfl w1.heap.size 120 i0 almZ 104 Tryz.underlying114 hi iz0 iz1 iz2 alm_zs alm_zn _ js rfl HRW5.out ⟨W4.heap.size,0,none⟩ 1 [i] rfl (by show 0<1;decide) HA5.out.news (fun y hy=>⟨trivial,fun b _=>id⟩) HBY.out (by decide) HS5.out ?_;intro v6 w6 hown6 hg6 ho6;obtain ⟨A6,c6',rfl⟩:=hown6.shape)
     | fail)
    obtain ⟨hnr,hnb⟩:=ranges_nc hrg5
    have hrg6:=hrg5.kept hg6 (row_ne HRW5.out hnb) (row_ne HRW5.out hnr)
    have HX6:=Lib.hid (show Ext w1 w6 from Below.grown HX5.out hg6 HX5.out.size (fun j hj=>(HRW5.out.lt j hj).1))
    have HRW6:=Lib.hid hown6
    clear hown6 hg6 ho6 hnr hnb
    go_roundw
    case rel=>exact ⟨_,cnt2,js++[i],A6,c6',by rw [List.length_append];rfl,hrg6,HRW6,HCO3,HLF2,HX6⟩
    case measure=>rw [hrg6.left_eq,hrg.left_eq];exact hlt2
   ·have HCO3:=Lib.hid (HPASS.out hfd)
    clear hfd
    unfold alm0
    go_wp2_with fail
    go_roundw
    case rel=>exact ⟨_,cnt2,js,FA,fc,rfl,hrg3.alloc _,Lib.hid (HRW3.out.ext ((Ext.refl _).alloc _)),HCO3,HLF2,Lib.hid (HX3.out.trans ((Ext.refl _).alloc _))⟩
    case measure=>rw [(hrg3.alloc _).left_eq,hrg.left_eq];exact hlt2
end Go.Proofs.YtnjmndofcpnmeaaGreatDoor
