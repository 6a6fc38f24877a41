/- Pa37. -/
import Derived.Test.YtnjmndofcpnmeaaGreatDoorPa0
import Derived.Test.YtnjmndofcpnmeaaGreatDoorPa36
import Derived.Test.YtnjmndofcpnmeaaGreatDoorPa22
import Derived.Test.YtnjmndofcpnmeaaGreatDoorPa20
import Derived.Test.YtnjmndofcpnmeaaGreatDoorPa2
import Derived.Deep.Quiet
import Derived.OrdersIn
import Derived.Test.YtnjmndofcpnmeaaGreatDoorPa3
import Derived.TacticsIn
namespace Go.Proofs.YtnjmndofcpnmeaaGreatDoor
open Go Go.RowKit
set_option linter.unusedVariables false
structure M1 (w:World) (g:Nat) (m:MV):Prop where
 cells:w.cell? ⟨g,0,none⟩=some (.slice m.CA m.cp.length m.cc)∧w.cell? ⟨g,1,none⟩=some (.string m.cr)∧w.cell? ⟨g,2,none⟩=some (.int .i64 m.fk)∧w.cell? ⟨g,3,none⟩=some (.slice m.FA m.fb.length m.fc)∧w.cell? ⟨g,4,none⟩=some (.int .i64 m.n)∧w.cell? ⟨g,5,none⟩=some (.int .i64 m.b)∧w.cell? ⟨g,6,none⟩=some (.int .i64 m.t)
theorem M1.ext {w w':World}{g:Nat}{m:MV}(h:M1 w g m)(hx:Ext w w'):M1 w' g m:=by
 obtain ⟨u0,u1,u2,u3,u4,u5,u6⟩:=h.cells
 exact ⟨hx.cell u0,hx.cell u1,hx.cell u2,hx.cell u3,hx.cell u4,hx.cell u5,hx.cell u6⟩
theorem ROW.head {α:Type}{E:Ek α}{e:TypeId}{w:World}{B:Nat}{v:Value}{xs:List α}(h:ROW E e w B v xs)(hn:0<xs.length):∃ g c,v=.slice (some ⟨g,0,none⟩) xs.length c:=by
 rcases h.2.1.2 with ⟨_,h0⟩ | ⟨g,cap,cur,rfl,_⟩
 ·omega
 ·exact ⟨g,cap,rfl⟩
theorem ROW.m1 {w:World}{B:Nat}{v:Value}{m:MV}(h:ROW EM 50 w B v [m]):∃ g c,v=.slice (some ⟨g,0,none⟩) 1 c∧m.In w∧M1 w g m:=by
 obtain ⟨g,c,rfl⟩:=h.head (by simp)
 obtain ⟨A,c',e1,_,_,h4⟩:=h.cells
 obtain ⟨hin,ad,hA,hc⟩:=h4 0 (by simp)
 injection e1 with e1 _ _
 rw [hA] at e1
 injection e1 with e1
 subst e1
 have k:∀ j u,(MV.cs m)[j]? = some u→w.cell? ⟨g,j,none⟩=some u:=fun j u hu=>by
  have:=hc j u hu
  rw [Nat.zero_mul,Nat.zero_add,add0] at this
  exact this
 exact ⟨g,c,rfl,hin,⟨k 0 _ rfl,k 1 _ rfl,k 2 _ rfl,k 3 _ rfl,k 4 _ rfl,k 5 _ rfl,k 6 _ rfl⟩⟩
theorem same_X (A:Option Addr)(n x y:Int)(m:MV)(hm:m.alm=(mX none n x y).alm):m.cp.length=1∧sameA m (mX A n x y)=true:=by
 refine ⟨?_,sameA_alm (by rw [hm];rfl)⟩
 have:=congrArg (fun a:Alm=>a.cp.length) hm
 dsimp only [MV.alm] at this
 rw [dat_length] at this
 exact this
set_option maxRecDepth 100000 in
set_option maxHeartbeats 1600000 in
theorem alarm_one (win lim n x y:Int) (h0:0≤win) (h1:win≤1099511627776) (h2:1≤lim) (h3:lim≤1000) (hn:(n==0)=false) (ha:(almF l3E win lim false).map (almO l3E win false)=[(mX none n x y).alm]) (w:World) (hE:EnvA w):
  Calls Tryz.prog 32 #[.int .i64 win,.int .i64 lim,.int .i64 n,.int .i64 x,.int .i64 y] w fun e w'=>e=.returned (.bool true)∧Ext w w':=by
 have HAL:=Lib.hid ha
 clear ha
 have HN:=Lib.hid hn
 clear hn
 have HS:=Lib.hid (sample_at w)
 unfold FV.val at HS
 have HE:=Lib.hid hE
 have HC:=Lib.hid (fun b A W (hF:FS W (.slice A 3 3) [gX 103 b,gX 103 b,gX 109 b]) (hE:EnvA W)=>clients3_at win lim h0 h1 h2 h3 b A W hF hE)
 clear h0 h1 h2 h3 hE
 go_enter Tryz.func32,Tryz.ntmps32
 go_wp2_with fail
 refine HS.out.mono ?_
 rintro _ w1 ⟨⟨b,rfl,hS⟩,hx1⟩
 have HX1:=Lib.hid hx1
 obtain ⟨W2,e2,z1,z2,hx2⟩:=two_vars w1
 have HSX:=Lib.hid hS;have HX2:=Lib.hid hx2
 have tok1:True:=trivial
 have tok2:True:=trivial
 clear hS hx1 hx2
 go_upto_region 2 with (first
  | (refine wpList_store_var W2 rfl (.tmp 11) (.tmp 18) 41 rfl w1.heap.size 41 #[.int .i64 0,.int .i64 0,.int .i64 0,.int .i64 0,.slice none 0 0,.slice none 0 0,.string ⟨#[]⟩,.slice none 0 0,.string ⟨#[]⟩,.int .i64 0,.int .i64 0,.int .u32 0] #[.int .i64 100,.int .i64 5,.int .i64 10,.int .i64 2,.slice (some ⟨b,0,none⟩) 4 4,.slice (some ⟨b+1,0,none⟩) 1 1,.string ⟨#[82]⟩,.slice (some ⟨b+1+1,0,none⟩) 2 2,.string ⟨#[82]⟩,.int .i64 0,.int .i64 2,.int .u32 257] rfl rfl (Tryz.sizeOf41 W2) z1 rfl (one8 rfl) ?_;intro WA hA hgA;have z2A:=(hgA.block (w1.heap.size+1) (Array.getElem?_eq_some_iff.1 z2).1 (by simp)).trans z2)
  | (refine wpList_store_var _ rfl (.tmp 12) (.tmp 19) 41 rfl (w1.heap.size+1) 41 #[.int .i64 0,.int .i64 0,.int .i64 0,.int .i64 0,.slice none 0 0,.slice none 0 0,.string ⟨#[]⟩,.slice none 0 0,.string ⟨#[]⟩,.int .i64 0,.int .i64 0,.int .u32 0] #[.int .i64 103,.int .i64 5,.int .i64 10,.int .i64 2,.slice (some ⟨b,0,none⟩) 4 4,.slice (some ⟨b+1,0,none⟩) 1 1,.string ⟨#[82]⟩,.slice (some ⟨b+1+1,0,none⟩) 2 2,.string ⟨#[82]⟩,.int .i64 24,.int .i64 0,.int .u32 0] rfl rfl (Tryz.sizeOf41 _) z2A rfl (one8 rfl) ?_;intro WB bG hgB)
  | fail)
 have hxB:Ext w1 WB:=Below.grown (Below.grown HX2.out hgA HX2.out.size (fun j hj=>by cases hj;exact Nat.le_refl _)) hgB (Nat.le_trans HX2.out.size hgA.size) (fun j hj=>by cases hj;exact Nat.le_succ _)
 have hSB:=HSX.out.ext hxB
 clear e2 z1 z2 z2A hA hgA hgB
 obtain ⟨⟨kc0,kc1,kc2,kc3,kc4,kc5,kc6,kc7,kc8,kc9,kc10,kc11⟩,_⟩:=rw12 (show RW WB (w1.heap.size+1) 41 #[.int .i64 103,.int .i64 5,.int .i64 10,.int .i64 2,.slice (some ⟨b,0,none⟩) 4 4,.slice (some ⟨b+1,0,none⟩) 1 1,.string ⟨#[82]⟩,.slice (some ⟨b+1+1,0,none⟩) 2 2,.string ⟨#[82]⟩,.int .i64 24,.int .i64 0,.int .u32 0] from bG)
 have zZ:=heap_alloc_new WB (.cells #[.int .i64 0,.int .i64 0,.int .i64 0,.int .i64 0,.slice none 0 0,.slice none 0 0,.string ⟨#[]⟩,.slice none 0 0,.string ⟨#[]⟩,.int .i64 0,.int .i64 0,.int .u32 0] 41)
 have xZ:=(Ext.refl WB).alloc (.cells #[.int .i64 0,.int .i64 0,.int .i64 0,.int .i64 0,.slice none 0 0,.slice none 0 0,.string ⟨#[]⟩,.slice none 0 0,.string ⟨#[]⟩,.int .i64 0,.int .i64 0,.int .u32 0] 41)
 obtain ⟨WZ,eZ⟩:∃ W,WB.alloc (.cells #[.int .i64 0,.int .i64 0,.int .i64 0,.int .i64 0,.slice none 0 0,.slice none 0 0,.string ⟨#[]⟩,.slice none 0 0,.string ⟨#[]⟩,.int .i64 0,.int .i64 0,.int .u32 0] 41)=W:=⟨_,rfl⟩
 rw [eZ] at zZ xZ
 go_upto_region 3 with (first
  | (refine wpList_store_var WZ rfl (.tmp 13) (.tmp 20) 41 rfl WB.heap.size 41 #[.int .i64 0,.int .i64 0,.int .i64 0,.int .i64 0,.slice none 0 0,.slice none 0 0,.string ⟨#[]⟩,.slice none 0 0,.string ⟨#[]⟩,.int .i64 0,.int .i64 0,.int .u32 0] #[.int .i64 103,.int .i64 5,.int .i64 10,.int .i64 2,.slice (some ⟨b,0,none⟩) 4 4,.slice (some ⟨b+1,0,none⟩) 1 1,.string ⟨#[82]⟩,.slice (some ⟨b+1+1,0,none⟩) 2 2,.string ⟨#[82]⟩,.int .i64 24,.int .i64 0,.int .u32 0] rfl rfl (Tryz.sizeOf41 WZ) zZ rfl (one8 rfl) ?_;intro WC b3 hg3)
  | fail)
 have x3:Ext WB WC:=Below.grown xZ hg3 xZ.size (fun j hj=>by cases hj;exact Nat.le_refl _)
 clear eZ zZ xZ hg3
 change RW WC WB.heap.size 41 #[.int .i64 103,.int .i64 5,.int .i64 10,.int .i64 2,.slice (some ⟨b,0,none⟩) 4 4,.slice (some ⟨b+1,0,none⟩) 1 1,.string ⟨#[82]⟩,.slice (some ⟨b+1+1,0,none⟩) 2 2,.string ⟨#[82]⟩,.int .i64 24,.int .i64 0,.int .u32 0] at b3
 obtain ⟨⟨kd0,kd1,kd2,kd3,kd4,kd5,kd6,kd7,kd8,kd9,kd10,kd11⟩,kdz0,_⟩:=rw12 b3
 have b4:RW (WC.setCell ⟨WB.heap.size,0,none⟩ (.int .i64 109)) WB.heap.size 41 #[.int .i64 109,.int .i64 5,.int .i64 10,.int .i64 2,.slice (some ⟨b,0,none⟩) 4 4,.slice (some ⟨b+1,0,none⟩) 1 1,.string ⟨#[82]⟩,.slice (some ⟨b+1+1,0,none⟩) 2 2,.string ⟨#[82]⟩,.int .i64 24,.int .i64 0,.int .u32 0]:=b3.set 0 (.int .i64 109)
 have x4:=x3.setCell (p:=⟨WB.heap.size,0,none⟩) (Nat.le_refl _) (.int .i64 109)
 obtain ⟨WD,eD⟩:∃ W,WC.setCell ⟨WB.heap.size,0,none⟩ (.int .i64 109)=W:=⟨_,rfl⟩
 rw [eD] at b4 x4
 obtain ⟨⟨ke0,ke1,ke2,ke3,ke4,ke5,ke6,ke7,ke8,ke9,ke10,ke11⟩,_⟩:=rw12 b4
 obtain ⟨⟨kf0,kf1,kf2,kf3,kf4,kf5,kf6,kf7,kf8,kf9,kf10,kf11⟩,_⟩:=rw12 (show RW WD (w1.heap.size+1) 41 #[.int .i64 103,.int .i64 5,.int .i64 10,.int .i64 2,.slice (some ⟨b,0,none⟩) 4 4,.slice (some ⟨b+1,0,none⟩) 1 1,.string ⟨#[82]⟩,.slice (some ⟨b+1+1,0,none⟩) 2 2,.string ⟨#[82]⟩,.int .i64 24,.int .i64 0,.int .u32 0] from RW.ext bG x4)
 have hSD:=hSB.ext x4
 have f5:=FS.new WD [gX 103 b,gX 103 b,gX 109 b] (show 3≤maxLen by decide) (l3_in hSD)
 have x5:=(Ext.refl WD).alloc (.cells #[.int .i64 103,.int .i64 5,.int .i64 10,.int .i64 2,.slice (some ⟨b,0,none⟩) 4 4,.slice (some ⟨b+1,0,none⟩) 1 1,.string ⟨#[82]⟩,.slice (some ⟨b+1+1,0,none⟩) 2 2,.string ⟨#[82]⟩,.int .i64 24,.int .i64 0,.int .u32 0,.int .i64 103,.int .i64 5,.int .i64 10,.int .i64 2,.slice (some ⟨b,0,none⟩) 4 4,.slice (some ⟨b+1,0,none⟩) 1 1,.string ⟨#[82]⟩,.slice (some ⟨b+1+1,0,none⟩) 2 2,.string ⟨#[82]⟩,.int .i64 24,.int .i64 0,.int .u32 0,.int .i64 109,.int .i64 5,.int .i64 10,.int .i64 2,.slice (some ⟨b,0,none⟩) 4 4,.slice (some ⟨b+1,0,none⟩) 1 1,.string ⟨#[82]⟩,.slice (some ⟨b+1+1,0,none⟩) 2 2,.string ⟨#[82]⟩,.int .i64 24,.int .i64 0,.int .u32 0] 41)
 change FS (WD.alloc (.cells #[.int .i64 103,.int .i64 5,.int .i64 10,.int .i64 2,.slice (some ⟨b,0,none⟩) 4 4,.slice (some ⟨b+1,0,none⟩) 1 1,.string ⟨#[82]⟩,.slice (some ⟨b+1+1,0,none⟩) 2 2,.string ⟨#[82]⟩,.int .i64 24,.int .i64 0,.int .u32 0,.int .i64 103,.int .i64 5,.int .i64 10,.int .i64 2,.slice (some ⟨b,0,none⟩) 4 4,.slice (some ⟨b+1,0,none⟩) 1 1,.string ⟨#[82]⟩,.slice (some ⟨b+1+1,0,none⟩) 2 2,.string ⟨#[82]⟩,.int .i64 24,.int .i64 0,.int .u32 0,.int .i64 109,.int .i64 5,.int .i64 10,.int .i64 2,.slice (some ⟨b,0,none⟩) 4 4,.slice (some ⟨b+1,0,none⟩) 1 1,.string ⟨#[82]⟩,.slice (some ⟨b+1+1,0,none⟩) 2 2,.string ⟨#[82]⟩,.int .i64 24,.int .i64 0,.int .u32 0] 41)) (.slice (some ⟨WD.heap.size,0,none⟩) 3 3) _ at f5
 obtain ⟨WE,eE⟩:∃ W,WD.alloc (.cells #[.int .i64 103,.int .i64 5,.int .i64 10,.int .i64 2,.slice (some ⟨b,0,none⟩) 4 4,.slice (some ⟨b+1,0,none⟩) 1 1,.string ⟨#[82]⟩,.slice (some ⟨b+1+1,0,none⟩) 2 2,.string ⟨#[82]⟩,.int .i64 24,.int .i64 0,.int .u32 0,.int .i64 103,.int .i64 5,.int .i64 10,.int .i64 2,.slice (some ⟨b,0,none⟩) 4 4,.slice (some ⟨b+1,0,none⟩) 1 1,.string ⟨#[82]⟩,.slice (some ⟨b+1+1,0,none⟩) 2 2,.string ⟨#[82]⟩,.int .i64 24,.int .i64 0,.int .u32 0,.int .i64 109,.int .i64 5,.int .i64 10,.int .i64 2,.slice (some ⟨b,0,none⟩) 4 4,.slice (some ⟨b+1,0,none⟩) 1 1,.string ⟨#[82]⟩,.slice (some ⟨b+1+1,0,none⟩) 2 2,.string ⟨#[82]⟩,.int .i64 24,.int .i64 0,.int .u32 0] 41)=W:=⟨_,rfl⟩
 rw [eE] at f5 x5
 have HX5:=Lib.hid (((HX1.out.trans hxB).trans x4).trans x5)
 have HCC:=Lib.hid (HC.out b _ WE f5 (HE.out.ext HX5.out))
 have HGB:=Lib.hid (show FBx WB (w1.heap.size+1) (gX 103 b) from bG);have HX45:=Lib.hid (x4.trans x5);have HSE:=Lib.hid (hSD.ext x5)
 clear bG hxB hSB b3 x3 b4 x4 hSD f5 x5
 have hn:=HN.out
 go_wp2_with fail
 refine HCC.out.mono ?_
 rintro _ w6 ⟨⟨v,ms,rfl,hrow,hms⟩,hx6⟩
 obtain ⟨m,rfl,hm⟩:=ms_one (hms.trans HAL.out)
 obtain ⟨g,c,rfl,hin,hM1⟩:=hrow.m1
 obtain ⟨hl1,hsa⟩:=same_X (some ⟨b+1,0,none⟩) n x y m hm
 have HX6:=Lib.hid (HX5.out.trans hx6)
 have HG6:=Lib.hid (HGB.out.ext (HX45.out.trans hx6))
 have hS6:=HSE.out.ext hx6
 have HSA:=Lib.hid (fun W (hW:Ext w6 W)=>by
  have k:=SameA_at m (mX (some ⟨b+1,0,none⟩) n x y) W (hin.ext hW) ⟨hS6.2.1.ext hW,RS.nil W⟩ (by omega) (show 1≤1000 by decide)
  rw [hsa] at k
  exact k)
 have HMR:=Lib.hid hM1
 clear hrow hms hx6 hm hin hM1 hl1 hsa hS6
 go_upto_region 7 with fail
 refine wp_region_ext (fun i v' w'=>match i with | 17=>v'=.bool true | _=>False) (by kernel_rfl) (by kernel_rfl) ?_
 refine wpE_op rfl rfl (fun w' hw' K' hK'=>?_)
 have hE:=hw'.1
 go_step
 refine hK' _ ⟨_,rfl⟩ ?_
 clear hK' K' hE hw' w'
 refine wpE_op rfl rfl (fun w' hw' K' hK'=>?_)
 have hE:=hw'.1
 go_step
 refine hK' _ ⟨_,rfl⟩ ?_
 clear hK' K' hE hw' w'
 refine wpE_op rfl rfl (fun w' hw' K' hK'=>?_)
 have hE:=hw'.1
 go_step
 refine hK' _ ⟨_,rfl⟩ ?_
 clear hK' K' hE hw' w'
 refine wpE_op (by kernel_rfl) rfl (fun w' hw' K' hK'=>?_)
 have hE:=hw'.1
 go_step
 refine hK' _ ⟨_,rfl⟩ ?_
 clear hK' K' hE hw' w'
 refine wpE_op (by kernel_rfl) rfl (fun w' hw' K' hK'=>?_)
 have hE:=hw'.1
 go_step
 refine hK' _ ⟨_,rfl⟩ ?_
 clear hK' K' hE hw' w'
 refine wpE_op (by kernel_rfl) rfl (fun w' hw' K' hK'=>?_)
 have hE:=hw'.1
 go_step
 refine hK' _ ⟨_,rfl⟩ ?_
 clear hK' K' hE hw' w'
 refine wpE_op rfl rfl (fun w' hw' K' hK'=>?_)
 have hE:=hw'.1
 go_step
 refine hK' _ ⟨_,rfl⟩ ?_
 clear hK' K' hE hw' w'
 refine wpE_op rfl rfl (fun w' hw' K' hK'=>?_)
 have hE:=hw'.1
 go_step
 refine hK' _ ⟨_,rfl⟩ ?_
 clear hK' K' hE hw' w'
 refine wpE_op (by kernel_rfl) rfl (fun w' hw' K' hK'=>?_)
 have hE:=hw'.1
 go_step
 refine hK' _ ⟨_,rfl⟩ ?_
 clear hK' K' hE hw' w'
 refine wpE_op (by kernel_rfl) rfl (fun w' hw' K' hK'=>?_)
 have hE:=hw'.1
 go_step
 refine hK' _ ⟨_,rfl⟩ ?_
 clear hK' K' hE hw' w'
 refine wpE_op (by kernel_rfl) rfl (fun w' hw' K' hK'=>?_)
 have hE:=hw'.1
 obtain ⟨u0,u1,u2,u3,u4,u5,u6⟩:=(HMR.out.ext ((Ext.drew w6).trans hE)).cells
 go_step
 refine hK' _ ⟨_,rfl⟩ ?_
 clear hK' K' u0 u1 u2 u3 u4 u5 u6 hE hw' w'
 refine wpE_op (by kernel_rfl) rfl (fun w' hw' K' hK'=>?_)
 have hE:=hw'.1
 go_step
 refine hK' _ ⟨_,rfl⟩ ?_
 clear hK' K' hE hw' w'
 refine wpE_op (by kernel_rfl) rfl (fun w' hw' K' hK'=>?_)
 have hE:=hw'.1
 obtain ⟨u0,u1,u2,u3,u4,u5,u6,u7,u8,u9,u10,u11⟩:=(HG6.out.ext ((Ext.drew w6).trans hE)).cells
 go_step
 refine hK' _ ⟨_,rfl⟩ ?_
 clear hK' K' u0 u1 u2 u3 u4 u5 u6 u7 u8 u9 u10 u11 hE hw' w'
 refine wpE_op (by kernel_rfl) rfl (fun w' hw' K' hK'=>?_)
 have hE:=hw'.1
 go_step
 refine hK' _ ⟨_,rfl⟩ ?_
 clear hK' K' hE hw' w'
 refine wpE_op (by kernel_rfl) rfl (fun w' hw' K' hK'=>?_)
 have hE:=hw'.1
 go_step
 refine hK' _ ⟨_,rfl⟩ ?_
 clear hK' K' hE hw' w'
 refine wpE_op (by kernel_rfl) rfl (fun w' hw' K' hK'=>?_)
 have hE:=hw'.1
 go_step
 refine hK' _ ⟨_,rfl⟩ ?_
 clear hK' K' hE hw' w'
 refine wpE_op (by kernel_rfl) rfl (fun w' hw' K' hK'=>?_)
 have hE:=hw'.1
 go_step
 refine hK' _ ⟨_,rfl⟩ ?_
 clear hK' K' hE hw' w'
 refine wpE_call 58 rfl (by simp) (by kernel_rfl) (fun w' hw' K' hK'=>?_) ?_
 ·have hE:=hw'.1
  go_step
  refine (HSA.out w' ((Ext.drew _).trans hE)).mono ?_
  rintro _ w2 ⟨rfl,hx⟩
  exact hK' _ _ ⟨_,rfl,rfl⟩ hx
 rintro _ w6 _ rfl
 simp only [Act.put,sT1,sT2,sT3]
 refine wpE_op rfl rfl (fun w' hw' K' hK'=>?_)
 have hE:=hw'.1
 go_step
 refine hK' _ ⟨_,rfl⟩ ?_
 clear hK' K' hE hw' w'
 refine wpE_op rfl rfl (fun w' hw' K' hK'=>?_)
 have hE:=hw'.1
 go_step
 refine hK' _ ⟨_,rfl⟩ ?_
 clear hK' K' hE hw' w'
 refine wpE_nil (fun W hW=>?_)
 have HXW:=Lib.hid (HX6.out.trans ((Ext.drew _).trans hW.1))
 clear hW
 go_wp2_with fail
 go_ret
 exact ⟨rfl,HXW.out⟩
end Go.Proofs.YtnjmndofcpnmeaaGreatDoor
namespace Go.Proofs.YtnjmndofcpnmeaaGreatDoor
open Go Go.RowKit Go.Maps
set_option linter.unusedVariables false
structure CD (D:DataW Unit) (l:List Fct):Prop where
 map:IsMap D
 ints:∀ kl,Maps.has D kl=true→∃ z,kl=.int .i64 z
 has:∀ z,Maps.has D (.int .i64 z)=true ↔ 0<codF l z
 at_:∀ z,D.atKey (.int .i64 z) (.lit (.int .i64 0))=.lit (.int .i64 (codF l z:Int))
theorem litI_ne {s t:Int}(h:s≠t):(Lit.int .i64 s)≠.int .i64 t:=fun e=>h (by injection e)
theorem codF_snoc (l:List Fct)(f:Fct)(c:Int):codF (l++[f]) c=codF l c+if f.co=c then 1 else 0:=by
 unfold codF
 rw [List.filter_append,List.length_append,List.filter_cons]
 by_cases h:f.co=c<;>simp [h]
theorem codF_le (l:List Fct)(c:Int):codF l c≤l.length:=List.length_filter_le _ _
theorem CD.start:CD (.map []) []:=⟨isMap_empty,fun kl h=>(by simp [Maps.has] at h),fun s=>by simp [Maps.has,codF],fun s=>by simp [codF,DataW.atKey]⟩
theorem CD.add {D:DataW Unit}{l:List Fct}(h:CD D l)(f:Fct):CD (D.put (.int .i64 f.co) (.lit (.int .i64 ((codF l f.co+1:Nat):Int)))) (l++[f]):=by
 refine ⟨h.map.put _ _,fun kl hk=>?_,fun t=>?_,fun t=>?_⟩
 ·by_cases e:kl=.int .i64 f.co
  ·exact ⟨_,e⟩
  ·rw [has_put_other e] at hk
   exact h.ints kl hk
 ·rw [codF_snoc]
  by_cases e:t=f.co
  ·subst e
   rw [has_put_same h.map (by trivial),if_pos rfl]
   simp
  ·rw [has_put_other (litI_ne e),if_neg (fun e'=>e e'.symm),Nat.add_zero]
   exact h.has t
 ·rw [codF_snoc]
  by_cases e:t=f.co
  ·subst e
   rw [atKey_put_same h.map (by trivial),if_pos rfl]
  ·rw [atKey_put_other (litI_ne e),if_neg (fun e'=>e e'.symm),Nat.add_zero]
   exact h.at_ t
theorem lawInt:Keyed Tryz.prog 3:=int_keyed Tryz.underlying3
def CMap (w:World)(m n:Nat)(D:DataW Unit):Prop:=w.ownsMap Tryz.prog 3 (plainElem Tryz.prog 3) m n D
theorem CMap.ext {w w':World}{m n:Nat}{D:DataW Unit}(h:CMap w m n D)(hx:Ext w w'):CMap w' m n D:=World.ownsMap.kept h (hx.but none) (by simp)
set_option maxRecDepth 100000 in
set_option maxHeartbeats 800000 in
theorem Codes_at (A:Option Addr) (c:Nat) (xs:List FV) (w:World) (hF:FS w (.slice A xs.length c) xs) (hn:xs.length≤1000) (hw:∀ f∈xs,i64B f.co):
  Calls Tryz.prog 22 #[.slice A xs.length c] w fun e w'=>(∃ D:DataW Unit,e=.returned (.map (some w.heap.size))∧CMap w' w.heap.size xs.length D∧CD D (xs.map FV.fct))∧Ext w w':=by
 have hmm:=@run_makeMap Tryz.prog
 have HF:=Lib.hid hF;have HW:=Lib.hid hw
 obtain ⟨_,c',he,hc1,hc2⟩:=hF.shape
 injection he with e1 _ e3
 subst e1;subst e3
 unfold maxLen at hc2
 obtain ⟨n,hn'⟩:∃ n,xs.length=n:=⟨_,rfl⟩
 have HN:=Lib.hid hn'
 have HM0:=Lib.hid (show CMap (w.alloc (.map #[] 0)) w.heap.size 0 (.map []) from World.ownsMap_made _ _ _ _)
 have HX0:=Lib.hid ((Ext.refl w).alloc (.map #[] 0))
 clear hF hw
 rw [hn'] at hc1 hn ⊢
 clear hn'
 go_enter Tryz.func22,Tryz.ntmps22
 go_wp2_with fail
 go_loopw [5,9] (fun _ i wr=>∃ (k:Nat) (D:DataW Unit),i=.int .i64 (k:Int)∧k≤n∧Hid (CMap wr w.heap.size k D)∧Hid (CD D ((xs.take k).map FV.fct))∧Hid (Ext w wr)) (fun _ i _=>n-(intOf i).toNat)
 case atStart=>exact ⟨0,.map [],rfl,by omega,HM0,Lib.hid CD.start,HX0⟩
 case round=>
  obtain ⟨k,D,rfl,hk,HM,HD,HX⟩:=hrel
  by_cases hlt:k<n
  ·have hlx:k<xs.length:=by rw [HN.out];exact hlt
   have hF:=HF.out.ext HX.out
   obtain ⟨hin,ad,rfl,u0,u1,u2,u3,u4,u5,u6,u7,u8,u9,u10,u11⟩:=hF.at_ k hlx
   have hco:=HW.out xs[k] (List.getElem_mem hlx)
   have HD2:=Lib.hid (show CD (D.put (.int .i64 xs[k].co) (.lit (.int .i64 ((codF ((xs.take k).map FV.fct) xs[k].co+1:Nat):Int)))) ((xs.take (k+1)).map FV.fct) by
    rw [List.take_succ_eq_append_getElem hlx,List.map_append,List.map_cons,List.map_nil]
    exact HD.out.add xs[k].fct)
   have HAT:=Lib.hid (HD.out.at_ xs[k].co)
   have hcl:=codF_le ((xs.take k).map FV.fct) xs[k].co
   rw [List.length_map,List.length_take] at hcl
   generalize codF ((xs.take k).map FV.fct) xs[k].co=cn at *
   generalize xs[k]=f at *
   have hcn:(cn:Int)≤1000:=by omega
   have hbx:=FBx.new wr f
   have hxa:=(Ext.refl wr).alloc (.cells #[.int .i64 f.t,.int .i64 f.mi,.int .i64 f.kd,.int .i64 f.fk,.slice f.FA f.fb.length f.fc,.slice f.CA f.cp.length f.cc,.string f.cr,.slice f.SA f.sp.length f.sc,.string f.sr,.int .i64 f.co,.int .i64 f.pr,.int .u32 (f.fl.toNat:Int)] 41)
   obtain ⟨Wa,ea⟩:∃ Wa,wr.alloc (.cells #[.int .i64 f.t,.int .i64 f.mi,.int .i64 f.kd,.int .i64 f.fk,.slice f.FA f.fb.length f.fc,.slice f.CA f.cp.length f.cc,.string f.cr,.slice f.SA f.sp.length f.sc,.string f.sr,.int .i64 f.co,.int .i64 f.pr,.int .u32 (f.fl.toNat:Int)] 41)=Wa:=⟨_,rfl⟩
   rw [ea] at hbx hxa
   obtain ⟨v0,v1,v2,v3,v4,v5,v6,v7,v8,v9,v10,v11⟩:=fv_cells hbx
   have HXA:=Lib.hid (HX.out.trans hxa)
   have hown:CMap Wa w.heap.size k D:=HM.out.ext hxa
   unfold CMap at hown
   have hkey:=keyOf_int_mk (P:=Tryz.prog) Tryz.underlying3 (WalkArith.wf_i64 hco)
   clear hbx hxa hin hF hlx hcl
   go_wp2_with (first
    | (at_lookup;refine wpList_lookup_own_int _ rfl _ _ 60 rfl 3 3 .i64 lawInt Tryz.underlying60 Tryz.underlying3 (zeroInt _) w.heap.size _ D rfl hown _ _ rfl hkey ?_;intro cv hat hwc;obtain rfl:cv=(cn:Int):=(by rw [HAT.out] at hat;injection hat with hat;injection hat with _ hat;exact hat.symm))
    | (at_mapUpdate;refine wpList_mapUpdate_own _ rfl _ _ _ 60 rfl 3 3 lawInt Tryz.underlying60 _ w.heap.size _ D rfl hown (by unfold maxLen;omega) _ _ _ rfl rfl hkey _ [] (plainElem_int Tryz.underlying3 (WalkArith.wf_i64 (by omega))) ?_;intro w3 hown1 hgrow1)
    | fail)
   have HM3:=Lib.hid (show CMap w3 w.heap.size (k+1) (D.put (.int .i64 f.co) (.lit (.int .i64 ((cn+1:Nat):Int)))) from hown1)
   have HX3:=Lib.hid (show Ext w w3 from Below.grown HXA.out hgrow1 HXA.out.size (fun j hj=>by cases hj;exact Nat.le_refl _))
   clear hown hown1 hgrow1 u0 u1 u2 u3 u4 u5 u6 u7 u8 u9 u10 u11 v0 v1 v2 v3 v4 v5 v6 v7 v8 v9 v10 v11
   go_roundw
   case rel=>exact ⟨k+1,_,by go_num,by omega,HM3,HD2,HX3⟩
   case measure=>simp [intOf];omega
  ·obtain rfl:k=n:=by omega
   have hd:=HD.out
   rw [List.take_of_length_le (by rw [HN.out];exact Nat.le_refl _)] at hd
   have HDD:=Lib.hid hd
   clear hd
   go_wp2_with fail
   go_ret
   exact ⟨⟨D,rfl,HM.out,HDD.out⟩,HX.out⟩
end Go.Proofs.YtnjmndofcpnmeaaGreatDoor
namespace Go.Proofs.YtnjmndofcpnmeaaGreatDoor
open Go Go.RowKit
set_option linter.unusedVariables false
section
variable {P:Program} {ops:Array Oper} {md:Region.Mode} {lr:Nat}
end
end Go.Proofs.YtnjmndofcpnmeaaGreatDoor
namespace Go.Proofs.YtnjmndofcpnmeaaGreatDoor
open Go Go.RowKit
set_option linter.unusedVariables false
section
variable {P:Program} {ops:Array Oper} {md:Region.Mode} {lr:Nat}
end
end Go.Proofs.YtnjmndofcpnmeaaGreatDoor
