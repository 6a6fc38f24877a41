/- Pc38. -/
import Derived.Test.YtnjmndofcpnmeaaGreatDoorPc0
import Derived.Test.YtnjmndofcpnmeaaGreatDoorPc37
namespace Go.Proofs.YtnjmndofcpnmeaaGreatDoor
open Go Go.RowKit
set_option linter.unusedVariables false
structure M1 (w:World) (g:Nat) (m:MV):Prop where
 cells:w.cell? ⟨g,0,none⟩=some (.slice m.CA m.cp.length m.cc)∧w.cell? ⟨g,1,none⟩=some (.string m.cr)∧w.cell? ⟨g,2,none⟩=some (.int .i64 m.fk)∧w.cell? ⟨g,3,none⟩=some (.slice m.FA m.fb.length m.fc)∧w.cell? ⟨g,4,none⟩=some (.int .i64 m.n)∧w.cell? ⟨g,5,none⟩=some (.int .i64 m.b)∧w.cell? ⟨g,6,none⟩=some (.int .i64 m.t)
theorem M1.ext {w w':World}{g:Nat}{m:MV}(h:M1 w g m)(hx:Ext w w'):M1 w' g m:=by
 obtain ⟨u0,u1,u2,u3,u4,u5,u6⟩:=h.cells
 exact ⟨hx.cell u0,hx.cell u1,hx.cell u2,hx.cell u3,hx.cell u4,hx.cell u5,hx.cell u6⟩
theorem ROW.head {α:Type}{E:Ek α}{e:TypeId}{w:World}{B:Nat}{v:Value}{xs:List α}(h:ROW E e w B v xs)(hn:0<xs.length):∃ g c,v=.slice (some ⟨g,0,none⟩) xs.length c:=by
 rcases h.2.1.2 with ⟨_,h0⟩ | ⟨g,cap,cur,rfl,_⟩
 ·omega
 ·exact ⟨g,cap,rfl⟩
theorem ROW.m1 {w:World}{B:Nat}{v:Value}{m:MV}(h:ROW EM 50 w B v [m]):∃ g c,v=.slice (some ⟨g,0,none⟩) 1 c∧m.In w∧M1 w g m:=by
 obtain ⟨g,c,rfl⟩:=h.head (by simp)
 obtain ⟨A,c',e1,_,_,h4⟩:=h.cells
 obtain ⟨hin,ad,hA,hc⟩:=h4 0 (by simp)
 injection e1 with e1 _ _
 rw [hA] at e1
 injection e1 with e1
 subst e1
 have k:∀ j u,(MV.cs m)[j]? = some u→w.cell? ⟨g,j,none⟩=some u:=fun j u hu=>by
  have:=hc j u hu
  rw [Nat.zero_mul,Nat.zero_add,add0] at this
  exact this
 exact ⟨g,c,rfl,hin,⟨k 0 _ rfl,k 1 _ rfl,k 2 _ rfl,k 3 _ rfl,k 4 _ rfl,k 5 _ rfl,k 6 _ rfl⟩⟩
theorem same_X (A:Option Addr)(n x y:Int)(m:MV)(hm:m.alm=(mX none n x y).alm):m.cp.length=1∧sameA m (mX A n x y)=true:=by
 refine ⟨?_,sameA_alm (by rw [hm];rfl)⟩
 have:=congrArg (fun a:Alm=>a.cp.length) hm
 dsimp only [MV.alm] at this
 rw [dat_length] at this
 exact this
set_option maxRecDepth 100000 in
set_option maxHeartbeats 1600000 in
theorem alarm_one (win lim n x y:Int) (h0:0≤win) (h1:win≤1099511627776) (h2:1≤lim) (h3:lim≤1000) (hn:(n==0)=false) (ha:(almF l3E win lim false).map (almO l3E win false)=[(mX none n x y).alm]) (w:World) (hE:EnvA w):
  Calls Tryz.prog 32 #[.int .i64 win,.int .i64 lim,.int .i64 n,.int .i64 x,.int .i64 y] w fun e w'=>e=.returned (.bool true)∧Ext w w':=by
 have HAL:=Lib.hid ha
 clear ha
 have HN:=Lib.hid hn
 clear hn
 have HS:=Lib.hid (sample_at w)
 unfold FV.val at HS
 have HE:=Lib.hid hE
 have HC:=Lib.hid (fun b A W (hF:FS W (.slice A 3 3) [gX 103 b,gX 103 b,gX 109 b]) (hE:EnvA W)=>clients3_at win lim h0 h1 h2 h3 b A W hF hE)
 clear h0 h1 h2 h3 hE
 go_enter Tryz.func32,Tryz.ntmps32
 go_wp2_with fail
 refine HS.out.mono ?_
 rintro _ w1 ⟨⟨b,rfl,hS⟩,hx1⟩
 have HX1:=Lib.hid hx1
 obtain ⟨W2,e2,z1,z2,hx2⟩:=two_vars w1
 have HSX:=Lib.hid hS;have HX2:=Lib.hid hx2
 have tok1:True:=trivial
 have tok2:True:=trivial
 clear hS hx1 hx2
 go_upto_region 2 with (first
  | (refine wpList_store_var W2 rfl (.tmp 11) (.tmp 18) 41 rfl w1.heap.size 41 #[.int .i64 0,.int .i64 0,.int .i64 0,.int .i64 0,.slice none 0 0,.slice none 0 0,.string ⟨#[]⟩,.slice none 0 0,.string ⟨#[]⟩,.int .i64 0,.int .i64 0,.int .u32 0] #[.int .i64 100,.int .i64 5,.int .i64 10,.int .i64 2,.slice (some ⟨b,0,none⟩) 4 4,.slice (some ⟨b+1,0,none⟩) 1 1,.string ⟨#[82]⟩,.slice (some ⟨b+1+1,0,none⟩) 2 2,.string ⟨#[82]⟩,.int .i64 0,.int .i64 2,.int .u32 257] rfl rfl (Tryz.sizeOf41 W2) z1 rfl (one8 rfl) ?_;intro WA hA hgA;have z2A:=(hgA.block (w1.heap.size+1) (Array.getElem?_eq_some_iff.1 z2).1 (by simp)).trans z2)
  | (refine wpList_store_var _ rfl (.tmp 12) (.tmp 19) 41 rfl (w1.heap.size+1) 41 #[.int .i64 0,.int .i64 0,.int .i64 0,.int .i64 0,.slice none 0 0,.slice none 0 0,.string ⟨#[]⟩,.slice none 0 0,.string ⟨#[]⟩,.int .i64 0,.int .i64 0,.int .u32 0] #[.int .i64 103,.int .i64 5,.int .i64 10,.int .i64 2,.slice (some ⟨b,0,none⟩) 4 4,.slice (some ⟨b+1,0,none⟩) 1 1,.string ⟨#[82]⟩,.slice (some ⟨b+1+1,0,none⟩) 2 2,.string ⟨#[82]⟩,.int .i64 24,.int .i64 0,.int .u32 0] rfl rfl (Tryz.sizeOf41 _) z2A rfl (one8 rfl) ?_;intro WB bG hgB)
  | fail)
 have hxB:Ext w1 WB:=Below.grown (Below.grown HX2.out hgA HX2.out.size (fun j hj=>by cases hj;exact Nat.le_refl _)) hgB (Nat.le_trans HX2.out.size hgA.size) (fun j hj=>by cases hj;exact Nat.le_succ _)
 have hSB:=HSX.out.ext hxB
 clear e2 z1 z2 z2A hA hgA hgB
 obtain ⟨⟨kc0,kc1,kc2,kc3,kc4,kc5,kc6,kc7,kc8,kc9,kc10,kc11⟩,_⟩:=rw12 (show RW WB (w1.heap.size+1) 41 #[.int .i64 103,.int .i64 5,.int .i64 10,.int .i64 2,.slice (some ⟨b,0,none⟩) 4 4,.slice (some ⟨b+1,0,none⟩) 1 1,.string ⟨#[82]⟩,.slice (some ⟨b+1+1,0,none⟩) 2 2,.string ⟨#[82]⟩,.int .i64 24,.int .i64 0,.int .u32 0] from bG)
 have zZ:=heap_alloc_new WB (.cells #[.int .i64 0,.int .i64 0,.int .i64 0,.int .i64 0,.slice none 0 0,.slice none 0 0,.string ⟨#[]⟩,.slice none 0 0,.string ⟨#[]⟩,.int .i64 0,.int .i64 0,.int .u32 0] 41)
 have xZ:=(Ext.refl WB).alloc (.cells #[.int .i64 0,.int .i64 0,.int .i64 0,.int .i64 0,.slice none 0 0,.slice none 0 0,.string ⟨#[]⟩,.slice none 0 0,.string ⟨#[]⟩,.int .i64 0,.int .i64 0,.int .u32 0] 41)
 obtain ⟨WZ,eZ⟩:∃ W,WB.alloc (.cells #[.int .i64 0,.int .i64 0,.int .i64 0,.int .i64 0,.slice none 0 0,.slice none 0 0,.string ⟨#[]⟩,.slice none 0 0,.string ⟨#[]⟩,.int .i64 0,.int .i64 0,.int .u32 0] 41)=W:=⟨_,rfl⟩
 rw [eZ] at zZ xZ
 go_upto_region 3 with (first
  | (refine wpList_store_var WZ rfl (.tmp 13) (.tmp 20) 41 rfl WB.heap.size 41 #[.int .i64 0,.int .i64 0,.int .i64 0,.int .i64 0,.slice none 0 0,.slice none 0 0,.string ⟨#[]⟩,.slice none 0 0,.string ⟨#[]⟩,.int .i64 0,.int .i64 0,.int .u32 0] #[.int .i64 103,.int .i64 5,.int .i64 10,.int .i64 2,.slice (some ⟨b,0,none⟩) 4 4,.slice (some ⟨b+1,0,none⟩) 1 1,.string ⟨#[82]⟩,.slice (some ⟨b+1+1,0,none⟩) 2 2,.string ⟨#[82]⟩,.int .i64 24,.int .i64 0,.int .u32 0] rfl rfl (Tryz.sizeOf41 WZ) zZ rfl (one8 rfl) ?_;intro WC b3 hg3)
  | fail)
 have x3:Ext WB WC:=Below.grown xZ hg3 xZ.size (fun j hj=>by cases hj;exact Nat.le_refl _)
 clear eZ zZ xZ hg3
 change RW WC WB.heap.size 41 #[.int .i64 103,.int .i64 5,.int .i64 10,.int .i64 2,.slice (some ⟨b,0,none⟩) 4 4,.slice (some ⟨b+1,0,none⟩) 1 1,.string ⟨#[82]⟩,.slice (some ⟨b+1+1,0,none⟩) 2 2,.string ⟨#[82]⟩,.int .i64 24,.int .i64 0,.int .u32 0] at b3
 obtain ⟨⟨kd0,kd1,kd2,kd3,kd4,kd5,kd6,kd7,kd8,kd9,kd10,kd11⟩,kdz0,_⟩:=rw12 b3
 have b4:RW (WC.setCell ⟨WB.heap.size,0,none⟩ (.int .i64 109)) WB.heap.size 41 #[.int .i64 109,.int .i64 5,.int .i64 10,.int .i64 2,.slice (some ⟨b,0,none⟩) 4 4,.slice (some ⟨b+1,0,none⟩) 1 1,.string ⟨#[82]⟩,.slice (some ⟨b+1+1,0,none⟩) 2 2,.string ⟨#[82]⟩,.int .i64 24,.int .i64 0,.int .u32 0]:=b3.set 0 (.int .i64 109)
 have x4:=x3.setCell (p:=⟨WB.heap.size,0,none⟩) (Nat.le_refl _) (.int .i64 109)
 obtain ⟨WD,eD⟩:∃ W,WC.setCell ⟨WB.heap.size,0,none⟩ (.int .i64 109)=W:=⟨_,rfl⟩
 rw [eD] at b4 x4
 obtain ⟨⟨ke0,ke1,ke2,ke3,ke4,ke5,ke6,ke7,ke8,ke9,ke10,ke11⟩,_⟩:=rw12 b4
 obtain ⟨⟨kf0,kf1,kf2,kf3,kf4,kf5,kf6,kf7,kf8,kf9,kf10,kf11⟩,_⟩:=rw12 (show RW WD (w1.heap.size+1) 41 #[.int .i64 103,.int .i64 5,.int .i64 10,.int .i64 2,.slice (some ⟨b,0,none⟩) 4 4,.slice (some ⟨b+1,0,none⟩) 1 1,.string ⟨#[82]⟩,.slice (some ⟨b+1+1,0,none⟩) 2 2,.string ⟨#[82]⟩,.int .i64 24,.int .i64 0,.int .u32 0] from RW.ext bG x4)
 have hSD:=hSB.ext x4
 have f5:=FS.new WD [gX 103 b,gX 103 b,gX 109 b] (show 3≤maxLen by decide) (l3_in hSD)
 have x5:=(Ext.refl WD).alloc (.cells #[.int .i64 103,.int .i64 5,.int .i64 10,.int .i64 2,.slice (some ⟨b,0,none⟩) 4 4,.slice (some ⟨b+1,0,none⟩) 1 1,.string ⟨#[82]⟩,.slice (some ⟨b+1+1,0,none⟩) 2 2,.string ⟨#[82]⟩,.int .i64 24,.int .i64 0,.int .u32 0,.int .i64 103,.int .i64 5,.int .i64 10,.int .i64 2,.slice (some ⟨b,0,none⟩) 4 4,.slice (some ⟨b+1,0,none⟩) 1 1,.string ⟨#[82]⟩,.slice (some ⟨b+1+1,0,none⟩) 2 2,.string ⟨#[82]⟩,.int .i64 24,.int .i64 0,.int .u32 0,.int .i64 109,.int .i64 5,.int .i64 10,.int .i64 2,.slice (some ⟨b,0,none⟩) 4 4,.slice (some ⟨b+1,0,none⟩) 1 1,.string ⟨#[82]⟩,.slice (some ⟨b+1+1,0,none⟩) 2 2,.string ⟨#[82]⟩,.int .i64 24,.int .i64 0,.int .u32 0] 41)
 change FS (WD.alloc (.cells #[.int .i64 103,.int .i64 5,.int .i64 10,.int .i64 2,.slice (some ⟨b,0,none⟩) 4 4,.slice (some ⟨b+1,0,none⟩) 1 1,.string ⟨#[82]⟩,.slice (some ⟨b+1+1,0,none⟩) 2 2,.string ⟨#[82]⟩,.int .i64 24,.int .i64 0,.int .u32 0,.int .i64 103,.int .i64 5,.int .i64 10,.int .i64 2,.slice (some ⟨b,0,none⟩) 4 4,.slice (some ⟨b+1,0,none⟩) 1 1,.string ⟨#[82]⟩,.slice (some ⟨b+1+1,0,none⟩) 2 2,.string ⟨#[82]⟩,.int .i64 24,.int .i64 0,.int .u32 0,.int .i64 109,.int .i64 5,.int .i64 10,.int .i64 2,.slice (some ⟨b,0,none⟩) 4 4,.slice (some ⟨b+1,0,none⟩) 1 1,.string ⟨#[82]⟩,.slice (some ⟨b+1+1,0,none⟩) 2 2,.string ⟨#[82]⟩,.int .i64 24,.int .i64 0,.int .u32 0] 41)) (.slice (some ⟨WD.heap.size,0,none⟩) 3 3) _ at f5
 obtain ⟨WE,eE⟩:∃ W,WD.alloc (.cells #[.int .i64 103,.int .i64 5,.int .i64 10,.int .i64 2,.slice (some ⟨b,0,none⟩) 4 4,.slice (some ⟨b+1,0,none⟩) 1 1,.string ⟨#[82]⟩,.slice (some ⟨b+1+1,0,none⟩) 2 2,.string ⟨#[82]⟩,.int .i64 24,.int .i64 0,.int .u32 0,.int .i64 103,.int .i64 5,.int .i64 10,.int .i64 2,.slice (some ⟨b,0,none⟩) 4 4,.slice (some ⟨b+1,0,none⟩) 1 1,.string ⟨#[82]⟩,.slice (some ⟨b+1+1,0,none⟩) 2 2,.string ⟨#[82]⟩,.int .i64 24,.int .i64 0,.int .u32 0,.int .i64 109,.int .i64 5,.int .i64 10,.int .i64 2,.slice (some ⟨b,0,none⟩) 4 4,.slice (some ⟨b+1,0,none⟩) 1 1,.string ⟨#[82]⟩,.slice (some ⟨b+1+1,0,none⟩) 2 2,.string ⟨#[82]⟩,.int .i64 24,.int .i64 0,.int .u32 0] 41)=W:=⟨_,rfl⟩
 rw [eE] at f5 x5
 have HX5:=Lib.hid (((HX1.out.trans hxB).trans x4).trans x5)
 have HCC:=Lib.hid (HC.out b _ WE f5 (HE.out.ext HX5.out))
 have HGB:=Lib.hid (show FBx WB (w1.heap.size+1) (gX 103 b) from bG);have HX45:=Lib.hid (x4.trans x5);have HSE:=Lib.hid (hSD.ext x5)
 clear bG hxB hSB b3 x3 b4 x4 hSD f5 x5
 have hn:=HN.out
 go_wp2_with fail
 refine HCC.out.mono ?_
 rintro _ w6 ⟨⟨v,ms,rfl,hrow,hms⟩,hx6⟩
 obtain ⟨m,rfl,hm⟩:=ms_one (hms.trans HAL.out)
 obtain ⟨g,c,rfl,hin,hM1⟩:=hrow.m1
 obtain ⟨hl1,hsa⟩:=same_X (some ⟨b+1,0,none⟩) n x y m hm
 have HX6:=Lib.hid (HX5.out.trans hx6)
 have HG6:=Lib.hid (HGB.out.ext (HX45.out.trans hx6))
 have hS6:=HSE.out.ext hx6
 have HSA:=Lib.hid (fun W (hW:Ext w6 W)=>by
  have k:=SameA_at m (mX (some ⟨b+1,0,none⟩) n x y) W (hin.ext hW) ⟨hS6.2.1.ext hW,RS.nil W⟩ (by omega) (show 1≤1000 by decide)
  rw [hsa] at k
  exact k)
 have HMR:=Lib.hid hM1
 clear hrow hms hx6 hm hin hM1 hl1 hsa hS6
 go_upto_region 7 with fail
 refine wp_region_ext (fun i v' w'=>match i with | 17=>v'=.bool true | _=>False) (by kernel_rfl) (by kernel_rfl) ?_
 refine wpE_op rfl rfl (fun w' hw' K' hK'=>?_)
 have hE:=hw'.1
 go_step
 refine hK' _ ⟨_,rfl⟩ ?_
 clear hK' K' hE hw' w'
 refine wpE_op rfl rfl (fun w' hw' K' hK'=>?_)
 have hE:=hw'.1
 go_step
 refine hK' _ ⟨_,rfl⟩ ?_
 clear hK' K' hE hw' w'
 refine wpE_op rfl rfl (fun w' hw' K' hK'=>?_)
 have hE:=hw'.1
 go_step
 refine hK' _ ⟨_,rfl⟩ ?_
 clear hK' K' hE hw' w'
 refine wpE_op (by kernel_rfl) rfl (fun w' hw' K' hK'=>?_)
 have hE:=hw'.1
 go_step
 refine hK' _ ⟨_,rfl⟩ ?_
 clear hK' K' hE hw' w'
 refine wpE_op (by kernel_rfl) rfl (fun w' hw' K' hK'=>?_)
 have hE:=hw'.1
 go_step
 refine hK' _ ⟨_,rfl⟩ ?_
 clear hK' K' hE hw' w'
 refine wpE_op (by kernel_rfl) rfl (fun w' hw' K' hK'=>?_)
 have hE:=hw'.1
 go_step
 refine hK' _ ⟨_,rfl⟩ ?_
 clear hK' K' hE hw' w'
 refine wpE_op rfl rfl (fun w' hw' K' hK'=>?_)
 have hE:=hw'.1
 go_step
 refine hK' _ ⟨_,rfl⟩ ?_
 clear hK' K' hE hw' w'
 refine wpE_op rfl rfl (fun w' hw' K' hK'=>?_)
 have hE:=hw'.1
 go_step
 refine hK' _ ⟨_,rfl⟩ ?_
 clear hK' K' hE hw' w'
 refine wpE_op (by kernel_rfl) rfl (fun w' hw' K' hK'=>?_)
 have hE:=hw'.1
 go_step
 refine hK' _ ⟨_,rfl⟩ ?_
 clear hK' K' hE hw' w'
 refine wpE_op (by kernel_rfl) rfl (fun w' hw' K' hK'=>?_)
 have hE:=hw'.1
 go_step
 refine hK' _ ⟨_,rfl⟩ ?_
 clear hK' K' hE hw' w'
 refine wpE_op (by kernel_rfl) rfl (fun w' hw' K' hK'=>?_)
 have hE:=hw'.1
 obtain ⟨u0,u1,u2,u3,u4,u5,u6⟩:=(HMR.out.ext ((Ext.drew w6).trans hE)).cells
 go_step
 refine hK' _ ⟨_,rfl⟩ ?_
 clear hK' K' u0 u1 u2 u3 u4 u5 u6 hE hw' w'
 refine wpE_op (by kernel_rfl) rfl (fun w' hw' K' hK'=>?_)
 have hE:=hw'.1
 go_step
 refine hK' _ ⟨_,rfl⟩ ?_
 clear hK' K' hE hw' w'
 refine wpE_op (by kernel_rfl) rfl (fun w' hw' K' hK'=>?_)
 have hE:=hw'.1
 obtain ⟨u0,u1,u2,u3,u4,u5,u6,u7,u8,u9,u10,u11⟩:=(HG6.out.ext ((Ext.drew w6).trans hE)).cells
 go_step
 refine hK' _ ⟨_,rfl⟩ ?_
 clear hK' K' u0 u1 u2 u3 u4 u5 u6 u7 u8 u9 u10 u11 hE hw' w'
 refine wpE_op (by kernel_rfl) rfl (fun w' hw' K' hK'=>?_)
 have hE:=hw'.1
 go_step
 refine hK' _ ⟨_,rfl⟩ ?_
 clear hK' K' hE hw' w'
 refine wpE_op (by kernel_rfl) rfl (fun w' hw' K' hK'=>?_)
 have hE:=hw'.1
 go_step
 refine hK' _ ⟨_,rfl⟩ ?_
 clear hK' K' hE hw' w'
 refine wpE_op (by kernel_rfl) rfl (fun w' hw' K' hK'=>?_)
 have hE:=hw'.1
 go_step
 refine hK' _ ⟨_,rfl⟩ ?_
 clear hK' K' hE hw' w'
 refine wpE_op (by kernel_rfl) rfl (fun w' hw' K' hK'=>?_)
 have hE:=hw'.1
 go_step
 refine hK' _ ⟨_,rfl⟩ ?_
 clear hK' K' hE hw' w'
 refine wpE_call 58 rfl (by simp) (by kernel_rfl) (fun w' hw' K' hK'=>?_) ?_
 ·have hE:=hw'.1
  go_step
  refine (HSA.out w' ((Ext.drew _).trans hE)).mono ?_
  rintro _ w2 ⟨rfl,hx⟩
  exact hK' _ _ ⟨_,rfl,rfl⟩ hx
 rintro _ w6 _ rfl
 simp only [Act.put,sT1,sT2,sT3]
 refine wpE_op rfl rfl (fun w' hw' K' hK'=>?_)
 have hE:=hw'.1
 go_step
 refine hK' _ ⟨_,rfl⟩ ?_
 clear hK' K' hE hw' w'
 refine wpE_op rfl rfl (fun w' hw' K' hK'=>?_)
 have hE:=hw'.1
 go_step
 refine hK' _ ⟨_,rfl⟩ ?_
 clear hK' K' hE hw' w'
 refine wpE_nil (fun W hW=>?_)
 have HXW:=Lib.hid (HX6.out.trans ((Ext.drew _).trans hW.1))
 clear hW
 go_wp2_with fail
 go_ret
 exact ⟨rfl,HXW.out⟩
end Go.Proofs.YtnjmndofcpnmeaaGreatDoor
