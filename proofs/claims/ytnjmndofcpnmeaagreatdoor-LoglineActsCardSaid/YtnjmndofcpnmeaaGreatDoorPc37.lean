/- Pc37. -/
import Derived.Test.YtnjmndofcpnmeaaGreatDoorPc36
import Derived.Test.YtnjmndofcpnmeaaGreatDoorPc33
namespace Go.Proofs.YtnjmndofcpnmeaaGreatDoor
open Go Go.RowKit
set_option linter.unusedVariables false
theorem two_vars (w:World):∃ W2,(w.alloc (.cells #[.int .i64 0,.int .i64 0,.int .i64 0,.int .i64 0,.slice none 0 0,.slice none 0 0,.string ⟨#[]⟩,.slice none 0 0,.string ⟨#[]⟩,.int .i64 0,.int .i64 0,.int .u32 0] 41)).alloc (.cells #[.int .i64 0,.int .i64 0,.int .i64 0,.int .i64 0,.slice none 0 0,.slice none 0 0,.string ⟨#[]⟩,.slice none 0 0,.string ⟨#[]⟩,.int .i64 0,.int .i64 0,.int .u32 0] 41)=W2∧W2.heap[w.heap.size]? = some (.cells #[.int .i64 0,.int .i64 0,.int .i64 0,.int .i64 0,.slice none 0 0,.slice none 0 0,.string ⟨#[]⟩,.slice none 0 0,.string ⟨#[]⟩,.int .i64 0,.int .i64 0,.int .u32 0] 41 (0,0))∧W2.heap[w.heap.size+1]? = some (.cells #[.int .i64 0,.int .i64 0,.int .i64 0,.int .i64 0,.slice none 0 0,.slice none 0 0,.string ⟨#[]⟩,.slice none 0 0,.string ⟨#[]⟩,.int .i64 0,.int .i64 0,.int .u32 0] 41 (0,0))∧Ext w W2:=by
 have z1:=heap_alloc_new w (.cells #[.int .i64 0,.int .i64 0,.int .i64 0,.int .i64 0,.slice none 0 0,.slice none 0 0,.string ⟨#[]⟩,.slice none 0 0,.string ⟨#[]⟩,.int .i64 0,.int .i64 0,.int .u32 0] 41)
 have x1:=(Ext.refl w).alloc (.cells #[.int .i64 0,.int .i64 0,.int .i64 0,.int .i64 0,.slice none 0 0,.slice none 0 0,.string ⟨#[]⟩,.slice none 0 0,.string ⟨#[]⟩,.int .i64 0,.int .i64 0,.int .u32 0] 41)
 have z2:=heap_alloc_new (w.alloc (.cells #[.int .i64 0,.int .i64 0,.int .i64 0,.int .i64 0,.slice none 0 0,.slice none 0 0,.string ⟨#[]⟩,.slice none 0 0,.string ⟨#[]⟩,.int .i64 0,.int .i64 0,.int .u32 0] 41)) (.cells #[.int .i64 0,.int .i64 0,.int .i64 0,.int .i64 0,.slice none 0 0,.slice none 0 0,.string ⟨#[]⟩,.slice none 0 0,.string ⟨#[]⟩,.int .i64 0,.int .i64 0,.int .u32 0] 41)
 rw [World.size_alloc] at z2
 have x2:=(Ext.refl (w.alloc (.cells #[.int .i64 0,.int .i64 0,.int .i64 0,.int .i64 0,.slice none 0 0,.slice none 0 0,.string ⟨#[]⟩,.slice none 0 0,.string ⟨#[]⟩,.int .i64 0,.int .i64 0,.int .u32 0] 41))).alloc (.cells #[.int .i64 0,.int .i64 0,.int .i64 0,.int .i64 0,.slice none 0 0,.slice none 0 0,.string ⟨#[]⟩,.slice none 0 0,.string ⟨#[]⟩,.int .i64 0,.int .i64 0,.int .u32 0] 41)
 exact ⟨_,rfl,x2.heap z1,z2,x1.trans x2⟩
theorem one8 {vs:Array Value}(h:vs.toList.all (fun v=>v.oneCell')=true):∀ v∈vs.toList,v.oneCell'=true:=fun v hv=>List.all_eq_true.1 h v hv
set_option maxRecDepth 100000 in
set_option maxHeartbeats 800000 in
theorem alarm_none (win lim:Int) (h0:0≤win) (h1:win≤1099511627776) (h2:1≤lim) (h3:lim≤1000) (ha:almF l3E win lim false=[]) (x y:Int) (w:World) (hE:EnvA w):
  Calls Tryz.prog 32 #[.int .i64 win,.int .i64 lim,.int .i64 0,.int .i64 x,.int .i64 y] w fun e w'=>e=.returned (.bool true)∧Ext w w':=by
 have HS:=Lib.hid (sample_at w)
 unfold FV.val at HS
 have HE:=Lib.hid hE
 have HC:=Lib.hid (fun b A W (hF:FS W (.slice A 3 3) [gX 103 b,gX 103 b,gX 109 b]) (hE:EnvA W)=>clients3_at win lim h0 h1 h2 h3 b A W hF hE)
 have HAL:=Lib.hid ha
 clear h0 h1 h2 h3 ha hE
 go_enter Tryz.func32,Tryz.ntmps32
 go_wp2_with fail
 refine HS.out.mono ?_
 rintro _ w1 ⟨⟨b,rfl,hS⟩,hx1⟩
 have HX1:=Lib.hid hx1
 obtain ⟨W2,e2,z1,z2,hx2⟩:=two_vars w1
 have HSX:=Lib.hid hS;have HX2:=Lib.hid hx2
 have tok1:True:=trivial
 have tok2:True:=trivial
 clear hS hx1 hx2
 go_upto_region 2 with (first
  | (refine wpList_store_var W2 rfl (.tmp 11) (.tmp 18) 41 rfl w1.heap.size 41 #[.int .i64 0,.int .i64 0,.int .i64 0,.int .i64 0,.slice none 0 0,.slice none 0 0,.string ⟨#[]⟩,.slice none 0 0,.string ⟨#[]⟩,.int .i64 0,.int .i64 0,.int .u32 0] #[.int .i64 100,.int .i64 5,.int .i64 10,.int .i64 2,.slice (some ⟨b,0,none⟩) 4 4,.slice (some ⟨b+1,0,none⟩) 1 1,.string ⟨#[82]⟩,.slice (some ⟨b+1+1,0,none⟩) 2 2,.string ⟨#[82]⟩,.int .i64 0,.int .i64 2,.int .u32 257] rfl rfl (Tryz.sizeOf41 W2) z1 rfl (one8 rfl) ?_;intro WA hA hgA;have z2A:=(hgA.block (w1.heap.size+1) (Array.getElem?_eq_some_iff.1 z2).1 (by simp)).trans z2)
  | (refine wpList_store_var _ rfl (.tmp 12) (.tmp 19) 41 rfl (w1.heap.size+1) 41 #[.int .i64 0,.int .i64 0,.int .i64 0,.int .i64 0,.slice none 0 0,.slice none 0 0,.string ⟨#[]⟩,.slice none 0 0,.string ⟨#[]⟩,.int .i64 0,.int .i64 0,.int .u32 0] #[.int .i64 103,.int .i64 5,.int .i64 10,.int .i64 2,.slice (some ⟨b,0,none⟩) 4 4,.slice (some ⟨b+1,0,none⟩) 1 1,.string ⟨#[82]⟩,.slice (some ⟨b+1+1,0,none⟩) 2 2,.string ⟨#[82]⟩,.int .i64 24,.int .i64 0,.int .u32 0] rfl rfl (Tryz.sizeOf41 _) z2A rfl (one8 rfl) ?_;intro WB bG hgB)
  | fail)
 have hxB:Ext w1 WB:=Below.grown (Below.grown HX2.out hgA HX2.out.size (fun j hj=>by cases hj;exact Nat.le_refl _)) hgB (Nat.le_trans HX2.out.size hgA.size) (fun j hj=>by cases hj;exact Nat.le_succ _)
 have hSB:=HSX.out.ext hxB
 clear e2 z1 z2 z2A hA hgA hgB
 obtain ⟨⟨kc0,kc1,kc2,kc3,kc4,kc5,kc6,kc7,kc8,kc9,kc10,kc11⟩,_⟩:=rw12 (show RW WB (w1.heap.size+1) 41 #[.int .i64 103,.int .i64 5,.int .i64 10,.int .i64 2,.slice (some ⟨b,0,none⟩) 4 4,.slice (some ⟨b+1,0,none⟩) 1 1,.string ⟨#[82]⟩,.slice (some ⟨b+1+1,0,none⟩) 2 2,.string ⟨#[82]⟩,.int .i64 24,.int .i64 0,.int .u32 0] from bG)
 have zZ:=heap_alloc_new WB (.cells #[.int .i64 0,.int .i64 0,.int .i64 0,.int .i64 0,.slice none 0 0,.slice none 0 0,.string ⟨#[]⟩,.slice none 0 0,.string ⟨#[]⟩,.int .i64 0,.int .i64 0,.int .u32 0] 41)
 have xZ:=(Ext.refl WB).alloc (.cells #[.int .i64 0,.int .i64 0,.int .i64 0,.int .i64 0,.slice none 0 0,.slice none 0 0,.string ⟨#[]⟩,.slice none 0 0,.string ⟨#[]⟩,.int .i64 0,.int .i64 0,.int .u32 0] 41)
 obtain ⟨WZ,eZ⟩:∃ W,WB.alloc (.cells #[.int .i64 0,.int .i64 0,.int .i64 0,.int .i64 0,.slice none 0 0,.slice none 0 0,.string ⟨#[]⟩,.slice none 0 0,.string ⟨#[]⟩,.int .i64 0,.int .i64 0,.int .u32 0] 41)=W:=⟨_,rfl⟩
 rw [eZ] at zZ xZ
 go_upto_region 3 with (first
  | (refine wpList_store_var WZ rfl (.tmp 13) (.tmp 20) 41 rfl WB.heap.size 41 #[.int .i64 0,.int .i64 0,.int .i64 0,.int .i64 0,.slice none 0 0,.slice none 0 0,.string ⟨#[]⟩,.slice none 0 0,.string ⟨#[]⟩,.int .i64 0,.int .i64 0,.int .u32 0] #[.int .i64 103,.int .i64 5,.int .i64 10,.int .i64 2,.slice (some ⟨b,0,none⟩) 4 4,.slice (some ⟨b+1,0,none⟩) 1 1,.string ⟨#[82]⟩,.slice (some ⟨b+1+1,0,none⟩) 2 2,.string ⟨#[82]⟩,.int .i64 24,.int .i64 0,.int .u32 0] rfl rfl (Tryz.sizeOf41 WZ) zZ rfl (one8 rfl) ?_;intro WC b3 hg3)
  | fail)
 have x3:Ext WB WC:=Below.grown xZ hg3 xZ.size (fun j hj=>by cases hj;exact Nat.le_refl _)
 clear eZ zZ xZ hg3
 change RW WC WB.heap.size 41 #[.int .i64 103,.int .i64 5,.int .i64 10,.int .i64 2,.slice (some ⟨b,0,none⟩) 4 4,.slice (some ⟨b+1,0,none⟩) 1 1,.string ⟨#[82]⟩,.slice (some ⟨b+1+1,0,none⟩) 2 2,.string ⟨#[82]⟩,.int .i64 24,.int .i64 0,.int .u32 0] at b3
 obtain ⟨⟨kd0,kd1,kd2,kd3,kd4,kd5,kd6,kd7,kd8,kd9,kd10,kd11⟩,kdz0,_⟩:=rw12 b3
 have b4:RW (WC.setCell ⟨WB.heap.size,0,none⟩ (.int .i64 109)) WB.heap.size 41 #[.int .i64 109,.int .i64 5,.int .i64 10,.int .i64 2,.slice (some ⟨b,0,none⟩) 4 4,.slice (some ⟨b+1,0,none⟩) 1 1,.string ⟨#[82]⟩,.slice (some ⟨b+1+1,0,none⟩) 2 2,.string ⟨#[82]⟩,.int .i64 24,.int .i64 0,.int .u32 0]:=b3.set 0 (.int .i64 109)
 have x4:=x3.setCell (p:=⟨WB.heap.size,0,none⟩) (Nat.le_refl _) (.int .i64 109)
 obtain ⟨WD,eD⟩:∃ W,WC.setCell ⟨WB.heap.size,0,none⟩ (.int .i64 109)=W:=⟨_,rfl⟩
 rw [eD] at b4 x4
 obtain ⟨⟨ke0,ke1,ke2,ke3,ke4,ke5,ke6,ke7,ke8,ke9,ke10,ke11⟩,_⟩:=rw12 b4
 obtain ⟨⟨kf0,kf1,kf2,kf3,kf4,kf5,kf6,kf7,kf8,kf9,kf10,kf11⟩,_⟩:=rw12 (show RW WD (w1.heap.size+1) 41 #[.int .i64 103,.int .i64 5,.int .i64 10,.int .i64 2,.slice (some ⟨b,0,none⟩) 4 4,.slice (some ⟨b+1,0,none⟩) 1 1,.string ⟨#[82]⟩,.slice (some ⟨b+1+1,0,none⟩) 2 2,.string ⟨#[82]⟩,.int .i64 24,.int .i64 0,.int .u32 0] from RW.ext bG x4)
 have hSD:=hSB.ext x4
 have f5:=FS.new WD [gX 103 b,gX 103 b,gX 109 b] (show 3≤maxLen by decide) (l3_in hSD)
 have x5:=(Ext.refl WD).alloc (.cells #[.int .i64 103,.int .i64 5,.int .i64 10,.int .i64 2,.slice (some ⟨b,0,none⟩) 4 4,.slice (some ⟨b+1,0,none⟩) 1 1,.string ⟨#[82]⟩,.slice (some ⟨b+1+1,0,none⟩) 2 2,.string ⟨#[82]⟩,.int .i64 24,.int .i64 0,.int .u32 0,.int .i64 103,.int .i64 5,.int .i64 10,.int .i64 2,.slice (some ⟨b,0,none⟩) 4 4,.slice (some ⟨b+1,0,none⟩) 1 1,.string ⟨#[82]⟩,.slice (some ⟨b+1+1,0,none⟩) 2 2,.string ⟨#[82]⟩,.int .i64 24,.int .i64 0,.int .u32 0,.int .i64 109,.int .i64 5,.int .i64 10,.int .i64 2,.slice (some ⟨b,0,none⟩) 4 4,.slice (some ⟨b+1,0,none⟩) 1 1,.string ⟨#[82]⟩,.slice (some ⟨b+1+1,0,none⟩) 2 2,.string ⟨#[82]⟩,.int .i64 24,.int .i64 0,.int .u32 0] 41)
 change FS (WD.alloc (.cells #[.int .i64 103,.int .i64 5,.int .i64 10,.int .i64 2,.slice (some ⟨b,0,none⟩) 4 4,.slice (some ⟨b+1,0,none⟩) 1 1,.string ⟨#[82]⟩,.slice (some ⟨b+1+1,0,none⟩) 2 2,.string ⟨#[82]⟩,.int .i64 24,.int .i64 0,.int .u32 0,.int .i64 103,.int .i64 5,.int .i64 10,.int .i64 2,.slice (some ⟨b,0,none⟩) 4 4,.slice (some ⟨b+1,0,none⟩) 1 1,.string ⟨#[82]⟩,.slice (some ⟨b+1+1,0,none⟩) 2 2,.string ⟨#[82]⟩,.int .i64 24,.int .i64 0,.int .u32 0,.int .i64 109,.int .i64 5,.int .i64 10,.int .i64 2,.slice (some ⟨b,0,none⟩) 4 4,.slice (some ⟨b+1,0,none⟩) 1 1,.string ⟨#[82]⟩,.slice (some ⟨b+1+1,0,none⟩) 2 2,.string ⟨#[82]⟩,.int .i64 24,.int .i64 0,.int .u32 0] 41)) (.slice (some ⟨WD.heap.size,0,none⟩) 3 3) _ at f5
 obtain ⟨WE,eE⟩:∃ W,WD.alloc (.cells #[.int .i64 103,.int .i64 5,.int .i64 10,.int .i64 2,.slice (some ⟨b,0,none⟩) 4 4,.slice (some ⟨b+1,0,none⟩) 1 1,.string ⟨#[82]⟩,.slice (some ⟨b+1+1,0,none⟩) 2 2,.string ⟨#[82]⟩,.int .i64 24,.int .i64 0,.int .u32 0,.int .i64 103,.int .i64 5,.int .i64 10,.int .i64 2,.slice (some ⟨b,0,none⟩) 4 4,.slice (some ⟨b+1,0,none⟩) 1 1,.string ⟨#[82]⟩,.slice (some ⟨b+1+1,0,none⟩) 2 2,.string ⟨#[82]⟩,.int .i64 24,.int .i64 0,.int .u32 0,.int .i64 109,.int .i64 5,.int .i64 10,.int .i64 2,.slice (some ⟨b,0,none⟩) 4 4,.slice (some ⟨b+1,0,none⟩) 1 1,.string ⟨#[82]⟩,.slice (some ⟨b+1+1,0,none⟩) 2 2,.string ⟨#[82]⟩,.int .i64 24,.int .i64 0,.int .u32 0] 41)=W:=⟨_,rfl⟩
 rw [eE] at f5 x5
 have HX5:=Lib.hid (((HX1.out.trans hxB).trans x4).trans x5)
 have HCC:=Lib.hid (HC.out b _ WE f5 (HE.out.ext HX5.out))
 clear bG hxB hSB b3 x3 b4 x4 hSD f5 x5
 go_wp2_with fail
 refine HCC.out.mono ?_
 rintro _ w6 ⟨⟨v,ms,rfl,hrow,hms⟩,hx6⟩
 obtain rfl:=ms_none hms (by rw [HAL.out];rfl)
 obtain ⟨A,c,rfl⟩:=hrow.shape
 have HX6:=Lib.hid (HX5.out.trans hx6)
 clear hrow hms hx6
 go_wp2_with fail
 go_ret
 exact ⟨rfl,HX6.out⟩
end Go.Proofs.YtnjmndofcpnmeaaGreatDoor
