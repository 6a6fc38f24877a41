/- Pq44. -/
import Derived.Test.YtnjmndofcpnmeaaGreatDoorPq0
import Derived.Test.YtnjmndofcpnmeaaGreatDoorPq43
import Derived.Test.YtnjmndofcpnmeaaGreatDoorPq26
import Derived.Test.YtnjmndofcpnmeaaGreatDoorPq28
import Derived.Test.YtnjmndofcpnmeaaGreatDoorPq29
import Derived.Test.YtnjmndofcpnmeaaGreatDoorPq39
import Derived.Test.YtnjmndofcpnmeaaGreatDoorPq40
import Derived.Test.YtnjmndofcpnmeaaGreatDoorPq20
import Derived.Deep.DeepCutAuto
import Derived.Deep.CutBlock
namespace Go.Proofs.YtnjmndofcpnmeaaGreatDoor
open Go Go.RowKit
set_option linter.unusedVariables false
theorem two_vars (w:World):∃ W2,(w.alloc (.cells #[.int .i64 0,.int .i64 0,.int .i64 0,.int .i64 0,.slice none 0 0,.slice none 0 0,.string ⟨#[]⟩,.slice none 0 0,.string ⟨#[]⟩,.int .i64 0,.int .i64 0,.int .u32 0] 41)).alloc (.cells #[.int .i64 0,.int .i64 0,.int .i64 0,.int .i64 0,.slice none 0 0,.slice none 0 0,.string ⟨#[]⟩,.slice none 0 0,.string ⟨#[]⟩,.int .i64 0,.int .i64 0,.int .u32 0] 41)=W2∧W2.heap[w.heap.size]? = some (.cells #[.int .i64 0,.int .i64 0,.int .i64 0,.int .i64 0,.slice none 0 0,.slice none 0 0,.string ⟨#[]⟩,.slice none 0 0,.string ⟨#[]⟩,.int .i64 0,.int .i64 0,.int .u32 0] 41 (0,0))∧W2.heap[w.heap.size+1]? = some (.cells #[.int .i64 0,.int .i64 0,.int .i64 0,.int .i64 0,.slice none 0 0,.slice none 0 0,.string ⟨#[]⟩,.slice none 0 0,.string ⟨#[]⟩,.int .i64 0,.int .i64 0,.int .u32 0] 41 (0,0))∧Ext w W2:=by
 have z1:=heap_alloc_new w (.cells #[.int .i64 0,.int .i64 0,.int .i64 0,.int .i64 0,.slice none 0 0,.slice none 0 0,.string ⟨#[]⟩,.slice none 0 0,.string ⟨#[]⟩,.int .i64 0,.int .i64 0,.int .u32 0] 41)
 have x1:=(Ext.refl w).alloc (.cells #[.int .i64 0,.int .i64 0,.int .i64 0,.int .i64 0,.slice none 0 0,.slice none 0 0,.string ⟨#[]⟩,.slice none 0 0,.string ⟨#[]⟩,.int .i64 0,.int .i64 0,.int .u32 0] 41)
 have z2:=heap_alloc_new (w.alloc (.cells #[.int .i64 0,.int .i64 0,.int .i64 0,.int .i64 0,.slice none 0 0,.slice none 0 0,.string ⟨#[]⟩,.slice none 0 0,.string ⟨#[]⟩,.int .i64 0,.int .i64 0,.int .u32 0] 41)) (.cells #[.int .i64 0,.int .i64 0,.int .i64 0,.int .i64 0,.slice none 0 0,.slice none 0 0,.string ⟨#[]⟩,.slice none 0 0,.string ⟨#[]⟩,.int .i64 0,.int .i64 0,.int .u32 0] 41)
 rw [World.size_alloc] at z2
 have x2:=(Ext.refl (w.alloc (.cells #[.int .i64 0,.int .i64 0,.int .i64 0,.int .i64 0,.slice none 0 0,.slice none 0 0,.string ⟨#[]⟩,.slice none 0 0,.string ⟨#[]⟩,.int .i64 0,.int .i64 0,.int .u32 0] 41))).alloc (.cells #[.int .i64 0,.int .i64 0,.int .i64 0,.int .i64 0,.slice none 0 0,.slice none 0 0,.string ⟨#[]⟩,.slice none 0 0,.string ⟨#[]⟩,.int .i64 0,.int .i64 0,.int .u32 0] 41)
 exact ⟨_,rfl,x2.heap z1,z2,x1.trans x2⟩
theorem one8 {vs:Array Value}(h:vs.toList.all (fun v=>v.oneCell')=true):∀ v∈vs.toList,v.oneCell'=true:=fun v hv=>List.all_eq_true.1 h v hv
set_option maxRecDepth 100000 in
set_option maxHeartbeats 800000 in
theorem alarm_none (win lim:Int) (h0:0≤win) (h1:win≤1099511627776) (h2:1≤lim) (h3:lim≤1000) (ha:almF l3E win lim false=[]) (x y:Int) (w:World) (hE:EnvA w):
  Calls Tryz.prog 32 #[.int .i64 win,.int .i64 lim,.int .i64 0,.int .i64 x,.int .i64 y] w fun e w'=>e=.returned (.bool true)∧Ext w w':=by
 have HS:=Lib.hid (sample_at w)
 unfold FV.val at HS
 have HE:=Lib.hid hE
 have HC:=Lib.hid (fun b A W (hF:FS W (.slice A 3 3) [gX 103 b,gX 103 b,gX 109 b]) (hE:EnvA W)=>clients3_at win lim h0 h1 h2 h3 b A W hF hE)
 have HAL:=Lib.hid ha
 clear h0 h1 h2 h3 ha hE
 go_enter Tryz.func32,Tryz.ntmps32
 go_wp2_with fail
 refine HS.out.mono ?_
 rintro _ w1 ⟨⟨b,rfl,hS⟩,hx1⟩
 have HX1:=Lib.hid hx1
 obtain ⟨W2,e2,z1,z2,hx2⟩:=two_vars w1
 have HSX:=Lib.hid hS;have HX2:=Lib.hid hx2
 have tok1:True:=trivial
 have tok2:True:=trivial
 clear hS hx1 hx2
 go_upto_region 2 with (first
  | (refine wpList_store_var W2 rfl (.tmp 11) (.tmp 18) 41 rfl w1.heap.size 41 #[.int .i64 0,.int .i64 0,.int .i64 0,.int .i64 0,.slice none 0 0,.slice none 0 0,.string ⟨#[]⟩,.slice none 0 0,.string ⟨#[]⟩,.int .i64 0,.int .i64 0,.int .u32 0] #[.int .i64 100,.int .i64 5,.int .i64 10,.int .i64 2,.slice (some ⟨b,0,none⟩) 4 4,.slice (some ⟨b+1,0,none⟩) 1 1,.string ⟨#[82]⟩,.slice (some ⟨b+1+1,0,none⟩) 2 2,.string ⟨#[82]⟩,.int .i64 0,.int .i64 2,.int .u32 257] rfl rfl (Tryz.sizeOf41 W2) z1 rfl (one8 rfl) ?_;intro WA hA hgA;have z2A:=(hgA.block (w1.heap.size+1) (Array.getElem?_eq_some_iff.1 z2).1 (by simp)).trans z2)
  | (refine wpList_store_var _ rfl (.tmp 12) (.tmp 19) 41 rfl (w1.heap.size+1) 41 #[.int .i64 0,.int .i64 0,.int .i64 0,.int .i64 0,.slice none 0 0,.slice none 0 0,.string ⟨#[]⟩,.slice none 0 0,.string ⟨#[]⟩,.int .i64 0,.int .i64 0,.int .u32 0] #[.int .i64 103,.int .i64 5,.int .i64 10,.int .i64 2,.slice (some ⟨b,0,none⟩) 4 4,.slice (some ⟨b+1,0,none⟩) 1 1,.string ⟨#[82]⟩,.slice (some ⟨b+1+1,0,none⟩) 2 2,.string ⟨#[82]⟩,.int .i64 24,.int .i64 0,.int .u32 0] rfl rfl (Tryz.sizeOf41 _) z2A rfl (one8 rfl) ?_;intro WB bG hgB)
  | fail)
 have hxB:Ext w1 WB:=Below.grown (Below.grown HX2.out hgA HX2.out.size (fun j hj=>by cases hj;exact Nat.le_refl _)) hgB (Nat.le_trans HX2.out.size hgA.size) (fun j hj=>by cases hj;exact Nat.le_succ _)
 have hSB:=HSX.out.ext hxB
 clear e2 z1 z2 z2A hA hgA hgB
 obtain ⟨⟨kc0,kc1,kc2,kc3,kc4,kc5,kc6,kc7,kc8,kc9,kc10,kc11⟩,_⟩:=rw12 (show RW WB (w1.heap.size+1) 41 #[.int .i64 103,.int .i64 5,.int .i64 10,.int .i64 2,.slice (some ⟨b,0,none⟩) 4 4,.slice (some ⟨b+1,0,none⟩) 1 1,.string ⟨#[82]⟩,.slice (some ⟨b+1+1,0,none⟩) 2 2,.string ⟨#[82]⟩,.int .i64 24,.int .i64 0,.int .u32 0] from bG)
 have zZ:=heap_alloc_new WB (.cells #[.int .i64 0,.int .i64 0,.int .i64 0,.int .i64 0,.slice none 0 0,.slice none 0 0,.string ⟨#[]⟩,.slice none 0 0,.string ⟨#[]⟩,.int .i64 0,.int .i64 0,.int .u32 0] 41)
 have xZ:=(Ext.refl WB).alloc (.cells #[.int .i64 0,.int .i64 0,.int .i64 0,.int .i64 0,.slice none 0 0,.slice none 0 0,.string ⟨#[]⟩,.slice none 0 0,.string ⟨#[]⟩,.int .i64 0,.int .i64 0,.int .u32 0] 41)
 obtain ⟨WZ,eZ⟩:∃ W,WB.alloc (.cells #[.int .i64 0,.int .i64 0,.int .i64 0,.int .i64 0,.slice none 0 0,.slice none 0 0,.string ⟨#[]⟩,.slice none 0 0,.string ⟨#[]⟩,.int .i64 0,.int .i64 0,.int .u32 0] 41)=W:=⟨_,rfl⟩
 rw [eZ] at zZ xZ
 go_upto_region 3 with (first
  | (refine wpList_store_var WZ rfl (.tmp 13) (.tmp 20) 41 rfl WB.heap.size 41 #[.int .i64 0,.int .i64 0,.int .i64 0,.int .i64 0,.slice none 0 0,.slice none 0 0,.string ⟨#[]⟩,.slice none 0 0,.string ⟨#[]⟩,.int .i64 0,.int .i64 0,.int .u32 0] #[.int .i64 103,.int .i64 5,.int .i64 10,.int .i64 2,.slice (some ⟨b,0,none⟩) 4 4,.slice (some ⟨b+1,0,none⟩) 1 1,.string ⟨#[82]⟩,.slice (some ⟨b+1+1,0,none⟩) 2 2,.string ⟨#[82]⟩,.int .i64 24,.int .i64 0,.int .u32 0] rfl rfl (Tryz.sizeOf41 WZ) zZ rfl (one8 rfl) ?_;intro WC b3 hg3)
  | fail)
 have x3:Ext WB WC:=Below.grown xZ hg3 xZ.size (fun j hj=>by cases hj;exact Nat.le_refl _)
 clear eZ zZ xZ hg3
 change RW WC WB.heap.size 41 #[.int .i64 103,.int .i64 5,.int .i64 10,.int .i64 2,.slice (some ⟨b,0,none⟩) 4 4,.slice (some ⟨b+1,0,none⟩) 1 1,.string ⟨#[82]⟩,.slice (some ⟨b+1+1,0,none⟩) 2 2,.string ⟨#[82]⟩,.int .i64 24,.int .i64 0,.int .u32 0] at b3
 obtain ⟨⟨kd0,kd1,kd2,kd3,kd4,kd5,kd6,kd7,kd8,kd9,kd10,kd11⟩,kdz0,_⟩:=rw12 b3
 have b4:RW (WC.setCell ⟨WB.heap.size,0,none⟩ (.int .i64 109)) WB.heap.size 41 #[.int .i64 109,.int .i64 5,.int .i64 10,.int .i64 2,.slice (some ⟨b,0,none⟩) 4 4,.slice (some ⟨b+1,0,none⟩) 1 1,.string ⟨#[82]⟩,.slice (some ⟨b+1+1,0,none⟩) 2 2,.string ⟨#[82]⟩,.int .i64 24,.int .i64 0,.int .u32 0]:=b3.set 0 (.int .i64 109)
 have x4:=x3.setCell (p:=⟨WB.heap.size,0,none⟩) (Nat.le_refl _) (.int .i64 109)
 obtain ⟨WD,eD⟩:∃ W,WC.setCell ⟨WB.heap.size,0,none⟩ (.int .i64 109)=W:=⟨_,rfl⟩
 rw [eD] at b4 x4
 obtain ⟨⟨ke0,ke1,ke2,ke3,ke4,ke5,ke6,ke7,ke8,ke9,ke10,ke11⟩,_⟩:=rw12 b4
 obtain ⟨⟨kf0,kf1,kf2,kf3,kf4,kf5,kf6,kf7,kf8,kf9,kf10,kf11⟩,_⟩:=rw12 (show RW WD (w1.heap.size+1) 41 #[.int .i64 103,.int .i64 5,.int .i64 10,.int .i64 2,.slice (some ⟨b,0,none⟩) 4 4,.slice (some ⟨b+1,0,none⟩) 1 1,.string ⟨#[82]⟩,.slice (some ⟨b+1+1,0,none⟩) 2 2,.string ⟨#[82]⟩,.int .i64 24,.int .i64 0,.int .u32 0] from RW.ext bG x4)
 have hSD:=hSB.ext x4
 have f5:=FS.new WD [gX 103 b,gX 103 b,gX 109 b] (show 3≤maxLen by decide) (l3_in hSD)
 have x5:=(Ext.refl WD).alloc (.cells #[.int .i64 103,.int .i64 5,.int .i64 10,.int .i64 2,.slice (some ⟨b,0,none⟩) 4 4,.slice (some ⟨b+1,0,none⟩) 1 1,.string ⟨#[82]⟩,.slice (some ⟨b+1+1,0,none⟩) 2 2,.string ⟨#[82]⟩,.int .i64 24,.int .i64 0,.int .u32 0,.int .i64 103,.int .i64 5,.int .i64 10,.int .i64 2,.slice (some ⟨b,0,none⟩) 4 4,.slice (some ⟨b+1,0,none⟩) 1 1,.string ⟨#[82]⟩,.slice (some ⟨b+1+1,0,none⟩) 2 2,.string ⟨#[82]⟩,.int .i64 24,.int .i64 0,.int .u32 0,.int .i64 109,.int .i64 5,.int .i64 10,.int .i64 2,.slice (some ⟨b,0,none⟩) 4 4,.slice (some ⟨b+1,0,none⟩) 1 1,.string ⟨#[82]⟩,.slice (some ⟨b+1+1,0,none⟩) 2 2,.string ⟨#[82]⟩,.int .i64 24,.int .i64 0,.int .u32 0] 41)
 change FS (WD.alloc (.cells #[.int .i64 103,.int .i64 5,.int .i64 10,.int .i64 2,.slice (some ⟨b,0,none⟩) 4 4,.slice (some ⟨b+1,0,none⟩) 1 1,.string ⟨#[82]⟩,.slice (some ⟨b+1+1,0,none⟩) 2 2,.string ⟨#[82]⟩,.int .i64 24,.int .i64 0,.int .u32 0,.int .i64 103,.int .i64 5,.int .i64 10,.int .i64 2,.slice (some ⟨b,0,none⟩) 4 4,.slice (some ⟨b+1,0,none⟩) 1 1,.string ⟨#[82]⟩,.slice (some ⟨b+1+1,0,none⟩) 2 2,.string ⟨#[82]⟩,.int .i64 24,.int .i64 0,.int .u32 0,.int .i64 109,.int .i64 5,.int .i64 10,.int .i64 2,.slice (some ⟨b,0,none⟩) 4 4,.slice (some ⟨b+1,0,none⟩) 1 1,.string ⟨#[82]⟩,.slice (some ⟨b+1+1,0,none⟩) 2 2,.string ⟨#[82]⟩,.int .i64 24,.int .i64 0,.int .u32 0] 41)) (.slice (some ⟨WD.heap.size,0,none⟩) 3 3) _ at f5
 obtain ⟨WE,eE⟩:∃ W,WD.alloc (.cells #[.int .i64 103,.int .i64 5,.int .i64 10,.int .i64 2,.slice (some ⟨b,0,none⟩) 4 4,.slice (some ⟨b+1,0,none⟩) 1 1,.string ⟨#[82]⟩,.slice (some ⟨b+1+1,0,none⟩) 2 2,.string ⟨#[82]⟩,.int .i64 24,.int .i64 0,.int .u32 0,.int .i64 103,.int .i64 5,.int .i64 10,.int .i64 2,.slice (some ⟨b,0,none⟩) 4 4,.slice (some ⟨b+1,0,none⟩) 1 1,.string ⟨#[82]⟩,.slice (some ⟨b+1+1,0,none⟩) 2 2,.string ⟨#[82]⟩,.int .i64 24,.int .i64 0,.int .u32 0,.int .i64 109,.int .i64 5,.int .i64 10,.int .i64 2,.slice (some ⟨b,0,none⟩) 4 4,.slice (some ⟨b+1,0,none⟩) 1 1,.string ⟨#[82]⟩,.slice (some ⟨b+1+1,0,none⟩) 2 2,.string ⟨#[82]⟩,.int .i64 24,.int .i64 0,.int .u32 0] 41)=W:=⟨_,rfl⟩
 rw [eE] at f5 x5
 have HX5:=Lib.hid (((HX1.out.trans hxB).trans x4).trans x5)
 have HCC:=Lib.hid (HC.out b _ WE f5 (HE.out.ext HX5.out))
 clear bG hxB hSB b3 x3 b4 x4 hSD f5 x5
 go_wp2_with fail
 refine HCC.out.mono ?_
 rintro _ w6 ⟨⟨v,ms,rfl,hrow,hms⟩,hx6⟩
 obtain rfl:=ms_none hms (by rw [HAL.out];rfl)
 obtain ⟨A,c,rfl⟩:=hrow.shape
 have HX6:=Lib.hid (HX5.out.trans hx6)
 clear hrow hms hx6
 go_wp2_with fail
 go_ret
 exact ⟨rfl,HX6.out⟩
theorem ROW.words {w:World}{B:Nat}{v:Value}{ws:List ByteArray}(h:ROW ES 9 w B v ws)(hn:0<ws.length):∃ g c,v=.slice (some ⟨g,0,none⟩) ws.length c∧∀ i (hi:i<ws.length),w.cell? ⟨g,i,none⟩=some (.string ws[i]):=by
 obtain ⟨A,c,rfl,h1,h2,h3⟩:=h.cells
 rcases h.2.1.2 with ⟨_,h0⟩ | ⟨g,cap,cur,hv,_⟩
 ·omega
 ·injection hv with e1 _ _
  subst e1
  refine ⟨g,c,rfl,fun i hi=>?_⟩
  obtain ⟨_,ad,hA,hc⟩:=h3 i hi
  injection hA with hA
  subst hA
  have:=hc 0 _ rfl
  rw [add0] at this
  simpa [ES] using this
def RPL (l:List UInt8)(e:Ending)(w':World):Prop:=
 (∃ f:FV,f.fct.Ok∧f.fct.txt=l∧e=.returned (.tuple #[f.val,.int .i64 0])∧f.In w'∧f.Sz∧STB w' f.CA∧STB w' f.SA) ∨
 ((∀ F:Fct,F.Ok→F.txt≠l)∧e=.returned (.tuple #[fv0.val,.int .i64 6]))
theorem spR_len (x:UInt8):∀ (l acc:List UInt8),(splb x acc l).length≤l.length+1
 | [],acc=>by simp [splb]
 | c::r,acc=>by
  rw [splb]
  split
  ·rw [List.length_cons,List.length_cons]
   have:=spR_len x r []
   omega
  ·have:=spR_len x r (acc++[c])
   rw [List.length_cons]
   omega
theorem word_sizes {s:ByteArray}(hs:s.size≤3000){x:UInt8}{ws:List ByteArray}(h:dat ws=splb x [] s.data.toList):∀ p∈ws,p.size≤3000:=fun p hp=>by
 have h1:p.data.toList∈splb x [] s.data.toList:=h ▸ List.mem_map.2 ⟨p,hp,rfl⟩
 have h2:p.data.toList.length≤s.data.toList.length:=by
  have:∀ (l acc m:List UInt8),m∈splb x acc l→m.length≤acc.length+l.length:=by
   intro l
   induction l with
   | nil=>intro acc m h;simp [splb] at h;subst h;simp
   | cons c r ih=>
    intro acc m h
    rw [splb] at h
    split at h
    ·rcases List.mem_cons.1 h with rfl | h
     ·simp
     ·have:=ih [] m h
      simp at this ⊢
      omega
    ·have:=ih (acc++[c]) m h
     simp at this ⊢
     omega
  simpa using this _ _ _ h1
 rw [size_list,size_list] at h2
 omega
theorem stb_ne {w:World}{A:Option Addr}{g:Nat}{cs:Array Value}(h:STB w A)(hg:RW w g 41 cs):∀ ad,A=some ad→ad.block≠g:=fun ad hA e=>by
 obtain ⟨cs',e'⟩:=h ad hA
 unfold RW at hg
 rw [e,hg] at e'
 injection e' with e'
 injection e' with _ e' _
 exact absurd e' (by decide)
theorem par_any {l:List UInt8}{e:Ending}{w':World}(h:PAr l e w'):∃ (fk:Int) (fb:List UInt8) (FA:Option Addr) (fc:Nat) (er:Int),(prsA l).getD (0,[])=(fk,fb)∧e=.returned (.tuple #[.agg #[.int .i64 fk,.slice FA fb.length fc],.int .i64 er])∧BS w' (.slice FA fb.length fc) fb∧fb.length≤16:=by
 rcases h with ⟨k,b,A,c,hp,rfl,hb⟩ | ⟨hp,rfl⟩
 ·refine ⟨k,b,A,c,0,by rw [hp];rfl,rfl,hb,?_⟩
  have ho:okA k b=true:=(prsA_some hp).1
  rcases okA_kinds ho with ⟨_,hl⟩ | ⟨_,hl⟩ | ⟨_,hl,_⟩<;>omega
 ·exact ⟨0,[],none,0,6,by rw [hp];rfl,rfl,BS.nil _,Nat.zero_le _⟩
theorem ROW.box {w:World}{B g c:Nat}{ws:List ByteArray}(h:ROW ES 9 w B (.slice (some ⟨g,0,none⟩) ws.length c) ws):∃ cs,RW w g 9 cs∧∀ i (hi:i<ws.length),cs[i]? = some (.string ws[i]):=by
 obtain ⟨_,⟨_,h2⟩,_⟩:=h
 rcases h2 with ⟨h0,_⟩ | ⟨g',cap,cur,hv,_,hg,_,_,_,hx⟩
 ·cases h0
 ·injection hv with e1 _ _
  injection e1 with e1
  injection e1 with e1 _ _
  subst e1
  refine ⟨cur,hg,fun i hi=>?_⟩
  have:(ES.all ws)[i]? = some (.string ws[i]):=by rw [ES.all_eq];exact sv_get ws i hi
  rw [← hx,List.getElem?_take_of_lt (by show i<ws.length*1;omega)] at this
  rw [← this];simp
structure PSB (w wt:World) (g:Nat) (W:World) (f:FV):Prop where
 l0:w.heap.size≤g
 l1:wt.heap.size≤g
 l2:w.heap.size<wt.heap.size
 ex:Ext w W
 et:Ext wt W
 z:RW W w.heap.size 41 #[.int .i64 0,.int .i64 0,.int .i64 0,.int .i64 0,.slice none 0 0,.slice none 0 0,.string ⟨#[]⟩,.slice none 0 0,.string ⟨#[]⟩,.int .i64 0,.int .i64 0,.int .u32 0]
 b:FQ W g f
 i:f.In W
 s2:STB W f.CA
 s3:STB W f.SA
theorem PSB.ext {w wt:World}{g:Nat}{W W':World}{f:FV}(h:PSB w wt g W f)(hx:Ext W W'):PSB w wt g W' f:=⟨h.l0,h.l1,h.l2,h.ex.trans hx,h.et.trans hx,h.z.ext hx,h.b.ext hx,h.i.ext hx,h.s2.ext hx,h.s3.ext hx⟩
theorem fq_no8 {w:World}{g:Nat}{f:FV}(h:FQ w g f):NoU8 w g:=NoU8.of h fun x hx n e=>by
 subst e
 simp at hx
theorem PSB.put {w wt:World}{g:Nat}{W W':World}{f f':FV}(h:PSB w wt g W f)(hg:W.grownBy W' (some g))(hb:FQ W' g f')(hi:f'.In W)(hC:f'.CA=f.CA)(hS:f'.SA=f.SA):PSB w wt g W' f':=by
 have n2:=stb_ne h.s2 (show RW W g 41 _ from h.b)
 have n3:=stb_ne h.s3 (show RW W g 41 _ from h.b)
 refine ⟨h.l0,h.l1,h.l2,h.ex.grown hg (fun j hj=>by cases hj;exact h.l0),h.et.grown hg (fun j hj=>by cases hj;exact h.l1),?_,hb,?_,?_,?_⟩
 ·exact (hg.block w.heap.size (Array.getElem?_eq_some_iff.1 h.z).1 (fun e=>by injection e with e;have:=h.l1;have:=h.l2;omega)).trans h.z
 ·refine hi.off hg (fun b e=>?_)
  injection e with e
  subst e
  refine ⟨fq_no8 h.b,fun hB=>?_⟩
  rcases hB with ⟨_,ad,hA,e⟩ | ⟨_,ad,hA,e⟩
  ·exact n2 ad (hC ▸ hA) e
  ·exact n3 ad (hS ▸ hA) e
 ·intro ad hA
  rw [hC] at hA
  obtain ⟨cs,e⟩:=h.s2 ad hA
  exact ⟨cs,(hg.block ad.block (Array.getElem?_eq_some_iff.1 e).1 (fun e2=>by injection e2 with e2;exact n2 ad hA e2)).trans e⟩
 ·intro ad hA
  rw [hS] at hA
  obtain ⟨cs,e⟩:=h.s3 ad hA
  exact ⟨cs,(hg.block ad.block (Array.getElem?_eq_some_iff.1 e).1 (fun e2=>by injection e2 with e2;exact n3 ad hA e2)).trans e⟩
theorem PSB.fin {w wt:World}{g:Nat}{W W':World}{f:FV}(h:PSB w wt g W f)(hg:W.grownBy W' (some w.heap.size)):f.In W'∧STB W' f.CA∧STB W' f.SA∧Ext w W':=by
 have n2:=stb_ne h.s2 h.z
 have n3:=stb_ne h.s3 h.z
 have nz:NoU8 W w.heap.size:=NoU8.of h.z fun x hx n e=>by
  subst e
  simp at hx
 refine ⟨h.i.off hg (fun b e=>?_),fun ad hA=>?_,fun ad hA=>?_,h.ex.grown hg (fun j hj=>by cases hj;exact Nat.le_refl _)⟩
 ·injection e with e
  subst e
  refine ⟨nz,fun hB=>?_⟩
  rcases hB with ⟨_,ad,hA,e⟩ | ⟨_,ad,hA,e⟩
  ·exact n2 ad hA e
  ·exact n3 ad hA e
 ·obtain ⟨cs,e⟩:=h.s2 ad hA
  exact ⟨cs,(hg.block ad.block (Array.getElem?_eq_some_iff.1 e).1 (fun e2=>by injection e2 with e2;exact n2 ad hA e2)).trans e⟩
 ·obtain ⟨cs,e⟩:=h.s3 ad hA
  exact ⟨cs,(hg.block ad.block (Array.getElem?_eq_some_iff.1 e).1 (fun e2=>by injection e2 with e2;exact n3 ad hA e2)).trans e⟩
theorem prs_sz {ps:List ByteArray}{r:ByteArray}(h:prsB (dat ps) r.data.toList=true):ps.length≤1000∧(∀ p∈ps,p.size≤1000)∧r.size≤1000:=by
 unfold prsB at h
 rw [Bool.or_eq_true] at h
 rcases h with h | h
 ·unfold noneN at h
  rw [Bool.and_eq_true] at h
  have h1:=congrArg List.length (List.isEmpty_iff.1 h.1)
  have h2:=congrArg List.length (List.isEmpty_iff.1 h.2)
  rw [dat_length] at h1
  rw [size_list] at h2
  have h3:ps=[]:=List.eq_nil_of_length_eq_zero h1
  subst h3
  exact ⟨Nat.zero_le _,fun p hp=>(by cases hp),by rw [h2];exact Nat.zero_le _⟩
 ·unfold nameB realmB at h
  simp only [Bool.and_eq_true,decide_eq_true_eq,List.all_eq_true] at h
  obtain ⟨⟨⟨h1,h2⟩,h3,_⟩,h4⟩:=h
  rw [dat_length] at h2
  unfold sizedB at h3
  rw [decide_eq_true_eq,size_list] at h3
  refine ⟨by omega,fun p hp=>?_,by omega⟩
  have h5:=h4 p.data.toList (List.mem_map.2 ⟨p,hp,rfl⟩)
  unfold partB sizedB at h5
  rw [Bool.and_eq_true,decide_eq_true_eq,size_list] at h5
  omega
theorem ok_sz {m:FV}(h:m.fct.Ok):m.Sz:=by
 have h1:=prs_sz h.cl
 have h2:=prs_sz h.sv
 refine ⟨?_,h1.1,h1.2.1,h1.2.2,h2.1,h2.2.1,h2.2.2⟩
 rcases okA_kinds h.fr with ⟨_,h⟩ | ⟨_,h⟩ | ⟨_,h,_⟩<;>(dsimp only [FV.fct] at h;omega)
set_option maxRecDepth 100000 in
set_option maxHeartbeats 4000000 in
theorem RFParse_at2 (s:ByteArray) (hs:s.size≤3000) (w:World) (hE:EnvA w):
  Calls Tryz.prog 27 #[.string s] w fun e w'=>RPL s.data.toList e w'∧Ext w w':=by
 have z0:RW (w.alloc (.cells #[.int .i64 0,.int .i64 0,.int .i64 0,.int .i64 0,.slice none 0 0,.slice none 0 0,.string ⟨#[]⟩,.slice none 0 0,.string ⟨#[]⟩,.int .i64 0,.int .i64 0,.int .u32 0] 41)) w.heap.size 41 #[.int .i64 0,.int .i64 0,.int .i64 0,.int .i64 0,.slice none 0 0,.slice none 0 0,.string ⟨#[]⟩,.slice none 0 0,.string ⟨#[]⟩,.int .i64 0,.int .i64 0,.int .u32 0]:=heap_alloc_new w _
 have x0:=(Ext.refl w).alloc (.cells #[.int .i64 0,.int .i64 0,.int .i64 0,.int .i64 0,.slice none 0 0,.slice none 0 0,.string ⟨#[]⟩,.slice none 0 0,.string ⟨#[]⟩,.int .i64 0,.int .i64 0,.int .u32 0] 41)
 obtain ⟨W0,e0⟩:∃ W,w.alloc (.cells #[.int .i64 0,.int .i64 0,.int .i64 0,.int .i64 0,.slice none 0 0,.slice none 0 0,.string ⟨#[]⟩,.slice none 0 0,.string ⟨#[]⟩,.int .i64 0,.int .i64 0,.int .u32 0] 41)=W:=⟨_,rfl⟩
 rw [e0] at z0 x0
 have HZ0:=Lib.hid z0;have HX0:=Lib.hid x0;have HE:=Lib.hid hE
 have HS1:=Lib.hid (RSplit_at s hs 32 W0)
 clear z0 x0 hE
 go_enter Tryz.func27,Tryz.ntmps27
 go_wp2_with fail
 refine HS1.out.mono ?_
 rintro _ w1 ⟨⟨v1,ws,rfl,hr1,hd1⟩,hx1⟩
 have HX1:=Lib.hid (HX0.out.trans hx1);have HZ1:=Lib.hid (HZ0.out.ext hx1);have HD1:=Lib.hid hd1
 have HWZ:=Lib.hid (word_sizes hs hd1)
 have hn1:0<ws.length:=by
  rcases Nat.eq_zero_or_pos ws.length with h | h
  ·have h2:=congrArg List.length hd1
   rw [dat_length,h] at h2
   exact absurd (List.eq_nil_of_length_eq_zero h2.symm) (splb_ne 32 _ _)
  ·exact h
 obtain ⟨g1,c1,rfl,hw1⟩:=hr1.words hn1
 have HW1:=Lib.hid hw1
 clear hx1 hd1 hr1 hn1 hw1 HS1 e0
 by_cases h8:ws.length=8
 case neg=>
  have q8:((ws.length:Int) != 8)=true:=by rw [bne_iff_ne];omega
  have HNO:=Lib.hid (facR_no8 (l:=s.data.toList) (by rw [← HD1.out,dat_length];exact h8))
  clear h8
  go_wp2_with (first | (refine wpList_store_var _ rfl (.tmp 2) (.tmp 15) 41 rfl w.heap.size 41 #[.int .i64 0,.int .i64 0,.int .i64 0,.int .i64 0,.slice none 0 0,.slice none 0 0,.string ⟨#[]⟩,.slice none 0 0,.string ⟨#[]⟩,.int .i64 0,.int .i64 0,.int .u32 0] #[.int .i64 0,.int .i64 0,.int .i64 0,.int .i64 0,.slice none 0 0,.slice none 0 0,.string ⟨#[]⟩,.slice none 0 0,.string ⟨#[]⟩,.int .i64 0,.int .i64 0,.int .u32 0] rfl rfl (Tryz.sizeOf41 _) HZ1.out rfl (one8 rfl) ?_;intro W9 b9 hg9;obtain ⟨⟨d0,d1,d2,d3,d4,d5,d6,d7,d8,d9,d10,d11⟩,_⟩:=rw12 (show RW W9 w.heap.size 41 #[.int .i64 0,.int .i64 0,.int .i64 0,.int .i64 0,.slice none 0 0,.slice none 0 0,.string ⟨#[]⟩,.slice none 0 0,.string ⟨#[]⟩,.int .i64 0,.int .i64 0,.int .u32 0] from b9)) | fail)
  refine bodyPost_ret (v:=.tuple #[fv0.val,.int .i64 6]) (by simp [results,Tryz.results27,go_sem,d0,d1,d2,d3,d4,d5,d6,d7,d8,d9,d10,d11];try rfl) rfl ?_
  exact ⟨.inr ⟨HNO.out,rfl⟩,Below.grown HX1.out hg9 HX1.out.size (fun j hj=>by cases hj;exact Nat.le_refl _)⟩
 obtain ⟨p0,p1,p2,p3,p4,p5,p6,p7,rfl⟩:∃ p0 p1 p2 p3 p4 p5 p6 p7,ws=[p0,p1,p2,p3,p4,p5,p6,p7]:=by
  match ws,h8 with
  | [p0,p1,p2,p3,p4,p5,p6,p7],_=>exact ⟨p0,p1,p2,p3,p4,p5,p6,p7,rfl⟩
 have HWW:=Lib.hid (fun W (hW:Ext w1 W)=>(show W.cell? ⟨g1,0,none⟩=some (.string p0)∧W.cell? ⟨g1,1,none⟩=some (.string p1)∧W.cell? ⟨g1,2,none⟩=some (.string p2)∧W.cell? ⟨g1,3,none⟩=some (.string p3)∧W.cell? ⟨g1,4,none⟩=some (.string p4)∧W.cell? ⟨g1,5,none⟩=some (.string p5)∧W.cell? ⟨g1,6,none⟩=some (.string p6)∧W.cell? ⟨g1,7,none⟩=some (.string p7) from ⟨hW.cell (HW1.out 0 (by simp)),hW.cell (HW1.out 1 (by simp)),hW.cell (HW1.out 2 (by simp)),hW.cell (HW1.out 3 (by simp)),hW.cell (HW1.out 4 (by simp)),hW.cell (HW1.out 5 (by simp)),hW.cell (HW1.out 6 (by simp)),hW.cell (HW1.out 7 (by simp))⟩))
 have q8:((8:Int) != 8)=false:=rfl
 obtain ⟨k0,k1,k2,k3,k4,k5,k6,k7⟩:=HWW.out w1 (Ext.refl _)
 have HS2:=Lib.hid (fun W=>RSplit_at p0 (HWZ.out _ (by simp)) 46 W)
 rw [show [p0,p1,p2,p3,p4,p5,p6,p7].length=8 from rfl]
 clear h8 HW1
 go_wp2_with fail
 refine (HS2.out _).mono ?_
 rintro _ wt ⟨⟨v2,ts,rfl,hr2,hd2⟩,hx2⟩
 have HXT:=Lib.hid (HX1.out.trans hx2);have HZT:=Lib.hid (HZ1.out.ext hx2);have HD2:=Lib.hid hd2;have HX12:=Lib.hid hx2
 have HTZ:=Lib.hid (word_sizes (HWZ.out p0 (by simp)) hd2)
 have hn2:0<ts.length:=by
  rcases Nat.eq_zero_or_pos ts.length with h | h
  ·have h2:=congrArg List.length hd2
   rw [dat_length,h] at h2
   exact absurd (List.eq_nil_of_length_eq_zero h2.symm) (splb_ne 46 _ _)
  ·exact h
 obtain ⟨g2,c2',rfl,hw2⟩:=hr2.words hn2
 have HW2:=Lib.hid hw2
 clear hx2 hd2 hr2 hn2 hw2 HS2 k0 k1 k2 k3 k4 k5 k6 k7 q8
 by_cases h2:ts.length=2
 case neg=>
  have q2:((ts.length:Int) != 2)=true:=by rw [bne_iff_ne];omega
  have HNO:=Lib.hid (facR_no2 (l:=s.data.toList) (w0:=p0.data.toList) HD1.out.symm (by rw [← HD2.out,dat_length];exact h2))
  clear h2
  go_wp2_with (first | (refine wpList_store_var _ rfl (.tmp 2) (.tmp 23) 41 rfl w.heap.size 41 #[.int .i64 0,.int .i64 0,.int .i64 0,.int .i64 0,.slice none 0 0,.slice none 0 0,.string ⟨#[]⟩,.slice none 0 0,.string ⟨#[]⟩,.int .i64 0,.int .i64 0,.int .u32 0] #[.int .i64 0,.int .i64 0,.int .i64 0,.int .i64 0,.slice none 0 0,.slice none 0 0,.string ⟨#[]⟩,.slice none 0 0,.string ⟨#[]⟩,.int .i64 0,.int .i64 0,.int .u32 0] rfl rfl (Tryz.sizeOf41 _) HZT.out rfl (one8 rfl) ?_;intro W9 b9 hg9;obtain ⟨⟨d0,d1,d2,d3,d4,d5,d6,d7,d8,d9,d10,d11⟩,_⟩:=rw12 (show RW W9 w.heap.size 41 #[.int .i64 0,.int .i64 0,.int .i64 0,.int .i64 0,.slice none 0 0,.slice none 0 0,.string ⟨#[]⟩,.slice none 0 0,.string ⟨#[]⟩,.int .i64 0,.int .i64 0,.int .u32 0] from b9)) | fail)
  refine bodyPost_ret (v:=.tuple #[fv0.val,.int .i64 6]) (by simp [results,Tryz.results27,go_sem,d0,d1,d2,d3,d4,d5,d6,d7,d8,d9,d10,d11];try rfl) rfl ?_
  exact ⟨.inr ⟨HNO.out,rfl⟩,Below.grown HXT.out hg9 HXT.out.size (fun j hj=>by cases hj;exact Nat.le_refl _)⟩
 obtain ⟨a,b,rfl⟩:∃ a b,ts=[a,b]:=by
  match ts,h2 with
  | [a,b],_=>exact ⟨a,b,rfl⟩
 have HTW:=Lib.hid (fun W (hW:Ext wt W)=>(show W.cell? ⟨g2,0,none⟩=some (.string a)∧W.cell? ⟨g2,1,none⟩=some (.string b) from ⟨hW.cell (HW2.out 0 (by simp)),hW.cell (HW2.out 1 (by simp))⟩))
 have HWW0:=HWW
 clear HWW
 have HWW:=Lib.hid (fun W (hW:Ext wt W)=>HWW0.out W (HX12.out.trans hW))
 have HZ:=Lib.hid (show ∀ p∈[a,b,p2,p3,p5,p6],p.size≤3000 by
  intro p hp
  simp only [List.mem_cons,List.not_mem_nil,or_false] at hp
  rcases hp with rfl | rfl | rfl | rfl | rfl | rfl
  ·exact HTZ.out _ (by simp)
  ·exact HTZ.out _ (by simp)
  ·exact HWZ.out _ (by simp)
  ·exact HWZ.out _ (by simp)
  ·exact HWZ.out _ (by simp)
  ·exact HWZ.out _ (by simp))
 rw [show [a,b].length=2 from rfl]
 clear h2 HW2 HWW0
 go_upto_region 7 with fail
 refine wp_region_ext_tail 26 (fun i v' w'=>match i with | 3=>v'=.int .i64 (numR a.data.toList) | 7=>v'=.int .i64 (numR b.data.toList) | 11=>∃ A c ps r,v'=.agg #[.slice A ps.length c,.string r]∧RS w' (.slice A ps.length c) (sv ps)∧(dat ps,r.data.toList)=prnW p2.data.toList∧(ps.length≤3000∧r.size≤3000∧∀ p∈ps,p.size≤3000)∧STB w' A | 15=>∃ A c ps r,v'=.agg #[.slice A ps.length c,.string r]∧RS w' (.slice A ps.length c) (sv ps)∧(dat ps,r.data.toList)=prnW p3.data.toList∧(ps.length≤3000∧r.size≤3000∧∀ p∈ps,p.size≤3000)∧STB w' A | 19=>v'=.int .i64 (numR p5.data.toList) | 23=>v'=.int .i64 (numR p6.data.toList) | 25=>∃ g,v'=.pointer (some ⟨g,0,none⟩)∧wt.heap.size≤g∧w'.heap[g]? = some (.cells #[.int .i64 0,.int .i64 0,.int .i64 0,.int .i64 0,.slice none 0 0,.slice none 0 0,.string ⟨#[]⟩,.slice none 0 0,.string ⟨#[]⟩,.int .i64 0,.int .i64 0,.int .u32 0] 41 (0,0)) | _=>False) (by kernel_rfl) (by kernel_rfl) ?_
 refine wpE_op rfl rfl (fun w' hw' K' hK'=>?_)
 have hE:=hw'.1
 go_step
 refine hK' _ ⟨_,rfl⟩ ?_
 clear hK' K' hE hw' w'
 refine wpE_op rfl rfl (fun w' hw' K' hK'=>?_)
 have hE:=hw'.1
 go_step
 refine hK' _ ⟨_,rfl⟩ ?_
 clear hK' K' hE hw' w'
 refine wpE_op rfl rfl (fun w' hw' K' hK'=>?_)
 have hE:=hw'.1
 obtain ⟨t0,t1⟩:=HTW.out w' ((Ext.drew wt).trans hE)
 go_step
 refine hK' _ ⟨_,rfl⟩ ?_
 clear hK' K' t0 t1 hE hw' w'
 refine wpE_call 27 rfl (by simp) rfl (fun w' hw' K' hK'=>?_) ?_
 ·have hE:=hw'.1
  go_step
  refine (RNumber_at a (HZ.out _ (by simp)) w').mono ?_
  rintro _ w2 ⟨rfl,rfl⟩
  exact hK' _ _ ⟨_,rfl,rfl⟩ (Ext.refl _)
 rintro _ w6 _ rfl
 simp only [Act.put,sT1,sT2,sT3]
 refine wpE_op rfl rfl (fun w' hw' K' hK'=>?_)
 have hE:=hw'.1
 go_step
 refine hK' _ ⟨_,rfl⟩ ?_
 clear hK' K' hE hw' w'
 refine wpE_op rfl rfl (fun w' hw' K' hK'=>?_)
 have hE:=hw'.1
 go_step
 refine hK' _ ⟨_,rfl⟩ ?_
 clear hK' K' hE hw' w'
 refine wpE_op rfl rfl (fun w' hw' K' hK'=>?_)
 have hE:=hw'.1
 obtain ⟨t0,t1⟩:=HTW.out w' ((Ext.drew wt).trans hE)
 go_step
 refine hK' _ ⟨_,rfl⟩ ?_
 clear hK' K' t0 t1 hE hw' w'
 refine wpE_call 31 rfl (by simp) rfl (fun w' hw' K' hK'=>?_) ?_
 ·have hE:=hw'.1
  go_step
  refine (RNumber_at b (HZ.out _ (by simp)) w').mono ?_
  rintro _ w2 ⟨rfl,rfl⟩
  exact hK' _ _ ⟨_,rfl,rfl⟩ (Ext.refl _)
 rintro _ w6 _ rfl
 simp only [Act.put,sT1,sT2,sT3]
 refine wpE_op rfl rfl (fun w' hw' K' hK'=>?_)
 have hE:=hw'.1
 go_step
 refine hK' _ ⟨_,rfl⟩ ?_
 clear hK' K' hE hw' w'
 refine wpE_op rfl rfl (fun w' hw' K' hK'=>?_)
 have hE:=hw'.1
 go_step
 refine hK' _ ⟨_,rfl⟩ ?_
 clear hK' K' hE hw' w'
 refine wpE_op rfl rfl (fun w' hw' K' hK'=>?_)
 have hE:=hw'.1
 obtain ⟨k0,k1,k2,k3,k4,k5,k6,k7⟩:=HWW.out w' ((Ext.drew wt).trans hE)
 go_step
 refine hK' _ ⟨_,rfl⟩ ?_
 clear hK' K' k0 k1 k2 k3 k4 k5 k6 k7 hE hw' w'
 refine wpE_call 35 rfl (by simp) rfl (fun w' hw' K' hK'=>?_) ?_
 ·have hE:=hw'.1
  go_step
  refine (RPrinc_at p2 (HZ.out _ (by simp)) w').mono ?_
  rintro _ w2 ⟨⟨A,c,ps,r,rfl,hr,hp,z1,z2,z3,hsb⟩,hx⟩
  have hz:=HZ.out p2 (by simp)
  rw [size_list] at z1 z2 z3
  exact hK' _ _ ⟨_,rfl,A,c,ps,r,rfl,hr,hp,⟨by omega,by omega,fun p hp=>by have:=z3 p hp;omega⟩,hsb⟩ hx
 rintro _ w2x hE2 ⟨A2,c2,ps2,r2,rfl,hr2,hp2,hz2,hs2⟩
 simp only [Act.put,sT1,sT2,sT3]
 refine wpE_op rfl rfl (fun w' hw' K' hK'=>?_)
 have hE:=hw'.1
 go_step
 refine hK' _ ⟨_,rfl⟩ ?_
 clear hK' K' hE hw' w'
 refine wpE_op rfl rfl (fun w' hw' K' hK'=>?_)
 have hE:=hw'.1
 go_step
 refine hK' _ ⟨_,rfl⟩ ?_
 clear hK' K' hE hw' w'
 refine wpE_op rfl rfl (fun w' hw' K' hK'=>?_)
 have hE:=hw'.1
 obtain ⟨k0,k1,k2,k3,k4,k5,k6,k7⟩:=HWW.out w' ((Ext.drew wt).trans hE)
 go_step
 refine hK' _ ⟨_,rfl⟩ ?_
 clear hK' K' k0 k1 k2 k3 k4 k5 k6 k7 hE hw' w'
 refine wpE_call 39 rfl (by simp) rfl (fun w' hw' K' hK'=>?_) ?_
 ·have hE:=hw'.1
  go_step
  refine (RPrinc_at p3 (HZ.out _ (by simp)) w').mono ?_
  rintro _ w2 ⟨⟨A,c,ps,r,rfl,hr,hp,z1,z2,z3,hsb⟩,hx⟩
  have hz:=HZ.out p3 (by simp)
  rw [size_list] at z1 z2 z3
  exact hK' _ _ ⟨_,rfl,A,c,ps,r,rfl,hr,hp,⟨by omega,by omega,fun p hp=>by have:=z3 p hp;omega⟩,hsb⟩ hx
 rintro _ w3x hE3 ⟨A3,c3,ps3,r3,rfl,hr3,hp3,hz3,hs3⟩
 simp only [Act.put,sT1,sT2,sT3]
 refine wpE_op rfl rfl (fun w' hw' K' hK'=>?_)
 have hE:=hw'.1
 go_step
 refine hK' _ ⟨_,rfl⟩ ?_
 clear hK' K' hE hw' w'
 refine wpE_op rfl rfl (fun w' hw' K' hK'=>?_)
 have hE:=hw'.1
 go_step
 refine hK' _ ⟨_,rfl⟩ ?_
 clear hK' K' hE hw' w'
 refine wpE_op rfl rfl (fun w' hw' K' hK'=>?_)
 have hE:=hw'.1
 obtain ⟨k0,k1,k2,k3,k4,k5,k6,k7⟩:=HWW.out w' ((Ext.drew wt).trans hE)
 go_step
 refine hK' _ ⟨_,rfl⟩ ?_
 clear hK' K' k0 k1 k2 k3 k4 k5 k6 k7 hE hw' w'
 refine wpE_call 43 rfl (by simp) rfl (fun w' hw' K' hK'=>?_) ?_
 ·have hE:=hw'.1
  go_step
  refine (RNumber_at p5 (HZ.out _ (by simp)) w').mono ?_
  rintro _ w2 ⟨rfl,rfl⟩
  exact hK' _ _ ⟨_,rfl,rfl⟩ (Ext.refl _)
 rintro _ w6 _ rfl
 simp only [Act.put,sT1,sT2,sT3]
 refine wpE_op rfl rfl (fun w' hw' K' hK'=>?_)
 have hE:=hw'.1
 go_step
 refine hK' _ ⟨_,rfl⟩ ?_
 clear hK' K' hE hw' w'
 refine wpE_op rfl rfl (fun w' hw' K' hK'=>?_)
 have hE:=hw'.1
 go_step
 refine hK' _ ⟨_,rfl⟩ ?_
 clear hK' K' hE hw' w'
 refine wpE_op rfl rfl (fun w' hw' K' hK'=>?_)
 have hE:=hw'.1
 obtain ⟨k0,k1,k2,k3,k4,k5,k6,k7⟩:=HWW.out w' ((Ext.drew wt).trans hE)
 go_step
 refine hK' _ ⟨_,rfl⟩ ?_
 clear hK' K' k0 k1 k2 k3 k4 k5 k6 k7 hE hw' w'
 refine wpE_call 47 rfl (by simp) rfl (fun w' hw' K' hK'=>?_) ?_
 ·have hE:=hw'.1
  go_step
  refine (RNumber_at p6 (HZ.out _ (by simp)) w').mono ?_
  rintro _ w2 ⟨rfl,rfl⟩
  exact hK' _ _ ⟨_,rfl,rfl⟩ (Ext.refl _)
 rintro _ w6 _ rfl
 simp only [Act.put,sT1,sT2,sT3]
 refine wpE_op rfl rfl (fun w' hw' K' hK'=>?_)
 have hE:=hw'.1
 go_step
 refine hK' _ ⟨_,rfl⟩ ?_
 clear hK' K' hE hw' w'
 refine wpE_call 6 rfl (by simp) rfl (fun w' hw' K' hK'=>?_) ?_
 ·have hE:=hw'.1
  go_step
  have hg:=heap_alloc_new w' (.cells #[.int .i64 0,.int .i64 0,.int .i64 0,.int .i64 0,.slice none 0 0,.slice none 0 0,.string ⟨#[]⟩,.slice none 0 0,.string ⟨#[]⟩,.int .i64 0,.int .i64 0,.int .u32 0] 41)
  have hxa:=(Ext.refl w').alloc (.cells #[.int .i64 0,.int .i64 0,.int .i64 0,.int .i64 0,.slice none 0 0,.slice none 0 0,.string ⟨#[]⟩,.slice none 0 0,.string ⟨#[]⟩,.int .i64 0,.int .i64 0,.int .u32 0] 41)
  have hle:=((Ext.drew wt).trans hE).size
  exact hK' _ _ ⟨_,rfl,_,rfl,hle,hg⟩ hxa
 rintro _ wgx hEg ⟨g6,rfl,hle6,hg6⟩
 simp only [Act.put,sT1,sT2,sT3]
 refine wpE_nil (fun W hW=>?_)
 have HXW:=Lib.hid (HXT.out.trans ((Ext.drew wt).trans hW.1))
 have HZW:=Lib.hid (HZT.out.ext ((Ext.drew wt).trans hW.1))
 have hR2:RS W (.slice A2 ps2.length c2) (sv ps2):=hr2.ext (hW.2 35 w2x (by simp [adds]))
 have hR3:RS W (.slice A3 ps3.length c3) (sv ps3):=hr3.ext (hW.2 39 w3x (by simp [adds]))
 have hG6:RW W g6 41 #[.int .i64 0,.int .i64 0,.int .i64 0,.int .i64 0,.slice none 0 0,.slice none 0 0,.string ⟨#[]⟩,.slice none 0 0,.string ⟨#[]⟩,.int .i64 0,.int .i64 0,.int .u32 0]:=(hW.2 6 wgx (by simp [adds])).heap hg6
 have hS2:STB W A2:=hs2.ext (hW.2 35 w2x (by simp [adds]))
 have hS3:STB W A3:=hs3.ext (hW.2 39 w3x (by simp [adds]))
 simp only [List.drop_succ_cons,List.drop_zero]
 have HPR2:=Lib.hid hp2;have HPR3:=Lib.hid hp3;have HZZ2:=Lib.hid hz2;have HZZ3:=Lib.hid hz3
 have HR2:=Lib.hid hR2;have HR3:=Lib.hid hR3;have HG6:=Lib.hid hG6;have HSB2:=Lib.hid hS2;have HSB3:=Lib.hid hS3
 have HLE:=Lib.hid (show w.heap.size≤g6 from Nat.le_trans HXT.out.size hle6)
 have HLZ:=Lib.hid (show w.heap.size<wt.heap.size from (Array.getElem?_eq_some_iff.1 HZT.out).1)
 have HL6:=Lib.hid hle6
 have HXTW:=Lib.hid ((Ext.drew wt).trans hW.1)
 clear hp2 hp3 hz2 hz3 hR2 hR3 hG6 hS2 hS3 hW hr2 hr3 hs2 hs3 hg6 hE2 hE3 hEg hle6
 obtain ⟨k0,k1,k2,k3,k4,k5,k6,k7⟩:=HWW.out W HXTW.out
 obtain ⟨FF,hFF⟩:∃ f:FV,(⟨numR a.data.toList,numR b.data.toList,0,0,none,[],0,A2,ps2,c2,r2,A3,ps3,c3,r3,numR p5.data.toList,numR p6.data.toList,0#32⟩:FV)=f:=⟨_,rfl⟩
 go_upto_region 8 with (first | (refine wpList_store_var W rfl (.tmp 6) (.tmp 48) 41 rfl g6 41 #[.int .i64 0,.int .i64 0,.int .i64 0,.int .i64 0,.slice none 0 0,.slice none 0 0,.string ⟨#[]⟩,.slice none 0 0,.string ⟨#[]⟩,.int .i64 0,.int .i64 0,.int .u32 0] #[.int .i64 (numR a.data.toList),.int .i64 (numR b.data.toList),.int .i64 0,.int .i64 0,.slice none 0 0,.slice A2 ps2.length c2,.string r2,.slice A3 ps3.length c3,.string r3,.int .i64 (numR p5.data.toList),.int .i64 (numR p6.data.toList),.int .u32 0] rfl rfl (Tryz.sizeOf41 W) HG6.out rfl (one8 rfl) ?_;intro W1 b1 hg1) | fail)
 have HPB:=Lib.hid (show PSB w wt g6 W1 FF from by
  have n2:=stb_ne HSB2.out HG6.out
  have n3:=stb_ne HSB3.out HG6.out
  subst hFF
  have hl0:=HLE.out
  have hl1:=HL6.out
  have hl2:=HLZ.out
  refine ⟨HLE.out,HL6.out,HLZ.out,HXW.out.grown hg1 (fun j hj=>by cases hj;exact hl0),HXTW.out.grown hg1 (fun j hj=>by cases hj;exact hl1),?_,b1,⟨RS.nil _,HR2.out.far n2 hg1,HR3.out.far n3 hg1⟩,?_,?_⟩
  ·exact (hg1.block w.heap.size (Array.getElem?_eq_some_iff.1 HZW.out).1 (fun e=>by injection e with e;omega)).trans HZW.out
  ·intro ad hA
   obtain ⟨cs,e⟩:=HSB2.out ad hA
   exact ⟨cs,(hg1.block ad.block (Array.getElem?_eq_some_iff.1 e).1 (fun e2=>by injection e2 with e2;exact n2 ad hA e2)).trans e⟩
  ·intro ad hA
   obtain ⟨cs,e⟩:=HSB3.out ad hA
   exact ⟨cs,(hg1.block ad.block (Array.getElem?_eq_some_iff.1 e).1 (fun e2=>by injection e2 with e2;exact n3 ad hA e2)).trans e⟩)
 clear hg1 b1 k0 k1 k2 k3 k4 k5 k6 k7
 obtain ⟨k0,k1,k2,k3,k4,k5,k6,k7⟩:=HWW.out W1 HPB.out.et
 go_upto_block 0 with fail
 go_cut [52,55] (fun _ _ wc=>Hid (PSB w wt g6 wc { FF with kd:=kdR p1.data.toList }))
 case first=>
  have f2:W1.frozen? ⟨g6,2,none⟩=false:=RW.soft HPB.out.b 2
  obtain ⟨y0,y1,y2,y3,y4,y5,y6,y7,y8,y9,y10,y11⟩:=HPB.out.b.cells
  clear y0 y1 y3 y4 y5 y6 y7 y8 y9 y10 y11
  by_cases h10:p1.data.toList=[105,110,105,116,105,97,108]
  ·have e10:(p1.toList==[105,110,105,116,105,97,108])=true:=by rw [ByteArray.toList_eq,h10];rfl
   have HK:=Lib.hid (show kdR p1.data.toList=10 by rw [h10];rfl)
   clear h10
   go_wp2_with fail
   go_meet
   case rel=>exact Lib.hid (by rw [HK.out];exact HPB.out.put (grown_set (grown_refl _ _) 2 _) (RW.set HPB.out.b 2 (.int .i64 10)) ⟨HPB.out.i.fb,HPB.out.i.cp,HPB.out.i.sp⟩ rfl rfl)
  ·have e10:(p1.toList==[105,110,105,116,105,97,108])=false:=by rw [ByteArray.toList_eq,beq_eq_false_iff_ne];exact h10
   by_cases h12:p1.data.toList=[103,114,97,110,116]
   ·have e12:(p1.toList==[103,114,97,110,116])=true:=by rw [ByteArray.toList_eq,h12];rfl
    have HK:=Lib.hid (show kdR p1.data.toList=12 by rw [h12];rfl)
    clear h10 h12
    go_wp2_with fail
    go_meet
    case rel=>exact Lib.hid (by rw [HK.out];exact HPB.out.put (grown_set (grown_refl _ _) 2 _) (RW.set HPB.out.b 2 (.int .i64 12)) ⟨HPB.out.i.fb,HPB.out.i.cp,HPB.out.i.sp⟩ rfl rfl)
   ·have e12:(p1.toList==[103,114,97,110,116])=false:=by rw [ByteArray.toList_eq,beq_eq_false_iff_ne];exact h12
    have HK:=Lib.hid (show kdR p1.data.toList=0 by unfold kdR;rw [if_neg h10,if_neg h12])
    clear h10 h12
    go_wp2_with fail
    go_meet
    case rel=>exact Lib.hid (by rw [HK.out,show (0:Int)=FF.kd by rw [← hFF]];exact HPB.out)
 case rest=>
 obtain ⟨W2,rfl⟩:∃ wo:World,wo=wc:=⟨_,rfl⟩
 have HPC:=hcut
 clear hcut HPB k0 k1 k2 k3 k4 k5 k6 k7
 obtain ⟨k0,k1,k2,k3,k4,k5,k6,k7⟩:=HWW.out W2 HPC.out.et
 have HAP:=Lib.hid (RAParse_at p4 (HWZ.out _ (by simp)) W2)
 go_wp2_with fail
 refine HAP.out.mono ?_
 rintro _ w3 ⟨hp4,hx4⟩
 have HPC3:=Lib.hid (HPC.out.ext hx4)
 clear hx4 k0 k1 k2 k3 k4 k5 k6 k7 HPC HAP
 obtain ⟨fk,fb,FA,fc,er,hq4,rfl,hbs4,hlb4⟩:=par_any hp4
 have HQ4:=Lib.hid hq4
 have HPB4:=HPC3.out.b
 obtain ⟨⟨m0,m1⟩,f3,f4⟩:(w3.cell? ⟨g6,3,none⟩=some (.int .i64 FF.fk)∧w3.cell? ⟨g6,4,none⟩=some (.slice FF.FA FF.fb.length FF.fc))∧w3.frozen? ⟨g6,3,none⟩=false∧w3.frozen? ⟨g6,4,none⟩=false:=by
  obtain ⟨y0,y1,y2,y3,y4,y5,y6,y7,y8,y9,y10,y11⟩:=HPB4.cells
  exact ⟨⟨y3,y4⟩,RW.soft HPB4 3,RW.soft HPB4 4⟩
 have HPD:=Lib.hid (show PSB w wt g6 ((w3.setCell ⟨g6,3,none⟩ (.int .i64 fk)).setCell ⟨g6,4,none⟩ (.slice FA fb.length fc)) { FF with kd:=kdR p1.data.toList,fk:=fk,FA:=FA,fb:=fb,fc:=fc } from
  HPC3.out.put (grown_set (grown_set (grown_refl _ _) 3 _) 4 _) (RW.set (RW.set HPB4 3 (.int .i64 fk)) 4 (.slice FA fb.length fc)) ⟨hbs4,HPC3.out.i.cp,HPC3.out.i.sp⟩ rfl rfl)
 have HLB4:=Lib.hid hlb4
 clear HPB4 hq4 hbs4 hp4 HPC3 hlb4
 obtain ⟨W4,e4⟩:∃ W,(w3.setCell ⟨g6,3,none⟩ (.int .i64 fk)).setCell ⟨g6,4,none⟩ (.slice FA fb.length fc)=W:=⟨_,rfl⟩
 rw [e4] at HPD
 obtain ⟨k0,k1,k2,k3,k4,k5,k6,k7⟩:=HWW.out W4 HPD.out.et
 have HS7:=Lib.hid (RSplit_at p7 (HWZ.out _ (by simp)) 44 W4)
 go_wp2_with fail
 refine HS7.out.mono ?_
 rintro _ w5 ⟨⟨v7,ns,rfl,hr7,hd7⟩,hx5⟩
 have HPE:=Lib.hid (HPD.out.ext hx5);have HD7:=Lib.hid hd7
 have hn7:0<ns.length:=by
  rcases Nat.eq_zero_or_pos ns.length with h | h
  ·have h2:=congrArg List.length hd7
   rw [dat_length,h] at h2
   exact absurd (List.eq_nil_of_length_eq_zero h2.symm) (splb_ne 44 _ _)
  ·exact h
 obtain ⟨g7,c7,rfl,hw7⟩:=hr7.words hn7
 obtain ⟨cs7,hb7,hc7⟩:=hr7.box
 have HB7:=Lib.hid hb7;have HC7:=Lib.hid hc7
 have HNE:=Lib.hid (show g7≠g6 from fun e=>by
  have h1:=HPE.out.b
  rw [e] at hb7
  unfold RW at hb7
  unfold FQ FBx at h1
  rw [h1] at hb7
  injection hb7 with hb7
  injection hb7 with _ hb7 _
  exact absurd hb7 (by decide))
 obtain ⟨m,hm⟩:∃ m,ns.length=m:=⟨_,rfl⟩
 have HM:=Lib.hid hm
 have HLM:=Lib.hid (show m≤3001 by
  have h1:=congrArg List.length hd7
  rw [dat_length,hm] at h1
  have h2:=spR_len 44 p7.data.toList []
  have h3:p7.data.toList.length=p7.size:=by rw [Array.length_toList];rfl
  have h4:=HWZ.out p7 (by simp)
  omega)
 rw [hm]
 obtain ⟨F5,hF5⟩:∃ f:FV,({ FF with kd:=kdR p1.data.toList,fk:=fk,FA:=FA,fb:=fb,fc:=fc }:FV)=f:=⟨_,rfl⟩
 have HF5:=Lib.hid hF5
 rw [hF5] at HPE
 have HF5L:=Lib.hid (show F5.fl=0#32 by rw [← hF5,← hFF])
 clear hx5 hd7 hn7 hw7 hr7 hb7 hc7 hm hF5 HS7 HPD e4 m0 m1 f3 f4 k0 k1 k2 k3 k4 k5 k6 k7
 go_wp2_with fail
 go_loopw [8,9] (fun i _ wr=>∃ k:Nat,k≤m∧i=.int .i64 k∧Hid (PSB w wt g6 wr { F5 with fl:=flR ((dat ns).take k) })∧Hid (RW wr g7 9 cs7)) (fun i _ _=>m-(intOf i).toNat)
 case atStart=>exact ⟨0,Nat.zero_le _,rfl,Lib.hid (by have:=HPE.out;rw [List.take_zero,show flR []=F5.fl from HF5L.out.symm];exact this),HB7⟩
 case round=>
  obtain ⟨k,hk,rfl,HP,HR⟩:=hrel
  obtain ⟨wo,rfl⟩:∃ wo:World,wo=wr:=⟨_,rfl⟩
  by_cases hlt:k<m
  ·have hln:k<ns.length:=by rw [HM.out];exact hlt
   have HCK:=Lib.hid (HC7.out k hln)
   have HTK:=Lib.hid (show flR ((dat ns).take (k+1))=inF (flR ((dat ns).take k)) ns[k].data.toList 12 by
    unfold flR
    rw [List.take_succ_eq_append_getElem (by rw [dat_length];exact hln),List.foldl_append]
    simp [dat])
   generalize ns[k]=nk at *
   go_wp2_with fail
   go_loopw [9] (fun i wr=>∃ j:Nat,j≤12∧i=.int .i64 j∧Hid (PSB w wt g6 wr { F5 with fl:=inF (flR ((dat ns).take k)) nk.data.toList j })∧Hid (RW wr g7 9 cs7)) (fun i _=>12-(intOf i).toNat)
   case atStart=>exact ⟨0,Nat.zero_le _,rfl,HP,HR⟩
   case round=>
    obtain ⟨j,hj,rfl,HPj,HRj⟩:=hrel
    by_cases hjl:j<12
    ·have HFL:=Lib.hid (RFlag_at j hjl)
     have hck:wr.cell? ⟨g7,k,none⟩=some (.string nk):=by rw [cell_of_row _ _ _ _ _ (0,0) HRj.out];exact HCK.out
     have HCW:=Lib.hid (fun W (hW:Ext wr W)=>hW.cell hck)
     clear hck
     go_upto_region 21 with fail
     refine wp_region_ext (fun i v' w'=>match i with | 5=>v'=.string (nmS j) | _=>False) (by kernel_rfl) (by kernel_rfl) ?_
     refine wpE_op rfl rfl (fun w' hw' K' hK'=>?_)
     have hE:=hw'.1
     go_step
     refine hK' _ ⟨_,rfl⟩ ?_
     clear hK' K' hE hw' w'
     refine wpE_op rfl rfl (fun w' hw' K' hK'=>?_)
     have hE:=hw'.1
     go_step
     refine hK' _ ⟨_,rfl⟩ ?_
     clear hK' K' hE hw' w'
     refine wpE_op rfl rfl (fun w' hw' K' hK'=>?_)
     have hE:=hw'.1
     go_step
     refine hK' _ ⟨_,rfl⟩ ?_
     clear hK' K' hE hw' w'
     refine wpE_op rfl rfl (fun w' hw' K' hK'=>?_)
     have hE:=hw'.1
     have hck:=HCW.out w' ((Ext.drew wr).trans hE)
     go_step
     refine hK' _ ⟨_,rfl⟩ ?_
     clear hK' K' hck hE hw' w'
     refine wpE_op rfl rfl (fun w' hw' K' hK'=>?_)
     have hE:=hw'.1
     go_step
     refine hK' _ ⟨_,rfl⟩ ?_
     clear hK' K' hE hw' w'
     refine wpE_call 85 rfl (by simp) rfl (fun w' hw' K' hK'=>?_) ?_
     ·have hE:=hw'.1
      go_step
      refine (HFL.out w').mono ?_
      rintro _ w2 ⟨rfl,hx⟩
      exact hK' _ _ ⟨_,rfl,rfl⟩ hx
     rintro _ w6 _ rfl
     simp only [Act.put,sT1,sT2,sT3]
     refine wpE_op rfl rfl (fun w' hw' K' hK'=>?_)
     have hE:=hw'.1
     go_step
     refine hK' _ ⟨_,rfl⟩ ?_
     clear hK' K' hE hw' w'
     refine wpE_nil (fun W hW=>?_)
     have HXj:=Lib.hid ((Ext.drew wr).trans hW.1)
     clear hW
     have HPk:=Lib.hid (HPj.out.ext HXj.out)
     have HRk:=Lib.hid (HRj.out.ext HXj.out)
     have hx11:=HPk.out.b.cells.2.2.2.2.2.2.2.2.2.2.2
     have fr11:W.frozen? ⟨g6,11,none⟩=false:=RW.soft HPk.out.b 11
     have HIN:=Lib.hid (inF_succ (flR ((dat ns).take k)) nk.data.toList j)
     have HNP:=Lib.hid (nm_pos' hjl)
     by_cases hq:(nmS j).data.toList=nk.data.toList
     ·have hqe:(nk.toList==(nmS j).toList)=true:=by rw [ByteArray.toList_eq,ByteArray.toList_eq,hq];exact beq_self_eq_true _
      have HST:=Lib.hid (show inF (flR ((dat ns).take k)) nk.data.toList (j+1)=orW (inF (flR ((dat ns).take k)) nk.data.toList j) (bitW j) by rw [HIN.out,if_pos ⟨fun e=>HNP.out (by rw [hq,e]),hq⟩])
      clear hq
      have hor:bits .or .u32 ((inF (flR ((dat ns).take k)) nk.data.toList j).toNat:Int) (2 ^ j % 4294967296)=((orW (inF (flR ((dat ns).take k)) nk.data.toList j) (bitW j)).toNat:Int):=by
       have h1:(2:Nat) ^ j≤2 ^ 11:=Nat.pow_le_pow_right (by decide) (by omega)
       have h2:((2 ^ j:Nat):Int)=(2:Int) ^ j:=by simp
       have h3:(2:Int) ^ j % 4294967296=(2:Int) ^ j:=Int.emod_eq_of_lt (by rw [← h2];exact Int.natCast_nonneg _) (by rw [← h2];have h4:(2:Nat) ^ 11=2048:=rfl;omega)
       rw [← u32_or,bitW_nat j (by omega),h2,h3]
      go_upto_region 22 with fail
      clear hx11 fr11
      refine wp_region_ext_tail 6 (fun i v' w'=>match i with | _=>False) (by kernel_rfl) (by kernel_rfl) ?_
      refine wpE_op rfl rfl (fun w' hw' K' hK'=>?_)
      have hE:=hw'.1
      go_step
      refine hK' _ ⟨_,rfl⟩ ?_
      clear hK' K' hE hw' w'
      refine wpE_op rfl rfl (fun w' hw' K' hK'=>?_)
      have hE:=hw'.1
      have hx11:=(HPk.out.b.ext ((Ext.drew W).trans hE)).cells.2.2.2.2.2.2.2.2.2.2.2
      go_step
      refine hK' _ ⟨_,rfl⟩ ?_
      clear hK' K' hx11 hE hw' w'
      refine wpE_op rfl rfl (fun w' hw' K' hK'=>?_)
      have hE:=hw'.1
      go_step
      refine hK' _ ⟨_,rfl⟩ ?_
      clear hK' K' hE hw' w'
      refine wpE_op rfl rfl (fun w' hw' K' hK'=>?_)
      have hE:=hw'.1
      go_step
      refine hK' _ ⟨_,rfl⟩ ?_
      clear hK' K' hE hw' w'
      refine wpE_op rfl rfl (fun w' hw' K' hK'=>?_)
      have hE:=hw'.1
      go_step
      refine hK' _ ⟨_,rfl⟩ ?_
      clear hK' K' hE hw' w'
      refine wpE_op rfl rfl (fun w' hw' K' hK'=>?_)
      have hE:=hw'.1
      go_step
      refine hK' _ ⟨_,rfl⟩ ?_
      clear hK' K' hE hw' w'
      refine wpE_nil (fun W3 hW3=>?_)
      have HX3:=Lib.hid ((Ext.drew W).trans hW3.1)
      have HPm:=Lib.hid (HPk.out.ext HX3.out)
      have HRm:=Lib.hid (HRk.out.ext HX3.out)
      have fr11:W3.frozen? ⟨g6,11,none⟩=false:=RW.soft HPm.out.b 11
      have hx11:=HPm.out.b.cells.2.2.2.2.2.2.2.2.2.2.2
      simp only [List.drop_succ_cons,List.drop_zero]
      clear hor hW3
      go_wp2_with fail
      go_roundw
      case rel=>exact ⟨j+1,by omega,by go_num,Lib.hid (by rw [HST.out];exact (HPm.out.put (f':={ F5 with fl:=orW (inF (flR ((dat ns).take k)) nk.data.toList j) (bitW j) }) (grown_set (grown_refl _ _) 11 _) (RW.set HPm.out.b 11 (.int .u32 ((orW (inF (flR ((dat ns).take k)) nk.data.toList j) (bitW j)).toNat:Int))) ⟨HPm.out.i.fb,HPm.out.i.cp,HPm.out.i.sp⟩ rfl rfl)),Lib.hid (heap_set_ne HRm.out HNE.out)⟩
      case measure=>simp [intOf];omega
      rename_i hx;exact absurd (hqe.symm.trans hx) (by decide)
     ·have hqe:(nk.toList==(nmS j).toList)=false:=by rw [ByteArray.toList_eq,ByteArray.toList_eq,beq_eq_false_iff_ne];exact fun e=>hq e.symm
      have hqn:(nk.toList=(nmS j).toList)=False:=eq_false (by rw [ByteArray.toList_eq,ByteArray.toList_eq];exact fun e=>hq e.symm)
      have HST:=Lib.hid (show inF (flR ((dat ns).take k)) nk.data.toList (j+1)=inF (flR ((dat ns).take k)) nk.data.toList j by rw [HIN.out,if_neg (fun e=>hq e.2)])
      clear hq hx11 fr11
      go_wp2_with fail
      ·rename_i hx;exact absurd (hqe.symm.trans hx) (by decide)
      go_roundw
      case rel=>exact ⟨j+1,by omega,by go_num,Lib.hid (by rw [HST.out];exact HPk.out),HRk⟩
      case measure=>simp [intOf];omega
    ·obtain rfl:j=12:=by omega
     have hkw:wrap64 ((k:Int)+1)=((k+1:Nat):Int):=by rw [IntWalk.wrap64_in _ (by have:=HLM.out;omega)];rfl
     go_wp2_with fail
     rw [hkw]
     go_roundw
     case rel=>exact ⟨k+1,by omega,rfl,Lib.hid (by rw [HTK.out];exact HPj.out),HRj⟩
     case measure=>simp [intOf];omega
  ·obtain rfl:k=m:=by omega
   have htk:(dat ns).take k=dat ns:=List.take_of_length_le (by rw [dat_length,HM.out];exact Nat.le_refl _)
   rw [htk] at HP
   have HGF:=Lib.hid (show ({ F5 with fl:=flR (dat ns) }:FV).fct=facR a.data.toList b.data.toList p1.data.toList p2.data.toList p3.data.toList p4.data.toList p5.data.toList p6.data.toList p7.data.toList by
    rw [← HF5.out,← hFF]
    unfold facR
    rw [HQ4.out,← HPR2.out,← HPR3.out,← HD7.out]
    rfl)
   have HCR:=Lib.hid (show ({ F5 with fl:=flR (dat ns) }:FV).cr.size≤4294967280 by rw [← HF5.out,← hFF];have:=HZZ2.out.2.1;show r2.size≤_;omega)
   have HSR:=Lib.hid (show ({ F5 with fl:=flR (dat ns) }:FV).sr.size≤4294967280 by rw [← HF5.out,← hFF];have:=HZZ3.out.2.1;show r3.size≤_;omega)
   generalize ({ F5 with fl:=flR (dat ns) }:FV)=G at *
   have HV:=Lib.hid (RFValid_at2 G wo HP.out.i HCR.out HSR.out)
   have HNO:=Lib.hid (fun h=>facR_no (l:=s.data.toList) HD1.out.symm HD2.out.symm (h:¬ ((facR a.data.toList b.data.toList p1.data.toList p2.data.toList p3.data.toList p4.data.toList p5.data.toList p6.data.toList p7.data.toList).Ok∧(facR a.data.toList b.data.toList p1.data.toList p2.data.toList p3.data.toList p4.data.toList p5.data.toList p6.data.toList p7.data.toList).txt=s.data.toList)))
   rw [← HGF.out] at HNO
   clear htk hFF
   unfold FV.val at HV
   obtain ⟨y0,y1,y2,y3,y4,y5,y6,y7,y8,y9,y10,y11⟩:=HP.out.b.cells
   cases hok:G.fct.ok with
   | false=>
    rw [hok] at HV
    have HNF:=Lib.hid (HNO.out fun e=>by have:=(Fct.ok_iff _).2 e.1;rw [hok] at this;cases this)
    clear hok
    go_wp2_with fail
    refine HV.out.mono ?_
    rintro _ w7 ⟨rfl,hx7⟩
    have HP7:=Lib.hid (HP.out.ext hx7)
    clear hx7 y0 y1 y2 y3 y4 y5 y6 y7 y8 y9 y10 y11
    go_wp2_with (first | (refine wpList_store_var _ rfl (.tmp 2) (.tmp 102) 41 rfl w.heap.size 41 #[.int .i64 0,.int .i64 0,.int .i64 0,.int .i64 0,.slice none 0 0,.slice none 0 0,.string ⟨#[]⟩,.slice none 0 0,.string ⟨#[]⟩,.int .i64 0,.int .i64 0,.int .u32 0] #[.int .i64 0,.int .i64 0,.int .i64 0,.int .i64 0,.slice none 0 0,.slice none 0 0,.string ⟨#[]⟩,.slice none 0 0,.string ⟨#[]⟩,.int .i64 0,.int .i64 0,.int .u32 0] rfl rfl (Tryz.sizeOf41 _) HP7.out.z rfl (one8 rfl) ?_;intro W9 b9 hg9;obtain ⟨⟨d0,d1,d2,d3,d4,d5,d6,d7,d8,d9,d10,d11⟩,_⟩:=rw12 (show RW W9 w.heap.size 41 #[.int .i64 0,.int .i64 0,.int .i64 0,.int .i64 0,.slice none 0 0,.slice none 0 0,.string ⟨#[]⟩,.slice none 0 0,.string ⟨#[]⟩,.int .i64 0,.int .i64 0,.int .u32 0] from b9)) | fail)
    refine bodyPost_ret (v:=.tuple #[fv0.val,.int .i64 6]) (by simp [results,Tryz.results27,go_sem,d0,d1,d2,d3,d4,d5,d6,d7,d8,d9,d10,d11];try rfl) rfl ?_
    exact ⟨.inr ⟨HNF.out,rfl⟩,Below.grown HP7.out.ex hg9 HP7.out.ex.size (fun j hj=>by cases hj;exact Nat.le_refl _)⟩
   | true=>
    rw [hok] at HV
    have HOK:=Lib.hid ((Fct.ok_iff _).1 hok)
    have HT:=Lib.hid (fun W (hW:Ext wo W)=>RFText_at G W (HP.out.i.ext hW) (ok_sz HOK.out) HOK.out)
    unfold FV.val at HT
    obtain ⟨S,hS⟩:∃ S:ByteArray,(⟨G.fct.txt.toArray⟩:ByteArray)=S:=⟨_,rfl⟩
    rw [hS] at HT
    have HSS:=Lib.hid (show S.data.toList=G.fct.txt by rw [← hS])
    clear hok hS
    by_cases hq:G.fct.txt=s.data.toList
    ·have hqe:(S.toList==s.toList)=true:=by rw [ByteArray.toList_eq,ByteArray.toList_eq,HSS.out,hq];exact beq_self_eq_true _
     have HQ:=Lib.hid hq
     clear hq
     go_wp2_with fail
     refine HV.out.mono ?_
     rintro _ w7 ⟨rfl,hx7⟩
     have HP7:=Lib.hid (HP.out.ext hx7);have HX7:=Lib.hid hx7
     clear hx7 y0 y1 y2 y3 y4 y5 y6 y7 y8 y9 y10 y11
     obtain ⟨y0,y1,y2,y3,y4,y5,y6,y7,y8,y9,y10,y11⟩:=HP7.out.b.cells
     go_wp2_with fail
     refine (HT.out _ HX7.out).mono ?_
     rintro _ w8 ⟨rfl,hx8⟩
     have HP8:=Lib.hid (HP7.out.ext hx8)
     clear hx8 y0 y1 y2 y3 y4 y5 y6 y7 y8 y9 y10 y11
     obtain ⟨y0,y1,y2,y3,y4,y5,y6,y7,y8,y9,y10,y11⟩:=HP8.out.b.cells
     go_wp2_with (first | (refine wpList_store_var _ rfl (.tmp 2) (.tmp 103) 41 rfl w.heap.size 41 #[.int .i64 0,.int .i64 0,.int .i64 0,.int .i64 0,.slice none 0 0,.slice none 0 0,.string ⟨#[]⟩,.slice none 0 0,.string ⟨#[]⟩,.int .i64 0,.int .i64 0,.int .u32 0] #[.int .i64 G.t,.int .i64 G.mi,.int .i64 G.kd,.int .i64 G.fk,.slice G.FA G.fb.length G.fc,.slice G.CA G.cp.length G.cc,.string G.cr,.slice G.SA G.sp.length G.sc,.string G.sr,.int .i64 G.co,.int .i64 G.pr,.int .u32 (G.fl.toNat:Int)] rfl rfl (Tryz.sizeOf41 _) HP8.out.z rfl (one8 rfl) ?_;intro W9 b9 hg9;obtain ⟨⟨d0,d1,d2,d3,d4,d5,d6,d7,d8,d9,d10,d11⟩,_⟩:=rw12 (show RW W9 w.heap.size 41 #[.int .i64 G.t,.int .i64 G.mi,.int .i64 G.kd,.int .i64 G.fk,.slice G.FA G.fb.length G.fc,.slice G.CA G.cp.length G.cc,.string G.cr,.slice G.SA G.sp.length G.sc,.string G.sr,.int .i64 G.co,.int .i64 G.pr,.int .u32 (G.fl.toNat:Int)] from b9)) | fail)
     refine bodyPost_ret (v:=.tuple #[G.val,.int .i64 0]) (by simp [results,Tryz.results27,go_sem,d0,d1,d2,d3,d4,d5,d6,d7,d8,d9,d10,d11,FV.val];try rfl) rfl ?_
     obtain ⟨q1,q2,q3,q4⟩:=HP8.out.fin hg9
     exact ⟨.inl ⟨G,HOK.out,HQ.out,rfl,q1,ok_sz HOK.out,q2,q3⟩,q4⟩
    ·have hqe:(S.toList==s.toList)=false:=by rw [ByteArray.toList_eq,ByteArray.toList_eq,HSS.out,beq_eq_false_iff_ne];exact hq
     have HNF:=Lib.hid (HNO.out fun e=>hq e.2)
     clear hq
     go_wp2_with fail
     refine HV.out.mono ?_
     rintro _ w7 ⟨rfl,hx7⟩
     have HP7:=Lib.hid (HP.out.ext hx7);have HX7:=Lib.hid hx7
     clear hx7 y0 y1 y2 y3 y4 y5 y6 y7 y8 y9 y10 y11
     obtain ⟨y0,y1,y2,y3,y4,y5,y6,y7,y8,y9,y10,y11⟩:=HP7.out.b.cells
     go_wp2_with fail
     refine (HT.out _ HX7.out).mono ?_
     rintro _ w8 ⟨rfl,hx8⟩
     have HP8:=Lib.hid (HP7.out.ext hx8)
     clear hx8 y0 y1 y2 y3 y4 y5 y6 y7 y8 y9 y10 y11
     go_wp2_with (first | (refine wpList_store_var _ rfl (.tmp 2) (.tmp 102) 41 rfl w.heap.size 41 #[.int .i64 0,.int .i64 0,.int .i64 0,.int .i64 0,.slice none 0 0,.slice none 0 0,.string ⟨#[]⟩,.slice none 0 0,.string ⟨#[]⟩,.int .i64 0,.int .i64 0,.int .u32 0] #[.int .i64 0,.int .i64 0,.int .i64 0,.int .i64 0,.slice none 0 0,.slice none 0 0,.string ⟨#[]⟩,.slice none 0 0,.string ⟨#[]⟩,.int .i64 0,.int .i64 0,.int .u32 0] rfl rfl (Tryz.sizeOf41 _) HP8.out.z rfl (one8 rfl) ?_;intro W9 b9 hg9;obtain ⟨⟨d0,d1,d2,d3,d4,d5,d6,d7,d8,d9,d10,d11⟩,_⟩:=rw12 (show RW W9 w.heap.size 41 #[.int .i64 0,.int .i64 0,.int .i64 0,.int .i64 0,.slice none 0 0,.slice none 0 0,.string ⟨#[]⟩,.slice none 0 0,.string ⟨#[]⟩,.int .i64 0,.int .i64 0,.int .u32 0] from b9)) | fail)
     refine bodyPost_ret (v:=.tuple #[fv0.val,.int .i64 6]) (by simp [results,Tryz.results27,go_sem,d0,d1,d2,d3,d4,d5,d6,d7,d8,d9,d10,d11];try rfl) rfl ?_
     exact ⟨.inr ⟨HNF.out,rfl⟩,Below.grown HP8.out.ex hg9 HP8.out.ex.size (fun j hj=>by cases hj;exact Nat.le_refl _)⟩
end Go.Proofs.YtnjmndofcpnmeaaGreatDoor
