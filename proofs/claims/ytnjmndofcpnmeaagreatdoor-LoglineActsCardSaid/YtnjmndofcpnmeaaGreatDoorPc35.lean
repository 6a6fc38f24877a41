/- Pc35. -/
import Derived.Test.YtnjmndofcpnmeaaGreatDoorPc28
import Derived.Test.YtnjmndofcpnmeaaGreatDoorPc18
namespace Go.Proofs.YtnjmndofcpnmeaaGreatDoor
open Go Go.RowKit
set_option linter.unusedVariables false
def fE:Fct:=⟨100,5,10,2,[10,0,0,1],[[117]],[82],[[107,114,98,116,103,116],[82]],[82],0,2,257#32⟩
def gE:Fct:=⟨103,5,10,2,[10,0,0,1],[[117]],[82],[[107,114,98,116,103,116],[82]],[82],24,0,0#32⟩
def fX (b:Nat):FV:=⟨100,5,10,2,some ⟨b,0,none⟩,[10,0,0,1],4,some ⟨b+1,0,none⟩,[⟨#[117]⟩],1,⟨#[82]⟩,some ⟨b+1+1,0,none⟩,[⟨#[107,114,98,116,103,116]⟩,⟨#[82]⟩],2,⟨#[82]⟩,0,2,257#32⟩
def gX (t:Int)(b:Nat):FV:=⟨t,5,10,2,some ⟨b,0,none⟩,[10,0,0,1],4,some ⟨b+1,0,none⟩,[⟨#[117]⟩],1,⟨#[82]⟩,some ⟨b+1+1,0,none⟩,[⟨#[107,114,98,116,103,116]⟩,⟨#[82]⟩],2,⟨#[82]⟩,24,0,0#32⟩
theorem fX_fct (b:Nat):(fX b).fct=fE:=rfl
theorem fX_sz (b:Nat):(fX b).Sz:=⟨(by decide:(4:Nat)≤1000),(by decide:(1:Nat)≤1000),fun p hp=>by simp [fX] at hp;subst hp;decide,(by decide:(1:Nat)≤1000),(by decide:(2:Nat)≤1000),fun p hp=>by simp [fX] at hp;rcases hp with rfl | rfl<;>decide,(by decide:(1:Nat)≤1000)⟩
theorem gX_sz (t:Int)(b:Nat):(gX t b).Sz:=⟨(by decide:(4:Nat)≤1000),(by decide:(1:Nat)≤1000),fun p hp=>by simp [gX] at hp;subst hp;decide,(by decide:(1:Nat)≤1000),(by decide:(2:Nat)≤1000),fun p hp=>by simp [gX] at hp;rcases hp with rfl | rfl<;>decide,(by decide:(1:Nat)≤1000)⟩
def SX (w:World)(b:Nat):Prop:=BS w (.slice (some ⟨b,0,none⟩) 4 4) [10,0,0,1]∧RS w (.slice (some ⟨b+1,0,none⟩) 1 1) [.string ⟨#[117]⟩]∧RS w (.slice (some ⟨b+1+1,0,none⟩) 2 2) [.string ⟨#[107,114,98,116,103,116]⟩,.string ⟨#[82]⟩]
theorem SX.ext {w w':World}{b:Nat}(h:SX w b)(hx:Ext w w'):SX w' b:=⟨h.1.ext hx,h.2.1.ext hx,h.2.2.ext hx⟩
theorem SX.far {w w':World}{b g:Nat}(h:SX w b)(hg:w.grownBy w' (some g))(hb:g<b):SX w' b:=⟨RS.far h.1 (fun ad e=>by injection e with e;subst e;show b≠g;omega) hg,RS.far h.2.1 (fun ad e=>by injection e with e;subst e;show b+1≠g;omega) hg,RS.far h.2.2 (fun ad e=>by injection e with e;subst e;show b+1+1≠g;omega) hg⟩
theorem SX.f {w:World}{b:Nat}(h:SX w b):(fX b).In w:=⟨h.1,h.2.1,h.2.2⟩
theorem SX.g {w:World}{b:Nat}(h:SX w b)(t:Int):(gX t b).In w:=⟨h.1,h.2.1,h.2.2⟩
theorem sample_mem (W2:World):∃ W3,((W2.alloc (.cells #[.int .u8 10,.int .u8 0,.int .u8 0,.int .u8 1] 5)).alloc (.cells #[.string ⟨#[117]⟩] 9)).alloc (.cells #[.string ⟨#[107,114,98,116,103,116]⟩,.string ⟨#[82]⟩] 9)=W3∧SX W3 W2.heap.size∧Ext W2 W3:=by
 have r1:=RS.new W2 5 [.int .u8 10,.int .u8 0,.int .u8 0,.int .u8 1] (by decide)
 have x1:=(Ext.refl W2).alloc (.cells #[.int .u8 10,.int .u8 0,.int .u8 0,.int .u8 1] 5)
 obtain ⟨Wa,ea⟩:∃ W,W2.alloc (.cells #[.int .u8 10,.int .u8 0,.int .u8 0,.int .u8 1] 5)=W:=⟨_,rfl⟩
 have sa:Wa.heap.size=W2.heap.size+1:=by rw [← ea,World.size_alloc]
 change RS (W2.alloc (.cells #[.int .u8 10,.int .u8 0,.int .u8 0,.int .u8 1] 5)) (.slice (some ⟨W2.heap.size,0,none⟩) 4 4) _ at r1
 rw [ea] at r1 x1 ⊢
 have r2:=RS.new Wa 9 [.string ⟨#[117]⟩] (by decide)
 have x2:=(Ext.refl Wa).alloc (.cells #[.string ⟨#[117]⟩] 9)
 obtain ⟨Wb,eb⟩:∃ W,Wa.alloc (.cells #[.string ⟨#[117]⟩] 9)=W:=⟨_,rfl⟩
 have sb:Wb.heap.size=W2.heap.size+1+1:=by rw [← eb,World.size_alloc,sa]
 change RS (Wa.alloc (.cells #[.string ⟨#[117]⟩] 9)) (.slice (some ⟨Wa.heap.size,0,none⟩) 1 1) _ at r2
 rw [eb,sa] at r2
 rw [eb] at x2 ⊢
 have r3:=RS.new Wb 9 [.string ⟨#[107,114,98,116,103,116]⟩,.string ⟨#[82]⟩] (by decide)
 have x3:=(Ext.refl Wb).alloc (.cells #[.string ⟨#[107,114,98,116,103,116]⟩,.string ⟨#[82]⟩] 9)
 change RS (Wb.alloc (.cells #[.string ⟨#[107,114,98,116,103,116]⟩,.string ⟨#[82]⟩] 9)) (.slice (some ⟨Wb.heap.size,0,none⟩) 2 2) _ at r3
 rw [sb] at r3
 exact ⟨_,rfl,⟨(show BS Wa _ [10,0,0,1] from r1).ext (x2.trans x3),r2.ext x3,r3⟩,x1.trans (x2.trans x3)⟩
theorem rw12 {w:World}{g:Nat}{t:TypeId}{a0 a1 a2 a3 a4 a5 a6 a7 a8 a9 a10 a11:Value}(h:RW w g t #[a0,a1,a2,a3,a4,a5,a6,a7,a8,a9,a10,a11]):(w.cell? ⟨g,0,none⟩=some a0∧w.cell? ⟨g,1,none⟩=some a1∧w.cell? ⟨g,2,none⟩=some a2∧w.cell? ⟨g,3,none⟩=some a3∧w.cell? ⟨g,4,none⟩=some a4∧w.cell? ⟨g,5,none⟩=some a5∧w.cell? ⟨g,6,none⟩=some a6∧w.cell? ⟨g,7,none⟩=some a7∧w.cell? ⟨g,8,none⟩=some a8∧w.cell? ⟨g,9,none⟩=some a9∧w.cell? ⟨g,10,none⟩=some a10∧w.cell? ⟨g,11,none⟩=some a11)∧w.frozen? ⟨g,0,none⟩=false∧w.frozen? ⟨g,1,none⟩=false∧w.frozen? ⟨g,2,none⟩=false∧w.frozen? ⟨g,3,none⟩=false∧w.frozen? ⟨g,4,none⟩=false∧w.frozen? ⟨g,5,none⟩=false∧w.frozen? ⟨g,6,none⟩=false∧w.frozen? ⟨g,7,none⟩=false∧w.frozen? ⟨g,8,none⟩=false∧w.frozen? ⟨g,9,none⟩=false∧w.frozen? ⟨g,10,none⟩=false∧w.frozen? ⟨g,11,none⟩=false:=by
 unfold RW at h
 refine ⟨⟨?_,?_,?_,?_,?_,?_,?_,?_,?_,?_,?_,?_⟩,?_,?_,?_,?_,?_,?_,?_,?_,?_,?_,?_,?_⟩
 all_goals first
  | exact frozen_of_row w g _ _ _ h
  | (rw [cell_of_row _ _ _ _ _ (0,0) h];rfl)
set_option maxRecDepth 100000 in
set_option maxHeartbeats 4000000 in
theorem sample_at (w:World):Calls Tryz.prog 31 #[] w fun e w'=>(∃ b,e=.returned (.tuple #[(fX b).val,(gX 103 b).val])∧SX w' b)∧Ext w w':=by
 have z1:FBx (w.alloc (.cells #[.int .i64 0,.int .i64 0,.int .i64 0,.int .i64 0,.slice none 0 0,.slice none 0 0,.string ⟨#[]⟩,.slice none 0 0,.string ⟨#[]⟩,.int .i64 0,.int .i64 0,.int .u32 0] 41)) w.heap.size fv0:=heap_alloc_new w _
 have x1:=(Ext.refl w).alloc (.cells #[.int .i64 0,.int .i64 0,.int .i64 0,.int .i64 0,.slice none 0 0,.slice none 0 0,.string ⟨#[]⟩,.slice none 0 0,.string ⟨#[]⟩,.int .i64 0,.int .i64 0,.int .u32 0] 41)
 obtain ⟨W1,e1⟩:∃ W,w.alloc (.cells #[.int .i64 0,.int .i64 0,.int .i64 0,.int .i64 0,.slice none 0 0,.slice none 0 0,.string ⟨#[]⟩,.slice none 0 0,.string ⟨#[]⟩,.int .i64 0,.int .i64 0,.int .u32 0] 41)=W:=⟨_,rfl⟩
 have s1:W1.heap.size=w.heap.size+1:=by rw [← e1,World.size_alloc]
 rw [e1] at z1 x1
 have z2:FBx (W1.alloc (.cells #[.int .i64 0,.int .i64 0,.int .i64 0,.int .i64 0,.slice none 0 0,.slice none 0 0,.string ⟨#[]⟩,.slice none 0 0,.string ⟨#[]⟩,.int .i64 0,.int .i64 0,.int .u32 0] 41)) W1.heap.size fv0:=heap_alloc_new W1 _
 have x2:=(Ext.refl W1).alloc (.cells #[.int .i64 0,.int .i64 0,.int .i64 0,.int .i64 0,.slice none 0 0,.slice none 0 0,.string ⟨#[]⟩,.slice none 0 0,.string ⟨#[]⟩,.int .i64 0,.int .i64 0,.int .u32 0] 41)
 obtain ⟨W2,e2⟩:∃ W,W1.alloc (.cells #[.int .i64 0,.int .i64 0,.int .i64 0,.int .i64 0,.slice none 0 0,.slice none 0 0,.string ⟨#[]⟩,.slice none 0 0,.string ⟨#[]⟩,.int .i64 0,.int .i64 0,.int .u32 0] 41)=W:=⟨_,rfl⟩
 rw [e2] at z2 x2
 obtain ⟨W3,e3,hS,x3⟩:=sample_mem W2
 have f4:FBx (W3.alloc (.cells #[.int .i64 100,.int .i64 5,.int .i64 10,.int .i64 2,.slice (some ⟨W2.heap.size,0,none⟩) 4 4,.slice (some ⟨W2.heap.size+1,0,none⟩) 1 1,.string ⟨#[82]⟩,.slice (some ⟨W2.heap.size+1+1,0,none⟩) 2 2,.string ⟨#[82]⟩,.int .i64 0,.int .i64 2,.int .u32 257] 41)) W3.heap.size (fX W2.heap.size):=heap_alloc_new W3 _
 have x4:=(Ext.refl W3).alloc (.cells #[.int .i64 100,.int .i64 5,.int .i64 10,.int .i64 2,.slice (some ⟨W2.heap.size,0,none⟩) 4 4,.slice (some ⟨W2.heap.size+1,0,none⟩) 1 1,.string ⟨#[82]⟩,.slice (some ⟨W2.heap.size+1+1,0,none⟩) 2 2,.string ⟨#[82]⟩,.int .i64 0,.int .i64 2,.int .u32 257] 41)
 obtain ⟨W4,e4⟩:∃ W,W3.alloc (.cells #[.int .i64 100,.int .i64 5,.int .i64 10,.int .i64 2,.slice (some ⟨W2.heap.size,0,none⟩) 4 4,.slice (some ⟨W2.heap.size+1,0,none⟩) 1 1,.string ⟨#[82]⟩,.slice (some ⟨W2.heap.size+1+1,0,none⟩) 2 2,.string ⟨#[82]⟩,.int .i64 0,.int .i64 2,.int .u32 257] 41)=W:=⟨_,rfl⟩
 have s4:W4.heap.size=W3.heap.size+1:=by rw [← e4,World.size_alloc]
 rw [e4] at f4 x4
 have f5:FBx (W4.alloc (.cells #[.int .i64 100,.int .i64 5,.int .i64 10,.int .i64 2,.slice (some ⟨W2.heap.size,0,none⟩) 4 4,.slice (some ⟨W2.heap.size+1,0,none⟩) 1 1,.string ⟨#[82]⟩,.slice (some ⟨W2.heap.size+1+1,0,none⟩) 2 2,.string ⟨#[82]⟩,.int .i64 0,.int .i64 2,.int .u32 257] 41)) W4.heap.size (fX W2.heap.size):=heap_alloc_new W4 _
 have x5:=(Ext.refl W4).alloc (.cells #[.int .i64 100,.int .i64 5,.int .i64 10,.int .i64 2,.slice (some ⟨W2.heap.size,0,none⟩) 4 4,.slice (some ⟨W2.heap.size+1,0,none⟩) 1 1,.string ⟨#[82]⟩,.slice (some ⟨W2.heap.size+1+1,0,none⟩) 2 2,.string ⟨#[82]⟩,.int .i64 0,.int .i64 2,.int .u32 257] 41)
 obtain ⟨W5,e5⟩:∃ W,W4.alloc (.cells #[.int .i64 100,.int .i64 5,.int .i64 10,.int .i64 2,.slice (some ⟨W2.heap.size,0,none⟩) 4 4,.slice (some ⟨W2.heap.size+1,0,none⟩) 1 1,.string ⟨#[82]⟩,.slice (some ⟨W2.heap.size+1+1,0,none⟩) 2 2,.string ⟨#[82]⟩,.int .i64 0,.int .i64 2,.int .u32 257] 41)=W:=⟨_,rfl⟩
 rw [e5] at f5 x5
 have g6:=((((show RW W5 W4.heap.size 41 #[.int .i64 100,.int .i64 5,.int .i64 10,.int .i64 2,.slice (some ⟨W2.heap.size,0,none⟩) 4 4,.slice (some ⟨W2.heap.size+1,0,none⟩) 1 1,.string ⟨#[82]⟩,.slice (some ⟨W2.heap.size+1+1,0,none⟩) 2 2,.string ⟨#[82]⟩,.int .i64 0,.int .i64 2,.int .u32 257] from f5).set 0 (.int .i64 103)).set 9 (.int .i64 24)).set 10 (.int .i64 0)).set 11 (.int .u32 0)
 have x6:=((((x4.trans x5).setCell (p:=⟨W4.heap.size,0,none⟩) (by show W3.heap.size≤W4.heap.size;omega) (.int .i64 103)).setCell (p:=⟨W4.heap.size,9,none⟩) (by show W3.heap.size≤W4.heap.size;omega) (.int .i64 24)).setCell (p:=⟨W4.heap.size,10,none⟩) (by show W3.heap.size≤W4.heap.size;omega) (.int .i64 0)).setCell (p:=⟨W4.heap.size,11,none⟩) (by show W3.heap.size≤W4.heap.size;omega) (.int .u32 0)
 have f6:FBx ((((W5.setCell ⟨W4.heap.size,0,none⟩ (.int .i64 103)).setCell ⟨W4.heap.size,9,none⟩ (.int .i64 24)).setCell ⟨W4.heap.size,10,none⟩ (.int .i64 0)).setCell ⟨W4.heap.size,11,none⟩ (.int .u32 0)) W3.heap.size (fX W2.heap.size):=
  heap_set_ne (heap_set_ne (heap_set_ne (heap_set_ne (f4.ext x5) (show W3.heap.size≠W4.heap.size by omega)) (show W3.heap.size≠W4.heap.size by omega)) (show W3.heap.size≠W4.heap.size by omega)) (show W3.heap.size≠W4.heap.size by omega)
 obtain ⟨W6,e6⟩:∃ W,(((W5.setCell ⟨W4.heap.size,0,none⟩ (.int .i64 103)).setCell ⟨W4.heap.size,9,none⟩ (.int .i64 24)).setCell ⟨W4.heap.size,10,none⟩ (.int .i64 0)).setCell ⟨W4.heap.size,11,none⟩ (.int .u32 0)=W:=⟨_,rfl⟩
 rw [e6] at g6 x6 f6
 have g6':FBx W6 W4.heap.size (gX 103 W2.heap.size):=g6
 obtain ⟨WA,eA,xA,bA,kA⟩:=f_put (q:=fX W2.heap.size) (((x1.trans x2).trans x3).trans x6) (Nat.le_refl _) (((z1.ext x2).ext x3).ext x6)
 change ((((((((((((W6.setCell ⟨w.heap.size,0,none⟩ (.int .i64 100)).setCell ⟨w.heap.size,1,none⟩ (.int .i64 5)).setCell ⟨w.heap.size,2,none⟩ (.int .i64 10)).setCell ⟨w.heap.size,3,none⟩ (.int .i64 2)).setCell ⟨w.heap.size,4,none⟩ (.slice (some ⟨W2.heap.size,0,none⟩) 4 4)).setCell ⟨w.heap.size,5,none⟩ (.slice (some ⟨W2.heap.size+1,0,none⟩) 1 1)).setCell ⟨w.heap.size,6,none⟩ (.string ⟨#[82]⟩)).setCell ⟨w.heap.size,7,none⟩ (.slice (some ⟨W2.heap.size+1+1,0,none⟩) 2 2)).setCell ⟨w.heap.size,8,none⟩ (.string ⟨#[82]⟩)).setCell ⟨w.heap.size,9,none⟩ (.int .i64 0)).setCell ⟨w.heap.size,10,none⟩ (.int .i64 2)).setCell ⟨w.heap.size,11,none⟩ (.int .u32 257))=WA at eA
 have z2A:FBx WA W1.heap.size fv0:=(kA.block W1.heap.size (Array.getElem?_eq_some_iff.1 ((z2.ext x3).ext x6)).1 (by simp;omega)).trans ((z2.ext x3).ext x6)
 obtain ⟨WB,eB,xB,bB,kB⟩:=f_put (q:=gX 103 W2.heap.size) xA x1.size z2A
 change ((((((((((((WA.setCell ⟨W1.heap.size,0,none⟩ (.int .i64 103)).setCell ⟨W1.heap.size,1,none⟩ (.int .i64 5)).setCell ⟨W1.heap.size,2,none⟩ (.int .i64 10)).setCell ⟨W1.heap.size,3,none⟩ (.int .i64 2)).setCell ⟨W1.heap.size,4,none⟩ (.slice (some ⟨W2.heap.size,0,none⟩) 4 4)).setCell ⟨W1.heap.size,5,none⟩ (.slice (some ⟨W2.heap.size+1,0,none⟩) 1 1)).setCell ⟨W1.heap.size,6,none⟩ (.string ⟨#[82]⟩)).setCell ⟨W1.heap.size,7,none⟩ (.slice (some ⟨W2.heap.size+1+1,0,none⟩) 2 2)).setCell ⟨W1.heap.size,8,none⟩ (.string ⟨#[82]⟩)).setCell ⟨W1.heap.size,9,none⟩ (.int .i64 24)).setCell ⟨W1.heap.size,10,none⟩ (.int .i64 0)).setCell ⟨W1.heap.size,11,none⟩ (.int .u32 0))=WB at eB
 obtain ⟨VA,eC,yA,cA,lA⟩:=f_put (q:=gX 103 W2.heap.size) (((x1.trans x2).trans x3).trans x6) x1.size ((z2.ext x3).ext x6)
 change ((((((((((((W6.setCell ⟨W1.heap.size,0,none⟩ (.int .i64 103)).setCell ⟨W1.heap.size,1,none⟩ (.int .i64 5)).setCell ⟨W1.heap.size,2,none⟩ (.int .i64 10)).setCell ⟨W1.heap.size,3,none⟩ (.int .i64 2)).setCell ⟨W1.heap.size,4,none⟩ (.slice (some ⟨W2.heap.size,0,none⟩) 4 4)).setCell ⟨W1.heap.size,5,none⟩ (.slice (some ⟨W2.heap.size+1,0,none⟩) 1 1)).setCell ⟨W1.heap.size,6,none⟩ (.string ⟨#[82]⟩)).setCell ⟨W1.heap.size,7,none⟩ (.slice (some ⟨W2.heap.size+1+1,0,none⟩) 2 2)).setCell ⟨W1.heap.size,8,none⟩ (.string ⟨#[82]⟩)).setCell ⟨W1.heap.size,9,none⟩ (.int .i64 24)).setCell ⟨W1.heap.size,10,none⟩ (.int .i64 0)).setCell ⟨W1.heap.size,11,none⟩ (.int .u32 0))=VA at eC
 have y1A:FBx VA w.heap.size fv0:=(lA.block w.heap.size (Array.getElem?_eq_some_iff.1 (((z1.ext x2).ext x3).ext x6)).1 (by simp;omega)).trans (((z1.ext x2).ext x3).ext x6)
 obtain ⟨VB,eD,yB,dB,lB⟩:=f_put (q:=fX W2.heap.size) yA (Nat.le_refl _) y1A
 change ((((((((((((VA.setCell ⟨w.heap.size,0,none⟩ (.int .i64 100)).setCell ⟨w.heap.size,1,none⟩ (.int .i64 5)).setCell ⟨w.heap.size,2,none⟩ (.int .i64 10)).setCell ⟨w.heap.size,3,none⟩ (.int .i64 2)).setCell ⟨w.heap.size,4,none⟩ (.slice (some ⟨W2.heap.size,0,none⟩) 4 4)).setCell ⟨w.heap.size,5,none⟩ (.slice (some ⟨W2.heap.size+1,0,none⟩) 1 1)).setCell ⟨w.heap.size,6,none⟩ (.string ⟨#[82]⟩)).setCell ⟨w.heap.size,7,none⟩ (.slice (some ⟨W2.heap.size+1+1,0,none⟩) 2 2)).setCell ⟨w.heap.size,8,none⟩ (.string ⟨#[82]⟩)).setCell ⟨w.heap.size,9,none⟩ (.int .i64 0)).setCell ⟨w.heap.size,10,none⟩ (.int .i64 2)).setCell ⟨w.heap.size,11,none⟩ (.int .u32 257))=VB at eD
 have dAB:FBx VB W1.heap.size (gX 103 W2.heap.size):=(lB.block W1.heap.size (Array.getElem?_eq_some_iff.1 cA).1 (by simp;omega)).trans cA
 have bAB:FBx WB w.heap.size (fX W2.heap.size):=(kB.block w.heap.size (Array.getElem?_eq_some_iff.1 bA).1 (by simp;omega)).trans bA
 have HZ1:=Lib.hid (((z1.ext x2).ext x3).ext x6)
 have HS6:=Lib.hid (hS.ext x6)
 have HXB:=Lib.hid xB
 have HSB:=Lib.hid (show SX WB W2.heap.size from ((hS.ext x6).far kA (Array.getElem?_eq_some_iff.1 (z1.ext x2)).1).far kB (Array.getElem?_eq_some_iff.1 z2).1)
 have hsz3:w.heap.size<W3.heap.size∧W1.heap.size<W3.heap.size:=by
  have h1:=(Array.getElem?_eq_some_iff.1 (z1.ext x2)).1
  have h2:=(Array.getElem?_eq_some_iff.1 z2).1
  have h3:=x3.size
  omega
 have gAL:RW WA W4.heap.size 41 #[.int .i64 103,.int .i64 5,.int .i64 10,.int .i64 2,.slice (some ⟨W2.heap.size,0,none⟩) 4 4,.slice (some ⟨W2.heap.size+1,0,none⟩) 1 1,.string ⟨#[82]⟩,.slice (some ⟨W2.heap.size+1+1,0,none⟩) 2 2,.string ⟨#[82]⟩,.int .i64 24,.int .i64 0,.int .u32 0]:=(kA.block W4.heap.size (Array.getElem?_eq_some_iff.1 g6).1 (by simp;omega)).trans g6
 have fAL:RW VA W3.heap.size 41 #[.int .i64 100,.int .i64 5,.int .i64 10,.int .i64 2,.slice (some ⟨W2.heap.size,0,none⟩) 4 4,.slice (some ⟨W2.heap.size+1,0,none⟩) 1 1,.string ⟨#[82]⟩,.slice (some ⟨W2.heap.size+1+1,0,none⟩) 2 2,.string ⟨#[82]⟩,.int .i64 0,.int .i64 2,.int .u32 257]:=(lA.block W3.heap.size (Array.getElem?_eq_some_iff.1 f6).1 (by simp;omega)).trans f6
 have HgAL:=Lib.hid gAL;have HfAL:=Lib.hid fAL
 clear gAL fAL hsz3
 have z1L:RW W6 w.heap.size 41 #[.int .i64 0,.int .i64 0,.int .i64 0,.int .i64 0,.slice none 0 0,.slice none 0 0,.string ⟨#[]⟩,.slice none 0 0,.string ⟨#[]⟩,.int .i64 0,.int .i64 0,.int .u32 0]:=((z1.ext x2).ext x3).ext x6
 have z2L:RW W6 W1.heap.size 41 #[.int .i64 0,.int .i64 0,.int .i64 0,.int .i64 0,.slice none 0 0,.slice none 0 0,.string ⟨#[]⟩,.slice none 0 0,.string ⟨#[]⟩,.int .i64 0,.int .i64 0,.int .u32 0]:=(z2.ext x3).ext x6
 have f6L:RW W6 W3.heap.size 41 #[.int .i64 100,.int .i64 5,.int .i64 10,.int .i64 2,.slice (some ⟨W2.heap.size,0,none⟩) 4 4,.slice (some ⟨W2.heap.size+1,0,none⟩) 1 1,.string ⟨#[82]⟩,.slice (some ⟨W2.heap.size+1+1,0,none⟩) 2 2,.string ⟨#[82]⟩,.int .i64 0,.int .i64 2,.int .u32 257]:=f6
 have g6L:RW W6 W4.heap.size 41 #[.int .i64 103,.int .i64 5,.int .i64 10,.int .i64 2,.slice (some ⟨W2.heap.size,0,none⟩) 4 4,.slice (some ⟨W2.heap.size+1,0,none⟩) 1 1,.string ⟨#[82]⟩,.slice (some ⟨W2.heap.size+1+1,0,none⟩) 2 2,.string ⟨#[82]⟩,.int .i64 24,.int .i64 0,.int .u32 0]:=g6
 have f5L:RW W5 W4.heap.size 41 #[.int .i64 100,.int .i64 5,.int .i64 10,.int .i64 2,.slice (some ⟨W2.heap.size,0,none⟩) 4 4,.slice (some ⟨W2.heap.size+1,0,none⟩) 1 1,.string ⟨#[82]⟩,.slice (some ⟨W2.heap.size+1+1,0,none⟩) 2 2,.string ⟨#[82]⟩,.int .i64 0,.int .i64 2,.int .u32 257]:=f5
 have f4L:RW W4 W3.heap.size 41 #[.int .i64 100,.int .i64 5,.int .i64 10,.int .i64 2,.slice (some ⟨W2.heap.size,0,none⟩) 4 4,.slice (some ⟨W2.heap.size+1,0,none⟩) 1 1,.string ⟨#[82]⟩,.slice (some ⟨W2.heap.size+1+1,0,none⟩) 2 2,.string ⟨#[82]⟩,.int .i64 0,.int .i64 2,.int .u32 257]:=f4
 have zAL:RW WA W1.heap.size 41 #[.int .i64 0,.int .i64 0,.int .i64 0,.int .i64 0,.slice none 0 0,.slice none 0 0,.string ⟨#[]⟩,.slice none 0 0,.string ⟨#[]⟩,.int .i64 0,.int .i64 0,.int .u32 0]:=z2A
 have yAL:RW VA w.heap.size 41 #[.int .i64 0,.int .i64 0,.int .i64 0,.int .i64 0,.slice none 0 0,.slice none 0 0,.string ⟨#[]⟩,.slice none 0 0,.string ⟨#[]⟩,.int .i64 0,.int .i64 0,.int .u32 0]:=y1A
 have aBL:RW WB w.heap.size 41 #[.int .i64 100,.int .i64 5,.int .i64 10,.int .i64 2,.slice (some ⟨W2.heap.size,0,none⟩) 4 4,.slice (some ⟨W2.heap.size+1,0,none⟩) 1 1,.string ⟨#[82]⟩,.slice (some ⟨W2.heap.size+1+1,0,none⟩) 2 2,.string ⟨#[82]⟩,.int .i64 0,.int .i64 2,.int .u32 257]:=bAB
 have bBL:RW WB W1.heap.size 41 #[.int .i64 103,.int .i64 5,.int .i64 10,.int .i64 2,.slice (some ⟨W2.heap.size,0,none⟩) 4 4,.slice (some ⟨W2.heap.size+1,0,none⟩) 1 1,.string ⟨#[82]⟩,.slice (some ⟨W2.heap.size+1+1,0,none⟩) 2 2,.string ⟨#[82]⟩,.int .i64 24,.int .i64 0,.int .u32 0]:=bB
 have cBL:RW VB w.heap.size 41 #[.int .i64 100,.int .i64 5,.int .i64 10,.int .i64 2,.slice (some ⟨W2.heap.size,0,none⟩) 4 4,.slice (some ⟨W2.heap.size+1,0,none⟩) 1 1,.string ⟨#[82]⟩,.slice (some ⟨W2.heap.size+1+1,0,none⟩) 2 2,.string ⟨#[82]⟩,.int .i64 0,.int .i64 2,.int .u32 257]:=dB
 have dBL:RW VB W1.heap.size 41 #[.int .i64 103,.int .i64 5,.int .i64 10,.int .i64 2,.slice (some ⟨W2.heap.size,0,none⟩) 4 4,.slice (some ⟨W2.heap.size+1,0,none⟩) 1 1,.string ⟨#[82]⟩,.slice (some ⟨W2.heap.size+1+1,0,none⟩) 2 2,.string ⟨#[82]⟩,.int .i64 24,.int .i64 0,.int .u32 0]:=dAB
 have Hz1L:=Lib.hid z1L
 have Hz2L:=Lib.hid z2L
 have Hf6L:=Lib.hid f6L
 have Hg6L:=Lib.hid g6L
 obtain ⟨⟨ke0,ke1,ke2,ke3,ke4,ke5,ke6,ke7,ke8,ke9,ke10,ke11⟩,kez0,kez1,kez2,kez3,kez4,kez5,kez6,kez7,kez8,kez9,kez10,kez11⟩:=rw12 f5L
 obtain ⟨⟨kf0,kf1,kf2,kf3,kf4,kf5,kf6,kf7,kf8,kf9,kf10,kf11⟩,kfz0,kfz1,kfz2,kfz3,kfz4,kfz5,kfz6,kfz7,kfz8,kfz9,kfz10,kfz11⟩:=rw12 f4L
 have HzAL:=Lib.hid zAL
 have HyAL:=Lib.hid yAL
 have HAB:=Lib.hid aBL;have HBB:=Lib.hid bBL;have HCB:=Lib.hid cBL;have HDB:=Lib.hid dBL;have HYB:=Lib.hid yB
 clear z1 z2 f4 f5 f6 g6 g6' z2A bA kA kB bB bAB hS z1L z2L f6L g6L f5L f4L zAL yAL aBL bBL cBL dBL y1A cA lA lB dB dAB
 have HEA:=Lib.hid eA;have HEB:=Lib.hid eB;have HEC:=Lib.hid eC;have HED:=Lib.hid eD
 clear eA eB eC eD xA xB yA yB x1 x2 x3 x4 x5 x6 s1 s4
 go_enter Tryz.func31,Tryz.ntmps31
 go_upto_region 4 with fail
 clear kf0 kf1 kf2 kf3 kf4 kf5 kf6 kf7 kf8 kf9 kf10 kf11 kfz0 kfz1 kfz2 kfz3 kfz4 kfz5 kfz6 kfz7 kfz8 kfz9 kfz10 kfz11 ke0 ke1 ke2 ke3 ke4 ke5 ke6 ke7 ke8 ke9 ke10 ke11 kez0 kez1 kez2 kez3 kez4 kez5 kez6 kez7 kez8 kez9 kez10 kez11 e1 e2 e3 e4 e5 e6
 obtain ⟨⟨ka0,ka1,ka2,ka3,ka4,ka5,ka6,ka7,ka8,ka9,ka10,ka11⟩,kaz0,kaz1,kaz2,kaz3,kaz4,kaz5,kaz6,kaz7,kaz8,kaz9,kaz10,kaz11⟩:=rw12 Hz1L.out
 obtain ⟨⟨kb0,kb1,kb2,kb3,kb4,kb5,kb6,kb7,kb8,kb9,kb10,kb11⟩,kbz0,kbz1,kbz2,kbz3,kbz4,kbz5,kbz6,kbz7,kbz8,kbz9,kbz10,kbz11⟩:=rw12 Hz2L.out
 obtain ⟨⟨kc0,kc1,kc2,kc3,kc4,kc5,kc6,kc7,kc8,kc9,kc10,kc11⟩,_⟩:=rw12 Hf6L.out
 obtain ⟨⟨kd0,kd1,kd2,kd3,kd4,kd5,kd6,kd7,kd8,kd9,kd10,kd11⟩,_⟩:=rw12 Hg6L.out
 obtain ⟨⟨kg0,kg1,kg2,kg3,kg4,kg5,kg6,kg7,kg8,kg9,kg10,kg11⟩,kgz0,kgz1,kgz2,kgz3,kgz4,kgz5,kgz6,kgz7,kgz8,kgz9,kgz10,kgz11⟩:=rw12 HzAL.out
 obtain ⟨⟨kh0,kh1,kh2,kh3,kh4,kh5,kh6,kh7,kh8,kh9,kh10,kh11⟩,khz0,khz1,khz2,khz3,khz4,khz5,khz6,khz7,khz8,khz9,khz10,khz11⟩:=rw12 HyAL.out
 obtain ⟨⟨ki0,ki1,ki2,ki3,ki4,ki5,ki6,ki7,ki8,ki9,ki10,ki11⟩,_⟩:=rw12 HgAL.out
 obtain ⟨⟨kj0,kj1,kj2,kj3,kj4,kj5,kj6,kj7,kj8,kj9,kj10,kj11⟩,_⟩:=rw12 HfAL.out
 have eA:=HEA.out;have eB:=HEB.out;have eC:=HEC.out;have eD:=HED.out
 go_region
 obtain ⟨⟨l0,l1,l2,l3,l4,l5,l6,l7,l8,l9,l10,l11⟩,_⟩:=rw12 HAB.out
 obtain ⟨⟨m0,m1,m2,m3,m4,m5,m6,m7,m8,m9,m10,m11⟩,_⟩:=rw12 HBB.out
 clear eA eB eC eD
 go_wp2_with fail
 refine bodyPost_ret (v:=.tuple #[(fX W2.heap.size).val,(gX 103 W2.heap.size).val]) (by simp [results,Tryz.results31,go_sem,l0,l1,l2,l3,l4,l5,l6,l7,l8,l9,l10,l11,m0,m1,m2,m3,m4,m5,m6,m7,m8,m9,m10,m11];exact ⟨rfl,rfl⟩) rfl ?_
 exact ⟨⟨_,rfl,HSB.out.ext (Ext.drew _)⟩,HXB.out.trans (Ext.drew _)⟩
end Go.Proofs.YtnjmndofcpnmeaaGreatDoor
