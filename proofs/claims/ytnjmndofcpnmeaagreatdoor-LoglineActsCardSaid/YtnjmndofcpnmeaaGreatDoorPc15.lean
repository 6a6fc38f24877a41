/- Pc15. -/
import Derived.Test.YtnjmndofcpnmeaaGreatDoorPc9
import Derived.Test.YtnjmndofcpnmeaaGreatDoorPc14
import Derived.Test.YtnjmndofcpnmeaaGreatDoorPc0
import Derived.ScopeJumps
import Derived.WalkMore
import Derived.Test.YtnjmndofcpnmeaaGreatDoorPc4
import Derived.Test.YtnjmndofcpnmeaaGreatDoorPc3
import Derived.Test.YtnjmndofcpnmeaaGreatDoorPc5
import Derived.Deep.DeepCutAuto
namespace Go.Proofs.YtnjmndofcpnmeaaGreatDoor
open Go Go.RowKit
set_option linter.unusedVariables false
theorem AB.soft {w:World}{g:Nat}{k:Int}{A:Option Addr}{n c:Nat}(h:AB w g k A n c)(j:Nat):w.frozen? ⟨g,j,none⟩=false:=frozen_of_row w g j _ _ h
theorem AB.set {w:World}{g:Nat}{k:Int}{A:Option Addr}{n c:Nat}(h:AB w g k A n c)(k':Int)(A':Option Addr)(n' c':Nat):AB ((w.setCell ⟨g,0,none⟩ (.int .i64 k')).setCell ⟨g,1,none⟩ (.slice A' n' c')) g k' A' n' c':=by
 unfold AB at h ⊢
 have h1:(w.setCell ⟨g,0,none⟩ (.int .i64 k')).heap[g]? = some (.cells #[.int .i64 k',.slice A n c] 34 (0,0)):=by rw [heap_setCell_same w g 0 _ _ _ h];rfl
 rw [heap_setCell_same _ g 1 _ _ _ h1];rfl
theorem grown_set2 (w:World)(g:Nat)(u v:Value):w.grownBy ((w.setCell ⟨g,0,none⟩ u).setCell ⟨g,1,none⟩ v) (some g):=grown_set (grown_set (grown_refl w _) 0 u) 1 v
theorem AB.noU8 {w:World}{g:Nat}{k:Int}{A:Option Addr}{n c:Nat}(h:AB w g k A n c):NoU8 w g:=by
 intro q hq v hv
 unfold World.cell? at hv
 rw [hq,h] at hv
 simp only at hv
 split at hv
 ·cases hv
 ·rcases hv2:q.off with _ | _ | j<;>rw [hv2] at hv<;>simp at hv
theorem BS.set2 {w:World}{g:Nat}{k:Int}{A:Option Addr}{n c:Nat}{v:Value}{l:List UInt8}(h:BS w v l)(hg:AB w g k A n c)(u t:Value):BS ((w.setCell ⟨g,0,none⟩ u).setCell ⟨g,1,none⟩ t) v l:=h.but hg.noU8 (grown_set2 w g u t)
theorem AB.far2 {w:World}{g g':Nat}{k:Int}{A:Option Addr}{n c:Nat}(h:AB w g' k A n c)(u t:Value)(hne:g'≠g):AB ((w.setCell ⟨g,0,none⟩ u).setCell ⟨g,1,none⟩ t) g' k A n c:=heap_far (grown_set2 w g u t) h hne
theorem Ext.set2 {w w':World}(h:Ext w w'){g:Nat}(hg:w.heap.size≤g)(u t:Value):Ext w ((w'.setCell ⟨g,0,none⟩ u).setCell ⟨g,1,none⟩ t):=(h.setCell (p:=⟨g,0,none⟩) hg u).setCell (p:=⟨g,1,none⟩) hg t
theorem ofFn40 (f:Nat→Value):Array.ofFn (n:=40) (fun i=>f i.val)=#[f 0,f 1,f 2,f 3,f 4,f 5,f 6,f 7,f 8,f 9,f 10,f 11,f 12,f 13,f 14,f 15,f 16,f 17,f 18,f 19,f 20,f 21,f 22,f 23,f 24,f 25,f 26,f 27,f 28,f 29,f 30,f 31,f 32,f 33,f 34,f 35,f 36,f 37,f 38,f 39]:=by kernel_rfl
theorem arr40 {ts:Array Value}(h:ts.size=40):ts=#[ts.getD 0 undef,ts.getD 1 undef,ts.getD 2 undef,ts.getD 3 undef,ts.getD 4 undef,ts.getD 5 undef,ts.getD 6 undef,ts.getD 7 undef,ts.getD 8 undef,ts.getD 9 undef,ts.getD 10 undef,ts.getD 11 undef,ts.getD 12 undef,ts.getD 13 undef,ts.getD 14 undef,ts.getD 15 undef,ts.getD 16 undef,ts.getD 17 undef,ts.getD 18 undef,ts.getD 19 undef,ts.getD 20 undef,ts.getD 21 undef,ts.getD 22 undef,ts.getD 23 undef,ts.getD 24 undef,ts.getD 25 undef,ts.getD 26 undef,ts.getD 27 undef,ts.getD 28 undef,ts.getD 29 undef,ts.getD 30 undef,ts.getD 31 undef,ts.getD 32 undef,ts.getD 33 undef,ts.getD 34 undef,ts.getD 35 undef,ts.getD 36 undef,ts.getD 37 undef,ts.getD 38 undef,ts.getD 39 undef]:=by
 rw [← ofFn40 (fun i=>ts.getD i undef)]
 apply Array.ext (by simp [h])
 intro i h1 h2
 simp [Array.getD,h1]
theorem jump_retA {l:Nat}{J:Act→World→Prop}{Q:Exit→Act→World→Prop}{a:Act}{w:World}:Exit.jump l J Q .ret a w=Q .ret a w:=rfl
def PAr (l:List UInt8)(e:Ending)(w':World):Prop:=
 (∃ k b A c,prsA l=some (k,b)∧e=.returned (.tuple #[adv k A b.length c,.int .i64 0])∧BS w' (.slice A b.length c) b)∨(prsA l=none∧e=.returned (.tuple #[adv 0 none 0 0,.int .i64 6]))
theorem prsA_ok {l:List UInt8}{k:Int}{b:List UInt8}(hc:cnd l=(k,b))(ho:okA k b=true)(ht:txtA k b=l):prsA l=some (k,b):=by
 unfold prsA;rw [hc,if_pos ⟨ho,ht⟩]
theorem prsA_no1 {l:List UInt8}{k:Int}{b:List UInt8}(hc:cnd l=(k,b))(ho:okA k b=false):prsA l=none:=by
 unfold prsA;rw [hc,if_neg (fun h=>by have h1:okA k b=true:=h.1;rw [ho] at h1;cases h1)]
theorem prsA_no2 {l:List UInt8}{k:Int}{b:List UInt8}(hc:cnd l=(k,b))(ht:txtA k b≠l):prsA l=none:=by
 unfold prsA;rw [hc,if_neg (fun h=>ht h.2)]
set_option maxRecDepth 100000 in
set_option maxHeartbeats 2000000 in
theorem AParse_at (s:ByteArray) (hs:s.size≤3000) (w:World) (hE:EnvA w):
  Calls Tryz.prog 48 #[.string s] w fun e w'=>PAr s.data.toList e w'∧Ext w w':=by
 have hsz:s.data.toList.length=s.size:=by rw [Array.length_toList];rfl
 have h0:=heap_alloc_new w (.cells #[.int .i64 0,.slice none 0 0] 34)
 have h1:=heap_alloc_new (w.alloc (.cells #[.int .i64 0,.slice none 0 0] 34)) (.cells #[.int .i64 0,.slice none 0 0] 34)
 have x1:=(Ext.refl (w.alloc (.cells #[.int .i64 0,.slice none 0 0] 34))).alloc (.cells #[.int .i64 0,.slice none 0 0] 34)
 have x0:=(Ext.refl w).alloc (.cells #[.int .i64 0,.slice none 0 0] 34)
 rw [World.size_alloc] at h1
 obtain ⟨w1,hw1⟩:∃ w1,(w.alloc (.cells #[.int .i64 0,.slice none 0 0] 34)).alloc (.cells #[.int .i64 0,.slice none 0 0] 34)=w1:=⟨_,rfl⟩
 have h01:=x1.heap h0
 have x01:=x0.trans x1
 rw [hw1] at h1 h01 x01
 have HR1:=Lib.hid (show AB w1 w.heap.size 0 none 0 0 from h01);have HB1:=Lib.hid (show AB w1 (w.heap.size+1) 0 none 0 0 from h1);have HX1:=Lib.hid x01;have HE:=Lib.hid hE;have HS:=Lib.hid hs;have HSZ:=Lib.hid hsz
 clear h0 h1 x0 x1 h01 x01 hE hs hsz
 have hcp:=Tryz.strings_CutPrefix s ⟨#[104,111,115,116,47]⟩ w1
 cases hp:hostP.isPrefixOf s.data.toList with
 | true=>
  have htp:Lib.trimPrefix s.data.toList [104,111,115,116,47]=s.data.toList.drop 5:=by unfold Lib.trimPrefix;rw [if_pos (show Lib.hasPrefix s.data.toList [104,111,115,116,47]=true from hp)];rfl
  rw [show (⟨#[104,111,115,116,47]⟩:ByteArray).data.toList=[104,111,115,116,47] from rfl,htp,show Lib.hasPrefix s.data.toList [104,111,115,116,47]=true from hp] at hcp
  have HC:=Lib.hid (show cnd s.data.toList=(20,s.data.toList.drop 5) by unfold cnd;rw [hp];rfl)
  obtain ⟨L,hL⟩:∃ L,s.data.toList.drop 5=L:=⟨_,rfl⟩
  rw [hL] at hcp HC
  have hLl:L.length≤3000:=by rw [← hL,List.length_drop,HSZ.out];have:=HS.out;omega
  obtain ⟨c,wx,hrun,hbs,hx,hszx⟩:=run_bytes (P:=Tryz.prog) w1 9 32 5 L Tryz.underlying9 Tryz.underlying32 Tryz.underlying5 (by unfold maxLen;omega)
  have HCP:=Lib.hid hcp
  have HX:=Lib.hid (HX1.out.trans hx);have HB:=Lib.hid (HB1.out.ext hx);have HR0:=Lib.hid (HR1.out.ext hx);have HBS:=Lib.hid hbs
  obtain ⟨b0,b1⟩:=HB.out.cells
  have g0:=HB.out.soft 0;have g1:=HB.out.soft 1
  clear hcp htp hp hL hLl hbs hx hszx
  go_enter Tryz.func48,Tryz.ntmps48
  go_wp2_with fail
  refine wp_scope_jumps 0 (fun a W=>(∃ ts:Array Value,ts.size=40∧ts.getD 2 undef=.pointer (some ⟨w.heap.size,0,none⟩)∧a={ tmps:=ts,defers:=[] })∧AB W w.heap.size 0 none 0 0∧Ext w W∧prsA s.data.toList=none) (fun _ _=>0) rfl ?_ ?_
  rotate_left
  ·rintro a W ⟨⟨ts,hts,ht2,rfl⟩,hab,hx,hno⟩
   rw [arr40 hts,ht2]
   obtain ⟨f,hf⟩:∃ f:Nat→Value,(fun i=>ts.getD i undef)=f:=⟨_,rfl⟩
   have hff:∀ i,ts.getD i undef=f i:=fun i=>congrFun hf i
   simp only [hff]
   clear hff hf ht2 hts
   have f0:=hab.soft 0;have f1:=hab.soft 1
   obtain ⟨k0,k1⟩:=hab.cells
   obtain ⟨y0,y1⟩:=(hab.set 0 none 0 0).cells
   have HXF:=Lib.hid (hx.set2 (g:=w.heap.size) (Nat.le_refl _) (.int .i64 0) (.slice none 0 0))
   have HNO:=Lib.hid hno;have Y0:=Lib.hid y0;have Y1:=Lib.hid y1
   clear hx hno hab y0 y1
   go_wp2_with fail
   rw [jump_retA]
   have y0:=Y0.out;have y1:=Y1.out
   refine bodyPost_ret (v:=.tuple #[adv 0 none 0 0,.int .i64 6]) (by simp [results,Tryz.results48,go_sem,y0,y1,adv];try rfl) rfl ?_
   exact ⟨.inr ⟨HNO.out,rfl⟩,HXF.out⟩
  go_wp2_with fail
  refine HCP.out.mono ?_
  rintro _ wq ⟨rfl,rfl⟩
  have hab:=AB.set HB.out 20 (some ⟨wq.heap.size,0,none⟩) (L).length c
  have hr0:=HR0.out.far2 (g:=w.heap.size+1) (.int .i64 20) (.slice (some ⟨wq.heap.size,0,none⟩) (L).length c) (by omega)
  obtain ⟨c0,c1⟩:=hab.cells
  obtain ⟨z0,z1⟩:=hr0.cells
  have s0:=hr0.soft 0;have s1:=hr0.soft 1
  have hxz:=HX.out.set2 (g:=w.heap.size+1) (by omega) (.int .i64 20) (.slice (some ⟨wq.heap.size,0,none⟩) (L).length c)
  have hbz:=HBS.out.set2 (g:=w.heap.size+1) HB.out (.int .i64 20) (.slice (some ⟨wq.heap.size,0,none⟩) (L).length c)
  obtain ⟨Z,hZ⟩:∃ Z,(wx.setCell ⟨w.heap.size+1,0,none⟩ (.int .i64 20)).setCell ⟨w.heap.size+1,1,none⟩ (.slice (some ⟨wq.heap.size,0,none⟩) (L).length c)=Z:=⟨_,rfl⟩
  rw [hZ] at hab hr0 c0 c1 z0 z1 s0 s1 hxz hbz
  have HAB:=Lib.hid hab;have HR:=Lib.hid hr0;have HXZ:=Lib.hid hxz;have HBZ:=Lib.hid hbz
  clear hab hr0 hxz hbz z0 z1 s0 s1
  have hxt:=text_at 20 (L) (some ⟨wq.heap.size,0,none⟩) c Z HBZ.out (HE.out.ext HXZ.out)
  cases hok:okA 20 (L) with
  | false=>
   rw [hok,resA_false] at hxt
   have HT:=Lib.hid hxt
   have HP:=Lib.hid (prsA_no1 HC.out hok)
   unfold adv at HT
   clear hok hxt
   go_wp2_with fail
   refine HT.out.mono ?_
   rintro _ wt ⟨rfl,hxt⟩
   have HXT:=Lib.hid (HXZ.out.trans hxt);have HRT:=Lib.hid (HR.out.ext hxt)
   clear hxt c0 c1 hZ
   go_wp2_with fail
   go_step3
   exact ⟨rfl,⟨_,rfl,rfl,rfl⟩,HRT.out,HXT.out,HP.out⟩
  | true=>
   rw [hok,resA_true] at hxt
   obtain ⟨X,hX⟩:∃ X,txtA 20 (L)=X:=⟨_,rfl⟩
   rw [hX] at hxt
   have HT:=Lib.hid hxt
   unfold adv at HT
   by_cases heq:X=s.data.toList
   ·have q1:(X==s.toList)=true:=by rw [ByteArray.toList_eq,heq];exact beq_self_eq_true _
    have q2:(X != s.toList)=false:=by rw [bne,q1];rfl
    have HP:=Lib.hid (prsA_ok HC.out hok (hX.trans heq))
    clear hok hxt hX heq
    go_wp2_with fail
    refine HT.out.mono ?_
    rintro _ wt ⟨rfl,hxt⟩
    obtain ⟨d0,d1⟩:=(HAB.out.ext hxt).cells
    obtain ⟨z0,z1⟩:=(HR.out.ext hxt).cells
    have s0:=(HR.out.ext hxt).soft 0;have s1:=(HR.out.ext hxt).soft 1
    obtain ⟨y0,y1⟩:=((HR.out.ext hxt).set (20) (some ⟨wq.heap.size,0,none⟩) (L).length c).cells
    have HXF:=Lib.hid ((HXZ.out.trans hxt).set2 (g:=w.heap.size) (Nat.le_refl _) (.int .i64 20) (.slice (some ⟨wq.heap.size,0,none⟩) (L).length c))
    have HBF:=Lib.hid ((HBZ.out.ext hxt).set2 (HR.out.ext hxt) (.int .i64 20) (.slice (some ⟨wq.heap.size,0,none⟩) (L).length c))
    have Y0:=Lib.hid y0;have Y1:=Lib.hid y1
    clear hxt c0 c1 hZ y0 y1
    go_wp2_with fail
    rw [jump_retA]
    have y0:=Y0.out;have y1:=Y1.out
    refine bodyPost_ret (v:=.tuple #[adv 20 (some ⟨wq.heap.size,0,none⟩) (L).length c,.int .i64 0]) (by simp [results,Tryz.results48,go_sem,y0,y1,adv];try rfl) rfl ?_
    exact ⟨.inl ⟨_,_,_,_,HP.out,rfl,HBF.out⟩,HXF.out⟩
   ·have q1:(X==s.toList)=false:=by rw [ByteArray.toList_eq,beq_eq_false_iff_ne];exact heq
    have q2:(X != s.toList)=true:=by rw [bne,q1];rfl
    have HP:=Lib.hid (prsA_no2 HC.out (fun h=>heq (hX.symm.trans h)))
    clear hok hxt hX heq
    go_wp2_with fail
    refine HT.out.mono ?_
    rintro _ wt ⟨rfl,hxt⟩
    have HXT:=Lib.hid (HXZ.out.trans hxt);have HRT:=Lib.hid (HR.out.ext hxt)
    clear hxt c0 c1 hZ
    go_wp2_with fail
    go_step3
    exact ⟨rfl,⟨_,rfl,rfl,rfl⟩,HRT.out,HXT.out,HP.out⟩
 | false=>
  rw [show (⟨#[104,111,115,116,47]⟩:ByteArray).data.toList=[104,111,115,116,47] from rfl,show Lib.hasPrefix s.data.toList [104,111,115,116,47]=false from hp] at hcp
  have hhp:=Tryz.strings_HasPrefix s ⟨#[91]⟩ w1
  rw [show (⟨#[91]⟩:ByteArray).data.toList=[91] from rfl] at hhp
  cases hq:([91]:List UInt8).isPrefixOf s.data.toList with
  | true=>
   rw [show Lib.hasPrefix s.data.toList [91]=true from hq] at hhp
   have hc:cnd s.data.toList=(24,cand6 s.data.toList):=by unfold cnd;rw [hp,hq];rfl
   have hpp:=parse6_at s HS.out w1 (HE.out.ext HX1.out)
   obtain ⟨L,hL⟩:∃ L,cand6 s.data.toList=L:=⟨_,rfl⟩
   rw [hL] at hc hpp
   have HC:=Lib.hid hc;have HCP:=Lib.hid hcp;have HHP:=Lib.hid hhp;have HPP:=Lib.hid hpp
   clear hcp hhp hpp hc hp hq hL
   go_enter Tryz.func48,Tryz.ntmps48
   go_wp2_with fail
   refine wp_scope_jumps 0 (fun a W=>(∃ ts:Array Value,ts.size=40∧ts.getD 2 undef=.pointer (some ⟨w.heap.size,0,none⟩)∧a={ tmps:=ts,defers:=[] })∧AB W w.heap.size 0 none 0 0∧Ext w W∧prsA s.data.toList=none) (fun _ _=>0) rfl ?_ ?_
   rotate_left
   ·rintro a W ⟨⟨ts,hts,ht2,rfl⟩,hab,hx,hno⟩
    rw [arr40 hts,ht2]
    obtain ⟨f,hf⟩:∃ f:Nat→Value,(fun i=>ts.getD i undef)=f:=⟨_,rfl⟩
    have hff:∀ i,ts.getD i undef=f i:=fun i=>congrFun hf i
    simp only [hff]
    clear hff hf ht2 hts
    have f0:=hab.soft 0;have f1:=hab.soft 1
    obtain ⟨k0,k1⟩:=hab.cells
    obtain ⟨y0,y1⟩:=(hab.set 0 none 0 0).cells
    have HXF:=Lib.hid (hx.set2 (g:=w.heap.size) (Nat.le_refl _) (.int .i64 0) (.slice none 0 0))
    have HNO:=Lib.hid hno;have Y0:=Lib.hid y0;have Y1:=Lib.hid y1
    clear hx hno hab y0 y1
    go_wp2_with fail
    rw [jump_retA]
    have y0:=Y0.out;have y1:=Y1.out
    refine bodyPost_ret (v:=.tuple #[adv 0 none 0 0,.int .i64 6]) (by simp [results,Tryz.results48,go_sem,y0,y1,adv];try rfl) rfl ?_
    exact ⟨.inr ⟨HNO.out,rfl⟩,HXF.out⟩
   go_wp2_with fail
   refine HCP.out.mono ?_
   rintro _ wq ⟨rfl,rfl⟩
   go_wp2_with fail
   refine HHP.out.mono ?_
   rintro _ wq2 ⟨rfl,rfl⟩
   go_wp2_with fail
   refine HPP.out.mono ?_
   rintro _ wx ⟨A,c,rfl,hob,hx⟩
   have HX:=Lib.hid (HX1.out.trans hx);have HB:=Lib.hid (HB1.out.ext hx);have HR0:=Lib.hid (HR1.out.ext hx);have HBS:=Lib.hid hob.bs
   obtain ⟨b0,b1⟩:=HB.out.cells
   have g0:=HB.out.soft 0;have g1:=HB.out.soft 1
   clear hob hx
   have hab:=AB.set HB.out 24 A (L).length c
   have hr0:=HR0.out.far2 (g:=w.heap.size+1) (.int .i64 24) (.slice A (L).length c) (by omega)
   obtain ⟨c0,c1⟩:=hab.cells
   obtain ⟨z0,z1⟩:=hr0.cells
   have s0:=hr0.soft 0;have s1:=hr0.soft 1
   have hxz:=HX.out.set2 (g:=w.heap.size+1) (by omega) (.int .i64 24) (.slice A (L).length c)
   have hbz:=HBS.out.set2 (g:=w.heap.size+1) HB.out (.int .i64 24) (.slice A (L).length c)
   obtain ⟨Z,hZ⟩:∃ Z,(wx.setCell ⟨w.heap.size+1,0,none⟩ (.int .i64 24)).setCell ⟨w.heap.size+1,1,none⟩ (.slice A (L).length c)=Z:=⟨_,rfl⟩
   rw [hZ] at hab hr0 c0 c1 z0 z1 s0 s1 hxz hbz
   have HAB:=Lib.hid hab;have HR:=Lib.hid hr0;have HXZ:=Lib.hid hxz;have HBZ:=Lib.hid hbz
   clear hab hr0 hxz hbz z0 z1 s0 s1
   have hxt:=text_at 24 (L) A c Z HBZ.out (HE.out.ext HXZ.out)
   cases hok:okA 24 (L) with
   | false=>
    rw [hok,resA_false] at hxt
    have HT:=Lib.hid hxt
    have HP:=Lib.hid (prsA_no1 HC.out hok)
    unfold adv at HT
    clear hok hxt
    go_wp2_with fail
    refine HT.out.mono ?_
    rintro _ wt ⟨rfl,hxt⟩
    have HXT:=Lib.hid (HXZ.out.trans hxt);have HRT:=Lib.hid (HR.out.ext hxt)
    clear hxt c0 c1 hZ
    go_wp2_with fail
    go_step3
    exact ⟨rfl,⟨_,rfl,rfl,rfl⟩,HRT.out,HXT.out,HP.out⟩
   | true=>
    rw [hok,resA_true] at hxt
    obtain ⟨X,hX⟩:∃ X,txtA 24 (L)=X:=⟨_,rfl⟩
    rw [hX] at hxt
    have HT:=Lib.hid hxt
    unfold adv at HT
    by_cases heq:X=s.data.toList
    ·have q1:(X==s.toList)=true:=by rw [ByteArray.toList_eq,heq];exact beq_self_eq_true _
     have q2:(X != s.toList)=false:=by rw [bne,q1];rfl
     have HP:=Lib.hid (prsA_ok HC.out hok (hX.trans heq))
     clear hok hxt hX heq
     go_wp2_with fail
     refine HT.out.mono ?_
     rintro _ wt ⟨rfl,hxt⟩
     obtain ⟨d0,d1⟩:=(HAB.out.ext hxt).cells
     obtain ⟨z0,z1⟩:=(HR.out.ext hxt).cells
     have s0:=(HR.out.ext hxt).soft 0;have s1:=(HR.out.ext hxt).soft 1
     obtain ⟨y0,y1⟩:=((HR.out.ext hxt).set (24) A (L).length c).cells
     have HXF:=Lib.hid ((HXZ.out.trans hxt).set2 (g:=w.heap.size) (Nat.le_refl _) (.int .i64 24) (.slice A (L).length c))
     have HBF:=Lib.hid ((HBZ.out.ext hxt).set2 (HR.out.ext hxt) (.int .i64 24) (.slice A (L).length c))
     have Y0:=Lib.hid y0;have Y1:=Lib.hid y1
     clear hxt c0 c1 hZ y0 y1
     go_wp2_with fail
     rw [jump_retA]
     have y0:=Y0.out;have y1:=Y1.out
     refine bodyPost_ret (v:=.tuple #[adv 24 A (L).length c,.int .i64 0]) (by simp [results,Tryz.results48,go_sem,y0,y1,adv];try rfl) rfl ?_
     exact ⟨.inl ⟨_,_,_,_,HP.out,rfl,HBF.out⟩,HXF.out⟩
    ·have q1:(X==s.toList)=false:=by rw [ByteArray.toList_eq,beq_eq_false_iff_ne];exact heq
     have q2:(X != s.toList)=true:=by rw [bne,q1];rfl
     have HP:=Lib.hid (prsA_no2 HC.out (fun h=>heq (hX.symm.trans h)))
     clear hok hxt hX heq
     go_wp2_with fail
     refine HT.out.mono ?_
     rintro _ wt ⟨rfl,hxt⟩
     have HXT:=Lib.hid (HXZ.out.trans hxt);have HRT:=Lib.hid (HR.out.ext hxt)
     clear hxt c0 c1 hZ
     go_wp2_with fail
     go_step3
     exact ⟨rfl,⟨_,rfl,rfl,rfl⟩,HRT.out,HXT.out,HP.out⟩
  | false=>
   rw [show Lib.hasPrefix s.data.toList [91]=false from hq] at hhp
   have hc:cnd s.data.toList=(2,cand4 s.data.toList):=by unfold cnd;rw [hp,hq];rfl
   have hpp:=parse4_at s HS.out w1 (HE.out.ext HX1.out)
   obtain ⟨L,hL⟩:∃ L,cand4 s.data.toList=L:=⟨_,rfl⟩
   rw [hL] at hc hpp
   have HC:=Lib.hid hc;have HCP:=Lib.hid hcp;have HHP:=Lib.hid hhp;have HPP:=Lib.hid hpp
   clear hcp hhp hpp hc hp hq hL
   go_enter Tryz.func48,Tryz.ntmps48
   go_wp2_with fail
   refine wp_scope_jumps 0 (fun a W=>(∃ ts:Array Value,ts.size=40∧ts.getD 2 undef=.pointer (some ⟨w.heap.size,0,none⟩)∧a={ tmps:=ts,defers:=[] })∧AB W w.heap.size 0 none 0 0∧Ext w W∧prsA s.data.toList=none) (fun _ _=>0) rfl ?_ ?_
   rotate_left
   ·rintro a W ⟨⟨ts,hts,ht2,rfl⟩,hab,hx,hno⟩
    rw [arr40 hts,ht2]
    obtain ⟨f,hf⟩:∃ f:Nat→Value,(fun i=>ts.getD i undef)=f:=⟨_,rfl⟩
    have hff:∀ i,ts.getD i undef=f i:=fun i=>congrFun hf i
    simp only [hff]
    clear hff hf ht2 hts
    have f0:=hab.soft 0;have f1:=hab.soft 1
    obtain ⟨k0,k1⟩:=hab.cells
    obtain ⟨y0,y1⟩:=(hab.set 0 none 0 0).cells
    have HXF:=Lib.hid (hx.set2 (g:=w.heap.size) (Nat.le_refl _) (.int .i64 0) (.slice none 0 0))
    have HNO:=Lib.hid hno;have Y0:=Lib.hid y0;have Y1:=Lib.hid y1
    clear hx hno hab y0 y1
    go_wp2_with fail
    rw [jump_retA]
    have y0:=Y0.out;have y1:=Y1.out
    refine bodyPost_ret (v:=.tuple #[adv 0 none 0 0,.int .i64 6]) (by simp [results,Tryz.results48,go_sem,y0,y1,adv];try rfl) rfl ?_
    exact ⟨.inr ⟨HNO.out,rfl⟩,HXF.out⟩
   go_wp2_with fail
   refine HCP.out.mono ?_
   rintro _ wq ⟨rfl,rfl⟩
   go_wp2_with fail
   refine HHP.out.mono ?_
   rintro _ wq2 ⟨rfl,rfl⟩
   go_wp2_with fail
   refine HPP.out.mono ?_
   rintro _ wx ⟨A,c,rfl,hob,hx⟩
   have HX:=Lib.hid (HX1.out.trans hx);have HB:=Lib.hid (HB1.out.ext hx);have HR0:=Lib.hid (HR1.out.ext hx);have HBS:=Lib.hid hob.bs
   obtain ⟨b0,b1⟩:=HB.out.cells
   have g0:=HB.out.soft 0;have g1:=HB.out.soft 1
   clear hob hx
   have hab:=AB.set HB.out 2 A (L).length c
   have hr0:=HR0.out.far2 (g:=w.heap.size+1) (.int .i64 2) (.slice A (L).length c) (by omega)
   obtain ⟨c0,c1⟩:=hab.cells
   obtain ⟨z0,z1⟩:=hr0.cells
   have s0:=hr0.soft 0;have s1:=hr0.soft 1
   have hxz:=HX.out.set2 (g:=w.heap.size+1) (by omega) (.int .i64 2) (.slice A (L).length c)
   have hbz:=HBS.out.set2 (g:=w.heap.size+1) HB.out (.int .i64 2) (.slice A (L).length c)
   obtain ⟨Z,hZ⟩:∃ Z,(wx.setCell ⟨w.heap.size+1,0,none⟩ (.int .i64 2)).setCell ⟨w.heap.size+1,1,none⟩ (.slice A (L).length c)=Z:=⟨_,rfl⟩
   rw [hZ] at hab hr0 c0 c1 z0 z1 s0 s1 hxz hbz
   have HAB:=Lib.hid hab;have HR:=Lib.hid hr0;have HXZ:=Lib.hid hxz;have HBZ:=Lib.hid hbz
   clear hab hr0 hxz hbz z0 z1 s0 s1
   have hxt:=text_at 2 (L) A c Z HBZ.out (HE.out.ext HXZ.out)
   cases hok:okA 2 (L) with
   | false=>
    rw [hok,resA_false] at hxt
    have HT:=Lib.hid hxt
    have HP:=Lib.hid (prsA_no1 HC.out hok)
    unfold adv at HT
    clear hok hxt
    go_wp2_with fail
    refine HT.out.mono ?_
    rintro _ wt ⟨rfl,hxt⟩
    have HXT:=Lib.hid (HXZ.out.trans hxt);have HRT:=Lib.hid (HR.out.ext hxt)
    clear hxt c0 c1 hZ
    go_wp2_with fail
    go_step3
    exact ⟨rfl,⟨_,rfl,rfl,rfl⟩,HRT.out,HXT.out,HP.out⟩
   | true=>
    rw [hok,resA_true] at hxt
    obtain ⟨X,hX⟩:∃ X,txtA 2 (L)=X:=⟨_,rfl⟩
    rw [hX] at hxt
    have HT:=Lib.hid hxt
    unfold adv at HT
    by_cases heq:X=s.data.toList
    ·have q1:(X==s.toList)=true:=by rw [ByteArray.toList_eq,heq];exact beq_self_eq_true _
     have q2:(X != s.toList)=false:=by rw [bne,q1];rfl
     have HP:=Lib.hid (prsA_ok HC.out hok (hX.trans heq))
     clear hok hxt hX heq
     go_wp2_with fail
     refine HT.out.mono ?_
     rintro _ wt ⟨rfl,hxt⟩
     obtain ⟨d0,d1⟩:=(HAB.out.ext hxt).cells
     obtain ⟨z0,z1⟩:=(HR.out.ext hxt).cells
     have s0:=(HR.out.ext hxt).soft 0;have s1:=(HR.out.ext hxt).soft 1
     obtain ⟨y0,y1⟩:=((HR.out.ext hxt).set (2) A (L).length c).cells
     have HXF:=Lib.hid ((HXZ.out.trans hxt).set2 (g:=w.heap.size) (Nat.le_refl _) (.int .i64 2) (.slice A (L).length c))
     have HBF:=Lib.hid ((HBZ.out.ext hxt).set2 (HR.out.ext hxt) (.int .i64 2) (.slice A (L).length c))
     have Y0:=Lib.hid y0;have Y1:=Lib.hid y1
     clear hxt c0 c1 hZ y0 y1
     go_wp2_with fail
     rw [jump_retA]
     have y0:=Y0.out;have y1:=Y1.out
     refine bodyPost_ret (v:=.tuple #[adv 2 A (L).length c,.int .i64 0]) (by simp [results,Tryz.results48,go_sem,y0,y1,adv];try rfl) rfl ?_
     exact ⟨.inl ⟨_,_,_,_,HP.out,rfl,HBF.out⟩,HXF.out⟩
    ·have q1:(X==s.toList)=false:=by rw [ByteArray.toList_eq,beq_eq_false_iff_ne];exact heq
     have q2:(X != s.toList)=true:=by rw [bne,q1];rfl
     have HP:=Lib.hid (prsA_no2 HC.out (fun h=>heq (hX.symm.trans h)))
     clear hok hxt hX heq
     go_wp2_with fail
     refine HT.out.mono ?_
     rintro _ wt ⟨rfl,hxt⟩
     have HXT:=Lib.hid (HXZ.out.trans hxt);have HRT:=Lib.hid (HR.out.ext hxt)
     clear hxt c0 c1 hZ
     go_wp2_with fail
     go_step3
     exact ⟨rfl,⟨_,rfl,rfl,rfl⟩,HRT.out,HXT.out,HP.out⟩
theorem Stab.keeps {B:Nat}(Bo:Nat)(W0:World)(h:W0.heap.size≤B):Stab B (fun W=>KeepsFrom Bo W0 W):=fun W W' l hl _ hg hk=>
 ⟨Nat.le_trans hk.size hg.size,fun k o hB hko ho=>(hg.block k (Array.getElem?_eq_some_iff.1 (hk.same k o hB hko ho)).1 (by intro e;cases e;have:=(Array.getElem?_eq_some_iff.1 hko).1;omega)).trans (hk.same k o hB hko ho)⟩
theorem Ext.keeps {W W':World}(h:Ext W W')(B:Nat):KeepsFrom B W W':=h.keepsOthers.from B
section
variable {P:Program}
theorem wp_rangeMN {α:Type} {g:Operand} {ps:Array Tmp} {assign body:Code} {Q:Exit→Act→World→Prop} {a:Act} {w:World}
  {l0:Nat} (hl0:∃ r0,w.heap[l0]? = some (.loop r0)) {gf:Nat} {lb:Array Value} (hg:a.eval g=.func (.func gf) #[] lb) (eg:∀ args w,(callFunc gf args).run P w=.ok (.enter gf args) w)
  {encs:α→Array Value} {It:World→Prop} {G:List α→α→World→Prop} {own:Nat→Prop} {S Sp:List α→Prop} (hseq:IterM P gf lb encs It G own S Sp) (hps:∀ x,(encs x).size=ps.size)
  (hown:∀ k,own k→k<w.heap.size) (hIt0:It w) (hIt:Stab w.heap.size It)
  (I:List α→World→Prop) (Ix:Code→List α→World→Prop) (hI:∀ pre,Stab w.heap.size (I pre)) (hIx:∀ c pre,Stab w.heap.size (Ix c pre))
  (hIo:∀ pre A B r,(∀ k,r=some k→own k)→A.grownBy B r→I pre A→I pre B) (hIxo:∀ c pre A B r,(∀ k,r=some k→own k)→A.grownBy B r→Ix c pre A→Ix c pre B)
  (h0:I [] w)
  (hround:∀ (l:Nat) (pre:List α) (x:α) (W:World),w.heap.size≤l→NC W l→w.heap.size≤W.heap.size→I pre W→It W→G pre x W →
   assign.wpIn (Fence.wide.inRound l) 0 P (Exit.then (fun a' W1=>KeepsFrom w.heap.size W W1∧∀ W2,W1.grownBy W2 (some l)→NC W1 l→W2.heap.size=W1.heap.size →
     body.wpIn (Fence.wide.inRound l) 0 P (bPost w.heap.size It I Ix (pre++[x]) W2) a' W2) (fun _ _ _=>False))
    { tmps:=(ps.zip (encs x)).foldl (fun t (p,v)=>t.setIfInBounds p v) a.tmps,defers:=[] } W)
  (hdone:∀ (xs:List α) (W:World),S xs→I xs W→It W→Q .normal a W)
  (hstop:∀ (c:Code) (pre:List α) (W:World),Sp pre→Ix c pre W→c.wpIn (Fence.wide.inRound l0) 0 P Q a W):
  (Code.rangeFunc g ps assign body).wpIn (Fence.wide.inRound l0) 0 P Q a w:=by
 obtain ⟨r0,hr0⟩:=hl0
 refine wpIn_rangeFunc ?_
 intro fn hfn
 obtain ⟨rc,hrc⟩:∃ rc:LoopState→Option Code→Loop,rc=fun st pe=>{ state:=st,pending:=pe,fn,tmps:=a.tmps,params:=ps,assign,body,defers:=r0.defers }:=⟨_,rfl⟩
 obtain ⟨V,hV⟩:∃ V,w.alloc (.loop (rc .ready none))=V:=⟨_,rfl⟩
 have hxV:Ext w V:=by rw [← hV];exact (Ext.refl w).alloc _
 have hVz:V.heap.size=w.heap.size+1:=by rw [← hV];simp
 have hVL:V.heap[w.heap.size]? = some (.loop (rc .ready none)):=by rw [← hV];exact heap_alloc_new w _
 have ncL:∀ {W:World} {r:Loop},W.heap[w.heap.size]? = some (.loop r)→NC W (w.heap.size):=fun h=>NC.of h rfl
 have toV:∀ {K:World→Prop},Stab w.heap.size K→K w→K V:=by
  intro K hK hk
  have hn:NC w w.heap.size:=fun cs t fr e=>by simp at e
  exact hK w V w.heap.size (Nat.le_refl _) hn (hxV.but _) hk
 have keepsOwn:∀ {A B:World} {r:Option Nat} {k:Nat} {o:Obj},(∀ j,r=some j→own j)→A.grownBy B r→w.heap.size≤k→A.heap[k]? = some o→B.heap[k]? = some o:=by
  intro A B r k o hr hgr hk ho
  exact (hgr.block k (Array.getElem?_eq_some_iff.1 ho).1 (fun e=>by have:=hown k (hr k e.symm);omega)).trans ho
 refine ⟨w.heap.size,[],V,{ target:=.fn (.func gf) lb,args:=#[.func (.yield (w.heap.size)) #[] #[]] },V,gf,
  #[.func (.yield (w.heap.size)) #[] #[]]++lb,V,?_,?_,?_,?_,fun h=>by simp [Fence.wide] at h,?_⟩
 ·rw [← hV,hrc]
  exact run_enterLoop_inner hr0 _ _ _ _ _
 ·simp only [resolve,hg]
  simp [go_sem]
 ·intro f' hf'
  trivial
 ·simp [invoke,go_sem,eg]
 ·refine CallsIn.inRound l0 ((hseq (w.heap.size)
   (fun pre W=>w.heap.size+1≤W.heap.size∧I pre W∧W.heap[w.heap.size]? = some (.loop (rc .ready none)))
   (fun pre W=>∃ c,Ix c pre W∧W.heap[w.heap.size]? = some (.loop (rc .done (some c))))
   V (fun pre A B r hr hgr h=>⟨Nat.le_trans h.1 hgr.size,hIo pre A B r hr hgr h.2.1,keepsOwn hr hgr (Nat.le_refl _) h.2.2⟩)
   (fun pre A B r hr hgr ⟨c,h1,h2⟩=>⟨c,hIxo c pre A B r hr hgr h1,keepsOwn hr hgr (Nat.le_refl _) h2⟩)
   ?_ (toV hIt hIt0) ⟨by rw [← hV];simp,toV (hI []) h0,hVL⟩).mono ?_)
  ·rintro pre x W ⟨hsz,hi,hl⟩ hit hG
   have hy:=run_yield (P:=P) (args:=encs x) hl (by rw [hrc];exact hps x)
   rw [hrc] at hy
   refine ⟨fn,_,assign,body,hy,roundIn_of_wpIn hfn ?_⟩
   have hr:=hround (w.heap.size) pre x W (by omega) (ncL hl) (by omega) hi hit hG
   refine wpIn_mono hr ?_
   clear hr hy
   rintro e a1 W1 h
   cases e with
   | normal=>
    obtain ⟨hk1,h⟩:=h
    have hl1:=hk1.same _ _ (Nat.le_refl _) hl rfl
    refine ⟨_,run_beginRound hl1 (by rw [hrc]),?_⟩
    have hlt1:=(Array.getElem?_eq_some_iff.1 hl1).1
    have hl2:(W1.putObj (w.heap.size) (.loop { rc .ready none with state:=.busy })).heap[w.heap.size]? = some (.loop { rc .ready none with state:=.busy }):=World.putObj_heap_same hlt1
    refine wpIn_mono (h _ (grown_put hl1) (ncL hl1) (by simp [World.putObj])) ?_
    have fin:∀ (jump:Option Code) (W3:World),KeepsFrom w.heap.size (W1.putObj (w.heap.size) (.loop { rc .ready none with state:=.busy })) W3 →
      ∃ W4,NCK (w.heap.size+1) W3 W4∧(Instr.endRound (w.heap.size) jump).run P W3=.ok (.bool jump.isNone) W4∧W3.grownBy W4 (some (w.heap.size))∧NC W3 (w.heap.size)∧w.heap.size+1≤W4.heap.size ∧
       W4.heap[w.heap.size]? = some (.loop (rc (if jump.isNone then .ready else .done) jump)):=by
     intro jump W3 hk3
     have hl3:=hk3.same _ _ (Nat.le_refl _) hl2 rfl
     have hlt3:=(Array.getElem?_eq_some_iff.1 hl3).1
     have hrun:=run_endRound (P:=P) jump hl3
     refine ⟨W3.putObj (w.heap.size) (.loop (rc (if jump.isNone then .ready else .done) jump)),NCK.put _ (by omega),?_,grown_put hl3,ncL hl3,by simp [World.putObj];omega,World.putObj_heap_same hlt3⟩
     rw [hrc] at hrun ⊢
     exact hrun
    rintro e a3 W3 hp
    cases e with
    | normal=>
     obtain ⟨hk3,hit3,hi3⟩:=hp
     obtain ⟨W4,hq4,hrun,hg4,hn4,hz4,hl4⟩:=fin none W3 hk3
     exact ⟨_,_,hrun,by rw [hVz];exact (((NCK.of_keeps hk1 (by omega)).trans (NCK.put _ (by omega))).trans (NCK.of_keeps hk3 (by omega))).trans hq4,.inl ⟨rfl,⟨hz4,hI _ _ _ _ (by omega) hn4 hg4 hi3,hl4⟩,hIt _ _ _ (by omega) hn4 hg4 hit3⟩⟩
    | ret=>
     obtain ⟨hk3,hi3⟩:=hp
     obtain ⟨W4,hq4,hrun,hg4,hn4,hz4,hl4⟩:=fin (some .ret) W3 hk3
     exact ⟨_,_,hrun,by rw [hVz];exact (((NCK.of_keeps hk1 (by omega)).trans (NCK.put _ (by omega))).trans (NCK.of_keeps hk3 (by omega))).trans hq4,.inr ⟨rfl,.ret,hIx _ _ _ _ _ (by omega) hn4 hg4 hi3,hl4⟩⟩
    | exit id=>
     obtain ⟨hk3,hi3⟩:=hp
     obtain ⟨W4,hq4,hrun,hg4,hn4,hz4,hl4⟩:=fin (some (.exit id)) W3 hk3
     exact ⟨_,_,hrun,by rw [hVz];exact (((NCK.of_keeps hk1 (by omega)).trans (NCK.put _ (by omega))).trans (NCK.of_keeps hk3 (by omega))).trans hq4,.inr ⟨rfl,.exit id,hIx _ _ _ _ _ (by omega) hn4 hg4 hi3,hl4⟩⟩
    | goto t=>
     obtain ⟨hk3,hi3⟩:=hp
     obtain ⟨W4,hq4,hrun,hg4,hn4,hz4,hl4⟩:=fin (some (.goto t)) W3 hk3
     exact ⟨_,_,hrun,by rw [hVz];exact (((NCK.of_keeps hk1 (by omega)).trans (NCK.put _ (by omega))).trans (NCK.of_keeps hk3 (by omega))).trans hq4,.inr ⟨rfl,.goto t,hIx _ _ _ _ _ (by omega) hn4 hg4 hi3,hl4⟩⟩
    | panic ch=>exact hp.elim
    | outgrown=>exact hp.elim
   | ret=>exact h.elim
   | exit id=>exact h.elim
   | goto t=>exact h.elim
   | panic ch=>exact h.elim
   | outgrown=>exact h.elim
  ·rintro e W2 ⟨⟨v,rfl⟩,(⟨xs,hS,⟨hz,hi,hl⟩,hit⟩ | ⟨pre,hSp,c,hi,hl⟩)⟩
   ·have hrun:=run_endLoop (P:=P) hl (by rw [hrc];simp)
    rw [hrc] at hrun
    refine ⟨none,_,hrun,?_⟩
    exact hdone xs _ hS (hI _ _ _ _ (by omega) (ncL hl) (grown_put hl) hi) (hIt _ _ _ (by omega) (ncL hl) (grown_put hl) hit)
   ·have hrun:=run_endLoop (P:=P) hl (by rw [hrc];simp)
    rw [hrc] at hrun
    refine ⟨some c,_,hrun,?_⟩
    exact hstop c pre _ hSp (hIx _ _ _ _ _ (by omega) (ncL hl) (grown_put hl) hi)
theorem wp_rangePR {α:Type} {g:Operand} {ps:Array Tmp} {assign body:Code} {Q:Exit→Act→World→Prop} {a:Act} {w:World}
  {gf:Nat} {lb:Array Value} (hg:a.eval g=.func (.func gf) #[] lb) (eg:∀ args w,(callFunc gf args).run P w=.ok (.enter gf args) w)
  {encs:α→Array Value} {It:List α→World→Prop} {G:List α→α→World→Prop} {own:Nat→Prop} {S Sp:List α→Prop} (hseq:IterP P gf lb encs It G own S Sp) (hps:∀ x,(encs x).size=ps.size)
  (hown:∀ k,own k→k<w.heap.size) (hIt0:It [] w) (hIt:∀ pre,Stab w.heap.size (It pre))
  (I:List α→World→Prop) (Ix:Code→List α→World→Prop) (hI:∀ pre,Stab w.heap.size (I pre)) (hIx:∀ c pre,Stab w.heap.size (Ix c pre))
  (hIo:∀ pre A B r,(∀ k,r=some k→own k)→A.grownBy B r→I pre A→I pre B) (hIxo:∀ c pre A B r,(∀ k,r=some k→own k)→A.grownBy B r→Ix c pre A→Ix c pre B)
  (h0:I [] w)
  (hround:∀ (l:Nat) (pre:List α) (x:α) (W:World),w.heap.size≤l→NC W l→w.heap.size≤W.heap.size→I pre W→It pre W→G pre x W →
   assign.wpIn (Fence.wide.inRound l) 0 P (Exit.then (fun a' W1=>KeepsFrom w.heap.size W W1∧∀ W2,W1.grownBy W2 (some l)→NC W1 l→W2.heap.size=W1.heap.size→(∃ r,W2.heap[l]? = some (.loop r)) →
     body.wpIn (Fence.wide.inRound l) 0 P (bPostP w.heap.size (It pre) I Ix (pre++[x]) W2) a' W2) (fun _ _ _=>False))
    { tmps:=(ps.zip (encs x)).foldl (fun t (p,v)=>t.setIfInBounds p v) a.tmps,defers:=[] } W)
  (hdone:∀ (D:Nat) (xs:List α) (W:World),w.heap.size≤D→S xs→I xs W→W.heap[D]? = some (.deferred (some []))→Q .normal { a with defers:={ target:=.collected D,args:=#[] }::a.defers } W)
  (hstop:∀ (D:Nat) (c:Code) (pre:List α) (W:World),w.heap.size≤D→Sp pre→Ix c pre W→W.heap[D]? = some (.deferred (some []))→c.wpIn Fence.wide 0 P Q { a with defers:={ target:=.collected D,args:=#[] }::a.defers } W):
  (Code.rangeFunc g ps assign body).wpIn Fence.wide 0 P Q a w:=by
 refine wpIn_rangeFunc ?_
 intro fn hfn
 obtain ⟨rc,hrc⟩:∃ rc:LoopState→Option Code→Loop,rc=fun st pe=>{ state:=st,pending:=pe,fn,tmps:=a.tmps,params:=ps,assign,body,defers:=w.heap.size }:=⟨_,rfl⟩
 obtain ⟨V,hV⟩:∃ V,(w.alloc (.deferred (some []))).alloc (.loop (rc .ready none))=V:=⟨_,rfl⟩
 have hxV:Ext w V:=by rw [← hV];exact ((Ext.refl w).alloc _).alloc _
 have hVL:V.heap[w.heap.size+1]? = some (.loop (rc .ready none)):=by
  rw [← hV]
  have:=heap_alloc_new (w.alloc (.deferred (some []))) (.loop (rc .ready none))
  rwa [World.size_alloc] at this
 have hVD:V.heap[w.heap.size]? = some (.deferred (some [])):=by rw [← hV];exact ((Ext.refl _).alloc _).heap (heap_alloc_new w _)
 have ncL:∀ {W:World} {r:Loop},W.heap[w.heap.size+1]? = some (.loop r)→NC W (w.heap.size+1):=fun h=>NC.of h rfl
 have toV:∀ {K:World→Prop},Stab w.heap.size K→K w→K V:=by
  intro K hK hk
  have hn:NC w w.heap.size:=fun cs t fr e=>by simp at e
  exact hK w V w.heap.size (Nat.le_refl _) hn (hxV.but _) hk
 have keepsOwn:∀ {A B:World} {r:Option Nat} {k:Nat} {o:Obj},(∀ j,r=some j→own j)→A.grownBy B r→w.heap.size≤k→A.heap[k]? = some o→B.heap[k]? = some o:=by
  intro A B r k o hr hgr hk ho
  exact (hgr.block k (Array.getElem?_eq_some_iff.1 ho).1 (fun e=>by have:=hown k (hr k e.symm);omega)).trans ho
 refine ⟨w.heap.size+1,[{ target:=.collected w.heap.size,args:=#[] }],V,{ target:=.fn (.func gf) lb,args:=#[.func (.yield (w.heap.size+1)) #[] #[]] },V,gf,
  #[.func (.yield (w.heap.size+1)) #[] #[]]++lb,V,?_,?_,?_,?_,fun h=>by simp [Fence.wide] at h,?_⟩
 ·rw [← hV,hrc]
  exact run_enterLoop_outer _ _ _ _ _
 ·simp only [resolve,hg]
  simp [go_sem]
 ·intro f' hf'
  trivial
 ·simp [invoke,go_sem,eg]
 ·refine (hseq (w.heap.size+1)
   (fun pre W=>w.heap.size+2≤W.heap.size∧I pre W∧W.heap[w.heap.size+1]? = some (.loop (rc .ready none))∧W.heap[w.heap.size]? = some (.deferred (some [])))
   (fun pre W=>∃ c,Ix c pre W∧W.heap[w.heap.size+1]? = some (.loop (rc .done (some c)))∧W.heap[w.heap.size]? = some (.deferred (some [])))
   V (fun pre A B r hr hgr h=>⟨Nat.le_trans h.1 hgr.size,hIo pre A B r hr hgr h.2.1,keepsOwn hr hgr (by omega) h.2.2.1,keepsOwn hr hgr (Nat.le_refl _) h.2.2.2⟩)
   (fun pre A B r hr hgr ⟨c,h1,h2,h3⟩=>⟨c,hIxo c pre A B r hr hgr h1,keepsOwn hr hgr (by omega) h2,keepsOwn hr hgr (Nat.le_refl _) h3⟩)
   ?_ (toV (hIt []) hIt0) ⟨by rw [← hV];simp,toV (hI []) h0,hVL,hVD⟩).mono ?_
  ·rintro pre x W ⟨hsz,hi,hl,hd⟩ hit hG
   have hy:=run_yield (P:=P) (args:=encs x) hl (by rw [hrc];exact hps x)
   rw [hrc] at hy
   refine ⟨fn,_,assign,body,hy,roundIn_of_wpIn hfn ?_⟩
   have hr:=hround (w.heap.size+1) pre x W (by omega) (ncL hl) (by omega) hi hit hG
   refine wpIn_mono hr ?_
   clear hr hy
   rintro e a1 W1 h
   cases e with
   | normal=>
    obtain ⟨hk1,h⟩:=h
    have hl1:=hk1.same _ _ (by omega) hl rfl
    have hd1:=hk1.same _ _ (Nat.le_refl _) hd rfl
    refine ⟨_,run_beginRound hl1 (by rw [hrc]),?_⟩
    have hlt1:=(Array.getElem?_eq_some_iff.1 hl1).1
    have hl2:(W1.putObj (w.heap.size+1) (.loop { rc .ready none with state:=.busy })).heap[w.heap.size+1]? = some (.loop { rc .ready none with state:=.busy }):=World.putObj_heap_same hlt1
    have hd2:(W1.putObj (w.heap.size+1) (.loop { rc .ready none with state:=.busy })).heap[w.heap.size]? = some (.deferred (some [])):=(World.putObj_heap_other (by omega)).trans hd1
    refine wpIn_mono (h _ (grown_put hl1) (ncL hl1) (by simp [World.putObj]) ⟨_,hl2⟩) ?_
    have fin:∀ (jump:Option Code) (W3:World),KeepsFrom w.heap.size (W1.putObj (w.heap.size+1) (.loop { rc .ready none with state:=.busy })) W3 →
      ∃ W4,(Instr.endRound (w.heap.size+1) jump).run P W3=.ok (.bool jump.isNone) W4∧W3.grownBy W4 (some (w.heap.size+1))∧NC W3 (w.heap.size+1)∧w.heap.size+2≤W4.heap.size ∧
       W4.heap[w.heap.size+1]? = some (.loop (rc (if jump.isNone then .ready else .done) jump))∧W4.heap[w.heap.size]? = some (.deferred (some [])):=by
     intro jump W3 hk3
     have hl3:=hk3.same _ _ (by omega) hl2 rfl
     have hd3:=hk3.same _ _ (Nat.le_refl _) hd2 rfl
     have hlt3:=(Array.getElem?_eq_some_iff.1 hl3).1
     have hrun:=run_endRound (P:=P) jump hl3
     refine ⟨W3.putObj (w.heap.size+1) (.loop (rc (if jump.isNone then .ready else .done) jump)),?_,grown_put hl3,ncL hl3,by simp [World.putObj];omega,World.putObj_heap_same hlt3,(World.putObj_heap_other (by omega)).trans hd3⟩
     rw [hrc] at hrun ⊢
     exact hrun
    rintro e a3 W3 hp
    cases e with
    | normal=>
     obtain ⟨hk3,hit3,hi3⟩:=hp
     obtain ⟨W4,hrun,hg4,hn4,hz4,hl4,hd4⟩:=fin none W3 hk3
     exact ⟨_,_,hrun,.inl ⟨rfl,⟨hz4,hI _ _ _ _ (by omega) hn4 hg4 hi3,hl4,hd4⟩,hIt pre _ _ _ (by omega) hn4 hg4 hit3⟩⟩
    | ret=>
     obtain ⟨hk3,hi3⟩:=hp
     obtain ⟨W4,hrun,hg4,hn4,hz4,hl4,hd4⟩:=fin (some .ret) W3 hk3
     exact ⟨_,_,hrun,.inr ⟨rfl,.ret,hIx _ _ _ _ _ (by omega) hn4 hg4 hi3,hl4,hd4⟩⟩
    | exit id=>
     obtain ⟨hk3,hi3⟩:=hp
     obtain ⟨W4,hrun,hg4,hn4,hz4,hl4,hd4⟩:=fin (some (.exit id)) W3 hk3
     exact ⟨_,_,hrun,.inr ⟨rfl,.exit id,hIx _ _ _ _ _ (by omega) hn4 hg4 hi3,hl4,hd4⟩⟩
    | goto t=>
     obtain ⟨hk3,hi3⟩:=hp
     obtain ⟨W4,hrun,hg4,hn4,hz4,hl4,hd4⟩:=fin (some (.goto t)) W3 hk3
     exact ⟨_,_,hrun,.inr ⟨rfl,.goto t,hIx _ _ _ _ _ (by omega) hn4 hg4 hi3,hl4,hd4⟩⟩
    | panic ch=>exact hp.elim
    | outgrown=>exact hp.elim
   | ret=>exact h.elim
   | exit id=>exact h.elim
   | goto t=>exact h.elim
   | panic ch=>exact h.elim
   | outgrown=>exact h.elim
  ·rintro e W2 ⟨⟨v,rfl⟩,(⟨xs,hS,⟨hz,hi,hl,hd⟩⟩ | ⟨pre,hSp,c,hi,hl,hd⟩)⟩
   ·have hrun:=run_endLoop (P:=P) hl (by rw [hrc];simp)
    rw [hrc] at hrun
    refine ⟨none,_,hrun,?_⟩
    exact hdone _ xs _ (Nat.le_refl _) hS (hI _ _ _ _ (by omega) (ncL hl) (grown_put hl) hi) ((World.putObj_heap_other (by omega)).trans hd)
   ·have hrun:=run_endLoop (P:=P) hl (by rw [hrc];simp)
    rw [hrc] at hrun
    refine ⟨some c,_,hrun,?_⟩
    exact hstop _ c pre _ (Nat.le_refl _) hSp (hIx _ _ _ _ _ (by omega) (ncL hl) (grown_put hl) hi) ((World.putObj_heap_other (by omega)).trans hd)
end
#print axioms wp_rangeMN
#print axioms wp_rangePR
end Go.Proofs.YtnjmndofcpnmeaaGreatDoor
namespace Go.Proofs.YtnjmndofcpnmeaaGreatDoor
open Go Go.RowKit
set_option linter.unusedVariables false
def WdI (w:World)(n:Nat)(pre:List ByteArray)(W:World):Prop:=∃ f:W32,FB W n f∧Ext w W∧∀ rest,parseW 0#32 (dtb pre++rest)=parseW f rest
def WdX (w:World)(n:Nat)(c:Code)(pre:List ByteArray)(W:World):Prop:=c=.exit 0∧∃ f:W32,FB W n f∧Ext w W∧∀ rest,parseW 0#32 (dtb pre++rest)=f
theorem WdI.stab {B0:Nat}{w:World}(h:w.heap.size≤B0)(n:Nat)(pre:List ByteArray):Stab B0 (WdI w n pre):=Stab.ex fun f=>(FB.stab _ _ _).and ((Stab.ext w h).and (Stab.pure _))
theorem WdX.stab {B0:Nat}{w:World}(h:w.heap.size≤B0)(n:Nat)(c:Code)(pre:List ByteArray):Stab B0 (WdX w n c pre):=(Stab.pure _).and (Stab.ex fun f=>(FB.stab _ _ _).and ((Stab.ext w h).and (Stab.pure _)))
structure FlB (w W0:World) (Bo n:Nat) (s:ByteArray) (bs bp bv:Nat) (pre:List ByteArray) (f:W32) (W:World):Prop where
 fb:FB W n f
 it:SbIt 44 s bs bp bv pre W
 ex:Ext w W
 kf:KeepsFrom Bo W0 W
theorem FlB.stab {B0:Nat}{w W0:World}{Bo n:Nat}(h:w.heap.size≤B0)(h0:W0.heap.size≤B0)(s:ByteArray)(bs bp bv:Nat)(pre:List ByteArray)(f:W32):Stab B0 (FlB w W0 Bo n s bs bp bv pre f):=fun W W' l hl hn hg hh=>
 ⟨FB.stab B0 _ _ W W' l hl hn hg hh.fb,SbIt.stab 44 B0 _ _ _ _ _ W W' l hl hn hg hh.it,Stab.ext w h W W' l hl hn hg hh.ex,Stab.keeps Bo W0 h0 W W' l hl hn hg hh.kf⟩
theorem FlB.ext {w W0 W W':World}{Bo n:Nat}{s:ByteArray}{bs bp bv:Nat}{pre:List ByteArray}{f:W32}(h:FlB w W0 Bo n s bs bp bv pre f W)(hx:Ext W W'):FlB w W0 Bo n s bs bp bv pre f W':=
 ⟨h.fb.ext hx,h.it.ext hx,h.ex.trans hx,h.kf.trans (hx.keeps Bo)⟩
def FlX (w W0:World)(Bo n:Nat)(s:ByteArray)(bs bp bv:Nat)(pre:List ByteArray)(x:ByteArray)(f:W32)(c:Code)(W:World):Prop:=
 (c=.exit 0∧FlB w W0 Bo n s bs bp bv pre f W∧∀ rest,parseW f (x.data.toList::rest)=f)∨(c=.exit 1∧∃ g:W32,FlB w W0 Bo n s bs bp bv pre g W∧∀ rest,parseW f (x.data.toList::rest)=parseW g rest)
theorem FlX.stab {B0:Nat}{w W0:World}{Bo n:Nat}(h:w.heap.size≤B0)(h0:W0.heap.size≤B0)(s:ByteArray)(bs bp bv:Nat)(pre:List ByteArray)(x:ByteArray)(f:W32)(c:Code):Stab B0 (FlX w W0 Bo n s bs bp bv pre x f c):=fun W W' l hl hn hg hh=>by
 rcases hh with ⟨e,hb,hp⟩ | ⟨e,g,hb,hp⟩
 ·exact .inl ⟨e,FlB.stab h h0 s bs bp bv pre f W W' l hl hn hg hb,hp⟩
 ·exact .inr ⟨e,g,FlB.stab h h0 s bs bp bv pre g W W' l hl hn hg hb,hp⟩
def PFl (l:List UInt8)(e:Ending):Prop:=
 (∃ f:W32,nmB f=true∧textF f=l∧e=.returned (.tuple #[.int .u32 (f.toNat:Int),.int .i64 0])) ∨
 ((∀ f:W32,nmB f=true→textF f≠l)∧e=.returned (.tuple #[.int .u32 0,.int .i64 6]))
theorem ownb_far {A B:World}{r:Option Nat}{b n:Nat}{o:Obj}(hr:∀ k,r=some k→k=b)(hg:A.grownBy B r)(hb:n≠b)(h:A.heap[n]? = some o):B.heap[n]? = some o:=
 (hg.block n (Array.getElem?_eq_some_iff.1 h).1 (fun e=>by have:=hr n e.symm;omega)).trans h
theorem ownb_ext {w A B:World}{r:Option Nat}{b:Nat}(hr:∀ k,r=some k→k=b)(hg:A.grownBy B r)(hb:w.heap.size≤b)(h:Ext w A):Ext w B:=h.grown hg (fun k hk=>by have:=hr k hk;omega)
theorem no_text {s:List UInt8}{f:W32}(hp:parseW 0#32 (splb 44 [] s)=f)(h:nmB f=true→textF f≠s):∀ g:W32,nmB g=true→textF g≠s:=fun g hg e=>by
 have:=text_parse hg
 rw [e,hp] at this
 subst this
 exact h hg e
attribute [local go_sem] Oper.semAt_some
set_option maxRecDepth 100000 in
set_option maxHeartbeats 4000000 in
theorem FParse_at (s:ByteArray) (hs:s.size≤3000) (w:World):
  Calls Tryz.prog 52 #[.string s] w fun e w'=>PFl s.data.toList e∧Ext w w':=by
 have HS:=Lib.hid (show s.size≤4294967280 by omega)
 clear hs
 refine calls_of_marks Tryz.func52 rfl ?_
 simp only [Tryz.ntmps52,List.size_toArray,List.length_cons,List.length_nil,Nat.reduceAdd,Nat.reduceSub,Array.replicate_succ,Array.replicate_zero,List.push_toArray,List.append_toArray,List.nil_append,List.cons_append]
 by_cases hd:s.data.toList=[45]
 ·have e1:s.toList=[45]:=by rw [ByteArray.toList_eq];exact hd
  have e2:(s.toList==[45])=true:=by rw [e1];rfl
  have HD:=Lib.hid hd
  clear hd e1
  go_wp2_with fail
  go_step3
  go_wp2_with fail
  try rw [Exit.noGoto_ret]
  exact ⟨.tuple #[.int .u32 0,.int .i64 0],by simp [results,Tryz.results52,go_sem],.inl ⟨0#32,by decide,by rw [HD.out];rfl,rfl⟩,Ext.refl _⟩
 ·have e1:¬ s.toList=[45]:=by rw [ByteArray.toList_eq];exact hd
  have e2:(s.toList==[45])=false:=by rw [beq_eq_false_iff_ne];exact e1
  have HD:=Lib.hid hd
  clear hd e1
  have h0:=heap_alloc_new w (.cells #[.int .u32 0] 39)
  have hx0:=(Ext.refl w).alloc (.cells #[.int .u32 0] 39)
  obtain ⟨w1,hw1⟩:∃ w1,w.alloc (.cells #[.int .u32 0] 39)=w1:=⟨_,rfl⟩
  have hz1:w1.heap.size=w.heap.size+1:=by rw [← hw1];simp
  rw [hw1] at h0 hx0
  have H0:=Lib.hid (show FB w1 w.heap.size 0#32 from h0);have HX0:=Lib.hid hx0;have HZ1:=Lib.hid hz1
  clear h0 hx0 hz1
  go_wp2_with fail
  go_step3
  go_wp2_with fail
  go_step3
  go_wp2_with fail
  refine (SplitSeqB_at 44 s w1).mono ?_
  rintro _ wb ⟨rfl,hit,hzb,hxb⟩
  have HIT:=Lib.hid hit;have HZB:=Lib.hid hzb;have HXB:=Lib.hid (HX0.out.trans hxb);have HFB:=Lib.hid (H0.out.ext hxb)
  clear hit hzb hxb hw1 e2
  go_wp2_with fail
  refine wpIn_wide.1 (wp_rangePR (gf:=199) (lb:=#[.pointer (some ⟨w1.heap.size+1,0,none⟩),.pointer (some ⟨w1.heap.size,0,none⟩),.pointer (some ⟨w1.heap.size+1+1,0,none⟩)]) rfl (Go.Proofs.enters_of Tryz.func199 (by kernel_rfl) rfl)
   (splitb_iter 44 s HS.out w1.heap.size (w1.heap.size+1) (w1.heap.size+1+1) (by omega) (by omega)) (fun _=>rfl) (fun k hk=>by have:=HZB.out;omega) HIT.out (fun pre=>SbIt.stab _ _ _ _ _ _ _)
   (fun pre W=>WdI w w.heap.size pre W) (fun cd pre W=>WdX w w.heap.size cd pre W) (fun pre=>WdI.stab HXB.out.size _ _) (fun cd pre=>WdX.stab HXB.out.size _ _ _)
   (fun pre X Y r hr hg ⟨f,h1,h2,h3⟩=>⟨f,ownb_far hr hg (by have:=HZ1.out;omega) h1,ownb_ext hr hg (by have:=HZ1.out;omega) h2,h3⟩)
   (fun cd pre X Y r hr hg ⟨hc,f,h1,h2,h3⟩=>⟨hc,f,ownb_far hr hg (by have:=HZ1.out;omega) h1,ownb_ext hr hg (by have:=HZ1.out;omega) h2,h3⟩)
   ⟨0#32,HFB.out,HXB.out,fun rest=>rfl⟩ ?_ ?_ ?_)
  ·intro L pre x W hL hnL hzW hIW hitW hGW
   have HXA:=Lib.hid ((Ext.refl W).alloc (.cells #[.string x] 9))
   gi_wp2_with fail
   refine ⟨HXA.out.keeps _,fun W2 hg2 hn2 hsz2 hrec=>?_⟩
   obtain ⟨f,hf,hxf,hpf⟩:=(WdI.stab (B0:=wb.heap.size) HXB.out.size w.heap.size pre) _ W2 L hL hn2 hg2 ((WdI.stab (B0:=wb.heap.size) HXB.out.size w.heap.size pre).later HXA.out hIW)
   have hit2:=(SbIt.stab 44 wb.heap.size s w1.heap.size (w1.heap.size+1) (w1.heap.size+1+1) pre) _ W2 L hL hn2 hg2 ((SbIt.stab 44 wb.heap.size s w1.heap.size (w1.heap.size+1) (w1.heap.size+1+1) pre).later HXA.out hitW)
   have hb2:=(Stab.heap (B:=wb.heap.size) W.heap.size #[.string x] 9 (0,0)) _ W2 L hL hn2 hg2 (heap_alloc_new W (.cells #[.string x] 9))
   have HF:=Lib.hid hf;have HXF:=Lib.hid hxf;have HPF:=Lib.hid hpf;have HIT2:=Lib.hid hit2;have HB2:=Lib.hid hb2;have HREC:=Lib.hid hrec
   have HZ2:=Lib.hid (show wb.heap.size≤W2.heap.size by have:=HXA.out.size;rw [hsz2];omega)
   clear hIW hitW hGW hg2 hn2 hnL hsz2 hf hxf hpf hit2 hb2 hrec
   have HA2:=Lib.hid ((Ext.refl W2).alloc (.cells #[.int .u32 4095,.int .u32 2031807] 39))
   have HR2:=Lib.hid (show RS (W2.alloc (.cells #[.int .u32 4095,.int .u32 2031807] 39)) (.slice (some ⟨W2.heap.size,0,none⟩) 2 2) (fvs [tkM,opM]) from RS.new W2 _ (fvs [tkM,opM]) (by decide))
   gi_wp2_with fail
   refine wide_callR (union2_at tkM opM _ _ _ HR2.out) ?_
   rintro _ W3' ⟨rfl,rfl⟩
   gi_wp2_with fail
   refine wide_callR (Each_at (orW tkM opM) _) ?_
   rintro _ W3 ⟨rfl,hfb3,hz3,hx3⟩
   have HX3:=Lib.hid (HA2.out.trans hx3);have HFB3:=Lib.hid (show FB W3 (W2.alloc (.cells #[.int .u32 4095,.int .u32 2031807] 39)).heap.size allW from hfb3)
   have HS3:=Lib.hid (show w.heap.size≤W3.heap.size by have:=HXF.out.size;have:=HX3.out.size;omega)
   have HS2:=Lib.hid (show W2.heap.size≤W3.heap.size from HX3.out.size)
   simp only [World.size_alloc] at hz3 HFB3
   clear hfb3 hz3 hx3
   simp only [World.size_alloc]
   gi_wp2_with fail
   refine wp_rangeMN (l0:=L) ?hrec (gf:=157) (lb:=#[.pointer (some ⟨W2.heap.size+1,0,none⟩)]) rfl (Go.Proofs.enters_of Tryz.func157 (by kernel_rfl) rfl)
    (each_iter allW (W2.heap.size+1)) (fun _=>rfl) (fun k hk=>hk.elim) HFB3.out (FB.stab _ _ _)
    (fun pre' V=>FlB w W2 wb.heap.size w.heap.size s w1.heap.size (w1.heap.size+1) (w1.heap.size+1+1) pre f V∧V.heap[W.heap.size]? = some (.cells #[.string x] 9 (0,0))∧∀ j∈pre',(nmS j).data.toList≠x.data.toList)
    (fun cd pre' V=>FlX w W2 wb.heap.size w.heap.size s w1.heap.size (w1.heap.size+1) (w1.heap.size+1+1) pre x f cd V)
    (fun pre'=>(FlB.stab HS3.out HS2.out _ _ _ _ _ _).and ((Stab.heap _ _ _ _).and (Stab.pure _))) (fun cd pre'=>FlX.stab HS3.out HS2.out _ _ _ _ _ _ _ _)
    (fun pre' X Y r hr hg h=>?hio) (fun cd pre' X Y r hr hg h=>?hixo) ⟨⟨HF.out.ext HX3.out,HIT2.out.ext HX3.out,HXF.out.trans HX3.out,HX3.out.keeps _⟩,HX3.out.heap HB2.out,fun j hj=>by cases hj⟩ ?hround ?hdone ?hstop
   case hrec=>obtain ⟨r,hr⟩:=HREC.out;exact ⟨r,HX3.out.heap hr⟩
   case hio=>
    have hn:r=none:=by cases r with | none=>rfl | some k=>exact (hr k rfl).elim
    subst hn
    have hx:=grown_of_ext hg
    exact ⟨h.1.ext hx,hx.heap h.2.1,h.2.2⟩
   case hixo=>
    have hn:r=none:=by cases r with | none=>rfl | some k=>exact (hr k rfl).elim
    subst hn
    have hx:=grown_of_ext hg
    rcases h with ⟨e,hb,hp⟩ | ⟨e,g,hb,hp⟩
    ·exact .inl ⟨e,hb.ext hx,hp⟩
    ·exact .inr ⟨e,g,hb.ext hx,hp⟩
   case hround=>
    intro L2 pre2 k2 V3 hL2 hnL2 hzV3 hIV hitV hGV
    simp only [eachEnc]
    gi_wp2_with fail
    refine ⟨KeepsFrom.refl _ _,fun V4 hg4 hn4 hsz4=>?_⟩
    have hI4:=(FlB.stab (B0:=W3.heap.size) HS3.out HS2.out s _ _ _ pre f) V3 V4 L2 hL2 hn4 hg4 hIV.1
    have hb4:=(Stab.heap (B:=W3.heap.size) W.heap.size #[.string x] 9 (0,0)) V3 V4 L2 hL2 hn4 hg4 hIV.2.1
    have hit4:=(FB.stab W3.heap.size _ allW) V3 V4 L2 hL2 hn4 hg4 hitV
    have hne2:=hIV.2.2
    obtain ⟨g1,g2,rfl⟩:=hGV
    have k0:=(row1 hI4.fb).1;have k1:=(row1 hb4).1;have f0:=(row1 hI4.fb).2
    have HI4:=Lib.hid hI4;have HB4:=Lib.hid hb4;have HIT4:=Lib.hid hit4;have HG1:=Lib.hid g1;have HNE:=Lib.hid hne2
    clear hIV hitV hg4 hn4 hnL2 hsz4 hI4 hb4 hit4 g1 hne2
    by_cases he:(nmS k2).data.toList=x.data.toList
    ·have e4:((nmS k2).toList==x.toList)=true:=by rw [ByteArray.toList_eq,ByteArray.toList_eq,he];exact beq_self_eq_true _
     have HF:=Lib.hid (find_at g2 HG1.out (fun j hj=>HNE.out j hj) he)
     clear he
     by_cases hle:(bitW k2).toNat≤f.toNat
     ·have hle2:((bitW k2).toNat:Int)≤(f.toNat:Int):=by omega
      have HP:=Lib.hid (fun rest=>parse_stop rest HF.out hle)
      clear hle
      gi_wp2_with fail
      exact ⟨KeepsFrom.refl _ _,.inl ⟨rfl,HI4.out,HP.out⟩⟩
     ·have hle2:(f.toNat:Int)<((bitW k2).toNat:Int):=by omega
      have HP:=Lib.hid (fun rest=>parse_go rest HF.out hle)
      clear hle
      have HA:=Lib.hid ((Ext.refl V4).alloc (.cells #[.int .u32 (f.toNat:Int),.int .u32 ((bitW k2).toNat:Int)] 39))
      have HR:=Lib.hid (show RS (V4.alloc (.cells #[.int .u32 (f.toNat:Int),.int .u32 ((bitW k2).toNat:Int)] 39)) (.slice (some ⟨V4.heap.size,0,none⟩) 2 2) (fvs [f,bitW k2]) from RS.new V4 _ (fvs [f,bitW k2]) (by simp [fvs,maxLen]))
      have HI5:=Lib.hid (HI4.out.ext HA.out)
      have k5:=(row1 HI5.out.fb).1;have f5:=(row1 HI5.out.fb).2
      gi_wp2_with fail
      refine wide_callR (union2_at f (bitW k2) _ _ _ HR.out) ?_
      rintro _ V5 ⟨rfl,rfl⟩
      gi_wp2_with fail
      refine ⟨HA.out.keepsOthers.from _ |>.trans ((KeepsOthers.setCell _ ⟨w.heap.size,0,none⟩ _).from _),.inr ⟨rfl,orW f (bitW k2),⟨row1_set _ HI5.out.fb,?_,?_,?_⟩,HP.out⟩⟩
      ·exact ⟨heap_far (grown_set1 _ _ _) HI5.out.it.1 (by have:=HZ1.out;omega),heap_far (grown_set1 _ _ _) HI5.out.it.2.1 (by have:=HZ1.out;omega),heap_far (grown_set1 _ _ _) HI5.out.it.2.2 (by have:=HZ1.out;omega)⟩
      ·exact HI5.out.ex.setCell (p:=⟨w.heap.size,0,none⟩) (Nat.le_refl _) _
      ·exact HI5.out.kf.trans ((KeepsOthers.setCell _ ⟨w.heap.size,0,none⟩ _).from _)
    ·have e4:((nmS k2).toList==x.toList)=false:=by rw [ByteArray.toList_eq,ByteArray.toList_eq,beq_eq_false_iff_ne];exact he
     have HE:=Lib.hid he
     clear he
     gi_wp2_with fail
     refine ⟨KeepsFrom.refl _ _,HIT4.out,HI4.out,HB4.out,fun j hj=>?_⟩
     rw [List.mem_append,List.mem_singleton] at hj
     rcases hj with hj | rfl
     ·exact fun e=>HNE.out j hj (by rw [e])
     ·exact fun e=>HE.out (by rw [e])
   case hdone=>
    rintro xs V3 rfl ⟨h1,h2,h3⟩ hit3
    have HP:=Lib.hid (fun rest=>parse_none (f:=f) rest h3)
    clear h2 h3 hit3
    gi_wp2_with fail
    exact ⟨h1.kf,rfl,f,h1.fb,h1.ex,fun rest=>by rw [show dtb (pre++[x])=dtb pre++[x.data.toList] by simp [dtb],List.append_assoc,HPF.out];exact HP.out rest⟩
   case hstop=>
    rintro cd pre' V3 hsp hx
    rcases hx with ⟨rfl,hb,hp⟩ | ⟨rfl,g,hb,hp⟩
    ·gi_wp2_with fail
     exact ⟨hb.kf,rfl,f,hb.fb,hb.ex,fun rest=>by rw [show dtb (pre++[x])=dtb pre++[x.data.toList] by simp [dtb],List.append_assoc,HPF.out];exact hp rest⟩
    ·gi_wp2_with fail
     exact ⟨hb.kf,hb.it,g,hb.fb,hb.ex,fun rest=>by rw [show dtb (pre++[x])=dtb pre++[x.data.toList] by simp [dtb],List.append_assoc,HPF.out];exact hp rest⟩
  ·rintro D xs W hDw hSx ⟨f,hfW,hxW,hp⟩ hD
   have hpW:parseW 0#32 (splb 44 [] s.data.toList)=f:=by have:=hp [];rw [List.append_nil,hSx] at this;exact this
   clear hp hSx
   have HX2:=Lib.hid hxW;have HD:=Lib.hid hD;have HFW:=Lib.hid hfW;have HPW:=Lib.hid hpW
   have k0:=(row1 hfW).1
   clear hxW hD hfW hpW
   cases hv:nmB f with
   | false=>
    have HT:=Lib.hid (Text_no f hv W)
    have HV:=Lib.hid hv
    clear hv
    go_wp2_with fail
    refine HT.out.mono ?_
    rintro _ w5 ⟨rfl,hx5⟩
    have HX5:=Lib.hid (HX2.out.trans hx5);have HD5:=Lib.hid (hx5.heap HD.out)
    clear hx5 k0
    have hxp:Ext w (w5.putObj D (.deferred none)):=Ext.of_grown HX5.out (grown_put HD5.out) (by have:=HXB.out.size;omega)
    have HXP:=Lib.hid hxp
    clear hxp
    go_wp2_with fail
    refine ⟨by simp,.inl ⟨_,_,rfl,run_takeDeferred HD5.out,?_⟩⟩
    try rw [Exit.noGoto_ret]
    exact ⟨.tuple #[.int .u32 0,.int .i64 6],by simp [results,Tryz.results52,go_sem],.inr ⟨no_text HPW.out (fun h=>by rw [HV.out] at h;cases h),rfl⟩,HXP.out⟩
   | true=>
    have hT:=Text_ok f hv W
    obtain ⟨T,hTe⟩:∃ T,textF f=T:=⟨_,rfl⟩
    rw [hTe] at hT
    have HT:=Lib.hid hT;have HTE:=Lib.hid hTe;have HV:=Lib.hid hv
    clear hv hT hTe
    by_cases he:T=s.data.toList
    ·have e3:(T==s.toList)=true:=by rw [ByteArray.toList_eq,he];exact beq_self_eq_true _
     have HE:=Lib.hid he
     clear he
     go_wp2_with fail
     refine HT.out.mono ?_
     rintro _ w5 ⟨rfl,hx5⟩
     have HX5:=Lib.hid (HX2.out.trans hx5);have HD5:=Lib.hid (hx5.heap HD.out)
     have k5:=(row1 (HFW.out.ext hx5)).1
     clear hx5 k0
     have hxp:Ext w (w5.putObj D (.deferred none)):=Ext.of_grown HX5.out (grown_put HD5.out) (by have:=HXB.out.size;omega)
     have HXP:=Lib.hid hxp
     clear hxp
     go_wp2_with fail
     refine ⟨by simp,.inl ⟨_,_,rfl,run_takeDeferred HD5.out,?_⟩⟩
     try rw [Exit.noGoto_ret]
     exact ⟨.tuple #[.int .u32 (f.toNat:Int),.int .i64 0],by simp [results,Tryz.results52,go_sem],.inl ⟨f,HV.out,HTE.out.trans HE.out,rfl⟩,HXP.out⟩
    ·have e3:(T==s.toList)=false:=by rw [ByteArray.toList_eq,beq_eq_false_iff_ne];exact he
     have HE:=Lib.hid he
     clear he
     go_wp2_with fail
     refine HT.out.mono ?_
     rintro _ w5 ⟨rfl,hx5⟩
     have HX5:=Lib.hid (HX2.out.trans hx5);have HD5:=Lib.hid (hx5.heap HD.out)
     clear hx5 k0
     have hxp:Ext w (w5.putObj D (.deferred none)):=Ext.of_grown HX5.out (grown_put HD5.out) (by have:=HXB.out.size;omega)
     have HXP:=Lib.hid hxp
     clear hxp
     go_wp2_with fail
     refine ⟨by simp,.inl ⟨_,_,rfl,run_takeDeferred HD5.out,?_⟩⟩
     try rw [Exit.noGoto_ret]
     exact ⟨.tuple #[.int .u32 0,.int .i64 6],by simp [results,Tryz.results52,go_sem],.inr ⟨no_text HPW.out (fun _ h=>HE.out (HTE.out.symm.trans h)),rfl⟩,HXP.out⟩
  ·rintro D cd pre W hDw ⟨rest,hrest⟩ ⟨rfl,f,hfW,hxW,hp⟩ hD
   have hpW:parseW 0#32 (splb 44 [] s.data.toList)=f:=by rw [hrest];exact hp rest
   clear hp hrest
   refine wpIn_wide.2 ?_
   have HX2:=Lib.hid hxW;have HD:=Lib.hid hD;have HFW:=Lib.hid hfW;have HPW:=Lib.hid hpW
   have k0:=(row1 hfW).1
   clear hxW hD hfW hpW
   cases hv:nmB f with
   | false=>
    have HT:=Lib.hid (Text_no f hv W)
    have HV:=Lib.hid hv
    clear hv
    go_wp2_with fail
    refine HT.out.mono ?_
    rintro _ w5 ⟨rfl,hx5⟩
    have HX5:=Lib.hid (HX2.out.trans hx5);have HD5:=Lib.hid (hx5.heap HD.out)
    clear hx5 k0
    have hxp:Ext w (w5.putObj D (.deferred none)):=Ext.of_grown HX5.out (grown_put HD5.out) (by have:=HXB.out.size;omega)
    have HXP:=Lib.hid hxp
    clear hxp
    go_wp2_with fail
    refine ⟨by simp,.inl ⟨_,_,rfl,run_takeDeferred HD5.out,?_⟩⟩
    try rw [Exit.noGoto_ret]
    exact ⟨.tuple #[.int .u32 0,.int .i64 6],by simp [results,Tryz.results52,go_sem],.inr ⟨no_text HPW.out (fun h=>by rw [HV.out] at h;cases h),rfl⟩,HXP.out⟩
   | true=>
    have hT:=Text_ok f hv W
    obtain ⟨T,hTe⟩:∃ T,textF f=T:=⟨_,rfl⟩
    rw [hTe] at hT
    have HT:=Lib.hid hT;have HTE:=Lib.hid hTe;have HV:=Lib.hid hv
    clear hv hT hTe
    by_cases he:T=s.data.toList
    ·have e3:(T==s.toList)=true:=by rw [ByteArray.toList_eq,he];exact beq_self_eq_true _
     have HE:=Lib.hid he
     clear he
     go_wp2_with fail
     refine HT.out.mono ?_
     rintro _ w5 ⟨rfl,hx5⟩
     have HX5:=Lib.hid (HX2.out.trans hx5);have HD5:=Lib.hid (hx5.heap HD.out)
     have k5:=(row1 (HFW.out.ext hx5)).1
     clear hx5 k0
     have hxp:Ext w (w5.putObj D (.deferred none)):=Ext.of_grown HX5.out (grown_put HD5.out) (by have:=HXB.out.size;omega)
     have HXP:=Lib.hid hxp
     clear hxp
     go_wp2_with fail
     refine ⟨by simp,.inl ⟨_,_,rfl,run_takeDeferred HD5.out,?_⟩⟩
     try rw [Exit.noGoto_ret]
     exact ⟨.tuple #[.int .u32 (f.toNat:Int),.int .i64 0],by simp [results,Tryz.results52,go_sem],.inl ⟨f,HV.out,HTE.out.trans HE.out,rfl⟩,HXP.out⟩
    ·have e3:(T==s.toList)=false:=by rw [ByteArray.toList_eq,beq_eq_false_iff_ne];exact he
     have HE:=Lib.hid he
     clear he
     go_wp2_with fail
     refine HT.out.mono ?_
     rintro _ w5 ⟨rfl,hx5⟩
     have HX5:=Lib.hid (HX2.out.trans hx5);have HD5:=Lib.hid (hx5.heap HD.out)
     clear hx5 k0
     have hxp:Ext w (w5.putObj D (.deferred none)):=Ext.of_grown HX5.out (grown_put HD5.out) (by have:=HXB.out.size;omega)
     have HXP:=Lib.hid hxp
     clear hxp
     go_wp2_with fail
     refine ⟨by simp,.inl ⟨_,_,rfl,run_takeDeferred HD5.out,?_⟩⟩
     try rw [Exit.noGoto_ret]
     exact ⟨.tuple #[.int .u32 0,.int .i64 6],by simp [results,Tryz.results52,go_sem],.inr ⟨no_text HPW.out (fun _ h=>HE.out (HTE.out.symm.trans h)),rfl⟩,HXP.out⟩
end Go.Proofs.YtnjmndofcpnmeaaGreatDoor
