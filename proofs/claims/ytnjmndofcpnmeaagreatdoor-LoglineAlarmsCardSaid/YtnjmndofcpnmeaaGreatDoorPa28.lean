/- Pa28. -/
import Derived.Test.YtnjmndofcpnmeaaGreatDoorPa27
import Derived.Test.YtnjmndofcpnmeaaGreatDoorPa22
import Derived.Test.YtnjmndofcpnmeaaGreatDoorPa20
import Derived.BigQuiet
import Derived.Test.YtnjmndofcpnmeaaGreatDoorPa21
import Derived.Shelf.SlSortCmp.WholeK
import Derived.Shelf.SlSortCmp.NoneTotal
import Derived.Test.YtnjmndofcpnmeaaGreatDoorShelf
namespace Go.Proofs.YtnjmndofcpnmeaaGreatDoor
open Go Go.RowKit
set_option linter.unusedVariables false
def iv (g:List Nat):List Value:=g.map fun (x:Nat)=>Value.int .i64 (x:Int)
theorem iv_length (g:List Nat):(iv g).length=g.length:=by simp [iv]
theorem iv_get (g:List Nat)(j:Nat)(h:j<g.length):(iv g)[j]? = some (.int .i64 (g[j]:Int)):=by
 unfold iv;rw [List.getElem?_map,List.getElem?_eq_getElem h];rfl
def OwI (w:World)(B:Nat)(v:Value)(g:List Nat):Prop:=w.ownsRow B 3 1 v g.length (iv g)
theorem OwI.nil (w:World)(B:Nat):OwI w B (.slice none 0 0) []:=World.ownsRow_nil _ _ _ _
theorem OwI.ext {w w':World}{B:Nat}{v:Value}{l:List Nat}(h:OwI w B v l)(he:Ext w w'):OwI w' B v l:=by
 refine ⟨h.1,?_⟩
 rcases h.2 with hn | ⟨g,cap,cur,hv,hb,hg,r⟩
 ·exact .inl hn
 ·exact .inr ⟨g,cap,cur,hv,hb,he.heap hg,r⟩
theorem OwI.lt {w:World}{B:Nat}{v:Value}{l:List Nat}(h:OwI w B v l):∀ k,v.ownBlock=some k→B≤k:=fun k hk=>(World.ownsRow.lt h k hk).1
theorem OwI.rs {w:World}{B:Nat}{v:Value}{l:List Nat}(h:OwI w B v l):RS w v (iv l):=RS.of_own h
theorem OwI.shape {w:World}{B:Nat}{v:Value}{l:List Nat}(h:OwI w B v l):∃ A c,v=.slice A l.length c∧l.length≤c∧c≤maxLen:=by
 obtain ⟨A,c,hv,h1,h2,_⟩:=h.rs
 rw [iv_length] at hv h1
 exact ⟨A,c,hv,h1,h2⟩
theorem OwI.off {w w':World}{B:Nat}{v:Value}{b:List Nat}{row:Option Nat}(h:OwI w B v b)(hg:w.grownBy w' row)(hne:∀ g k,row=some g→v.ownBlock=some k→g≠k):OwI w' B v b:=by
 refine ⟨h.1,?_⟩
 rcases h.2 with hh | ⟨g',cap,cur,hv,hb,hh,r⟩
 ·exact .inl hh
 ·refine .inr ⟨g',cap,cur,hv,hb,(hg.block g' (Array.getElem?_eq_some_iff.1 hh).1 (by intro e;exact hne g' g' e.symm (by subst hv;rfl) rfl)).trans hh,r⟩
section
variable {P:Program}
end
end Go.Proofs.YtnjmndofcpnmeaaGreatDoor
namespace Go.Proofs.YtnjmndofcpnmeaaGreatDoor
open Go Go.RowKit Go.Maps
set_option linter.unusedVariables false
def alm0 (n b t i:Int):Value:=.agg #[.slice none 0 0,.string ⟨#[]⟩,.int .i64 0,.slice none 0 0,.int .i64 n,.int .i64 b,.int .i64 t,.int .i64 i]
def ABx (w:World)(g:Nat):Prop:=w.heap[g]? = some (.cells #[.slice none 0 0,.string ⟨#[]⟩,.int .i64 0,.slice none 0 0,.int .i64 0,.int .i64 0,.int .i64 0,.int .i64 0] 120 (0,0))
theorem ABx.ext {w w':World}{g:Nat}(h:ABx w g)(hx:Ext w w'):ABx w' g:=hx.heap h
theorem ABx.cells {w:World}{g:Nat}(h:ABx w g):(w.cell? ⟨g,0,none⟩=some (.slice none 0 0)∧w.cell? ⟨g,1,none⟩=some (.string ⟨#[]⟩)∧w.cell? ⟨g,2,none⟩=some (.int .i64 0)∧w.cell? ⟨g,3,none⟩=some (.slice none 0 0)∧w.cell? ⟨g,4,none⟩=some (.int .i64 0)∧w.cell? ⟨g,5,none⟩=some (.int .i64 0)∧w.cell? ⟨g,6,none⟩=some (.int .i64 0)∧w.cell? ⟨g,7,none⟩=some (.int .i64 0))∧w.frozen? ⟨g,0,none⟩=false∧w.frozen? ⟨g,1,none⟩=false∧w.frozen? ⟨g,2,none⟩=false∧w.frozen? ⟨g,3,none⟩=false∧w.frozen? ⟨g,4,none⟩=false∧w.frozen? ⟨g,5,none⟩=false∧w.frozen? ⟨g,6,none⟩=false∧w.frozen? ⟨g,7,none⟩=false:=by
 unfold ABx at h
 refine ⟨⟨?_,?_,?_,?_,?_,?_,?_,?_⟩,?_,?_,?_,?_,?_,?_,?_,?_⟩
 all_goals first
  | exact frozen_of_row w g _ _ _ h
  | (rw [cell_of_row _ _ _ _ _ (0,0) h];rfl)
theorem a_put {w0 W:World} {n:Nat} (hx:Ext w0 W) (hn:w0.heap.size≤n) (h:ABx W n) (cn bt tt ix:Int):
  ∃ WF,((((((((W.setCell ⟨n,0,none⟩ (.slice none 0 0)).setCell ⟨n,1,none⟩ (.string ⟨#[]⟩)).setCell ⟨n,2,none⟩ (.int .i64 0)).setCell ⟨n,3,none⟩ (.slice none 0 0)).setCell ⟨n,4,none⟩ (.int .i64 cn)).setCell ⟨n,5,none⟩ (.int .i64 bt)).setCell ⟨n,6,none⟩ (.int .i64 tt)).setCell ⟨n,7,none⟩ (.int .i64 ix))=WF∧Ext w0 WF∧WF.cell? ⟨n,0,none⟩=some (.slice none 0 0)∧WF.cell? ⟨n,1,none⟩=some (.string ⟨#[]⟩)∧WF.cell? ⟨n,2,none⟩=some (.int .i64 0)∧WF.cell? ⟨n,3,none⟩=some (.slice none 0 0)∧WF.cell? ⟨n,4,none⟩=some (.int .i64 cn)∧WF.cell? ⟨n,5,none⟩=some (.int .i64 bt)∧WF.cell? ⟨n,6,none⟩=some (.int .i64 tt)∧WF.cell? ⟨n,7,none⟩=some (.int .i64 ix):=by
 have h0:RW W n 120 #[.slice none 0 0,.string ⟨#[]⟩,.int .i64 0,.slice none 0 0,.int .i64 0,.int .i64 0,.int .i64 0,.int .i64 0]:=h
 have x0:=hx
 have h1:RW (W.setCell ⟨n,0,none⟩ (.slice none 0 0)) n 120 #[.slice none 0 0,.string ⟨#[]⟩,.int .i64 0,.slice none 0 0,.int .i64 0,.int .i64 0,.int .i64 0,.int .i64 0]:=h0.set 0 _
 have x1:=x0.setCell (p:=⟨n,0,none⟩) hn (.slice none 0 0)
 clear h0 x0
 have h2:RW ((W.setCell ⟨n,0,none⟩ (.slice none 0 0)).setCell ⟨n,1,none⟩ (.string ⟨#[]⟩)) n 120 #[.slice none 0 0,.string ⟨#[]⟩,.int .i64 0,.slice none 0 0,.int .i64 0,.int .i64 0,.int .i64 0,.int .i64 0]:=h1.set 1 _
 have x2:=x1.setCell (p:=⟨n,1,none⟩) hn (.string ⟨#[]⟩)
 clear h1 x1
 have h3:RW (((W.setCell ⟨n,0,none⟩ (.slice none 0 0)).setCell ⟨n,1,none⟩ (.string ⟨#[]⟩)).setCell ⟨n,2,none⟩ (.int .i64 0)) n 120 #[.slice none 0 0,.string ⟨#[]⟩,.int .i64 0,.slice none 0 0,.int .i64 0,.int .i64 0,.int .i64 0,.int .i64 0]:=h2.set 2 _
 have x3:=x2.setCell (p:=⟨n,2,none⟩) hn (.int .i64 0)
 clear h2 x2
 have h4:RW ((((W.setCell ⟨n,0,none⟩ (.slice none 0 0)).setCell ⟨n,1,none⟩ (.string ⟨#[]⟩)).setCell ⟨n,2,none⟩ (.int .i64 0)).setCell ⟨n,3,none⟩ (.slice none 0 0)) n 120 #[.slice none 0 0,.string ⟨#[]⟩,.int .i64 0,.slice none 0 0,.int .i64 0,.int .i64 0,.int .i64 0,.int .i64 0]:=h3.set 3 _
 have x4:=x3.setCell (p:=⟨n,3,none⟩) hn (.slice none 0 0)
 clear h3 x3
 have h5:RW (((((W.setCell ⟨n,0,none⟩ (.slice none 0 0)).setCell ⟨n,1,none⟩ (.string ⟨#[]⟩)).setCell ⟨n,2,none⟩ (.int .i64 0)).setCell ⟨n,3,none⟩ (.slice none 0 0)).setCell ⟨n,4,none⟩ (.int .i64 cn)) n 120 #[.slice none 0 0,.string ⟨#[]⟩,.int .i64 0,.slice none 0 0,.int .i64 cn,.int .i64 0,.int .i64 0,.int .i64 0]:=h4.set 4 _
 have x5:=x4.setCell (p:=⟨n,4,none⟩) hn (.int .i64 cn)
 clear h4 x4
 have h6:RW ((((((W.setCell ⟨n,0,none⟩ (.slice none 0 0)).setCell ⟨n,1,none⟩ (.string ⟨#[]⟩)).setCell ⟨n,2,none⟩ (.int .i64 0)).setCell ⟨n,3,none⟩ (.slice none 0 0)).setCell ⟨n,4,none⟩ (.int .i64 cn)).setCell ⟨n,5,none⟩ (.int .i64 bt)) n 120 #[.slice none 0 0,.string ⟨#[]⟩,.int .i64 0,.slice none 0 0,.int .i64 cn,.int .i64 bt,.int .i64 0,.int .i64 0]:=h5.set 5 _
 have x6:=x5.setCell (p:=⟨n,5,none⟩) hn (.int .i64 bt)
 clear h5 x5
 have h7:RW (((((((W.setCell ⟨n,0,none⟩ (.slice none 0 0)).setCell ⟨n,1,none⟩ (.string ⟨#[]⟩)).setCell ⟨n,2,none⟩ (.int .i64 0)).setCell ⟨n,3,none⟩ (.slice none 0 0)).setCell ⟨n,4,none⟩ (.int .i64 cn)).setCell ⟨n,5,none⟩ (.int .i64 bt)).setCell ⟨n,6,none⟩ (.int .i64 tt)) n 120 #[.slice none 0 0,.string ⟨#[]⟩,.int .i64 0,.slice none 0 0,.int .i64 cn,.int .i64 bt,.int .i64 tt,.int .i64 0]:=h6.set 6 _
 have x7:=x6.setCell (p:=⟨n,6,none⟩) hn (.int .i64 tt)
 clear h6 x6
 have h8:RW ((((((((W.setCell ⟨n,0,none⟩ (.slice none 0 0)).setCell ⟨n,1,none⟩ (.string ⟨#[]⟩)).setCell ⟨n,2,none⟩ (.int .i64 0)).setCell ⟨n,3,none⟩ (.slice none 0 0)).setCell ⟨n,4,none⟩ (.int .i64 cn)).setCell ⟨n,5,none⟩ (.int .i64 bt)).setCell ⟨n,6,none⟩ (.int .i64 tt)).setCell ⟨n,7,none⟩ (.int .i64 ix)) n 120 #[.slice none 0 0,.string ⟨#[]⟩,.int .i64 0,.slice none 0 0,.int .i64 cn,.int .i64 bt,.int .i64 tt,.int .i64 ix]:=h7.set 7 _
 have x8:=x7.setCell (p:=⟨n,7,none⟩) hn (.int .i64 ix)
 clear h7 x7
 refine ⟨_,rfl,x8,?_,?_,?_,?_,?_,?_,?_,?_⟩<;>(rw [cell_of_row _ _ _ _ _ (0,0) h8];rfl)
def cJ (ad:Bool)(js:List Nat)(K:Nat→List UInt8):Nat:=if ad then difK js K else js.length
theorem cJ_le (ad:Bool)(js:List Nat)(K:Nat→List UInt8):cJ ad js K≤js.length:=by
 unfold cJ
 split
 ·exact difK_le js K
 ·exact Nat.le_refl _
theorem cJ_win {l:List Fct}{w:Int}{ad:Bool}{i:Nat}{js:List Nat}(h:winF l w ad i=js):cntF l w ad i=cJ ad js (fun j=>keyF false (atF l j)):=by
 unfold cJ
 cases ad with
 | true=>exact cnt_dif h.symm
 | false=>rw [cnt_win,h];rfl
def FRES (l:List Fct)(win lim:Int)(ad:Bool)(g:List Nat)(e:Ending):Prop:=
 (∃ i,g.find? (hitF l win lim ad)=some i∧e=.returned (.tuple #[alm0 (cntF l win ad i:Int) (begF l win ad i) (atF l i).t (i:Int),.bool true])) ∨
 (g.find? (hitF l win lim ad)=none∧e=.returned (.tuple #[alm0 0 0 0 0,.bool false]))
theorem tal_start (w:World)(K:Nat→List UInt8):∃ W,(((w.alloc (.cells #[.slice none 0 0,.string ⟨#[]⟩,.int .i64 0,.slice none 0 0,.int .i64 0,.int .i64 0,.int .i64 0,.int .i64 0] 120)).alloc (.map #[] 0)).alloc (.cells #[.int .i64 0,.map (some (w.heap.size+1))] 174))=W∧∃ W1,W1.heap.size=w.heap.size+1∧Ext w W1∧ABx W1 w.heap.size∧TAL W W1.heap.size (w.heap.size+1+1) (w.heap.size+1) (.map []) [] K∧Ext W1 W:=by
 have x1:=(Ext.refl w).alloc (.cells #[.slice none 0 0,.string ⟨#[]⟩,.int .i64 0,.slice none 0 0,.int .i64 0,.int .i64 0,.int .i64 0,.int .i64 0] 120)
 have b1:ABx (w.alloc (.cells #[.slice none 0 0,.string ⟨#[]⟩,.int .i64 0,.slice none 0 0,.int .i64 0,.int .i64 0,.int .i64 0,.int .i64 0] 120)) w.heap.size:=heap_alloc_new w _
 obtain ⟨W1,e1⟩:∃ W,w.alloc (.cells #[.slice none 0 0,.string ⟨#[]⟩,.int .i64 0,.slice none 0 0,.int .i64 0,.int .i64 0,.int .i64 0,.int .i64 0] 120)=W:=⟨_,rfl⟩
 have s1:W1.heap.size=w.heap.size+1:=by rw [← e1,World.size_alloc]
 rw [e1] at x1 b1 ⊢
 have m1:(W1.alloc (.map #[] 0)).ownsMap Tryz.prog 9 (plainElem Tryz.prog 3) W1.heap.size 0 (.map []:DataW Unit):=World.ownsMap_made _ _ _ _
 have x2:=(Ext.refl W1).alloc (.map #[] 0)
 obtain ⟨W2,e2⟩:∃ W,W1.alloc (.map #[] 0)=W:=⟨_,rfl⟩
 have s2:W2.heap.size=w.heap.size+1+1:=by rw [← e2,World.size_alloc,s1]
 rw [e2] at m1 x2 ⊢
 rw [s1] at m1
 have x3:=(Ext.refl W2).alloc (.cells #[.int .i64 0,.map (some (w.heap.size+1))] 174)
 have b3:TBox (W2.alloc (.cells #[.int .i64 0,.map (some (w.heap.size+1))] 174)) W2.heap.size 0 (w.heap.size+1):=heap_alloc_new W2 _
 rw [s2] at b3
 exact ⟨_,rfl,W1,s1,x1,b1,⟨b3,(TMap.of m1).ext x3,TD.start K,by omega,by omega,by omega⟩,x2.trans x3⟩
theorem iv_at {w:World}{A:Option Addr}{c:Nat}{g:List Nat}(h:RS w (.slice A g.length c) (iv g)){k i:Nat}(hk:g[k]? = some i):∃ ad,A=some ad∧w.cell? (ad.add k)=some (.int .i64 (i:Int)):=by
 have hl:=(List.getElem?_eq_some_iff.1 hk).1
 obtain ⟨A',c',he,h1,h2,h3⟩:=h
 rw [iv_length] at he h1 h3
 injection he with e2 _ e3
 subst e2
 obtain ⟨ad,rfl,_,hc⟩:=h3 (by omega)
 refine ⟨ad,rfl,hc k _ ?_⟩
 rw [iv_get g k hl]
 rw [List.getElem?_eq_getElem hl] at hk
 injection hk with hk
 rw [hk]
theorem iv_cap {w:World}{A:Option Addr}{c:Nat}{g:List Nat}(h:RS w (.slice A g.length c) (iv g)):g.length≤c∧c≤maxLen:=by
 obtain ⟨A',c',he,h1,h2,_⟩:=h
 rw [iv_length] at he h1
 injection he with _ _ e3
 subst e3
 exact ⟨h1,h2⟩
set_option maxRecDepth 100000 in
set_option maxHeartbeats 8000000 in
theorem first_at (ad:Bool) (fC:Nat) (A:Option Addr) (c:Nat) (xs:List FV) (G:Option Addr) (gc:Nat) (g:List Nat) (x:Who) (win lim:Int) (w:World) (hF:FS w (.slice A xs.length c) xs) (hn:xs.length≤1000) (hz:∀ f∈xs,f.Sz) (ht:∀ f∈xs,0≤f.t∧f.t≤1099511627776) (hp:Pow w)
  (hor:ordT (xs.map FV.fct)) (hg:g=grpF (xs.map FV.fct) ad x) (hG:RS w (.slice G g.length gc) (iv g)) (hw0:0≤win) (hw1:win≤1099511627776) (hl:i64B lim)
  (hEC:∀ (args:Array Value) (W:World),(callFunc fC args).run Tryz.prog W=.ok (.enter fC args) W)
  (hC:∀ W B b m D js,TAL W B b m D js (fun j=>keyF false (atF (xs.map FV.fct) j))→Calls Tryz.prog fC #[.pointer (some ⟨b,0,none⟩)] W fun e w'=>e=.returned (.int .i64 (cJ ad js (fun j=>keyF false (atF (xs.map FV.fct) j)):Int))∧Ext W w'):
  Calls Tryz.prog 119 #[.slice A xs.length c,.slice G g.length gc,.int .i64 win,.int .i64 lim,.func (.func fC) #[] #[]] w fun e w'=>FRES (xs.map FV.fct) win lim ad g e∧Ext w w':=by
 have hmm:=@run_makeMap Tryz.prog
 obtain ⟨W0,e0,W1,hs1,hx1,hA1,hT0,hX0⟩:=tal_start w (fun j=>keyF false (atF (xs.map FV.fct) j))
 have HF:=Lib.hid (hF.ext hx1);have HZ:=Lib.hid hz;have HTI:=Lib.hid ht;have HP:=Lib.hid (hp.ext hx1);have HO:=Lib.hid hor;have HG:=Lib.hid hg;have HGR:=Lib.hid (hG.ext hx1);have HEC:=Lib.hid hEC;have HC:=Lib.hid hC
 have HT0:=Lib.hid hT0;have HA1:=Lib.hid hA1;have HX0:=Lib.hid hX0;have HL:=Lib.hid hl;have HX1:=Lib.hid hx1;have HS1:=Lib.hid hs1
 obtain ⟨_,c',he,hc1,hc2⟩:=hF.shape
 injection he with e1 _ e3
 subst e1;subst e3
 obtain ⟨hg1,hg2⟩:=iv_cap hG
 unfold maxLen at hc2 hg2
 have hgl:g.length≤1000:=by
  rw [hg]
  have h1:=List.length_filter_le (fun j=>failB (atF (xs.map FV.fct) j)&&decide (who ad (atF (xs.map FV.fct) j)=x)) (List.range (xs.map FV.fct).length)
  rw [List.length_range,List.length_map] at h1
  unfold grpF
  rw [List.length_map]
  omega
 obtain ⟨n,hn'⟩:∃ n,xs.length=n:=⟨_,rfl⟩
 obtain ⟨gl,hgl'⟩:∃ n,g.length=n:=⟨_,rfl⟩
 have HN:=Lib.hid hn';have HGL:=Lib.hid hgl'
 clear hF hz ht hp hor hg hG hEC hC hT0 hA1 hX0 hl hx1 hs1
 rw [hn'] at hc1 hn ⊢
 rw [hgl'] at hg1 hgl ⊢
 clear hn' hgl'
 generalize hK:(fun j=>keyF false (atF (xs.map FV.fct) j))=K at *
 have HKD:=Lib.hid hK
 clear hK
 go_enter Tryz.func119,Tryz.ntmps119
 go_wp2_with fail
 go_loopw [13,15,16,22] (fun v13 _ _ v22 wr=>∃ (p low:Nat) (D:DataW Unit),v22=.int .i64 (p:Int)∧p≤gl∧v13=.int .i64 (low:Int)∧low≤p∧Hid (TAL wr W1.heap.size (w.heap.size+1+1) (w.heap.size+1) D ((g.take p).drop low) K)∧Hid (LOW (xs.map FV.fct) g win low p)∧Hid (NOH (xs.map FV.fct) g win lim ad p)∧Hid (Ext W1 wr)) (fun _ _ _ v _=>gl-(intOf v).toNat)
 case atStart=>exact ⟨0,0,.map [],rfl,by omega,rfl,by omega,Lib.hid (by simpa using HT0.out),Lib.hid (LOW.zero _ _ _ _),Lib.hid (NOH.zero _ _ _ _ _),HX0⟩
 case round=>
  obtain ⟨p,low,D,rfl,hpg,rfl,hlp,HT,HLO,HNO,HX⟩:=hrel
  by_cases hlt:p<gl
  ·obtain ⟨i,hi⟩:∃ i,g[p]? = some i:=⟨_,List.getElem?_eq_getElem (by rw [HGL.out];exact hlt)⟩
   have HI:=Lib.hid hi
   obtain ⟨gad,rfl,gi⟩:=iv_at (RS.ext HGR.out HX.out) hi
   have hmem:=List.mem_of_getElem? hi
   rw [HG.out] at hmem
   have HMEM:=Lib.hid hmem
   have hix:i<xs.length:=by have:=(grp_mem.1 hmem).1;rw [List.length_map] at this;exact this
   have hin:i<n:=by rw [← HN.out];exact hix
   obtain ⟨hIn,lad,rfl,u0,u1,u2,u3,u4,u5,u6,u7,u8,u9,u10,u11⟩:=(HF.out.ext HX.out).at_ i hix
   have HIX:=Lib.hid hix
   have hadd:=add_at xs[i] W1 wr HX.out ((HF.out).at_ i hix).1 (HZ.out _ (List.getElem_mem hix)) HP.out _ _ D _ K i HT.out (by rw [List.length_drop,List.length_take];have:=HGL.out;omega) (by rw [← HKD.out];show keyF false (atF (xs.map FV.fct) i)=_;rw [atF_xs hix];rfl)
   have HADD:=Lib.hid hadd
   unfold FV.val at HADD
   have hti:=HTI.out _ (List.getElem_mem hix)
   have HATI:=Lib.hid (show (atF (xs.map FV.fct) i).t=xs[i].t by rw [atF_xs hix];rfl)
   generalize xs[i]=fi at *
   clear hadd hmem hix hi hIn
   go_wp2_with fail
   refine HADD.out.mono ?_
   rintro _ w2 ⟨rfl,⟨D2,hT2⟩,hX2⟩
   rw [← win_snoc HI.out hlp] at hT2
   have HT2:=Lib.hid hT2;have HX2:=Lib.hid hX2
   have HLO2:=Lib.hid HLO.out
   clear hT2 hX2 u0 u1 u2 u3 u4 u5 u6 u7 u8 u9 u10 u11 gi
   go_wp2_with fail
   go_loopw [13] (fun v13 wr2=>∃ (low:Nat) (D:DataW Unit),v13=.int .i64 (low:Int)∧low≤p∧Hid (TAL wr2 W1.heap.size (w.heap.size+1+1) (w.heap.size+1) D ((g.take (p+1)).drop low) K)∧Hid (LOW (xs.map FV.fct) g win low p)∧Hid (Ext W1 wr2)) (fun v _=>p+1-(intOf v).toNat)
   case atStart=>exact ⟨low,D2,rfl,hlp,HT2,HLO2,HX2⟩
   case round=>
    clear hlp HT HADD HLO HX HT2 HLO2 HX2
    obtain ⟨low,D,rfl,hlp,HT,HLO,HX⟩:=hrel
    have hlw:low<gl:=by omega
    obtain ⟨j,hj⟩:∃ j,g[low]? = some j:=⟨_,List.getElem?_eq_getElem (by rw [HGL.out];exact hlw)⟩
    have HJ:=Lib.hid hj
    obtain ⟨_,hge,gj⟩:=iv_at (RS.ext HGR.out HX.out) hj
    injection hge with hge
    subst hge
    have hmem:=List.mem_of_getElem? hj
    rw [HG.out] at hmem
    have hjx:j<xs.length:=by have:=(grp_mem.1 hmem).1;rw [List.length_map] at this;exact this
    have hjn:j<n:=by rw [← HN.out];exact hjx
    have hIJ:=((HF.out.ext HX.out).at_ j hjx).2
    obtain ⟨_,hle,z0,z1,z2,z3,z4,z5,z6,z7,z8,z9,z10,z11⟩:=hIJ
    injection hle with hle
    subst hle
    have hII:=((HF.out.ext HX.out).at_ i HIX.out).2
    obtain ⟨_,hle,i0,_⟩:=hII
    injection hle with hle
    subst hle
    rw [show xs[i].t=(atF (xs.map FV.fct) i).t by rw [atF_xs HIX.out];rfl] at i0
    have htj:=HTI.out _ (List.getElem_mem hjx)
    have HATJ:=Lib.hid (show (atF (xs.map FV.fct) j).t=xs[j].t by rw [atF_xs hjx];rfl)
    have hrem:=fun W' (hw:Ext _ W')=>remove_at xs[j] W1 W' (HX.out.trans hw) ((HF.out).at_ j hjx).1 (HZ.out _ (List.getElem_mem hjx)) HP.out _ _ D ((g.take (p+1)).drop (low+1)) K j (by rw [← win_cons HJ.out hlp];exact HT.out.ext hw) (by rw [List.length_drop,List.length_take];have:=HGL.out;omega) (by rw [← HKD.out];show keyF false (atF (xs.map FV.fct) j)=_;rw [atF_xs hjx];rfl)
    have HREM:=Lib.hid hrem
    unfold FV.val at HREM
    clear hrem
    generalize xs[j]=fj at *
    clear hmem hj hjx
    have hti2:0≤(atF (xs.map FV.fct) i).t∧(atF (xs.map FV.fct) i).t≤1099511627776:=by rw [HATI.out];exact hti
    obtain ⟨ti,hti'⟩:∃ t,(atF (xs.map FV.fct) i).t=t:=⟨_,rfl⟩
    have HTI2:=Lib.hid hti'
    rw [hti'] at i0 hti2
    obtain ⟨hti3,hti4⟩:=hti2
    obtain ⟨htj3,htj4⟩:=htj
    clear hti'
    have s1:IntKind.i64.wrap (ti-win)=ti-win:=IntWalk.i64_in _ (by omega)
    by_cases hc:fj.t<ti-win
    ·have hlne:low≠p:=by
      rintro rfl
      have h1:=HI.out
      rw [HJ.out] at h1
      injection h1 with h1
      subst h1
      rw [HTI2.out] at HATJ
      have:=HATJ.out
      omega
     have HLO2:=Lib.hid (HG.out ▸ LOW.step HO.out (HG.out ▸ HLO.out) (HG.out ▸ HJ.out) (HG.out ▸ HI.out) (by rw [HATJ.out,HTI2.out];exact hc):LOW (xs.map FV.fct) g win (low+1) p)
     go_wp2_with fail
     go_quiet (fail)
     go_wp2_with fail
     refine (HREM.out _ ((Ext.refl _).drewN _)).mono ?_
     rintro _ w3 ⟨rfl,⟨D3,hT3⟩,hX3⟩
     have HT3:=Lib.hid hT3;have HX3:=Lib.hid hX3
     clear hT3 hX3 gj i0 z0 z1 z2 z3 z4 z5 z6 z7 z8 z9 z10 z11
     go_wp2_with fail
     go_roundw
     case rel=>exact ⟨low+1,D3,by go_num,by omega,HT3,HLO2,HX3⟩
     case measure=>simp [intOf];omega
    ·have hW:winF (xs.map FV.fct) win ad i=(g.take (p+1)).drop low:=by
      have h1:=HG.out
      have h2:=winIs HO.out (x:=x) (ad:=ad) (by rw [← h1];exact HLO.out) (by rw [← h1];exact HI.out) hlp (by rw [← h1];exact HJ.out) (by rw [HATJ.out,HTI2.out];exact hc)
      rw [← h1] at h2
      exact h2
     have hCN:=cJ_win hW
     have hBG:=beg_of hW HJ.out hlp
     rw [HKD.out] at hCN
     rw [HATJ.out] at hBG
     have HHIT:=Lib.hid (hit_iff (win:=win) (lim:=lim) HMEM.out)
     have hcl:=cJ_le ad ((g.take (p+1)).drop low) K
     rw [List.length_drop,List.length_take] at hcl
     have HCC:=Lib.hid (fun W' (hw:Ext _ W')=>HC.out W' _ _ _ D _ (HT.out.ext hw))
     rw [← hCN] at HCC hcl
     have HBG:=Lib.hid hBG
     obtain ⟨cn,hcq⟩:∃ cn,cntF (xs.map FV.fct) win ad i=cn:=⟨_,rfl⟩
     rw [hcq] at HCC hcl HHIT
     have HCNT:=Lib.hid hcq
     clear hcq
     have hcn:(cn:Int)≤1000:=by have:=HGL.out;omega
     clear hcl hCN hBG hW
     go_wp2_with fail
     go_quiet (fail)
     go_wp2_with fail
     rw [HEC.out]
     refine (HCC.out _ ((Ext.refl _).drewN _)).mono ?_
     rintro _ w4 ⟨rfl,hx4⟩
     have hx5:=Ext.trans ((Ext.refl _).drewN _) hx4
     have HT4:=Lib.hid (HT.out.ext hx5)
     have HX4:=Lib.hid (HX.out.trans hx5)
     have gj4:=hx5.cell gj
     have z04:=hx5.cell z0
     have i04:=hx5.cell i0
     clear hx4 hx5 gj i0 z0 z1 z2 z3 z4 z5 z6 z7 z8 z9 z10 z11
     by_cases hh:lim≤(cn:Int)
     ·have hq:decide (lim≤(cn:Int))=true:=decide_eq_true hh
      rw [hq] at HHIT
      obtain ⟨⟨a0,a1,a2,a3,a4,a5,a6,a7⟩,f0,f1,f2,f3,f4,f5,f6,f7⟩:=(HA1.out.ext HX4.out).cells
      go_wp2_with fail
      go_region
      go_wp2_with fail
      obtain ⟨WF,ef,hxf,d0,d1,d2,d3,d4,d5,d6,d7⟩:=a_put (HX1.out.trans HX4.out) (Nat.le_refl _) (HA1.out.ext HX4.out) (cn:Int) fj.t ti (i:Int)
      rw [ef]
      have e0:WF.drew.cell? ⟨w.heap.size,0,none⟩=_:=d0
      have e1:WF.drew.cell? ⟨w.heap.size,1,none⟩=_:=d1
      have e2:WF.drew.cell? ⟨w.heap.size,2,none⟩=_:=d2
      have e3:WF.drew.cell? ⟨w.heap.size,3,none⟩=_:=d3
      have e4:WF.drew.cell? ⟨w.heap.size,4,none⟩=_:=d4
      have e5:WF.drew.cell? ⟨w.heap.size,5,none⟩=_:=d5
      have e6:WF.drew.cell? ⟨w.heap.size,6,none⟩=_:=d6
      have e7:WF.drew.cell? ⟨w.heap.size,7,none⟩=_:=d7
      refine bodyPost_ret (v:=.tuple #[alm0 (cn:Int) fj.t ti (i:Int),.bool true]) (by first | (simp [results,Tryz.results119,go_sem,alm0];first | done | rfl) | (simp [results,Tryz.results119,go_sem,e0,e1,e2,e3,e4,e5,e6,e7,alm0];first | done | rfl)) rfl ?_
      exact ⟨.inl ⟨i,HNO.out.found HI.out HHIT.out,by rw [HBG.out,HTI2.out,HCNT.out]⟩,hxf.trans (Ext.drew _)⟩
     ·have hq:decide (lim≤(cn:Int))=false:=decide_eq_false hh
      rw [hq] at HHIT
      clear gj4 z04 i04
      go_wp2_with fail
      go_roundw
      case rel=>exact ⟨p+1,low,D,by go_num,by omega,rfl,by omega,HT4,Lib.hid (HLO.out.mono (Nat.le_succ p)),Lib.hid (HNO.out.step HI.out HHIT.out),HX4⟩
      case measure=>simp [intOf];omega
  ·obtain rfl:p=gl:=by omega
   obtain ⟨⟨a0,a1,a2,a3,a4,a5,a6,a7⟩,f0,f1,f2,f3,f4,f5,f6,f7⟩:=(HA1.out.ext HX.out).cells
   go_wp2_with fail
   obtain ⟨WF,ef,hxf,d0,d1,d2,d3,d4,d5,d6,d7⟩:=a_put (HX1.out.trans HX.out) (Nat.le_refl _) (HA1.out.ext HX.out) 0 0 0 0
   rw [ef]
   refine bodyPost_ret (v:=.tuple #[alm0 0 0 0 0,.bool false]) (by simp [results,Tryz.results119,go_sem,d0,d1,d2,d3,d4,d5,d6,d7,alm0];try rfl) rfl ?_
   exact ⟨.inr ⟨NOH.none (by rw [HGL.out];exact HNO.out),rfl⟩,hxf⟩
end Go.Proofs.YtnjmndofcpnmeaaGreatDoor
namespace Go.Proofs.YtnjmndofcpnmeaaGreatDoor
open Go Go.RowKit Go.Shelf Go.Sort
set_option linter.unusedVariables false
section
variable {α:Type} (E:Ek α)
def RDS (w:World)(v:Value)(xs:List α):Prop:=
 ∃ A c,v=.slice A xs.length c∧xs.length≤c∧c≤maxLen∧∀ i (h:i<xs.length),∃ ad,A=some ad∧∀ j u,(E.cs xs[i])[j]? = some u→w.cell? (ad.add (i*E.k+j))=some u
variable {E}
theorem RDS.ext {w w':World}{v:Value}{xs:List α}(h:RDS E w v xs)(hx:Ext w w'):RDS E w' v xs:=by
 obtain ⟨A,c,h1,h2,h3,h4⟩:=h
 refine ⟨A,c,h1,h2,h3,fun i hi=>?_⟩
 obtain ⟨ad,k1,k2⟩:=h4 i hi
 exact ⟨ad,k1,fun j u hu=>hx.cell (k2 j u hu)⟩
theorem RDS.nil (w:World):RDS E w (.slice none 0 0) ([]:List α):=⟨none,0,rfl,Nat.le_refl _,Nat.zero_le _,fun i h=>absurd h (Nat.not_lt_zero i)⟩
variable [Inhabited α]
theorem getB {xs:List α}{i:Nat}(hi:i<xs.length):xs.toArray[i]! = xs[i]:=by simp [hi]
theorem ROW.holds {e:TypeId}{w:World}{B g cap:Nat}{xs:List α}(h:ROW E e w B (.slice (some ⟨g,0,none⟩) xs.length cap) xs):HoldsK E.cs E.k w g 0 xs.toArray∧g<w.heap.size∧B≤g∧xs.length≤cap∧cap≤maxLen:=by
 obtain ⟨_,h1,h2⟩:=h
 rcases h1.2 with ⟨h0,_⟩ | ⟨g',cap',cur,hv,hb,hg,hnc,hcm,hcs,_⟩
 ·cases h0
 ·injection hv with e1 _ e3
  injection e1 with e1
  injection e1 with e1
  subst e1;subst e3
  refine ⟨fun t ht=>?_,(Array.getElem?_eq_some_iff.1 hg).1,hb,hnc,hcm⟩
  rw [size_flatK,List.size_toArray] at ht
  have kp:=E.kp
  have hi:t / E.k<xs.length:=by rw [Nat.div_lt_iff_lt_mul kp];exact ht
  have hm:t % E.k<E.k:=Nat.mod_lt _ kp
  have hcl:t % E.k<(E.cs xs[t / E.k]).length:=by rw [E.len];exact hm
  rw [get_flatK _ _ _ _ (by rw [List.size_toArray];exact ht),getB hi]
  have hc:=h1.cells rfl t (E.cs xs[t / E.k])[t % E.k] (by
   have:=E.all_get xs (t / E.k) (t % E.k) hi hm
   rw [Nat.div_add_mod'] at this
   rw [this]
   exact List.getElem?_eq_getElem hcl)
  refine ⟨?_,frozen_of_row w g _ _ _ hg⟩
  have e1:(⟨g,0,none⟩:Addr).add t=⟨g,0+t,none⟩:=by unfold Addr.add;by_cases h0:t=0<;>simp [h0]
  rw [e1] at hc
  rw [hc]
  simp [hcl]
theorem sort_grown (w:World)(g n:Nat)(d:Array α)(os:Array Obj):w.grownBy (sortWorldK E.cs E.k w g 0 n d os) (some g):=by
 refine ⟨rfl,rfl,rfl,?_,fun i hi hne=>?_⟩
 ·simp [sortWorldK,putRowK,putRow,mapBlock,Sort.ahead]
 ·unfold sortWorldK
  rw [heap_grow_old _ _ (by simpa [putRowK,putRow,mapBlock,Sort.ahead] using hi)]
  have:g≠i:=fun e=>hne (by rw [e])
  simp [putRowK,putRow,mapBlock,Sort.ahead,Array.getElem?_modify,this]
theorem sort_rds {w:World}{g cap n:Nat}{xs ys:List α}{os:Array Obj}(hH:HoldsK E.cs E.k w g 0 xs.toArray)(hg:g<w.heap.size)(hl:ys.length=xs.length)(hc:xs.length≤cap)(hm:cap≤maxLen):RDS E (sortWorldK E.cs E.k w g 0 n ys.toArray os) (.slice (some ⟨g,0,none⟩) xs.length cap) ys:=by
 have h1:HoldsK E.cs E.k (sortWorldK E.cs E.k w g 0 n ys.toArray os) g 0 ys.toArray:=
  holdsK_grow _ _ _ _ _ _ _ (by simpa [putRowK,putRow,mapBlock,Sort.ahead] using hg) (holdsK_putRowK _ _ _ _ _ xs.toArray _ (holdsK_ahead _ _ _ _ _ _ _ hH) (by simp [hl]))
 refine ⟨_,_,by rw [hl],by omega,hm,fun i hi=>⟨_,rfl,fun j u hu=>?_⟩⟩
 have hj:j<E.k:=by rw [← E.len ys[i]];exact (List.getElem?_eq_some_iff.1 hu).1
 have:=(h1.cell (i:=i) (c:=j) (by simpa using hi) hj).1
 rw [getB hi] at this
 have e1:(⟨g,0,none⟩:Addr).add (i*E.k+j)=⟨g,0+i*E.k+j,none⟩:=by unfold Addr.add;by_cases h0:i*E.k+j=0<;>simp [h0];omega
 rw [e1,this]
 obtain ⟨h2,h3⟩:=List.getElem?_eq_some_iff.1 hu
 rw [← h3]
 simp [h2]
end
def almV (l:List Fct)(win:Int)(ad:Bool)(i:Nat):List Value:=[.slice none 0 0,.string ⟨#[]⟩,.int .i64 0,.slice none 0 0,.int .i64 (cntF l win ad i:Int),.int .i64 (begF l win ad i),.int .i64 (atF l i).t,.int .i64 (i:Int)]
def EA (l:List Fct) (win:Int) (ad:Bool):Ek Nat where
 k:=8
 kp:=by decide
 cs:=almV l win ad
 len:=fun _=>rfl
 one:=fun x u hu=>by simp [almV] at hu;rcases hu with rfl | rfl | rfl | rfl | rfl | rfl | rfl | rfl<;>rfl
 no8:=fun x u hu n e=>by subst e;simp [almV] at hu
 In:=fun _ _=>True
 Blk:=fun _ _=>False
 blt:=fun _ _ _ _ h=>h.elim
 keep:=fun _ _ _ _ _ _ _=>trivial
end Go.Proofs.YtnjmndofcpnmeaaGreatDoor
namespace Go.Proofs.YtnjmndofcpnmeaaGreatDoor
open Go Go.RowKit Go.Shelf Go.Sort Go.Maps
set_option linter.unusedVariables false
def COL (D:DataW Unit)(left:Lit→Bool)(n:Nat)(P:Nat→Bool)(K:Nat→List UInt8)(F:List Nat→Option Nat)(js:List Nat):Prop:=
 js.Nodup∧∀ i,i∈js ↔ ∃ s,Maps.has D (.string s)=true∧left (.string s)=false∧F (grpK n P K s)=some i
def LFT (D:DataW Unit)(left:Lit→Bool):Prop:=∀ kl,left kl=true→Maps.has D kl=true
theorem LFT.start (D:DataW Unit):LFT D (Maps.has D):=fun _ h=>h
theorem LFT.step {D:DataW Unit}{left:Lit→Bool}(h:LFT D left)(kl:Lit):LFT D (fun z=>left z && !z.sameKey kl):=fun z hz=>h z (by simp only [Bool.and_eq_true] at hz;exact hz.1)
section
variable {D:DataW Unit} {left:Lit→Bool} {n:Nat} {P:Nat→Bool} {K:Nat→List UInt8} {F:List Nat→Option Nat} {js:List Nat} {s:List UInt8}
theorem COL.start:COL D (Maps.has D) n P K F []:=⟨List.nodup_nil,fun i=>⟨fun h=>by simp at h,fun ⟨s,h1,h2,_⟩=>by rw [h1] at h2;cases h2⟩⟩
theorem left_iff {t:List UInt8}:(left (.string t) && !(Lit.string t).sameKey (.string s))=false ↔ left (.string t)=false∨t=s:=by
 by_cases h:t=s
 ·subst h
  rw [WideAt.sameKey_self (by trivial)]
  simp
 ·rw [sameKey_ne (litS_ne h)]
  simp [h]
theorem COL.pass (h:COL D left n P K F js)(e:F (grpK n P K s)=none):COL D (fun z=>left z && !z.sameKey (.string s)) n P K F js:=by
 refine ⟨h.1,fun i=>?_⟩
 rw [h.2]
 constructor
 ·rintro ⟨t,h1,h2,h3⟩
  exact ⟨t,h1,left_iff.2 (.inl h2),h3⟩
 ·rintro ⟨t,h1,h2,h3⟩
  rcases left_iff.1 h2 with h2 | rfl
  ·exact ⟨t,h1,h2,h3⟩
  ·rw [e] at h3;cases h3
theorem COL.hit {i:Nat}(h:COL D left n P K F js)(hF:∀ g i,F g=some i→i∈g)(hh:Maps.has D (.string s)=true)(hl:left (.string s)=true)(e:F (grpK n P K s)=some i):COL D (fun z=>left z && !z.sameKey (.string s)) n P K F (js++[i]):=by
 refine ⟨?_,fun j=>?_⟩
 ·rw [List.nodup_append]
  refine ⟨h.1,by simp,fun a ha b hb=>?_⟩
  rw [List.mem_singleton] at hb
  subst hb
  rintro rfl
  obtain ⟨t,h1,h2,h3⟩:=(h.2 a).1 ha
  have e1:=(grpK_mem.1 (hF _ _ h3)).2.2
  have e2:=(grpK_mem.1 (hF _ _ e)).2.2
  rw [e1] at e2
  rw [e2,hl] at h2
  cases h2
 ·rw [List.mem_append,List.mem_singleton,h.2]
  constructor
  ·rintro (⟨t,h1,h2,h3⟩ | rfl)
   ·exact ⟨t,h1,left_iff.2 (.inl h2),h3⟩
   ·exact ⟨s,hh,left_iff.2 (.inr rfl),e⟩
  ·rintro ⟨t,h1,h2,h3⟩
   rcases left_iff.1 h2 with h2 | rfl
   ·exact .inl ⟨t,h1,h2,h3⟩
   ·rw [e] at h3;injection h3 with h3;exact .inr h3.symm
theorem COL.fin (h:COL D left n P K F js)(hF:∀ g i,F g=some i→i∈g)(hD:GD D n P K)(hl:∀ kl,left kl=false)(i:Nat):i∈js ↔ ∃ s,F (grpK n P K s)=some i:=by
 rw [h.2]
 constructor
 ·rintro ⟨t,_,_,h3⟩;exact ⟨t,h3⟩
 ·rintro ⟨t,h3⟩
  exact ⟨t,(hD.has t).2 (List.ne_nil_of_mem (hF _ _ h3)),hl _,h3⟩
theorem COL.len (h:COL D left n P K F js)(hF:∀ g i,F g=some i→i∈g):js.length≤n:=by
 have:=nodup_le h.1 (b:=List.range n) fun i hi=>by
  obtain ⟨s,_,_,e⟩:=(h.2 i).1 hi
  exact List.mem_range.2 (grpK_mem.1 (hF _ _ e)).1
 rwa [List.length_range] at this
end
theorem elem_iv {w1:World} {base:Nat} {D:DataW Unit} {n:Nat} {P:Nat→Bool} {K:Nat→List UInt8} {s:List UInt8} {v:Value} {y:DataW Unit × List MemPlace} (hD:GD D n P K) (hR:rowElem w1 base 3 .i64 v=some y) (hat:∀ zd,D.atKey (.string s) zd=y.1):
  ∃ A c,v=.slice A (grpK n P K s).length c∧RS w1 (.slice A (grpK n P K s).length c) (iv (grpK n P K s)):=by
 obtain ⟨zs,ho,rfl⟩:=rowElem_inv hR
 have hz:=hD.look s ho (hat .nil)
 have hO:OwI w1 base v (grpK n P K s):=by
  have h1:=ho.1
  rw [hz,zI_len] at h1
  have e:(zI (grpK n P K s)).map (Value.int .i64)=iv (grpK n P K s):=by simp [zI,iv]
  rw [e] at h1
  exact h1
 obtain ⟨A,c,rfl,_⟩:=hO.shape
 exact ⟨A,c,rfl,hO.rs⟩
def mkS:Option Addr × Nat × Nat→Value:=fun c=>.slice c.1 c.2.1 c.2.2
theorem elem_shape {w1:World}{base:Nat}(v:Value)(y:DataW Unit × List MemPlace)(h:rowElem w1 base 3 .i64 v=some y):∃ c,v=mkS c:=by
 obtain ⟨zs,ho,rfl⟩:=rowElem_inv h
 rcases ho.1.2 with ⟨rfl,_⟩ | ⟨g,cap,cur,rfl,_⟩
 ·exact ⟨(none,0,0),rfl⟩
 ·exact ⟨(_,_,_),rfl⟩
theorem key_shape (key:Value)(kl:Lit)(h:keyOf Tryz.prog 9 key=some kl):∃ x:ByteArray,key=.string x:=by
 have hk:=Tryz.underlying9
 cases key<;>simp [keyOf,hk,mapKey] at h
 exact ⟨_,rfl⟩
theorem key_lit (x:ByteArray)(kl:Lit)(h:keyOf Tryz.prog 9 (.string x)=some kl):kl=.string x.data.toList:=by
 have hk:=Tryz.underlying9
 simp [keyOf,hk,mapKey] at h
 exact h.2.symm
theorem GM.owns {w:World}{b n:Nat}{D:DataW Unit}(h:GM w b n D):w.ownsMap Tryz.prog 9 (rowElem w (b+1) 3 .i64) b n D:=by
 obtain ⟨es,clock,h1,h2,h3,h4,_⟩:=h
 exact ⟨es,clock,h1,h2,h3,h4⟩
theorem ranges_nc {P:Program}{k:TypeId}{R:Value→Option (DataW Unit × List MemPlace)}{w:World}{b r n:Nat}{D:DataW Unit}{left:Lit→Bool}{cnt:Nat}(h:w.ranges P k R b r n D left cnt):NC w r∧NC w b:=by
 obtain ⟨es,clock,since,seen,c0,hb,_,_,_,hr,_⟩:=h
 refine ⟨fun cs t fr h=>?_,fun cs t fr h=>?_⟩
 ·rw [hr] at h;cases h
 ·rw [hb] at h;cases h
theorem row_cells {α:Type}{E:Ek α}{e:TypeId}{w:World}{B:Nat}{v:Value}{xs:List α}(h:ROW E e w B v xs){g:Nat}(hg:v.ownBlock=some g):∃ cs t fr,w.heap[g]? = some (.cells cs t fr):=by
 rcases h.2.1.2 with ⟨rfl,_⟩ | ⟨g',cap,cur,rfl,hb,hgg,_⟩
 ·simp [Value.ownBlock] at hg
 ·have:g'=g:=Option.some.inj hg
  subst this
  exact ⟨_,_,_,hgg⟩
theorem row_ne {α:Type}{E:Ek α}{e:TypeId}{w:World}{B b:Nat}{v:Value}{xs:List α}(h:ROW E e w B v xs)(hn:NC w b):some b≠v.ownBlock:=fun e1=>by
 obtain ⟨cs,t,fr,h1⟩:=row_cells h e1.symm
 exact hn _ _ _ h1
set_option maxRecDepth 100000 in
set_option maxHeartbeats 1000000 in
theorem cmpAlarm_at (l:List Fct)(win:Int)(ad:Bool)(x y:Nat)(W:World):Calls Tryz.prog 121 #[.agg (almV l win ad x).toArray,.agg (almV l win ad y).toArray] W fun e w'=>e=.returned (.int .i64 (Lib.compareInt (x:Int) (y:Int)))∧∃ q os',w'=grow (W.drewN q) os':=by
 unfold almV
 have hcon:=fun W'=>Tryz.cmp_Compare_int (x:Int) (y:Int) W'
 generalize Lib.compareInt (x:Int) (y:Int)=r at hcon ⊢
 generalize (cntF l win ad x:Int)=c1
 generalize (cntF l win ad y:Int)=c2
 generalize begF l win ad x=b1
 generalize begF l win ad y=b2
 generalize (atF l x).t=t1
 generalize (atF l y).t=t2
 generalize (x:Int)=x at *
 generalize (y:Int)=y at *
 go_enter Tryz.func121,Tryz.ntmps121
 go_wp2_with (go_at_call 122;refine (hcon _).mono ?_;rintro e w' ⟨rfl,rfl⟩)
 go_ret
 exact ⟨rfl,0,_,by rw [alloc_eq_grow,alloc_eq_grow,grow_grow];rfl⟩
theorem ltN (x y:Nat):ltOf (fun x y:Nat=>Lib.compareInt (x:Int) (y:Int)) x y=decide (x<y):=by
 unfold ltOf Lib.compareInt
 by_cases h1:(x:Int)<y
 ·have:x<y:=by omega
  simp [h1,this]
 ·have h3:¬ x<y:=by omega
  by_cases h2:(y:Int)<x<;>simp [h1,h2,h3]
theorem swoN:SWO (ltOf fun x y:Nat=>Lib.compareInt (x:Int) (y:Int)) where
 irrefl x:=by rw [ltN];simp
 trans x y z h1 h2:=by rw [ltN] at *;simp at *;omega
 ntrans x y z h1 h2:=by rw [ltN] at *;simp at *;omega
theorem sortAlarms_at (l:List Fct) (win:Int) (ad:Bool) (js:List Nat) (hd:js.Nodup) (hn:js.length≤1000) (B:Nat) (v:Value) (w:World) (h:ROW (EA l win ad) 120 w B v js):
  Calls Tryz.prog 120 #[v,.func (.func 121) #[] #[]] w fun e w'=>e=.returned (.tuple #[])∧∃ ys:List Nat,ys.Pairwise (· < ·)∧(∀ x,x∈ys ↔ x∈js)∧RDS (EA l win ad) w' v ys∧Below B w w':=by
 rcases h.2.1.2 with ⟨rfl,h0⟩ | ⟨g,cap,cur,rfl,_⟩
 ·obtain rfl:js=[]:=List.length_eq_zero_iff.1 h0
  refine (AnyF.slices_SortFunc_none Tryz.sortAlarm none 0 _ w).mono ?_
  rintro e w' ⟨rfl,rfl⟩
  exact ⟨rfl,[],List.Pairwise.nil,fun _=>Iff.rfl,RDS.nil _,Below.refl _ _⟩
 ·obtain ⟨hH,hg,hB,hc,hm⟩:=h.holds
  have eg:∀ args w,(callFunc 121 args).run Tryz.prog w=.ok (.enter 121 args) w:=enters_of Tryz.func121 (by kernel_rfl) rfl
  have hcon:=AnyQ.slices_SortFunc_total Tryz.sortAlarm 8 Tryz.isAgg120 Tryz.sizeOf120 (almV l win ad) (fun _=>rfl) (EA l win ad).one (fun x y:Nat=>Lib.compareInt (x:Int) (y:Int)) swoN 121 #[] g 0 cap js.toArray w eg (fun _ _ _ _ x y=>cmpAlarm_at l win ad x y _) hH hg (by rw [List.size_toArray];omega) (fun x y h1 h2=>by rw [ltN] at h1 h2;simp at h1 h2;omega)
  rw [List.size_toArray] at hcon
  refine hcon.mono ?_
  rintro e w' ⟨rfl,n,os,rfl⟩
  have hp:=List.mergeSort_perm js (fun x y=>!(ltOf fun x y:Nat=>Lib.compareInt (x:Int) (y:Int)) y x)
  have hs:=List.pairwise_mergeSort (le:=fun x y=>!(ltOf fun x y:Nat=>Lib.compareInt (x:Int) (y:Int)) y x) (fun a b c h1 h2=>by rw [ltN] at *;simp at *;omega) (fun a b=>by rw [ltN,ltN];simp;omega) js
  have hnd:=hp.nodup_iff.2 hd
  refine ⟨rfl,_,?_,fun x=>hp.mem_iff,sort_rds hH hg hp.length_eq hc hm,(Below.refl B w).grown (sort_grown (E:=EA l win ad) w g n _ os) (by omega) (fun j hj=>by cases hj;exact hB)⟩
  refine (hs.and hnd).imp fun {a b} hab=>?_
  have h1:=hab.1
  have h2:=hab.2
  rw [ltN] at h1
  simp at h1
  omega
end Go.Proofs.YtnjmndofcpnmeaaGreatDoor
