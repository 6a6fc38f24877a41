/- Pc26. -/
import Derived.Test.YtnjmndofcpnmeaaGreatDoorPc21
import Derived.Test.YtnjmndofcpnmeaaGreatDoorPc25
import Derived.Test.YtnjmndofcpnmeaaGreatDoorPc19
import Derived.BigQuiet
namespace Go.Proofs.YtnjmndofcpnmeaaGreatDoor
open Go Go.RowKit Go.Maps
set_option linter.unusedVariables false
def alm0 (n b t i:Int):Value:=.agg #[.slice none 0 0,.string ⟨#[]⟩,.int .i64 0,.slice none 0 0,.int .i64 n,.int .i64 b,.int .i64 t,.int .i64 i]
def ABx (w:World)(g:Nat):Prop:=w.heap[g]? = some (.cells #[.slice none 0 0,.string ⟨#[]⟩,.int .i64 0,.slice none 0 0,.int .i64 0,.int .i64 0,.int .i64 0,.int .i64 0] 120 (0,0))
theorem ABx.ext {w w':World}{g:Nat}(h:ABx w g)(hx:Ext w w'):ABx w' g:=hx.heap h
theorem ABx.cells {w:World}{g:Nat}(h:ABx w g):(w.cell? ⟨g,0,none⟩=some (.slice none 0 0)∧w.cell? ⟨g,1,none⟩=some (.string ⟨#[]⟩)∧w.cell? ⟨g,2,none⟩=some (.int .i64 0)∧w.cell? ⟨g,3,none⟩=some (.slice none 0 0)∧w.cell? ⟨g,4,none⟩=some (.int .i64 0)∧w.cell? ⟨g,5,none⟩=some (.int .i64 0)∧w.cell? ⟨g,6,none⟩=some (.int .i64 0)∧w.cell? ⟨g,7,none⟩=some (.int .i64 0))∧w.frozen? ⟨g,0,none⟩=false∧w.frozen? ⟨g,1,none⟩=false∧w.frozen? ⟨g,2,none⟩=false∧w.frozen? ⟨g,3,none⟩=false∧w.frozen? ⟨g,4,none⟩=false∧w.frozen? ⟨g,5,none⟩=false∧w.frozen? ⟨g,6,none⟩=false∧w.frozen? ⟨g,7,none⟩=false:=by
 unfold ABx at h
 refine ⟨⟨?_,?_,?_,?_,?_,?_,?_,?_⟩,?_,?_,?_,?_,?_,?_,?_,?_⟩
 all_goals first
  | exact frozen_of_row w g _ _ _ h
  | (rw [cell_of_row _ _ _ _ _ (0,0) h];rfl)
theorem a_put {w0 W:World} {n:Nat} (hx:Ext w0 W) (hn:w0.heap.size≤n) (h:ABx W n) (cn bt tt ix:Int):
  ∃ WF,((((((((W.setCell ⟨n,0,none⟩ (.slice none 0 0)).setCell ⟨n,1,none⟩ (.string ⟨#[]⟩)).setCell ⟨n,2,none⟩ (.int .i64 0)).setCell ⟨n,3,none⟩ (.slice none 0 0)).setCell ⟨n,4,none⟩ (.int .i64 cn)).setCell ⟨n,5,none⟩ (.int .i64 bt)).setCell ⟨n,6,none⟩ (.int .i64 tt)).setCell ⟨n,7,none⟩ (.int .i64 ix))=WF∧Ext w0 WF∧WF.cell? ⟨n,0,none⟩=some (.slice none 0 0)∧WF.cell? ⟨n,1,none⟩=some (.string ⟨#[]⟩)∧WF.cell? ⟨n,2,none⟩=some (.int .i64 0)∧WF.cell? ⟨n,3,none⟩=some (.slice none 0 0)∧WF.cell? ⟨n,4,none⟩=some (.int .i64 cn)∧WF.cell? ⟨n,5,none⟩=some (.int .i64 bt)∧WF.cell? ⟨n,6,none⟩=some (.int .i64 tt)∧WF.cell? ⟨n,7,none⟩=some (.int .i64 ix):=by
 have h0:RW W n 120 #[.slice none 0 0,.string ⟨#[]⟩,.int .i64 0,.slice none 0 0,.int .i64 0,.int .i64 0,.int .i64 0,.int .i64 0]:=h
 have x0:=hx
 have h1:RW (W.setCell ⟨n,0,none⟩ (.slice none 0 0)) n 120 #[.slice none 0 0,.string ⟨#[]⟩,.int .i64 0,.slice none 0 0,.int .i64 0,.int .i64 0,.int .i64 0,.int .i64 0]:=h0.set 0 _
 have x1:=x0.setCell (p:=⟨n,0,none⟩) hn (.slice none 0 0)
 clear h0 x0
 have h2:RW ((W.setCell ⟨n,0,none⟩ (.slice none 0 0)).setCell ⟨n,1,none⟩ (.string ⟨#[]⟩)) n 120 #[.slice none 0 0,.string ⟨#[]⟩,.int .i64 0,.slice none 0 0,.int .i64 0,.int .i64 0,.int .i64 0,.int .i64 0]:=h1.set 1 _
 have x2:=x1.setCell (p:=⟨n,1,none⟩) hn (.string ⟨#[]⟩)
 clear h1 x1
 have h3:RW (((W.setCell ⟨n,0,none⟩ (.slice none 0 0)).setCell ⟨n,1,none⟩ (.string ⟨#[]⟩)).setCell ⟨n,2,none⟩ (.int .i64 0)) n 120 #[.slice none 0 0,.string ⟨#[]⟩,.int .i64 0,.slice none 0 0,.int .i64 0,.int .i64 0,.int .i64 0,.int .i64 0]:=h2.set 2 _
 have x3:=x2.setCell (p:=⟨n,2,none⟩) hn (.int .i64 0)
 clear h2 x2
 have h4:RW ((((W.setCell ⟨n,0,none⟩ (.slice none 0 0)).setCell ⟨n,1,none⟩ (.string ⟨#[]⟩)).setCell ⟨n,2,none⟩ (.int .i64 0)).setCell ⟨n,3,none⟩ (.slice none 0 0)) n 120 #[.slice none 0 0,.string ⟨#[]⟩,.int .i64 0,.slice none 0 0,.int .i64 0,.int .i64 0,.int .i64 0,.int .i64 0]:=h3.set 3 _
 have x4:=x3.setCell (p:=⟨n,3,none⟩) hn (.slice none 0 0)
 clear h3 x3
 have h5:RW (((((W.setCell ⟨n,0,none⟩ (.slice none 0 0)).setCell ⟨n,1,none⟩ (.string ⟨#[]⟩)).setCell ⟨n,2,none⟩ (.int .i64 0)).setCell ⟨n,3,none⟩ (.slice none 0 0)).setCell ⟨n,4,none⟩ (.int .i64 cn)) n 120 #[.slice none 0 0,.string ⟨#[]⟩,.int .i64 0,.slice none 0 0,.int .i64 cn,.int .i64 0,.int .i64 0,.int .i64 0]:=h4.set 4 _
 have x5:=x4.setCell (p:=⟨n,4,none⟩) hn (.int .i64 cn)
 clear h4 x4
 have h6:RW ((((((W.setCell ⟨n,0,none⟩ (.slice none 0 0)).setCell ⟨n,1,none⟩ (.string ⟨#[]⟩)).setCell ⟨n,2,none⟩ (.int .i64 0)).setCell ⟨n,3,none⟩ (.slice none 0 0)).setCell ⟨n,4,none⟩ (.int .i64 cn)).setCell ⟨n,5,none⟩ (.int .i64 bt)) n 120 #[.slice none 0 0,.string ⟨#[]⟩,.int .i64 0,.slice none 0 0,.int .i64 cn,.int .i64 bt,.int .i64 0,.int .i64 0]:=h5.set 5 _
 have x6:=x5.setCell (p:=⟨n,5,none⟩) hn (.int .i64 bt)
 clear h5 x5
 have h7:RW (((((((W.setCell ⟨n,0,none⟩ (.slice none 0 0)).setCell ⟨n,1,none⟩ (.string ⟨#[]⟩)).setCell ⟨n,2,none⟩ (.int .i64 0)).setCell ⟨n,3,none⟩ (.slice none 0 0)).setCell ⟨n,4,none⟩ (.int .i64 cn)).setCell ⟨n,5,none⟩ (.int .i64 bt)).setCell ⟨n,6,none⟩ (.int .i64 tt)) n 120 #[.slice none 0 0,.string ⟨#[]⟩,.int .i64 0,.slice none 0 0,.int .i64 cn,.int .i64 bt,.int .i64 tt,.int .i64 0]:=h6.set 6 _
 have x7:=x6.setCell (p:=⟨n,6,none⟩) hn (.int .i64 tt)
 clear h6 x6
 have h8:RW ((((((((W.setCell ⟨n,0,none⟩ (.slice none 0 0)).setCell ⟨n,1,none⟩ (.string ⟨#[]⟩)).setCell ⟨n,2,none⟩ (.int .i64 0)).setCell ⟨n,3,none⟩ (.slice none 0 0)).setCell ⟨n,4,none⟩ (.int .i64 cn)).setCell ⟨n,5,none⟩ (.int .i64 bt)).setCell ⟨n,6,none⟩ (.int .i64 tt)).setCell ⟨n,7,none⟩ (.int .i64 ix)) n 120 #[.slice none 0 0,.string ⟨#[]⟩,.int .i64 0,.slice none 0 0,.int .i64 cn,.int .i64 bt,.int .i64 tt,.int .i64 ix]:=h7.set 7 _
 have x8:=x7.setCell (p:=⟨n,7,none⟩) hn (.int .i64 ix)
 clear h7 x7
 refine ⟨_,rfl,x8,?_,?_,?_,?_,?_,?_,?_,?_⟩<;>(rw [cell_of_row _ _ _ _ _ (0,0) h8];rfl)
def cJ (ad:Bool)(js:List Nat)(K:Nat→List UInt8):Nat:=if ad then difK js K else js.length
theorem cJ_le (ad:Bool)(js:List Nat)(K:Nat→List UInt8):cJ ad js K≤js.length:=by
 unfold cJ
 split
 ·exact difK_le js K
 ·exact Nat.le_refl _
theorem cJ_win {l:List Fct}{w:Int}{ad:Bool}{i:Nat}{js:List Nat}(h:winF l w ad i=js):cntF l w ad i=cJ ad js (fun j=>keyF false (atF l j)):=by
 unfold cJ
 cases ad with
 | true=>exact cnt_dif h.symm
 | false=>rw [cnt_win,h];rfl
def FRES (l:List Fct)(win lim:Int)(ad:Bool)(g:List Nat)(e:Ending):Prop:=
 (∃ i,g.find? (hitF l win lim ad)=some i∧e=.returned (.tuple #[alm0 (cntF l win ad i:Int) (begF l win ad i) (atF l i).t (i:Int),.bool true])) ∨
 (g.find? (hitF l win lim ad)=none∧e=.returned (.tuple #[alm0 0 0 0 0,.bool false]))
theorem tal_start (w:World)(K:Nat→List UInt8):∃ W,(((w.alloc (.cells #[.slice none 0 0,.string ⟨#[]⟩,.int .i64 0,.slice none 0 0,.int .i64 0,.int .i64 0,.int .i64 0,.int .i64 0] 120)).alloc (.map #[] 0)).alloc (.cells #[.int .i64 0,.map (some (w.heap.size+1))] 174))=W∧∃ W1,W1.heap.size=w.heap.size+1∧Ext w W1∧ABx W1 w.heap.size∧TAL W W1.heap.size (w.heap.size+1+1) (w.heap.size+1) (.map []) [] K∧Ext W1 W:=by
 have x1:=(Ext.refl w).alloc (.cells #[.slice none 0 0,.string ⟨#[]⟩,.int .i64 0,.slice none 0 0,.int .i64 0,.int .i64 0,.int .i64 0,.int .i64 0] 120)
 have b1:ABx (w.alloc (.cells #[.slice none 0 0,.string ⟨#[]⟩,.int .i64 0,.slice none 0 0,.int .i64 0,.int .i64 0,.int .i64 0,.int .i64 0] 120)) w.heap.size:=heap_alloc_new w _
 obtain ⟨W1,e1⟩:∃ W,w.alloc (.cells #[.slice none 0 0,.string ⟨#[]⟩,.int .i64 0,.slice none 0 0,.int .i64 0,.int .i64 0,.int .i64 0,.int .i64 0] 120)=W:=⟨_,rfl⟩
 have s1:W1.heap.size=w.heap.size+1:=by rw [← e1,World.size_alloc]
 rw [e1] at x1 b1 ⊢
 have m1:(W1.alloc (.map #[] 0)).ownsMap Tryz.prog 9 (plainElem Tryz.prog 3) W1.heap.size 0 (.map []:DataW Unit):=World.ownsMap_made _ _ _ _
 have x2:=(Ext.refl W1).alloc (.map #[] 0)
 obtain ⟨W2,e2⟩:∃ W,W1.alloc (.map #[] 0)=W:=⟨_,rfl⟩
 have s2:W2.heap.size=w.heap.size+1+1:=by rw [← e2,World.size_alloc,s1]
 rw [e2] at m1 x2 ⊢
 rw [s1] at m1
 have x3:=(Ext.refl W2).alloc (.cells #[.int .i64 0,.map (some (w.heap.size+1))] 174)
 have b3:TBox (W2.alloc (.cells #[.int .i64 0,.map (some (w.heap.size+1))] 174)) W2.heap.size 0 (w.heap.size+1):=heap_alloc_new W2 _
 rw [s2] at b3
 exact ⟨_,rfl,W1,s1,x1,b1,⟨b3,(TMap.of m1).ext x3,TD.start K,by omega,by omega,by omega⟩,x2.trans x3⟩
theorem iv_at {w:World}{A:Option Addr}{c:Nat}{g:List Nat}(h:RS w (.slice A g.length c) (iv g)){k i:Nat}(hk:g[k]? = some i):∃ ad,A=some ad∧w.cell? (ad.add k)=some (.int .i64 (i:Int)):=by
 have hl:=(List.getElem?_eq_some_iff.1 hk).1
 obtain ⟨A',c',he,h1,h2,h3⟩:=h
 rw [iv_length] at he h1 h3
 injection he with e2 _ e3
 subst e2
 obtain ⟨ad,rfl,_,hc⟩:=h3 (by omega)
 refine ⟨ad,rfl,hc k _ ?_⟩
 rw [iv_get g k hl]
 rw [List.getElem?_eq_getElem hl] at hk
 injection hk with hk
 rw [hk]
theorem iv_cap {w:World}{A:Option Addr}{c:Nat}{g:List Nat}(h:RS w (.slice A g.length c) (iv g)):g.length≤c∧c≤maxLen:=by
 obtain ⟨A',c',he,h1,h2,_⟩:=h
 rw [iv_length] at he h1
 injection he with _ _ e3
 subst e3
 exact ⟨h1,h2⟩
set_option maxRecDepth 100000 in
set_option maxHeartbeats 8000000 in
theorem first_at (ad:Bool) (fC:Nat) (A:Option Addr) (c:Nat) (xs:List FV) (G:Option Addr) (gc:Nat) (g:List Nat) (x:Who) (win lim:Int) (w:World) (hF:FS w (.slice A xs.length c) xs) (hn:xs.length≤1000) (hz:∀ f∈xs,f.Sz) (ht:∀ f∈xs,0≤f.t∧f.t≤1099511627776) (hp:Pow w)
  (hor:ordT (xs.map FV.fct)) (hg:g=grpF (xs.map FV.fct) ad x) (hG:RS w (.slice G g.length gc) (iv g)) (hw0:0≤win) (hw1:win≤1099511627776) (hl:i64B lim)
  (hEC:∀ (args:Array Value) (W:World),(callFunc fC args).run Tryz.prog W=.ok (.enter fC args) W)
  (hC:∀ W B b m D js,TAL W B b m D js (fun j=>keyF false (atF (xs.map FV.fct) j))→Calls Tryz.prog fC #[.pointer (some ⟨b,0,none⟩)] W fun e w'=>e=.returned (.int .i64 (cJ ad js (fun j=>keyF false (atF (xs.map FV.fct) j)):Int))∧Ext W w'):
  Calls Tryz.prog 119 #[.slice A xs.length c,.slice G g.length gc,.int .i64 win,.int .i64 lim,.func (.func fC) #[] #[]] w fun e w'=>FRES (xs.map FV.fct) win lim ad g e∧Ext w w':=by
 have hmm:=@run_makeMap Tryz.prog
 obtain ⟨W0,e0,W1,hs1,hx1,hA1,hT0,hX0⟩:=tal_start w (fun j=>keyF false (atF (xs.map FV.fct) j))
 have HF:=Lib.hid (hF.ext hx1);have HZ:=Lib.hid hz;have HTI:=Lib.hid ht;have HP:=Lib.hid (hp.ext hx1);have HO:=Lib.hid hor;have HG:=Lib.hid hg;have HGR:=Lib.hid (hG.ext hx1);have HEC:=Lib.hid hEC;have HC:=Lib.hid hC
 have HT0:=Lib.hid hT0;have HA1:=Lib.hid hA1;have HX0:=Lib.hid hX0;have HL:=Lib.hid hl;have HX1:=Lib.hid hx1;have HS1:=Lib.hid hs1
 obtain ⟨_,c',he,hc1,hc2⟩:=hF.shape
 injection he with e1 _ e3
 subst e1;subst e3
 obtain ⟨hg1,hg2⟩:=iv_cap hG
 unfold maxLen at hc2 hg2
 have hgl:g.length≤1000:=by
  rw [hg]
  have h1:=List.length_filter_le (fun j=>failB (atF (xs.map FV.fct) j)&&decide (who ad (atF (xs.map FV.fct) j)=x)) (List.range (xs.map FV.fct).length)
  rw [List.length_range,List.length_map] at h1
  unfold grpF
  rw [List.length_map]
  omega
 obtain ⟨n,hn'⟩:∃ n,xs.length=n:=⟨_,rfl⟩
 obtain ⟨gl,hgl'⟩:∃ n,g.length=n:=⟨_,rfl⟩
 have HN:=Lib.hid hn';have HGL:=Lib.hid hgl'
 clear hF hz ht hp hor hg hG hEC hC hT0 hA1 hX0 hl hx1 hs1
 rw [hn'] at hc1 hn ⊢
 rw [hgl'] at hg1 hgl ⊢
 clear hn' hgl'
 generalize hK:(fun j=>keyF false (atF (xs.map FV.fct) j))=K at *
 have HKD:=Lib.hid hK
 clear hK
 go_enter Tryz.func119,Tryz.ntmps119
 go_wp2_with fail
 go_loopw [13,15,16,22] (fun v13 _ _ v22 wr=>∃ (p low:Nat) (D:DataW Unit),v22=.int .i64 (p:Int)∧p≤gl∧v13=.int .i64 (low:Int)∧low≤p∧Hid (TAL wr W1.heap.size (w.heap.size+1+1) (w.heap.size+1) D ((g.take p).drop low) K)∧Hid (LOW (xs.map FV.fct) g win low p)∧Hid (NOH (xs.map FV.fct) g win lim ad p)∧Hid (Ext W1 wr)) (fun _ _ _ v _=>gl-(intOf v).toNat)
 case atStart=>exact ⟨0,0,.map [],rfl,by omega,rfl,by omega,Lib.hid (by simpa using HT0.out),Lib.hid (LOW.zero _ _ _ _),Lib.hid (NOH.zero _ _ _ _ _),HX0⟩
 case round=>
  obtain ⟨p,low,D,rfl,hpg,rfl,hlp,HT,HLO,HNO,HX⟩:=hrel
  by_cases hlt:p<gl
  ·obtain ⟨i,hi⟩:∃ i,g[p]? = some i:=⟨_,List.getElem?_eq_getElem (by rw [HGL.out];exact hlt)⟩
   have HI:=Lib.hid hi
   obtain ⟨gad,rfl,gi⟩:=iv_at (RS.ext HGR.out HX.out) hi
   have hmem:=List.mem_of_getElem? hi
   rw [HG.out] at hmem
   have HMEM:=Lib.hid hmem
   have hix:i<xs.length:=by have:=(grp_mem.1 hmem).1;rw [List.length_map] at this;exact this
   have hin:i<n:=by rw [← HN.out];exact hix
   obtain ⟨hIn,lad,rfl,u0,u1,u2,u3,u4,u5,u6,u7,u8,u9,u10,u11⟩:=(HF.out.ext HX.out).at_ i hix
   have HIX:=Lib.hid hix
   have hadd:=add_at xs[i] W1 wr HX.out ((HF.out).at_ i hix).1 (HZ.out _ (List.getElem_mem hix)) HP.out _ _ D _ K i HT.out (by rw [List.length_drop,List.length_take];have:=HGL.out;omega) (by rw [← HKD.out];show keyF false (atF (xs.map FV.fct) i)=_;rw [atF_xs hix];rfl)
   have HADD:=Lib.hid hadd
   unfold FV.val at HADD
   have hti:=HTI.out _ (List.getElem_mem hix)
   have HATI:=Lib.hid (show (atF (xs.map FV.fct) i).t=xs[i].t by rw [atF_xs hix];rfl)
   generalize xs[i]=fi at *
   clear hadd hmem hix hi hIn
   go_wp2_with fail
   refine HADD.out.mono ?_
   rintro _ w2 ⟨rfl,⟨D2,hT2⟩,hX2⟩
   rw [← win_snoc HI.out hlp] at hT2
   have HT2:=Lib.hid hT2;have HX2:=Lib.hid hX2
   have HLO2:=Lib.hid HLO.out
   clear hT2 hX2 u0 u1 u2 u3 u4 u5 u6 u7 u8 u9 u10 u11 gi
   go_wp2_with fail
   go_loopw [13] (fun v13 wr2=>∃ (low:Nat) (D:DataW Unit),v13=.int .i64 (low:Int)∧low≤p∧Hid (TAL wr2 W1.heap.size (w.heap.size+1+1) (w.heap.size+1) D ((g.take (p+1)).drop low) K)∧Hid (LOW (xs.map FV.fct) g win low p)∧Hid (Ext W1 wr2)) (fun v _=>p+1-(intOf v).toNat)
   case atStart=>exact ⟨low,D2,rfl,hlp,HT2,HLO2,HX2⟩
   case round=>
    clear hlp HT HADD HLO HX HT2 HLO2 HX2
    obtain ⟨low,D,rfl,hlp,HT,HLO,HX⟩:=hrel
    have hlw:low<gl:=by omega
    obtain ⟨j,hj⟩:∃ j,g[low]? = some j:=⟨_,List.getElem?_eq_getElem (by rw [HGL.out];exact hlw)⟩
    have HJ:=Lib.hid hj
    obtain ⟨_,hge,gj⟩:=iv_at (RS.ext HGR.out HX.out) hj
    injection hge with hge
    subst hge
    have hmem:=List.mem_of_getElem? hj
    rw [HG.out] at hmem
    have hjx:j<xs.length:=by have:=(grp_mem.1 hmem).1;rw [List.length_map] at this;exact this
    have hjn:j<n:=by rw [← HN.out];exact hjx
    have hIJ:=((HF.out.ext HX.out).at_ j hjx).2
    obtain ⟨_,hle,z0,z1,z2,z3,z4,z5,z6,z7,z8,z9,z10,z11⟩:=hIJ
    injection hle with hle
    subst hle
    have hII:=((HF.out.ext HX.out).at_ i HIX.out).2
    obtain ⟨_,hle,i0,_⟩:=hII
    injection hle with hle
    subst hle
    rw [show xs[i].t=(atF (xs.map FV.fct) i).t by rw [atF_xs HIX.out];rfl] at i0
    have htj:=HTI.out _ (List.getElem_mem hjx)
    have HATJ:=Lib.hid (show (atF (xs.map FV.fct) j).t=xs[j].t by rw [atF_xs hjx];rfl)
    have hrem:=fun W' (hw:Ext _ W')=>remove_at xs[j] W1 W' (HX.out.trans hw) ((HF.out).at_ j hjx).1 (HZ.out _ (List.getElem_mem hjx)) HP.out _ _ D ((g.take (p+1)).drop (low+1)) K j (by rw [← win_cons HJ.out hlp];exact HT.out.ext hw) (by rw [List.length_drop,List.length_take];have:=HGL.out;omega) (by rw [← HKD.out];show keyF false (atF (xs.map FV.fct) j)=_;rw [atF_xs hjx];rfl)
    have HREM:=Lib.hid hrem
    unfold FV.val at HREM
    clear hrem
    generalize xs[j]=fj at *
    clear hmem hj hjx
    have hti2:0≤(atF (xs.map FV.fct) i).t∧(atF (xs.map FV.fct) i).t≤1099511627776:=by rw [HATI.out];exact hti
    obtain ⟨ti,hti'⟩:∃ t,(atF (xs.map FV.fct) i).t=t:=⟨_,rfl⟩
    have HTI2:=Lib.hid hti'
    rw [hti'] at i0 hti2
    obtain ⟨hti3,hti4⟩:=hti2
    obtain ⟨htj3,htj4⟩:=htj
    clear hti'
    have s1:IntKind.i64.wrap (ti-win)=ti-win:=IntWalk.i64_in _ (by omega)
    by_cases hc:fj.t<ti-win
    ·have hlne:low≠p:=by
      rintro rfl
      have h1:=HI.out
      rw [HJ.out] at h1
      injection h1 with h1
      subst h1
      rw [HTI2.out] at HATJ
      have:=HATJ.out
      omega
     have HLO2:=Lib.hid (HG.out ▸ LOW.step HO.out (HG.out ▸ HLO.out) (HG.out ▸ HJ.out) (HG.out ▸ HI.out) (by rw [HATJ.out,HTI2.out];exact hc):LOW (xs.map FV.fct) g win (low+1) p)
     go_wp2_with fail
     go_quiet (fail)
     go_wp2_with fail
     refine (HREM.out _ ((Ext.refl _).drewN _)).mono ?_
     rintro _ w3 ⟨rfl,⟨D3,hT3⟩,hX3⟩
     have HT3:=Lib.hid hT3;have HX3:=Lib.hid hX3
     clear hT3 hX3 gj i0 z0 z1 z2 z3 z4 z5 z6 z7 z8 z9 z10 z11
     go_wp2_with fail
     go_roundw
     case rel=>exact ⟨low+1,D3,by go_num,by omega,HT3,HLO2,HX3⟩
     case measure=>simp [intOf];omega
    ·have hW:winF (xs.map FV.fct) win ad i=(g.take (p+1)).drop low:=by
      have h1:=HG.out
      have h2:=winIs HO.out (x:=x) (ad:=ad) (by rw [← h1];exact HLO.out) (by rw [← h1];exact HI.out) hlp (by rw [← h1];exact HJ.out) (by rw [HATJ.out,HTI2.out];exact hc)
      rw [← h1] at h2
      exact h2
     have hCN:=cJ_win hW
     have hBG:=beg_of hW HJ.out hlp
     rw [HKD.out] at hCN
     rw [HATJ.out] at hBG
     have HHIT:=Lib.hid (hit_iff (win:=win) (lim:=lim) HMEM.out)
     have hcl:=cJ_le ad ((g.take (p+1)).drop low) K
     rw [List.length_drop,List.length_take] at hcl
     have HCC:=Lib.hid (fun W' (hw:Ext _ W')=>HC.out W' _ _ _ D _ (HT.out.ext hw))
     rw [← hCN] at HCC hcl
     have HBG:=Lib.hid hBG
     obtain ⟨cn,hcq⟩:∃ cn,cntF (xs.map FV.fct) win ad i=cn:=⟨_,rfl⟩
     rw [hcq] at HCC hcl HHIT
     have HCNT:=Lib.hid hcq
     clear hcq
     have hcn:(cn:Int)≤1000:=by have:=HGL.out;omega
     clear hcl hCN hBG hW
     go_wp2_with fail
     go_quiet (fail)
     go_wp2_with fail
     rw [HEC.out]
     refine (HCC.out _ ((Ext.refl _).drewN _)).mono ?_
     rintro _ w4 ⟨rfl,hx4⟩
     have hx5:=Ext.trans ((Ext.refl _).drewN _) hx4
     have HT4:=Lib.hid (HT.out.ext hx5)
     have HX4:=Lib.hid (HX.out.trans hx5)
     have gj4:=hx5.cell gj
     have z04:=hx5.cell z0
     have i04:=hx5.cell i0
     clear hx4 hx5 gj i0 z0 z1 z2 z3 z4 z5 z6 z7 z8 z9 z10 z11
     by_cases hh:lim≤(cn:Int)
     ·have hq:decide (lim≤(cn:Int))=true:=decide_eq_true hh
      rw [hq] at HHIT
      obtain ⟨⟨a0,a1,a2,a3,a4,a5,a6,a7⟩,f0,f1,f2,f3,f4,f5,f6,f7⟩:=(HA1.out.ext HX4.out).cells
      go_wp2_with fail
      go_region
      go_wp2_with fail
      obtain ⟨WF,ef,hxf,d0,d1,d2,d3,d4,d5,d6,d7⟩:=a_put (HX1.out.trans HX4.out) (Nat.le_refl _) (HA1.out.ext HX4.out) (cn:Int) fj.t ti (i:Int)
      rw [ef]
      have e0:WF.drew.cell? ⟨w.heap.size,0,none⟩=_:=d0
      have e1:WF.drew.cell? ⟨w.heap.size,1,none⟩=_:=d1
      have e2:WF.drew.cell? ⟨w.heap.size,2,none⟩=_:=d2
      have e3:WF.drew.cell? ⟨w.heap.size,3,none⟩=_:=d3
      have e4:WF.drew.cell? ⟨w.heap.size,4,none⟩=_:=d4
      have e5:WF.drew.cell? ⟨w.heap.size,5,none⟩=_:=d5
      have e6:WF.drew.cell? ⟨w.heap.size,6,none⟩=_:=d6
      have e7:WF.drew.cell? ⟨w.heap.size,7,none⟩=_:=d7
      refine bodyPost_ret (v:=.tuple #[alm0 (cn:Int) fj.t ti (i:Int),.bool true]) (by first | (simp [results,Tryz.results119,go_sem,alm0];first | done | rfl) | (simp [results,Tryz.results119,go_sem,e0,e1,e2,e3,e4,e5,e6,e7,alm0];first | done | rfl)) rfl ?_
      exact ⟨.inl ⟨i,HNO.out.found HI.out HHIT.out,by rw [HBG.out,HTI2.out,HCNT.out]⟩,hxf.trans (Ext.drew _)⟩
     ·have hq:decide (lim≤(cn:Int))=false:=decide_eq_false hh
      rw [hq] at HHIT
      clear gj4 z04 i04
      go_wp2_with fail
      go_roundw
      case rel=>exact ⟨p+1,low,D,by go_num,by omega,rfl,by omega,HT4,Lib.hid (HLO.out.mono (Nat.le_succ p)),Lib.hid (HNO.out.step HI.out HHIT.out),HX4⟩
      case measure=>simp [intOf];omega
  ·obtain rfl:p=gl:=by omega
   obtain ⟨⟨a0,a1,a2,a3,a4,a5,a6,a7⟩,f0,f1,f2,f3,f4,f5,f6,f7⟩:=(HA1.out.ext HX.out).cells
   go_wp2_with fail
   obtain ⟨WF,ef,hxf,d0,d1,d2,d3,d4,d5,d6,d7⟩:=a_put (HX1.out.trans HX.out) (Nat.le_refl _) (HA1.out.ext HX.out) 0 0 0 0
   rw [ef]
   refine bodyPost_ret (v:=.tuple #[alm0 0 0 0 0,.bool false]) (by simp [results,Tryz.results119,go_sem,d0,d1,d2,d3,d4,d5,d6,d7,alm0];try rfl) rfl ?_
   exact ⟨.inr ⟨NOH.none (by rw [HGL.out];exact HNO.out),rfl⟩,hxf⟩
end Go.Proofs.YtnjmndofcpnmeaaGreatDoor
