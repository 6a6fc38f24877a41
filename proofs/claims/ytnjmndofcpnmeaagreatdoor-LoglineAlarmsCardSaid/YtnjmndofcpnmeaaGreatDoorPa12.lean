/- Pa12. -/
import Derived.Test.YtnjmndofcpnmeaaGreatDoorPa7
import Derived.Test.YtnjmndofcpnmeaaGreatDoorPa11
import Derived.Test.YtnjmndofcpnmeaaGreatDoorPa8
import Derived.Test.YtnjmndofcpnmeaaGreatDoorPa0
import Derived.Test.YtnjmndofcpnmeaaGreatDoorPa2
import Derived.Laws.EntriesVeiled
import Derived.Laws.Rows
namespace Go.Proofs.YtnjmndofcpnmeaaGreatDoor
open Go Go.RowKit
set_option linter.unusedVariables false
def RW (w:World)(g:Nat)(T:TypeId)(cs:Array Value):Prop:=w.heap[g]? = some (.cells cs T (0,0))
theorem RW.ext {w w':World}{g:Nat}{T:TypeId}{cs:Array Value}(h:RW w g T cs)(hx:Ext w w'):RW w' g T cs:=hx.heap h
theorem RW.set {w:World}{g:Nat}{T:TypeId}{cs:Array Value}(h:RW w g T cs)(o:Nat)(v:Value):RW (w.setCell ⟨g,o,none⟩ v) g T (cs.setIfInBounds o v):=heap_setCell_same w g o cs T v h
theorem RW.soft {w:World}{g:Nat}{T:TypeId}{cs:Array Value}(h:RW w g T cs)(o:Nat):w.frozen? ⟨g,o,none⟩=false:=frozen_of_row w g o _ _ h
theorem RW.get {w:World}{g:Nat}{T:TypeId}{cs:Array Value}(h:RW w g T cs)(o:Nat)(ho:o<cs.size):∃ u,w.cell? ⟨g,o,none⟩=some u:=⟨cs[o],by rw [cell_of_row _ _ o _ _ (0,0) h,Array.getElem?_eq_getElem ho]⟩
theorem RS.far {w w':World}{A:Option Addr}{n c g:Nat}{xs:List Value}(h:RS w (.slice A n c) xs)(hA:∀ ad,A=some ad→ad.block≠g)(hg:w.grownBy w' (some g)):RS w' (.slice A n c) xs:=by
 obtain ⟨A',c',he,h1,h2,h3⟩:=h
 injection he with e1 e2 e3
 subst e1;subst e3
 refine ⟨A,c,by rw [e2],h1,h2,fun hp=>?_⟩
 obtain ⟨ad,ha,hb,hc⟩:=h3 hp
 refine ⟨ad,ha,Nat.lt_of_lt_of_le hb hg.size,fun j u hu=>?_⟩
 have hblk:(ad.add j).block=ad.block:=block_of_add ad j
 have:=hg.block ad.block hb (fun e=>by injection e with e;exact hA ad ha e)
 rw [← hc j u hu]
 exact World.cell?_of_block (by rw [hblk];exact this)
def PutB (w:World)(g:Nat)(T:TypeId)(cs:Array Value)(o:Nat)(v:Value)(b:Bool)(e:Ending)(w':World):Prop:=e=.returned (.bool b)∧w.grownBy w' (some g)∧RW w' g T (cs.setIfInBounds o v)
theorem Atoi3_ok (b:ByteArray) (hb:b.size≤3000) (v:Int) (h:Lib.atoiAll b.data.toList=.ok v) (w:World):
  Calls Tryz.prog 101 #[.string b] w fun e w'=>e=.returned (.tuple #[.int .i64 v,.nilIface])∧Ext w w':=by
 refine (Tryz.strconv_Atoi_ok b (by omega) v h w).mono ?_
 rintro e w' ⟨rfl,rfl | ⟨t,rfl⟩⟩
 ·exact ⟨rfl,Ext.refl _⟩
 ·exact ⟨rfl,ext_bytesWorld _ _ _⟩
theorem Atoi3_bad (b:ByteArray) (hb:b.size≤3000) (h:∀ v,Lib.atoiAll b.data.toList≠.ok v) (w:World) (hE:Env w):
  Calls Tryz.prog 101 #[.string b] w fun e w'=>∃ x p,e=.returned (.tuple #[.int .i64 x,.iface 237 p])∧Ext w w':=by
 cases ha:Lib.atoiAll b.data.toList
 case ok v=>exact absurd ha (h v)
 case range=>
  obtain ⟨tp,p,hv⟩:=hE.rng
  refine (Tryz.strconv_Atoi_range_var b (by omega) ha tp p w hv).mono ?_
  rintro e w' ⟨N,rfl,_,_,hx⟩
  exact ⟨_,_,rfl,hx⟩
 ·obtain ⟨tp,p,hv⟩:=hE.syn
  refine (Tryz.strconv_Atoi_syntax_var b (by omega) (fun v e=>by rw [ha] at e;cases e) (fun e=>by rw [ha] at e;cases e) tp p w hv).mono ?_
  rintro e w' ⟨N,rfl,_,_,hx⟩
  exact ⟨_,_,rfl,hx⟩
set_option maxRecDepth 100000 in
theorem readNumber_at (s:ByteArray) (hs:s.size≤3000) (g o:Nat) (T:TypeId) (cs:Array Value) (ho:o<cs.size) (w:World) (hE:Env w) (hg:RW w g T cs):
  Calls Tryz.prog 41 #[.string s,.pointer (some ⟨g,o,none⟩)] w fun e w'=>∃ (v:Int) (b:Bool),PutB w g T cs o (.int .i64 v) b e w'∧∀ x,Lib.atoiAll s.data.toList=.ok x→v=x∧b=true:=by
 have hfin:∀ (v:Int) (w2:World),Ext w w2→w.grownBy (w2.setCell ⟨g,o,none⟩ (.int .i64 v)) (some g)∧RW (w2.setCell ⟨g,o,none⟩ (.int .i64 v)) g T (cs.setIfInBounds o (.int .i64 v)):=fun v w2 hx=>
  ⟨grown_set (hx.but _) o _,(hg.ext hx).set o _⟩
 have HF:=Lib.hid hfin;have HG:=Lib.hid hg;have HO:=Lib.hid ho
 by_cases hn:∃ x,Lib.atoiAll s.data.toList=.ok x
 ·obtain ⟨v,hv⟩:=hn
  have HA:=Lib.hid (Atoi3_ok s hs v hv w)
  have HV:=Lib.hid hv
  clear hv hE hg hfin ho
  go_enter Tryz.func41,Tryz.ntmps41
  go_wp2_with fail
  refine HA.out.mono ?_
  rintro _ w2 ⟨rfl,hx⟩
  obtain ⟨u,c1⟩:=(HG.out.ext hx).get o HO.out
  have c2:=(HG.out.ext hx).soft o
  have HX:=Lib.hid hx
  clear hx
  go_wp2_with fail
  go_ret
  exact ⟨v,true,⟨rfl,(HF.out v w2 HX.out).1,(HF.out v w2 HX.out).2⟩,fun x hx=>by rw [HV.out] at hx;injection hx with hx;exact ⟨hx,rfl⟩⟩
 ·have hn':∀ v,Lib.atoiAll s.data.toList≠.ok v:=fun v hv=>hn ⟨v,hv⟩
  have HA:=Lib.hid (Atoi3_bad s hs hn' w hE)
  have HV:=Lib.hid hn'
  clear hn hn' hE hg hfin ho
  go_enter Tryz.func41,Tryz.ntmps41
  go_wp2_with fail
  refine HA.out.mono ?_
  rintro _ w2 ⟨x,pv,rfl,hx⟩
  obtain ⟨u,c1⟩:=(HG.out.ext hx).get o HO.out
  have c2:=(HG.out.ext hx).soft o
  have HX:=Lib.hid hx
  clear hx
  go_wp2_with fail
  go_ret
  exact ⟨x,false,⟨rfl,(HF.out x w2 HX.out).1,(HF.out x w2 HX.out).2⟩,fun y hy=>absurd hy (HV.out y)⟩
def kindA:Value:=.agg #[.int .i64 0,.int .i64 10,.int .i64 12]
def kindK (k:Nat):Int:=if k=0 then 0 else if k=1 then 10 else 12
theorem kindK_or (k:Nat):kindK k=0∨kindK k=10∨kindK k=12:=by
 unfold kindK
 split
 ·exact .inl rfl
 ·split
  ·exact .inr (.inl rfl)
  ·exact .inr (.inr rfl)
theorem kindA_at (k:Nat)(h:k<3)(w:World):(Instr.index 146 kindA (.int .i64 (k:Int))).run Tryz.prog w=.ok (.int .i64 (kindK k)) w:=by
 rcases (show k=0∨k=1∨k=2 by omega) with rfl | rfl | rfl<;>kernel_rfl
set_option maxRecDepth 100000 in
set_option maxHeartbeats 1000000 in
theorem readKind_at (s:ByteArray) (g o:Nat) (T:TypeId) (cs:Array Value) (ho:o<cs.size) (w:World) (hg:RW w g T cs):
  Calls Tryz.prog 43 #[.string s,.pointer (some ⟨g,o,none⟩)] w fun e w'=>(∃ k:Int,(k=0∨k=10∨k=12)∧kindW k=s.data.toList∧PutB w g T cs o (.int .i64 k) true e w')∨((∀ k:Int,(k=0∨k=10∨k=12)→kindW k≠s.data.toList)∧e=.returned (.bool false)∧w'=w):=by
 obtain ⟨u,c1⟩:=hg.get o ho
 have c2:=hg.soft o
 have HF:=Lib.hid (fun v=>(⟨grown_set (grown_refl _ _) o _,hg.set o _⟩:w.grownBy (w.setCell ⟨g,o,none⟩ v) (some g)∧RW (w.setCell ⟨g,o,none⟩ v) g T (cs.setIfInBounds o v)))
 have HS:=Lib.hid (ByteArray.toList_eq s)
 clear hg ho
 have hix:=kindA_at
 unfold kindA at hix
 have HIX:=Lib.hid hix
 clear hix
 go_enter Tryz.func43,Tryz.ntmps43
 go_wp2_with fail
 go_loopw [6,8] (fun _ i wr=>∃ k:Nat,k≤3∧i=.int .i64 (k:Int)∧wr=w∧Hid (∀ j,j<k→kindW (kindK j)≠s.data.toList)) (fun _ i _=>3-(intOf i).toNat)
 case atStart=>exact ⟨0,by omega,rfl,rfl,Lib.hid fun j hj=>absurd hj (Nat.not_lt_zero _)⟩
 case round=>
  obtain ⟨k,hk,rfl,rfl,HN⟩:=hrel
  by_cases hlt:k<3
  ·have hix:=HIX.out k hlt wr
   have HK:=Lib.hid (textKind_at (kindK k))
   have HKO:=Lib.hid (kindK_or k)
   by_cases hq:kindW (kindK k)=s.data.toList
   ·have hq':(kindW (kindK k)==s.toList)=true:=by rw [HS.out,hq];exact beq_self_eq_true _
    have HQ:=Lib.hid hq
    generalize kindK k=x at *
    generalize kindW x=L at hq' HK
    clear hq
    go_wp2_with fail
    refine (HK.out _).mono ?_
    rintro _ w2 ⟨rfl,rfl⟩
    go_wp2_with fail
    go_ret
    exact .inl ⟨x,HKO.out,HQ.out,rfl,(HF.out _).1,(HF.out _).2⟩
   ·have hq':(kindW (kindK k)==s.toList)=false:=by rw [HS.out];exact beq_eq_false_iff_ne.2 hq
    have HQ:=Lib.hid (show ∀ j,j<k+1→kindW (kindK j)≠s.data.toList from fun j hj=>by
     rcases Nat.lt_succ_iff_lt_or_eq.1 hj with h | rfl
     ·exact HN.out j h
     ·exact hq)
    generalize kindK k=x at hix HK HKO hq'
    generalize kindW x=L at hq' HK
    clear hq
    go_wp2_with fail
    refine (HK.out _).mono ?_
    rintro _ w2 ⟨rfl,rfl⟩
    go_wp2_with fail
    go_roundw
    case rel=>exact ⟨k+1,by omega,by go_num,by first | trivial | rfl,HQ⟩
    case measure=>simp [intOf];omega
  ·obtain rfl:k=3:=by omega
   go_wp2_with fail
   go_ret
   refine .inr ⟨fun x hx=>?_,rfl,rfl⟩
   rcases hx with rfl | rfl | rfl
   ·exact HN.out 0 (by omega)
   ·exact HN.out 1 (by omega)
   ·exact HN.out 2 (by omega)
set_option maxRecDepth 100000 in
set_option maxHeartbeats 1000000 in
theorem readName_at' (s:ByteArray) (hs:s.size≤3000) (g o:Nat) (T:TypeId) (cs:Array Value) (ho:o+1<cs.size) (w:World) (hg:RW w g T cs):
  Calls Tryz.prog 45 #[.string s,.pointer (some ⟨g,o,none⟩)] w fun e w'=>
   (s.data.toList=[45]∧e=.returned (.bool true)∧w'=w) ∨
   (∃ A c ps r,prsB (dat ps) r.data.toList=true∧prsW (dat ps) r.data.toList=s.data.toList∧e=.returned (.bool true)∧w.grownBy w' (some g)∧RW w' g T ((cs.setIfInBounds o (.slice A ps.length c)).setIfInBounds (o+1) (.string r))∧RS w' (.slice A ps.length c) (sv ps)∧(∀ ad,A=some ad→w.heap.size≤ad.block)∧(∀ p∈ps,p.size≤1000)∧r.size≤1000∧ps.length≤1000) ∨
   ((∀ (ls:List (List UInt8)) (r:List UInt8),prsB ls r=true→prsW ls r≠s.data.toList)∧e=.returned (.bool false)∧w.grownBy w' (some g)):=by
 by_cases h:s.data.toList=[45]
 ·have e1:(s.toList==[45])=true:=by rw [ByteArray.toList_eq,h];rfl
  have HD:=Lib.hid h
  clear h
  go_enter Tryz.func45,Tryz.ntmps45
  go_wp2_with fail
  go_ret
  exact .inl ⟨HD.out,rfl,rfl⟩
 ·have e1:(s.toList==[45])=false:=by rw [ByteArray.toList_eq];exact beq_eq_false_iff_ne.2 h
  have HD:=Lib.hid h
  have HP:=Lib.hid (NParse_own s hs w)
  have HG:=Lib.hid hg;have HO:=Lib.hid ho;have HLG:=Lib.hid (Array.getElem?_eq_some_iff.1 hg).1
  clear h hg ho
  go_enter Tryz.func45,Tryz.ntmps45
  go_wp2_with fail
  refine HP.out.mono ?_
  rintro en w2 ⟨hp | hp,hx⟩
  ·obtain ⟨A,c,ps,r,h1,h2,rfl,h3,h4⟩:=hp
   have hbx:=heap_alloc_new w2 (.cells #[.slice A ps.length c,.string r] 37)
   have hx3:=(Ext.refl w2).alloc (.cells #[.slice A ps.length c,.string r] 37)
   obtain ⟨W3,hW3⟩:∃ W3,w2.alloc (.cells #[.slice A ps.length c,.string r] 37)=W3:=⟨_,rfl⟩
   rw [hW3] at hbx hx3
   obtain ⟨q0,q1⟩:=(show PB W3 w2.heap.size _ _ from hbx).cells
   have hg3:=HG.out.ext (hx.trans hx3)
   obtain ⟨u0,c0⟩:=hg3.get o (by have:=HO.out;omega)
   have f0:=hg3.soft o
   have hg4:=hg3.set o (.slice A ps.length c)
   obtain ⟨u1,c1⟩:=hg4.get (o+1) (by simpa using HO.out)
   have f1:=hg4.soft (o+1)
   have hgr:w.grownBy ((W3.setCell ⟨g,o,none⟩ (.slice A ps.length c)).setCell ⟨g,o+1,none⟩ (.string r)) (some g):=grown_set (grown_set ((hx.trans hx3).but _) o _) (o+1) _
   have hg5:=hg4.set (o+1) (.string r)
   have HGR:=Lib.hid hgr;have HG5:=Lib.hid hg5
   obtain ⟨W4,hW4⟩:∃ W4,W3.setCell ⟨g,o,none⟩ (.slice A ps.length c)=W4:=⟨_,rfl⟩
   rw [hW4] at c1 f1
   have HX:=Lib.hid hx;have HX3:=Lib.hid hx3;have H1:=Lib.hid h1;have H2:=Lib.hid h2;have H3:=Lib.hid h3;have H4:=Lib.hid h4
   clear hbx hx hx3 h1 h2 h3 h4 hg3 hg4 hg5 hgr
   go_wp2_with fail
   go_ret
   have hfar:∀ ad,A=some ad→ad.block≠g:=fun ad ha e=>by have:=H4.out ad ha;have:=HLG.out;omega
   have hrs:RS (W4.setCell ⟨g,o+1,none⟩ (.string r)) (.slice A ps.length c) (sv ps):=by
    rw [← hW4]
    exact (H3.out.ext HX3.out).far hfar (grown_set (grown_set (grown_refl _ _) o _) (o+1) _)
   have hnb:=H1.out
   obtain ⟨v1,v2,v3,v4⟩:=nameB_parts hnb
   have hsz:∀ p∈ps,p.size≤1000:=fun p hp=>by obtain ⟨k,hk,rfl⟩:=List.getElem_of_mem hp;have:=part_len v1 hk;omega
   have hr32:r.size≤32:=by rw [← size_list];exact realmB_len v4
   have hn0:noneN (dat ps) r.data.toList=false:=by
    unfold noneN
    cases hd:dat ps with
    | nil=>rw [hd] at v2;simp at v2
    | cons x l=>rfl
   refine .inr (.inl ⟨A,c,ps,r,?_,?_,rfl,hW4 ▸ HGR.out,hW4 ▸ HG5.out,hrs,H4.out,hsz,by omega,by rw [dat_length] at v3;omega⟩)
   ·unfold prsB;rw [hnb,Bool.or_true]
   ·unfold prsW;rw [hn0,if_neg (by decide)];exact H2.out
  ·obtain ⟨h1,he⟩:=hp
   obtain ⟨n,hn⟩:∃ n,0=n:=⟨_,rfl⟩
   obtain ⟨R,hR⟩:∃ R:ByteArray,⟨#[]⟩=R:=⟨_,rfl⟩
   rw [hR] at he
   have he':en=.returned (.tuple #[.agg #[.slice none n n,.string R],.int .i64 6]):=by rw [he,hn]
   subst he'
   clear he hn hR
   have hbx:=heap_alloc_new w2 (.cells #[.slice none n n,.string R] 37)
   have hx3:=(Ext.refl w2).alloc (.cells #[.slice none n n,.string R] 37)
   obtain ⟨W3,hW3⟩:∃ W3,w2.alloc (.cells #[.slice none n n,.string R] 37)=W3:=⟨_,rfl⟩
   rw [hW3] at hbx hx3
   obtain ⟨q0,q1⟩:=(show PB W3 w2.heap.size _ _ from hbx).cells
   have hg3:=HG.out.ext (hx.trans hx3)
   obtain ⟨u0,c0⟩:=hg3.get o (by have:=HO.out;omega)
   have f0:=hg3.soft o
   have hg4:=hg3.set o (.slice none n n)
   obtain ⟨u1,c1⟩:=hg4.get (o+1) (by simpa using HO.out)
   have f1:=hg4.soft (o+1)
   have hgr:w.grownBy ((W3.setCell ⟨g,o,none⟩ (.slice none n n)).setCell ⟨g,o+1,none⟩ (.string R)) (some g):=grown_set (grown_set ((hx.trans hx3).but _) o _) (o+1) _
   have hg5:=hg4.set (o+1) (.string R)
   have HGR:=Lib.hid hgr;have HG5:=Lib.hid hg5
   obtain ⟨W4,hW4⟩:∃ W4,W3.setCell ⟨g,o,none⟩ (.slice none n n)=W4:=⟨_,rfl⟩
   rw [hW4] at c1 f1
   have H1:=Lib.hid h1
   clear hbx hx hx3 h1 hg3 hg4 hg5 hgr
   go_wp2_with fail
   go_ret
   refine .inr (.inr ⟨fun ls q hq e=>?_,rfl,hW4 ▸ HGR.out⟩)
   unfold prsB at hq
   unfold prsW at e
   by_cases hn:noneN ls q=true
   ·rw [if_pos hn] at e
    exact HD.out e.symm
   ·rw [if_neg hn] at e
    rw [Bool.or_eq_true] at hq
    exact H1.out ls q (hq.resolve_left hn) e
end Go.Proofs.YtnjmndofcpnmeaaGreatDoor
