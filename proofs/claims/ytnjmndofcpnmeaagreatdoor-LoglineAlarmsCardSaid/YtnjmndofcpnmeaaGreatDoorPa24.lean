/- Pa24. -/
import Derived.Test.YtnjmndofcpnmeaaGreatDoorPa0
import Derived.Test.YtnjmndofcpnmeaaGreatDoorPa23
import Derived.Test.YtnjmndofcpnmeaaGreatDoorPa3
namespace Go.Proofs.YtnjmndofcpnmeaaGreatDoor
open Go Go.RowKit
set_option linter.unusedVariables false
theorem addA0 (a:Addr):a.add 0=a:=by simp [Addr.add]
theorem addA1 (a:Addr)(n:Nat)(h:n≠0):a.add n=⟨a.block,a.off+n,none⟩:=by unfold Addr.add;rw [if_neg h]
def DA (L:List UInt8)(v:Value)(_:World):Prop:=v=.string ⟨L.toArray⟩
set_option maxRecDepth 100000 in
theorem RATextH_at (b:List UInt8) (A:Option Addr) (c:Nat) (w:World) (hb:BS w (.slice A b.length c) b) (hl:b.length≤16):
  Calls Tryz.prog 88 #[adv 20 A b.length c] w fun e w'=>e=.returned (.string ⟨(txtH b).toArray⟩)∧Ext w w':=by
 have h0:=AB.new w 20 A b.length c
 have x0:=(Ext.refl w).alloc (.cells #[.int .i64 20,.slice A b.length c] 34)
 obtain ⟨W1,e1⟩:∃ W,w.alloc (.cells #[.int .i64 20,.slice A b.length c] 34)=W:=⟨_,rfl⟩
 rw [e1] at h0 x0
 obtain ⟨c0,c1⟩:=h0.cells
 have hcv:=run_str (P:=Tryz.prog) W1 32 9 5 (.slice A b.length c) b Tryz.underlying32 Tryz.underlying5 Tryz.underlying9 (hb.ext x0)
 have HX:=Lib.hid x0
 clear h0 x0 hb
 unfold adv
 go_enter Tryz.func88,Tryz.ntmps88
 go_wp2_with fail
 go_ret
 refine ⟨?_,HX.out⟩
 refine congrArg (fun b=>Ending.returned (.string b)) ?_
 apply ByteArray.ext
 apply Array.toList_inj.1
 simp [ByteArray.data_append,txtH]
theorem txt4_four (p q r t:UInt8):txt4 [p,q,r,t]=Lib.decDigits p.toNat++46::(Lib.decDigits q.toNat++46::(Lib.decDigits r.toNat++46::Lib.decDigits t.toNat)):=by
 simp [txt4,Lib.join,List.intercalate,List.intersperse]
set_option maxRecDepth 100000 in
set_option maxHeartbeats 2000000 in
theorem RAText4_at (b:List UInt8) (A:Option Addr) (c:Nat) (w:World) (hb:BS w (.slice A b.length c) b) (hl:b.length=4):
  Calls Tryz.prog 88 #[adv 2 A b.length c] w fun e w'=>e=.returned (.string ⟨(txt4 b).toArray⟩)∧Ext w w':=by
 obtain ⟨p,q,r,t,rfl⟩:=list4 hl
 have hll:([p,q,r,t]:List UInt8).length=4:=rfl
 rw [hll] at hb ⊢
 obtain ⟨_,_,he,_,_,h3⟩:=hb.open_
 injection he with e1 e2 e3
 subst e1
 obtain ⟨ad,rfl,_,hcell⟩:=h3 (by simp)
 have h0:=AB.new w 2 (some ad) 4 c
 have x0:=(Ext.refl w).alloc (.cells #[.int .i64 2,.slice (some ad) 4 c] 34)
 obtain ⟨W1,e1⟩:∃ W,w.alloc (.cells #[.int .i64 2,.slice (some ad) 4 c] 34)=W:=⟨_,rfl⟩
 rw [e1] at h0 x0
 obtain ⟨c0,c1⟩:=h0.cells
 have C0:=x0.cell (hcell 0 (by simp));have C1:=x0.cell (hcell 1 (by simp));have C2:=x0.cell (hcell 2 (by simp));have C3:=x0.cell (hcell 3 (by simp))
 simp only [List.getElem_cons_zero,List.getElem_cons_succ] at C0 C1 C2 C3
 have az:ad.add 0=ad:=addA0 ad
 rw [az] at C0
 rw [addA1 ad 1 (by decide)] at C1
 rw [addA1 ad 2 (by decide)] at C2
 rw [addA1 ad 3 (by decide)] at C3
 have HC0:=Lib.hid C0;have HC1:=Lib.hid C1;have HC2:=Lib.hid C2;have HC3:=Lib.hid C3
 have lp:=p.toNat_lt;have lq:=q.toNat_lt;have lr:=r.toNat_lt;have lt:=t.toNat_lt
 have l1:(Lib.decDigits p.toNat).length≤21:=decA_len (by omega)
 have l2:(Lib.decDigits q.toNat).length≤21:=decA_len (by omega)
 have l3:(Lib.decDigits r.toNat).length≤21:=decA_len (by omega)
 have l4:(Lib.decDigits t.toNat).length≤21:=decA_len (by omega)
 have HX:=Lib.hid x0
 have HT:=Lib.hid (txt4_four p q r t)
 obtain ⟨L,hL⟩:∃ L,txt4 [p,q,r,t]=L:=⟨_,rfl⟩
 rw [hL] at HT ⊢
 clear h0 x0 hb hcell h3 C0 C1 C2 C3 hL hll hl e2 e3
 unfold adv
 go_enter Tryz.func88,Tryz.ntmps88
 go_wp2_with fail
 refine wp_region_ext (fun i v' w'=>match i with | 4=>DA (Lib.decDigits p.toNat) v' w' | 10=>DA (Lib.decDigits q.toNat) v' w' | 17=>DA (Lib.decDigits r.toNat) v' w' | 24=>DA (Lib.decDigits t.toNat) v' w' | _=>False) (by kernel_rfl) (by kernel_rfl) ?_
 refine wpE_op rfl rfl (fun w' hw' K' hK'=>?_)
 have hE:=hw'.1
 go_step
 refine hK' _ ⟨_,rfl⟩ ?_
 clear hK' K' hE hw' w'
 refine wpE_op rfl rfl (fun w' hw' K' hK'=>?_)
 have hE:=hw'.1
 go_step
 refine hK' _ ⟨_,rfl⟩ ?_
 clear hK' K' hE hw' w'
 refine wpE_op rfl rfl (fun w' hw' K' hK'=>?_)
 have hE:=hw'.1
 have u0:=((Ext.drew _).trans hE).cell HC0.out
 go_step
 refine hK' _ ⟨_,rfl⟩ ?_
 clear hK' K' u0 hE hw' w'
 refine wpE_op rfl rfl (fun w' hw' K' hK'=>?_)
 have hE:=hw'.1
 go_step
 refine hK' _ ⟨_,rfl⟩ ?_
 clear hK' K' hE hw' w'
 refine wpE_call 25 rfl (by simp) rfl (fun w' hw' K' hK'=>?_) ?_
 ·have hE:=hw'.1
  go_step
  refine (RADec_at p.toNat (by omega) _).mono ?_
  rintro _ w2 ⟨rfl,hx⟩
  exact hK' _ _ ⟨_,rfl,rfl⟩ hx
 rintro _ w25x _ rfl
 simp only [Act.put,sT1,sT2,sT3]
 refine wpE_op rfl rfl (fun w' hw' K' hK'=>?_)
 have hE:=hw'.1
 go_step
 refine hK' _ ⟨_,rfl⟩ ?_
 clear hK' K' hE hw' w'
 refine wpE_op rfl rfl (fun w' hw' K' hK'=>?_)
 have hE:=hw'.1
 go_step
 refine hK' _ ⟨_,rfl⟩ ?_
 clear hK' K' hE hw' w'
 refine wpE_op rfl rfl (fun w' hw' K' hK'=>?_)
 have hE:=hw'.1
 go_step
 refine hK' _ ⟨_,rfl⟩ ?_
 clear hK' K' hE hw' w'
 refine wpE_op rfl rfl (fun w' hw' K' hK'=>?_)
 have hE:=hw'.1
 have u0:=((Ext.drew _).trans hE).cell HC1.out
 go_step
 refine hK' _ ⟨_,rfl⟩ ?_
 clear hK' K' u0 hE hw' w'
 refine wpE_op rfl rfl (fun w' hw' K' hK'=>?_)
 have hE:=hw'.1
 go_step
 refine hK' _ ⟨_,rfl⟩ ?_
 clear hK' K' hE hw' w'
 refine wpE_call 31 rfl (by simp) rfl (fun w' hw' K' hK'=>?_) ?_
 ·have hE:=hw'.1
  go_step
  refine (RADec_at q.toNat (by omega) _).mono ?_
  rintro _ w2 ⟨rfl,hx⟩
  exact hK' _ _ ⟨_,rfl,rfl⟩ hx
 rintro _ w31x _ rfl
 simp only [Act.put,sT1,sT2,sT3]
 refine wpE_op rfl rfl (fun w' hw' K' hK'=>?_)
 have hE:=hw'.1
 go_step
 refine hK' _ ⟨_,rfl⟩ ?_
 clear hK' K' hE hw' w'
 refine wpE_op rfl rfl (fun w' hw' K' hK'=>?_)
 have hE:=hw'.1
 go_step
 refine hK' _ ⟨_,rfl⟩ ?_
 clear hK' K' hE hw' w'
 refine wpE_op rfl rfl (fun w' hw' K' hK'=>?_)
 have hE:=hw'.1
 go_step
 refine hK' _ ⟨_,rfl⟩ ?_
 clear hK' K' hE hw' w'
 refine wpE_op rfl rfl (fun w' hw' K' hK'=>?_)
 have hE:=hw'.1
 go_step
 refine hK' _ ⟨_,rfl⟩ ?_
 clear hK' K' hE hw' w'
 refine wpE_op rfl rfl (fun w' hw' K' hK'=>?_)
 have hE:=hw'.1
 have u0:=((Ext.drew _).trans hE).cell HC2.out
 go_step
 refine hK' _ ⟨_,rfl⟩ ?_
 clear hK' K' u0 hE hw' w'
 refine wpE_op rfl rfl (fun w' hw' K' hK'=>?_)
 have hE:=hw'.1
 go_step
 refine hK' _ ⟨_,rfl⟩ ?_
 clear hK' K' hE hw' w'
 refine wpE_call 38 rfl (by simp) rfl (fun w' hw' K' hK'=>?_) ?_
 ·have hE:=hw'.1
  go_step
  refine (RADec_at r.toNat (by omega) _).mono ?_
  rintro _ w2 ⟨rfl,hx⟩
  exact hK' _ _ ⟨_,rfl,rfl⟩ hx
 rintro _ w38x _ rfl
 simp only [Act.put,sT1,sT2,sT3]
 refine wpE_op rfl rfl (fun w' hw' K' hK'=>?_)
 have hE:=hw'.1
 go_step
 refine hK' _ ⟨_,rfl⟩ ?_
 clear hK' K' hE hw' w'
 refine wpE_op rfl rfl (fun w' hw' K' hK'=>?_)
 have hE:=hw'.1
 go_step
 refine hK' _ ⟨_,rfl⟩ ?_
 clear hK' K' hE hw' w'
 refine wpE_op rfl rfl (fun w' hw' K' hK'=>?_)
 have hE:=hw'.1
 go_step
 refine hK' _ ⟨_,rfl⟩ ?_
 clear hK' K' hE hw' w'
 refine wpE_op rfl rfl (fun w' hw' K' hK'=>?_)
 have hE:=hw'.1
 go_step
 refine hK' _ ⟨_,rfl⟩ ?_
 clear hK' K' hE hw' w'
 refine wpE_op rfl rfl (fun w' hw' K' hK'=>?_)
 have hE:=hw'.1
 have u0:=((Ext.drew _).trans hE).cell HC3.out
 go_step
 refine hK' _ ⟨_,rfl⟩ ?_
 clear hK' K' u0 hE hw' w'
 refine wpE_op rfl rfl (fun w' hw' K' hK'=>?_)
 have hE:=hw'.1
 go_step
 refine hK' _ ⟨_,rfl⟩ ?_
 clear hK' K' hE hw' w'
 refine wpE_call 45 rfl (by simp) rfl (fun w' hw' K' hK'=>?_) ?_
 ·have hE:=hw'.1
  go_step
  refine (RADec_at t.toNat (by omega) _).mono ?_
  rintro _ w2 ⟨rfl,hx⟩
  exact hK' _ _ ⟨_,rfl,rfl⟩ hx
 rintro _ w45x _ rfl
 simp only [Act.put,sT1,sT2,sT3]
 refine wpE_op rfl rfl (fun w' hw' K' hK'=>?_)
 have hE:=hw'.1
 go_step
 refine hK' _ ⟨_,rfl⟩ ?_
 clear hK' K' hE hw' w'
 refine wpE_op rfl rfl (fun w' hw' K' hK'=>?_)
 have hE:=hw'.1
 go_step
 refine hK' _ ⟨_,rfl⟩ ?_
 clear hK' K' hE hw' w'
 refine wpE_nil (fun W hW=>?_)
 have HXW:=Lib.hid ((HX.out.trans (Ext.drew _)).trans hW.1)
 clear hW
 go_wp2_with fail
 go_ret
 refine ⟨?_,HXW.out⟩
 rw [HT.out]
 refine congrArg (fun b=>Ending.returned (.string b)) ?_
 apply ByteArray.ext
 apply Array.toList_inj.1
 simp [ByteArray.data_append]
theorem wds_getD:∀ (b:List UInt8) (i:Nat),2*i+1<b.length→(wds b).getD i 0=256*(b.getD (2*i) 0).toNat+(b.getD (2*i+1) 0).toNat
 | [],i,h=>by simp at h
 | [_],i,h=>by simp at h
 | a::c::r,0,_=>rfl
 | a::c::r,i+1,h=>by
  have ih:=wds_getD r i (by simp at h;omega)
  rw [wds,List.getD_cons_succ,ih,show 2*(i+1)=2*i+1+1 by omega,List.getD_cons_succ,List.getD_cons_succ,List.getD_cons_succ,List.getD_cons_succ]
theorem list8 {α:Type}{l:List α}(h:l.length=8):∃ a b c d e f g i,l=[a,b,c,d,e,f,g,i]:=by
 match l,h with
 | [a,b,c,d,e,f,g,i],_=>exact ⟨a,b,c,d,e,f,g,i,rfl⟩
theorem c8_set (G:List Nat)(hG:G.length=8)(i:Nat)(h:i<8)(x:Nat):(c8 G).setIfInBounds i (.int .i64 (x:Int))=c8 (G.set i x):=by
 obtain ⟨a,b,c,d,e,f,g,j,rfl⟩:=list8 hG
 have hi:i=0∨i=1∨i=2∨i=3∨i=4∨i=5∨i=6∨i=7:=by omega
 rcases hi with rfl | rfl | rfl | rfl | rfl | rfl | rfl | rfl<;>rfl
theorem GB.put {w:World}{g:Nat}{G:List Nat}(h:GB w g G)(hG:G.length=8)(i:Nat)(hi:i<8)(x:Nat):GB (w.setCell ⟨g,i,none⟩ (.int .i64 (x:Int))) g (G.set i x):=by
 have:=heap_setCell_same w g i _ _ (.int .i64 (x:Int)) h
 rw [c8_set G hG i hi x] at this
 exact this
theorem GB.soft {w:World}{g:Nat}{G:List Nat}(h:GB w g G)(k:Nat):w.frozen? ⟨g,k,none⟩=false:=frozen_of_row w g k _ _ h
theorem GB.cells {w:World}{g:Nat}{G:List Nat}(h:GB w g G):w.cell? ⟨g,0,none⟩=some (.int .i64 (G.getD 0 0:Nat))∧w.cell? ⟨g,1,none⟩=some (.int .i64 (G.getD 1 0:Nat))∧w.cell? ⟨g,2,none⟩=some (.int .i64 (G.getD 2 0:Nat))∧w.cell? ⟨g,3,none⟩=some (.int .i64 (G.getD 3 0:Nat))∧w.cell? ⟨g,4,none⟩=some (.int .i64 (G.getD 4 0:Nat))∧w.cell? ⟨g,5,none⟩=some (.int .i64 (G.getD 5 0:Nat))∧w.cell? ⟨g,6,none⟩=some (.int .i64 (G.getD 6 0:Nat))∧w.cell? ⟨g,7,none⟩=some (.int .i64 (G.getD 7 0:Nat)):=
 ⟨h.cell 0 (by omega),h.cell 1 (by omega),h.cell 2 (by omega),h.cell 3 (by omega),h.cell 4 (by omega),h.cell 5 (by omega),h.cell 6 (by omega),h.cell 7 (by omega)⟩
set_option maxRecDepth 100000 in
set_option maxHeartbeats 4000000 in
theorem RAText6_at (b:List UInt8) (A:Option Addr) (c:Nat) (w:World) (hb:BS w (.slice A b.length c) b) (hl:b.length=16):
  Calls Tryz.prog 88 #[adv 24 A b.length c] w fun e w'=>e=.returned (.string ⟨(txt6 b).toArray⟩)∧Ext w w':=by
 have HWG:=Lib.hid (wds_getD b)
 have hGl:=wds_length b 8 (by omega)
 have hGt:=wds_lt b
 rw [txt6_ref b]
 obtain ⟨G,hG⟩:∃ G,wds b=G:=⟨_,rfl⟩
 rw [hG] at HWG hGl hGt ⊢
 have hj1:=hjoin_len G hGt
 have h0:=AB.new w 24 A b.length c
 have x0:=(Ext.refl w).alloc (.cells #[.int .i64 24,.slice A b.length c] 34)
 obtain ⟨W1,e1⟩:∃ W,w.alloc (.cells #[.int .i64 24,.slice A b.length c] 34)=W:=⟨_,rfl⟩
 rw [e1] at h0 x0
 obtain ⟨c0,c1⟩:=h0.cells
 have g0:=GB.new W1 [0,0,0,0,0,0,0,0]
 have z1:W1.heap.size=w.heap.size+1:=by rw [← e1];simp
 have x1:=x0.alloc (.cells (c8 [0,0,0,0,0,0,0,0]) 184)
 obtain ⟨W2,e2⟩:∃ W,W1.alloc (.cells (c8 [0,0,0,0,0,0,0,0]) 184)=W:=⟨_,rfl⟩
 rw [e2] at g0 x1
 rw [z1] at g0
 have e2':W1.alloc (.cells #[.int .i64 0,.int .i64 0,.int .i64 0,.int .i64 0,.int .i64 0,.int .i64 0,.int .i64 0,.int .i64 0] 184)=W2:=e2
 have HX:=Lib.hid x1;have HB:=Lib.hid hb;have HG0:=Lib.hid g0;have HGL:=Lib.hid hGl;have HGT:=Lib.hid hGt;have HJ1:=Lib.hid hj1;have HL:=Lib.hid hl
 rw [hl]
 rw [hl] at c1 e1
 clear h0 x0 g0 x1 hb hGl hGt hG hj1 e2 hl
 unfold adv
 go_enter Tryz.func88,Tryz.ntmps88
 go_wp2_with fail
 clear e1 e2' c0 c1
 go_loopw [5] (fun vi wr=>∃ (m:Nat) (H:List Nat),vi=.int .i64 (m:Int)∧m≤8∧Hid (H.length=8)∧Hid (∀ j,j<m→H.getD j 0=G.getD j 0)∧Hid (GB wr (w.heap.size+1) H)∧Hid (Ext w wr)) (fun vi _=>8-(intOf vi).toNat)
 case atStart=>exact ⟨0,_,rfl,by omega,Lib.hid rfl,Lib.hid (fun j hj=>absurd hj (Nat.not_lt_zero j)),HG0,HX⟩
 case round=>
  obtain ⟨m,H,rfl,hm,HHL,HHG,HGB,HXR⟩:=hrel
  by_cases hm8:m<8
  ·have hmi:(m:Int)<8:=by omega
   obtain ⟨_,_,he,_,_,h3⟩:=(HB.out.ext HXR.out).open_
   injection he with e1 e2 e3
   subst e1
   obtain ⟨ad,rfl,_,hcell⟩:=h3 (by have:=HL.out;omega)
   have ca:=hcell (2*m) (by have:=HL.out;omega)
   have cb:=hcell (2*m+1) (by have:=HL.out;omega)
   have hwg:=HWG.out m (by have:=HL.out;omega)
   have hxa:b.getD (2*m) 0=b[2*m]'(by have:=HL.out;omega):=by rw [List.getD_eq_getElem?_getD,List.getElem?_eq_getElem];rfl
   have hxb:b.getD (2*m+1) 0=b[2*m+1]'(by have:=HL.out;omega):=by rw [List.getD_eq_getElem?_getD,List.getElem?_eq_getElem];rfl
   rw [hxa,hxb] at hwg
   generalize b[2*m]'(by have:=HL.out;omega)=x at ca hwg
   generalize b[2*m+1]'(by have:=HL.out;omega)=y at cb hwg
   have hx:=x.toNat_lt;have hy:=y.toNat_lt
   obtain ⟨z,hz⟩:∃ z,256*x.toNat+y.toNat=z:=⟨_,rfl⟩
   have hzi:256*(x.toNat:Int)+(y.toNat:Int)=(z:Int):=by omega
   have hzm:(z:Int)<65536:=by omega
   obtain ⟨q,hq⟩:∃ q,2*m=q:=⟨_,rfl⟩
   have hqi:2*(m:Int)=(q:Int):=by omega
   have hq16:(q:Int)<16:=by omega
   obtain ⟨q1,hq1⟩:∃ q1,q+1=q1:=⟨_,rfl⟩
   have hq1i:(q:Int)+1=(q1:Int):=by omega
   have hq116:(q1:Int)<16:=by omega
   rw [hq] at ca cb
   rw [hq1] at cb
   have HCA:=Lib.hid ca;have HCB:=Lib.hid cb
   have HH2:=Lib.hid (show (H.set m z).length=8 by rw [List.length_set];exact HHL.out)
   have HHG2:=Lib.hid (show ∀ j,j<m+1→(H.set m z).getD j 0=G.getD j 0 from fun j hj=>by
    rw [List.getD_eq_getElem?_getD,List.getElem?_set]
    rcases Nat.lt_succ_iff_lt_or_eq.1 hj with h | rfl
    ·rw [if_neg (by omega),← List.getD_eq_getElem?_getD];exact HHG.out j h
    ·rw [if_pos rfl,if_pos (by rw [HHL.out];exact hm8),hwg,hz];rfl)
   clear h3 hcell e2 e3 ca cb hwg hxa hxb hz hq hq1
   go_wp2_with fail
   refine wp_region_ext_tail 17 (fun i v' w'=>match i with | _=>False) (by kernel_rfl) (by kernel_rfl) ?_
   refine wpE_op rfl rfl (fun w' hw' K' hK'=>?_)
   have hE:=hw'.1
   go_step
   refine hK' _ ⟨_,rfl⟩ ?_
   clear hK' K' hE hw' w'
   refine wpE_op rfl rfl (fun w' hw' K' hK'=>?_)
   have hE:=hw'.1
   go_step
   refine hK' _ ⟨_,rfl⟩ ?_
   clear hK' K' hE hw' w'
   refine wpE_op rfl rfl (fun w' hw' K' hK'=>?_)
   have hE:=hw'.1
   go_step
   refine hK' _ ⟨_,rfl⟩ ?_
   clear hK' K' hE hw' w'
   refine wpE_op rfl rfl (fun w' hw' K' hK'=>?_)
   have hE:=hw'.1
   go_step
   refine hK' _ ⟨_,rfl⟩ ?_
   clear hK' K' hE hw' w'
   refine wpE_op rfl rfl (fun w' hw' K' hK'=>?_)
   have hE:=hw'.1
   go_step
   refine hK' _ ⟨_,rfl⟩ ?_
   clear hK' K' hE hw' w'
   refine wpE_op rfl rfl (fun w' hw' K' hK'=>?_)
   have hE:=hw'.1
   have u0:=((Ext.drew _).trans hE).cell HCA.out
   go_step
   refine hK' _ ⟨_,rfl⟩ ?_
   clear hK' K' u0 hE hw' w'
   refine wpE_op rfl rfl (fun w' hw' K' hK'=>?_)
   have hE:=hw'.1
   go_step
   refine hK' _ ⟨_,rfl⟩ ?_
   clear hK' K' hE hw' w'
   refine wpE_op rfl rfl (fun w' hw' K' hK'=>?_)
   have hE:=hw'.1
   go_step
   refine hK' _ ⟨_,rfl⟩ ?_
   clear hK' K' hE hw' w'
   refine wpE_op rfl rfl (fun w' hw' K' hK'=>?_)
   have hE:=hw'.1
   go_step
   refine hK' _ ⟨_,rfl⟩ ?_
   clear hK' K' hE hw' w'
   refine wpE_op rfl rfl (fun w' hw' K' hK'=>?_)
   have hE:=hw'.1
   go_step
   refine hK' _ ⟨_,rfl⟩ ?_
   clear hK' K' hE hw' w'
   refine wpE_op rfl rfl (fun w' hw' K' hK'=>?_)
   have hE:=hw'.1
   go_step
   refine hK' _ ⟨_,rfl⟩ ?_
   clear hK' K' hE hw' w'
   refine wpE_op rfl rfl (fun w' hw' K' hK'=>?_)
   have hE:=hw'.1
   go_step
   refine hK' _ ⟨_,rfl⟩ ?_
   clear hK' K' hE hw' w'
   refine wpE_op rfl rfl (fun w' hw' K' hK'=>?_)
   have hE:=hw'.1
   go_step
   refine hK' _ ⟨_,rfl⟩ ?_
   clear hK' K' hE hw' w'
   refine wpE_op rfl rfl (fun w' hw' K' hK'=>?_)
   have hE:=hw'.1
   have u0:=((Ext.drew _).trans hE).cell HCB.out
   go_step
   refine hK' _ ⟨_,rfl⟩ ?_
   clear hK' K' u0 hE hw' w'
   refine wpE_op rfl rfl (fun w' hw' K' hK'=>?_)
   have hE:=hw'.1
   go_step
   refine hK' _ ⟨_,rfl⟩ ?_
   clear hK' K' hE hw' w'
   refine wpE_op rfl rfl (fun w' hw' K' hK'=>?_)
   have hE:=hw'.1
   go_step
   refine hK' _ ⟨_,rfl⟩ ?_
   clear hK' K' hE hw' w'
   refine wpE_op rfl rfl (fun w' hw' K' hK'=>?_)
   have hE:=hw'.1
   go_step
   refine hK' _ ⟨_,rfl⟩ ?_
   clear hK' K' hE hw' w'
   refine wpE_nil (fun w7 hw7=>?_)
   have hx7:=(Ext.drew _).trans hw7.1
   have hg7:=HGB.out.ext hx7
   have HX7:=Lib.hid ((HXR.out.trans hx7).setCell (p:=⟨w.heap.size+1,m,none⟩) (by show w.heap.size≤w.heap.size+1;omega) (.int .i64 (z:Int)))
   have f0:=hg7.soft m
   have k0:=hg7.cell m hm8
   have HG7:=Lib.hid (hg7.put HHL.out m hm8 z)
   clear hw7 hx7 hg7
   simp only [List.drop_succ_cons,List.drop_zero]
   go_wp2_with fail
   go_roundw
   case rel=>exact ⟨m+1,H.set m z,by go_num,by omega,HH2,HHG2,HG7,HX7⟩
   case measure=>simp [intOf];omega
  ·have hmge:8≤(m:Int):=by omega
   have hHG:H=G:=by
    refine List.ext_getElem (by rw [HHL.out,HGL.out]) fun j h1 h2=>?_
    have:=HHG.out j (by rw [HHL.out] at h1;omega)
    simpa [List.getD_eq_getElem?_getD,List.getElem?_eq_getElem h1,List.getElem?_eq_getElem h2] using this
   subst hHG
   clear HHL HHG HG0 hm8 hm HX
   go_wp2_with fail
   generalize w.heap.size+1=gb at HGB ⊢
   go_loopw [6,7,8] (fun va vm vi wr2=>∃ (k at_ most:Nat),va=.int .i64 (at_:Int)∧vm=.int .i64 (most:Int)∧vi=.int .i64 (k:Int)∧k≤8∧at_≤8∧most≤8∧Hid (bst 0 H 0 1=bst k (H.drop k) at_ most)∧Hid (Ext wr wr2)) (fun _ _ vi _=>8-(intOf vi).toNat)
   case atStart=>exact ⟨0,0,1,rfl,rfl,rfl,by omega,by omega,by omega,Lib.hid rfl,Lib.hid (Ext.refl _)⟩
   case round=>
    obtain ⟨k,at_,most,rfl,rfl,rfl,hk,hat,hmo,HBS,HX2⟩:=hrel
    have hcs:=(HGB.out.ext HX2.out).cells
    by_cases hk8:k<8
    ·have hki:(k:Int)<8:=by omega
     obtain ⟨u0,u1,u2,u3,u4,u5,u6,u7⟩:=hcs
     have hz8:zrs (H.drop k)≤8:=Nat.le_trans (zrs_le _) (by rw [List.length_drop,HGL.out];omega)
     have HZ:=Lib.hid (RAzeros_at H HGL.out k (by omega) wr)
     have hbs:bst k (H.drop k) at_ most=if most<zrs (H.drop k) then bst (k+1) (H.drop (k+1)) k (zrs (H.drop k)) else bst (k+1) (H.drop (k+1)) at_ most:=by
      rw [List.drop_eq_getElem_cons (show k<H.length by rw [HGL.out];exact hk8),bst]
     obtain ⟨z,hz⟩:∃ z,zrs (H.drop k)=z:=⟨_,rfl⟩
     rw [hz] at HZ hbs hz8
     clear hz
     by_cases hgt:most<z
     ·have HB2:=Lib.hid (show bst 0 H 0 1=bst (k+1) (H.drop (k+1)) k z by rw [HBS.out,hbs,if_pos hgt])
      have hgi:(most:Int)<(z:Int):=by omega
      clear hbs hgt
      go_wp2_with fail
      refine HZ.out.mono ?_
      rintro _ w8 ⟨rfl,hx8⟩
      have HX8:=Lib.hid (HX2.out.trans hx8)
      clear hx8 u0 u1 u2 u3 u4 u5 u6 u7
      go_wp2_with fail
      go_roundw
      case rel=>exact ⟨k+1,k,z,rfl,rfl,by go_num,by omega,by omega,by omega,HB2,HX8⟩
      case measure=>simp [intOf];omega
     ·have HB2:=Lib.hid (show bst 0 H 0 1=bst (k+1) (H.drop (k+1)) at_ most by rw [HBS.out,hbs,if_neg hgt])
      have hgi:(z:Int)≤(most:Int):=by omega
      clear hbs hgt
      go_wp2_with fail
      refine HZ.out.mono ?_
      rintro _ w8 ⟨rfl,hx8⟩
      have HX8:=Lib.hid (HX2.out.trans hx8)
      clear hx8 u0 u1 u2 u3 u4 u5 u6 u7
      go_wp2_with fail
      go_roundw
      case rel=>exact ⟨k+1,at_,most,rfl,rfl,by go_num,by omega,by omega,by omega,HB2,HX8⟩
      case measure=>simp [intOf];omega
    ·obtain rfl:k=8:=by omega
     have hB:bst 0 H 0 1=(at_,most):=by rw [HBS.out,List.drop_eq_nil_of_le (by rw [HGL.out];exact Nat.le_refl _)];rfl
     have HTE:=Lib.hid (show txt6r H (bst 0 H 0 1).1 (bst 0 H 0 1).2=txt6r H at_ most by rw [hB])
     clear hk8 hk HBS hB
     by_cases h1:most=1
     ·subst h1
      have HT:=Lib.hid (show txt6r H at_ 1=[91]++(hjoin H++[93]) by unfold txt6r;rw [if_pos rfl])
      obtain ⟨u0,u1,u2,u3,u4,u5,u6,u7⟩:=hcs
      have hg:=RAgroups_at H HGL.out HGT.out 0 8 (Nat.le_refl _) wr
      rw [List.drop_zero,List.take_of_length_le (by rw [HGL.out];exact Nat.le_refl _)] at hg
      have HGR:=Lib.hid hg
      have hj40:(hjoin H).length≤40:=by have:=HJ1.out;rw [HGL.out] at this;exact this
      clear hg
      go_wp2_with fail
      refine HGR.out.mono ?_
      rintro _ w8 ⟨rfl,hx8⟩
      have HX8:=Lib.hid ((HXR.out.trans HX2.out).trans hx8)
      clear hx8 u0 u1 u2 u3 u4 u5 u6 u7
      go_wp2_with fail
      go_ret
      refine ⟨?_,HX8.out⟩
      rw [HTE.out,HT.out]
      refine congrArg (fun b=>Ending.returned (.string b)) ?_
      apply ByteArray.ext
      apply Array.toList_inj.1
      simp [ByteArray.data_append]
     ·have HT:=Lib.hid (show txt6r H at_ most=[91]++(hjoin (H.take at_)++([58,58]++(hjoin (H.drop (at_+most))++[93]))) by unfold txt6r;rw [if_neg h1])
      have hne:((most:Int)==1)=false:=by rw [beq_eq_false_iff_ne];omega
      have hg1:=fun W=>RAgroups_at H HGL.out HGT.out 0 at_ hat W
      simp only [List.drop_zero,Nat.sub_zero] at hg1
      have hg2:=fun W=>RAgroups_at H HGL.out HGT.out (at_+most) 8 (Nat.le_refl _) W
      have htk:(H.drop (at_+most)).take (8-(at_+most))=H.drop (at_+most):=List.take_of_length_le (by rw [List.length_drop,HGL.out];exact Nat.le_refl _)
      simp only [htk] at hg2
      have hj1:(hjoin (H.take at_)).length≤40:=Nat.le_trans (hjoin_len _ (fun x hx=>HGT.out x (List.mem_of_mem_take hx))) (by rw [List.length_take];omega)
      have hj2:(hjoin (H.drop (at_+most))).length≤40:=Nat.le_trans (hjoin_len _ (fun x hx=>HGT.out x (List.mem_of_mem_drop hx))) (by rw [List.length_drop,HGL.out];omega)
      rw [show ((at_+most:Nat):Int)=(at_:Int)+(most:Int) by omega] at hg2
      have HG1:=Lib.hid hg1;have HG2:=Lib.hid hg2
      have HGW:=Lib.hid (HGB.out.ext HX2.out)
      have him:(at_:Int)≤8:=by omega
      have hia:(most:Int)≤8:=by omega
      obtain ⟨S1,hS1⟩:∃ S,hjoin (H.take at_)=S:=⟨_,rfl⟩
      obtain ⟨S2,hS2⟩:∃ S,hjoin (H.drop (at_+most))=S:=⟨_,rfl⟩
      rw [hS1] at HG1 HT hj1
      rw [hS2] at HG2 HT hj2
      clear hg1 hg2 htk h1 hS1 hS2 hcs
      go_wp2_with fail
      refine wp_region_ext (fun i v' w'=>match i with | 2=>DA S1 v' w' | 9=>DA S2 v' w' | _=>False) (by kernel_rfl) (by kernel_rfl) ?_
      refine wpE_op rfl rfl (fun w' hw' K' hK'=>?_)
      have hE:=hw'.1
      obtain ⟨u0,u1,u2,u3,u4,u5,u6,u7⟩:=(HGW.out.ext ((Ext.drew _).trans hE)).cells
      go_step
      refine hK' _ ⟨_,rfl⟩ ?_
      clear hK' K' u0 u1 u2 u3 u4 u5 u6 u7 hE hw' w'
      refine wpE_op rfl rfl (fun w' hw' K' hK'=>?_)
      have hE:=hw'.1
      go_step
      refine hK' _ ⟨_,rfl⟩ ?_
      clear hK' K' hE hw' w'
      refine wpE_call 88 rfl (by simp) rfl (fun w' hw' K' hK'=>?_) ?_
      ·have hE:=hw'.1
       go_step
       refine (HG1.out _).mono ?_
       rintro _ w2 ⟨rfl,hx⟩
       exact hK' _ _ ⟨_,rfl,rfl⟩ hx
      rintro _ w88x _ rfl
      simp only [Act.put,sT1,sT2,sT3]
      refine wpE_op rfl rfl (fun w' hw' K' hK'=>?_)
      have hE:=hw'.1
      go_step
      refine hK' _ ⟨_,rfl⟩ ?_
      clear hK' K' hE hw' w'
      refine wpE_op rfl rfl (fun w' hw' K' hK'=>?_)
      have hE:=hw'.1
      go_step
      refine hK' _ ⟨_,rfl⟩ ?_
      clear hK' K' hE hw' w'
      refine wpE_op rfl rfl (fun w' hw' K' hK'=>?_)
      have hE:=hw'.1
      obtain ⟨u0,u1,u2,u3,u4,u5,u6,u7⟩:=(HGW.out.ext ((Ext.drew _).trans hE)).cells
      go_step
      refine hK' _ ⟨_,rfl⟩ ?_
      clear hK' K' u0 u1 u2 u3 u4 u5 u6 u7 hE hw' w'
      refine wpE_op rfl rfl (fun w' hw' K' hK'=>?_)
      have hE:=hw'.1
      go_step
      refine hK' _ ⟨_,rfl⟩ ?_
      clear hK' K' hE hw' w'
      refine wpE_op rfl rfl (fun w' hw' K' hK'=>?_)
      have hE:=hw'.1
      go_step
      refine hK' _ ⟨_,rfl⟩ ?_
      clear hK' K' hE hw' w'
      refine wpE_op rfl rfl (fun w' hw' K' hK'=>?_)
      have hE:=hw'.1
      go_step
      refine hK' _ ⟨_,rfl⟩ ?_
      clear hK' K' hE hw' w'
      refine wpE_call 95 rfl (by simp) rfl (fun w' hw' K' hK'=>?_) ?_
      ·have hE:=hw'.1
       go_step
       refine (HG2.out _).mono ?_
       rintro _ w2 ⟨rfl,hx⟩
       exact hK' _ _ ⟨_,rfl,rfl⟩ hx
      rintro _ w95x _ rfl
      simp only [Act.put,sT1,sT2,sT3]
      refine wpE_op rfl rfl (fun w' hw' K' hK'=>?_)
      have hE:=hw'.1
      go_step
      refine hK' _ ⟨_,rfl⟩ ?_
      clear hK' K' hE hw' w'
      refine wpE_op rfl rfl (fun w' hw' K' hK'=>?_)
      have hE:=hw'.1
      go_step
      refine hK' _ ⟨_,rfl⟩ ?_
      clear hK' K' hE hw' w'
      refine wpE_op rfl rfl (fun w' hw' K' hK'=>?_)
      have hE:=hw'.1
      go_step
      refine hK' _ ⟨_,rfl⟩ ?_
      clear hK' K' hE hw' w'
      refine wpE_nil (fun W hW=>?_)
      have HXW:=Lib.hid (((HXR.out.trans HX2.out).trans (Ext.drew _)).trans hW.1)
      clear hW
      go_wp2_with fail
      go_ret
      refine ⟨?_,HXW.out⟩
      rw [HTE.out,HT.out]
      refine congrArg (fun b=>Ending.returned (.string b)) ?_
      apply ByteArray.ext
      apply Array.toList_inj.1
      simp [ByteArray.data_append]
end Go.Proofs.YtnjmndofcpnmeaaGreatDoor
