/- Pq18. -/
import Derived.Test.YtnjmndofcpnmeaaGreatDoorPq5
import Derived.Test.YtnjmndofcpnmeaaGreatDoorPq17
import Derived.Deep.DeepCutAuto
import Derived.Test.YtnjmndofcpnmeaaGreatDoorPq1
import Derived.Test.YtnjmndofcpnmeaaGreatDoorPq15
import Derived.Laws.Append
import Derived.Test.YtnjmndofcpnmeaaGreatDoorPq4
import Derived.Test.YtnjmndofcpnmeaaGreatDoorPq13
import Derived.Laws.EntriesVeiled
import Derived.Test.YtnjmndofcpnmeaaGreatDoorPq3
import Derived.Test.YtnjmndofcpnmeaaGreatDoorPq0
import Derived.Lib.CountLaws
import Derived.Lib.SplitLaws
namespace Go.Proofs.YtnjmndofcpnmeaaGreatDoor
open Go Go.RowKit
set_option linter.unusedVariables false
def WdI (w:World)(n:Nat)(pre:List ByteArray)(W:World):Prop:=∃ f:W32,FB W n f∧Ext w W∧∀ rest,parseW 0#32 (dtb pre++rest)=parseW f rest
def WdX (w:World)(n:Nat)(c:Code)(pre:List ByteArray)(W:World):Prop:=c=.exit 0∧∃ f:W32,FB W n f∧Ext w W∧∀ rest,parseW 0#32 (dtb pre++rest)=f
theorem WdI.stab {B0:Nat}{w:World}(h:w.heap.size≤B0)(n:Nat)(pre:List ByteArray):Stab B0 (WdI w n pre):=Stab.ex fun f=>(FB.stab _ _ _).and ((Stab.ext w h).and (Stab.pure _))
theorem WdX.stab {B0:Nat}{w:World}(h:w.heap.size≤B0)(n:Nat)(c:Code)(pre:List ByteArray):Stab B0 (WdX w n c pre):=(Stab.pure _).and (Stab.ex fun f=>(FB.stab _ _ _).and ((Stab.ext w h).and (Stab.pure _)))
structure FlB (w W0:World) (Bo n:Nat) (s:ByteArray) (bs bp bv:Nat) (pre:List ByteArray) (f:W32) (W:World):Prop where
 fb:FB W n f
 it:SbIt 44 s bs bp bv pre W
 ex:Ext w W
 kf:KeepsFrom Bo W0 W
theorem FlB.stab {B0:Nat}{w W0:World}{Bo n:Nat}(h:w.heap.size≤B0)(h0:W0.heap.size≤B0)(s:ByteArray)(bs bp bv:Nat)(pre:List ByteArray)(f:W32):Stab B0 (FlB w W0 Bo n s bs bp bv pre f):=fun W W' l hl hn hg hh=>
 ⟨FB.stab B0 _ _ W W' l hl hn hg hh.fb,SbIt.stab 44 B0 _ _ _ _ _ W W' l hl hn hg hh.it,Stab.ext w h W W' l hl hn hg hh.ex,Stab.keeps Bo W0 h0 W W' l hl hn hg hh.kf⟩
theorem FlB.ext {w W0 W W':World}{Bo n:Nat}{s:ByteArray}{bs bp bv:Nat}{pre:List ByteArray}{f:W32}(h:FlB w W0 Bo n s bs bp bv pre f W)(hx:Ext W W'):FlB w W0 Bo n s bs bp bv pre f W':=
 ⟨h.fb.ext hx,h.it.ext hx,h.ex.trans hx,h.kf.trans (hx.keeps Bo)⟩
def FlX (w W0:World)(Bo n:Nat)(s:ByteArray)(bs bp bv:Nat)(pre:List ByteArray)(x:ByteArray)(f:W32)(c:Code)(W:World):Prop:=
 (c=.exit 0∧FlB w W0 Bo n s bs bp bv pre f W∧∀ rest,parseW f (x.data.toList::rest)=f)∨(c=.exit 1∧∃ g:W32,FlB w W0 Bo n s bs bp bv pre g W∧∀ rest,parseW f (x.data.toList::rest)=parseW g rest)
theorem FlX.stab {B0:Nat}{w W0:World}{Bo n:Nat}(h:w.heap.size≤B0)(h0:W0.heap.size≤B0)(s:ByteArray)(bs bp bv:Nat)(pre:List ByteArray)(x:ByteArray)(f:W32)(c:Code):Stab B0 (FlX w W0 Bo n s bs bp bv pre x f c):=fun W W' l hl hn hg hh=>by
 rcases hh with ⟨e,hb,hp⟩ | ⟨e,g,hb,hp⟩
 ·exact .inl ⟨e,FlB.stab h h0 s bs bp bv pre f W W' l hl hn hg hb,hp⟩
 ·exact .inr ⟨e,g,FlB.stab h h0 s bs bp bv pre g W W' l hl hn hg hb,hp⟩
def PFl (l:List UInt8)(e:Ending):Prop:=
 (∃ f:W32,nmB f=true∧textF f=l∧e=.returned (.tuple #[.int .u32 (f.toNat:Int),.int .i64 0])) ∨
 ((∀ f:W32,nmB f=true→textF f≠l)∧e=.returned (.tuple #[.int .u32 0,.int .i64 6]))
theorem ownb_far {A B:World}{r:Option Nat}{b n:Nat}{o:Obj}(hr:∀ k,r=some k→k=b)(hg:A.grownBy B r)(hb:n≠b)(h:A.heap[n]? = some o):B.heap[n]? = some o:=
 (hg.block n (Array.getElem?_eq_some_iff.1 h).1 (fun e=>by have:=hr n e.symm;omega)).trans h
theorem ownb_ext {w A B:World}{r:Option Nat}{b:Nat}(hr:∀ k,r=some k→k=b)(hg:A.grownBy B r)(hb:w.heap.size≤b)(h:Ext w A):Ext w B:=h.grown hg (fun k hk=>by have:=hr k hk;omega)
theorem no_text {s:List UInt8}{f:W32}(hp:parseW 0#32 (splb 44 [] s)=f)(h:nmB f=true→textF f≠s):∀ g:W32,nmB g=true→textF g≠s:=fun g hg e=>by
 have:=text_parse hg
 rw [e,hp] at this
 subst this
 exact h hg e
attribute [local go_sem] Oper.semAt_some
set_option maxRecDepth 100000 in
set_option maxHeartbeats 4000000 in
theorem FParse_at (s:ByteArray) (hs:s.size≤3000) (w:World):
  Calls Tryz.prog 52 #[.string s] w fun e w'=>PFl s.data.toList e∧Ext w w':=by
 have HS:=Lib.hid (show s.size≤4294967280 by omega)
 clear hs
 refine calls_of_marks Tryz.func52 rfl ?_
 simp only [Tryz.ntmps52,List.size_toArray,List.length_cons,List.length_nil,Nat.reduceAdd,Nat.reduceSub,Array.replicate_succ,Array.replicate_zero,List.push_toArray,List.append_toArray,List.nil_append,List.cons_append]
 by_cases hd:s.data.toList=[45]
 ·have e1:s.toList=[45]:=by rw [ByteArray.toList_eq];exact hd
  have e2:(s.toList==[45])=true:=by rw [e1];rfl
  have HD:=Lib.hid hd
  clear hd e1
  go_wp2_with fail
  go_step3
  go_wp2_with fail
  try rw [Exit.noGoto_ret]
  exact ⟨.tuple #[.int .u32 0,.int .i64 0],by simp [results,Tryz.results52,go_sem],.inl ⟨0#32,by decide,by rw [HD.out];rfl,rfl⟩,Ext.refl _⟩
 ·have e1:¬ s.toList=[45]:=by rw [ByteArray.toList_eq];exact hd
  have e2:(s.toList==[45])=false:=by rw [beq_eq_false_iff_ne];exact e1
  have HD:=Lib.hid hd
  clear hd e1
  have h0:=heap_alloc_new w (.cells #[.int .u32 0] 39)
  have hx0:=(Ext.refl w).alloc (.cells #[.int .u32 0] 39)
  obtain ⟨w1,hw1⟩:∃ w1,w.alloc (.cells #[.int .u32 0] 39)=w1:=⟨_,rfl⟩
  have hz1:w1.heap.size=w.heap.size+1:=by rw [← hw1];simp
  rw [hw1] at h0 hx0
  have H0:=Lib.hid (show FB w1 w.heap.size 0#32 from h0);have HX0:=Lib.hid hx0;have HZ1:=Lib.hid hz1
  clear h0 hx0 hz1
  go_wp2_with fail
  go_step3
  go_wp2_with fail
  go_step3
  go_wp2_with fail
  refine (SplitSeqB_at 44 s w1).mono ?_
  rintro _ wb ⟨rfl,hit,hzb,hxb⟩
  have HIT:=Lib.hid hit;have HZB:=Lib.hid hzb;have HXB:=Lib.hid (HX0.out.trans hxb);have HFB:=Lib.hid (H0.out.ext hxb)
  clear hit hzb hxb hw1 e2
  go_wp2_with fail
  refine wpIn_wide.1 (wp_rangePR (gf:=199) (lb:=#[.pointer (some ⟨w1.heap.size+1,0,none⟩),.pointer (some ⟨w1.heap.size,0,none⟩),.pointer (some ⟨w1.heap.size+1+1,0,none⟩)]) rfl (Go.Proofs.enters_of Tryz.func199 (by kernel_rfl) rfl)
   (splitb_iter 44 s HS.out w1.heap.size (w1.heap.size+1) (w1.heap.size+1+1) (by omega) (by omega)) (fun _=>rfl) (fun k hk=>by have:=HZB.out;omega) HIT.out (fun pre=>SbIt.stab _ _ _ _ _ _ _)
   (fun pre W=>WdI w w.heap.size pre W) (fun cd pre W=>WdX w w.heap.size cd pre W) (fun pre=>WdI.stab HXB.out.size _ _) (fun cd pre=>WdX.stab HXB.out.size _ _ _)
   (fun pre X Y r hr hg ⟨f,h1,h2,h3⟩=>⟨f,ownb_far hr hg (by have:=HZ1.out;omega) h1,ownb_ext hr hg (by have:=HZ1.out;omega) h2,h3⟩)
   (fun cd pre X Y r hr hg ⟨hc,f,h1,h2,h3⟩=>⟨hc,f,ownb_far hr hg (by have:=HZ1.out;omega) h1,ownb_ext hr hg (by have:=HZ1.out;omega) h2,h3⟩)
   ⟨0#32,HFB.out,HXB.out,fun rest=>rfl⟩ ?_ ?_ ?_)
  ·intro L pre x W hL hnL hzW hIW hitW hGW
   have HXA:=Lib.hid ((Ext.refl W).alloc (.cells #[.string x] 9))
   gi_wp2_with fail
   refine ⟨HXA.out.keeps _,fun W2 hg2 hn2 hsz2 hrec=>?_⟩
   obtain ⟨f,hf,hxf,hpf⟩:=(WdI.stab (B0:=wb.heap.size) HXB.out.size w.heap.size pre) _ W2 L hL hn2 hg2 ((WdI.stab (B0:=wb.heap.size) HXB.out.size w.heap.size pre).later HXA.out hIW)
   have hit2:=(SbIt.stab 44 wb.heap.size s w1.heap.size (w1.heap.size+1) (w1.heap.size+1+1) pre) _ W2 L hL hn2 hg2 ((SbIt.stab 44 wb.heap.size s w1.heap.size (w1.heap.size+1) (w1.heap.size+1+1) pre).later HXA.out hitW)
   have hb2:=(Stab.heap (B:=wb.heap.size) W.heap.size #[.string x] 9 (0,0)) _ W2 L hL hn2 hg2 (heap_alloc_new W (.cells #[.string x] 9))
   have HF:=Lib.hid hf;have HXF:=Lib.hid hxf;have HPF:=Lib.hid hpf;have HIT2:=Lib.hid hit2;have HB2:=Lib.hid hb2;have HREC:=Lib.hid hrec
   have HZ2:=Lib.hid (show wb.heap.size≤W2.heap.size by have:=HXA.out.size;rw [hsz2];omega)
   clear hIW hitW hGW hg2 hn2 hnL hsz2 hf hxf hpf hit2 hb2 hrec
   have HA2:=Lib.hid ((Ext.refl W2).alloc (.cells #[.int .u32 4095,.int .u32 2031807] 39))
   have HR2:=Lib.hid (show RS (W2.alloc (.cells #[.int .u32 4095,.int .u32 2031807] 39)) (.slice (some ⟨W2.heap.size,0,none⟩) 2 2) (fvs [tkM,opM]) from RS.new W2 _ (fvs [tkM,opM]) (by decide))
   gi_wp2_with fail
   refine wide_callR (union2_at tkM opM _ _ _ HR2.out) ?_
   rintro _ W3' ⟨rfl,rfl⟩
   gi_wp2_with fail
   refine wide_callR (Each_at (orW tkM opM) _) ?_
   rintro _ W3 ⟨rfl,hfb3,hz3,hx3⟩
   have HX3:=Lib.hid (HA2.out.trans hx3);have HFB3:=Lib.hid (show FB W3 (W2.alloc (.cells #[.int .u32 4095,.int .u32 2031807] 39)).heap.size allW from hfb3)
   have HS3:=Lib.hid (show w.heap.size≤W3.heap.size by have:=HXF.out.size;have:=HX3.out.size;omega)
   have HS2:=Lib.hid (show W2.heap.size≤W3.heap.size from HX3.out.size)
   simp only [World.size_alloc] at hz3 HFB3
   clear hfb3 hz3 hx3
   simp only [World.size_alloc]
   gi_wp2_with fail
   refine wp_rangeMN (l0:=L) ?hrec (gf:=157) (lb:=#[.pointer (some ⟨W2.heap.size+1,0,none⟩)]) rfl (Go.Proofs.enters_of Tryz.func157 (by kernel_rfl) rfl)
    (each_iter allW (W2.heap.size+1)) (fun _=>rfl) (fun k hk=>hk.elim) HFB3.out (FB.stab _ _ _)
    (fun pre' V=>FlB w W2 wb.heap.size w.heap.size s w1.heap.size (w1.heap.size+1) (w1.heap.size+1+1) pre f V∧V.heap[W.heap.size]? = some (.cells #[.string x] 9 (0,0))∧∀ j∈pre',(nmS j).data.toList≠x.data.toList)
    (fun cd pre' V=>FlX w W2 wb.heap.size w.heap.size s w1.heap.size (w1.heap.size+1) (w1.heap.size+1+1) pre x f cd V)
    (fun pre'=>(FlB.stab HS3.out HS2.out _ _ _ _ _ _).and ((Stab.heap _ _ _ _).and (Stab.pure _))) (fun cd pre'=>FlX.stab HS3.out HS2.out _ _ _ _ _ _ _ _)
    (fun pre' X Y r hr hg h=>?hio) (fun cd pre' X Y r hr hg h=>?hixo) ⟨⟨HF.out.ext HX3.out,HIT2.out.ext HX3.out,HXF.out.trans HX3.out,HX3.out.keeps _⟩,HX3.out.heap HB2.out,fun j hj=>by cases hj⟩ ?hround ?hdone ?hstop
   case hrec=>obtain ⟨r,hr⟩:=HREC.out;exact ⟨r,HX3.out.heap hr⟩
   case hio=>
    have hn:r=none:=by cases r with | none=>rfl | some k=>exact (hr k rfl).elim
    subst hn
    have hx:=grown_of_ext hg
    exact ⟨h.1.ext hx,hx.heap h.2.1,h.2.2⟩
   case hixo=>
    have hn:r=none:=by cases r with | none=>rfl | some k=>exact (hr k rfl).elim
    subst hn
    have hx:=grown_of_ext hg
    rcases h with ⟨e,hb,hp⟩ | ⟨e,g,hb,hp⟩
    ·exact .inl ⟨e,hb.ext hx,hp⟩
    ·exact .inr ⟨e,g,hb.ext hx,hp⟩
   case hround=>
    intro L2 pre2 k2 V3 hL2 hnL2 hzV3 hIV hitV hGV
    simp only [eachEnc]
    gi_wp2_with fail
    refine ⟨KeepsFrom.refl _ _,fun V4 hg4 hn4 hsz4=>?_⟩
    have hI4:=(FlB.stab (B0:=W3.heap.size) HS3.out HS2.out s _ _ _ pre f) V3 V4 L2 hL2 hn4 hg4 hIV.1
    have hb4:=(Stab.heap (B:=W3.heap.size) W.heap.size #[.string x] 9 (0,0)) V3 V4 L2 hL2 hn4 hg4 hIV.2.1
    have hit4:=(FB.stab W3.heap.size _ allW) V3 V4 L2 hL2 hn4 hg4 hitV
    have hne2:=hIV.2.2
    obtain ⟨g1,g2,rfl⟩:=hGV
    have k0:=(row1 hI4.fb).1;have k1:=(row1 hb4).1;have f0:=(row1 hI4.fb).2
    have HI4:=Lib.hid hI4;have HB4:=Lib.hid hb4;have HIT4:=Lib.hid hit4;have HG1:=Lib.hid g1;have HNE:=Lib.hid hne2
    clear hIV hitV hg4 hn4 hnL2 hsz4 hI4 hb4 hit4 g1 hne2
    by_cases he:(nmS k2).data.toList=x.data.toList
    ·have e4:((nmS k2).toList==x.toList)=true:=by rw [ByteArray.toList_eq,ByteArray.toList_eq,he];exact beq_self_eq_true _
     have HF:=Lib.hid (find_at g2 HG1.out (fun j hj=>HNE.out j hj) he)
     clear he
     by_cases hle:(bitW k2).toNat≤f.toNat
     ·have hle2:((bitW k2).toNat:Int)≤(f.toNat:Int):=by omega
      have HP:=Lib.hid (fun rest=>parse_stop rest HF.out hle)
      clear hle
      gi_wp2_with fail
      exact ⟨KeepsFrom.refl _ _,.inl ⟨rfl,HI4.out,HP.out⟩⟩
     ·have hle2:(f.toNat:Int)<((bitW k2).toNat:Int):=by omega
      have HP:=Lib.hid (fun rest=>parse_go rest HF.out hle)
      clear hle
      have HA:=Lib.hid ((Ext.refl V4).alloc (.cells #[.int .u32 (f.toNat:Int),.int .u32 ((bitW k2).toNat:Int)] 39))
      have HR:=Lib.hid (show RS (V4.alloc (.cells #[.int .u32 (f.toNat:Int),.int .u32 ((bitW k2).toNat:Int)] 39)) (.slice (some ⟨V4.heap.size,0,none⟩) 2 2) (fvs [f,bitW k2]) from RS.new V4 _ (fvs [f,bitW k2]) (by simp [fvs,maxLen]))
      have HI5:=Lib.hid (HI4.out.ext HA.out)
      have k5:=(row1 HI5.out.fb).1;have f5:=(row1 HI5.out.fb).2
      gi_wp2_with fail
      refine wide_callR (union2_at f (bitW k2) _ _ _ HR.out) ?_
      rintro _ V5 ⟨rfl,rfl⟩
      gi_wp2_with fail
      refine ⟨HA.out.keepsOthers.from _ |>.trans ((KeepsOthers.setCell _ ⟨w.heap.size,0,none⟩ _).from _),.inr ⟨rfl,orW f (bitW k2),⟨row1_set _ HI5.out.fb,?_,?_,?_⟩,HP.out⟩⟩
      ·exact ⟨heap_far (grown_set1 _ _ _) HI5.out.it.1 (by have:=HZ1.out;omega),heap_far (grown_set1 _ _ _) HI5.out.it.2.1 (by have:=HZ1.out;omega),heap_far (grown_set1 _ _ _) HI5.out.it.2.2 (by have:=HZ1.out;omega)⟩
      ·exact HI5.out.ex.setCell (p:=⟨w.heap.size,0,none⟩) (Nat.le_refl _) _
      ·exact HI5.out.kf.trans ((KeepsOthers.setCell _ ⟨w.heap.size,0,none⟩ _).from _)
    ·have e4:((nmS k2).toList==x.toList)=false:=by rw [ByteArray.toList_eq,ByteArray.toList_eq,beq_eq_false_iff_ne];exact he
     have HE:=Lib.hid he
     clear he
     gi_wp2_with fail
     refine ⟨KeepsFrom.refl _ _,HIT4.out,HI4.out,HB4.out,fun j hj=>?_⟩
     rw [List.mem_append,List.mem_singleton] at hj
     rcases hj with hj | rfl
     ·exact fun e=>HNE.out j hj (by rw [e])
     ·exact fun e=>HE.out (by rw [e])
   case hdone=>
    rintro xs V3 rfl ⟨h1,h2,h3⟩ hit3
    have HP:=Lib.hid (fun rest=>parse_none (f:=f) rest h3)
    clear h2 h3 hit3
    gi_wp2_with fail
    exact ⟨h1.kf,rfl,f,h1.fb,h1.ex,fun rest=>by rw [show dtb (pre++[x])=dtb pre++[x.data.toList] by simp [dtb],List.append_assoc,HPF.out];exact HP.out rest⟩
   case hstop=>
    rintro cd pre' V3 hsp hx
    rcases hx with ⟨rfl,hb,hp⟩ | ⟨rfl,g,hb,hp⟩
    ·gi_wp2_with fail
     exact ⟨hb.kf,rfl,f,hb.fb,hb.ex,fun rest=>by rw [show dtb (pre++[x])=dtb pre++[x.data.toList] by simp [dtb],List.append_assoc,HPF.out];exact hp rest⟩
    ·gi_wp2_with fail
     exact ⟨hb.kf,hb.it,g,hb.fb,hb.ex,fun rest=>by rw [show dtb (pre++[x])=dtb pre++[x.data.toList] by simp [dtb],List.append_assoc,HPF.out];exact hp rest⟩
  ·rintro D xs W hDw hSx ⟨f,hfW,hxW,hp⟩ hD
   have hpW:parseW 0#32 (splb 44 [] s.data.toList)=f:=by have:=hp [];rw [List.append_nil,hSx] at this;exact this
   clear hp hSx
   have HX2:=Lib.hid hxW;have HD:=Lib.hid hD;have HFW:=Lib.hid hfW;have HPW:=Lib.hid hpW
   have k0:=(row1 hfW).1
   clear hxW hD hfW hpW
   cases hv:nmB f with
   | false=>
    have HT:=Lib.hid (Text_no f hv W)
    have HV:=Lib.hid hv
    clear hv
    go_wp2_with fail
    refine HT.out.mono ?_
    rintro _ w5 ⟨rfl,hx5⟩
    have HX5:=Lib.hid (HX2.out.trans hx5);have HD5:=Lib.hid (hx5.heap HD.out)
    clear hx5 k0
    have hxp:Ext w (w5.putObj D (.deferred none)):=Ext.of_grown HX5.out (grown_put HD5.out) (by have:=HXB.out.size;omega)
    have HXP:=Lib.hid hxp
    clear hxp
    go_wp2_with fail
    refine ⟨by simp,.inl ⟨_,_,rfl,run_takeDeferred HD5.out,?_⟩⟩
    try rw [Exit.noGoto_ret]
    exact ⟨.tuple #[.int .u32 0,.int .i64 6],by simp [results,Tryz.results52,go_sem],.inr ⟨no_text HPW.out (fun h=>by rw [HV.out] at h;cases h),rfl⟩,HXP.out⟩
   | true=>
    have hT:=Text_ok f hv W
    obtain ⟨T,hTe⟩:∃ T,textF f=T:=⟨_,rfl⟩
    rw [hTe] at hT
    have HT:=Lib.hid hT;have HTE:=Lib.hid hTe;have HV:=Lib.hid hv
    clear hv hT hTe
    by_cases he:T=s.data.toList
    ·have e3:(T==s.toList)=true:=by rw [ByteArray.toList_eq,he];exact beq_self_eq_true _
     have HE:=Lib.hid he
     clear he
     go_wp2_with fail
     refine HT.out.mono ?_
     rintro _ w5 ⟨rfl,hx5⟩
     have HX5:=Lib.hid (HX2.out.trans hx5);have HD5:=Lib.hid (hx5.heap HD.out)
     have k5:=(row1 (HFW.out.ext hx5)).1
     clear hx5 k0
     have hxp:Ext w (w5.putObj D (.deferred none)):=Ext.of_grown HX5.out (grown_put HD5.out) (by have:=HXB.out.size;omega)
     have HXP:=Lib.hid hxp
     clear hxp
     go_wp2_with fail
     refine ⟨by simp,.inl ⟨_,_,rfl,run_takeDeferred HD5.out,?_⟩⟩
     try rw [Exit.noGoto_ret]
     exact ⟨.tuple #[.int .u32 (f.toNat:Int),.int .i64 0],by simp [results,Tryz.results52,go_sem],.inl ⟨f,HV.out,HTE.out.trans HE.out,rfl⟩,HXP.out⟩
    ·have e3:(T==s.toList)=false:=by rw [ByteArray.toList_eq,beq_eq_false_iff_ne];exact he
     have HE:=Lib.hid he
     clear he
     go_wp2_with fail
     refine HT.out.mono ?_
     rintro _ w5 ⟨rfl,hx5⟩
     have HX5:=Lib.hid (HX2.out.trans hx5);have HD5:=Lib.hid (hx5.heap HD.out)
     clear hx5 k0
     have hxp:Ext w (w5.putObj D (.deferred none)):=Ext.of_grown HX5.out (grown_put HD5.out) (by have:=HXB.out.size;omega)
     have HXP:=Lib.hid hxp
     clear hxp
     go_wp2_with fail
     refine ⟨by simp,.inl ⟨_,_,rfl,run_takeDeferred HD5.out,?_⟩⟩
     try rw [Exit.noGoto_ret]
     exact ⟨.tuple #[.int .u32 0,.int .i64 6],by simp [results,Tryz.results52,go_sem],.inr ⟨no_text HPW.out (fun _ h=>HE.out (HTE.out.symm.trans h)),rfl⟩,HXP.out⟩
  ·rintro D cd pre W hDw ⟨rest,hrest⟩ ⟨rfl,f,hfW,hxW,hp⟩ hD
   have hpW:parseW 0#32 (splb 44 [] s.data.toList)=f:=by rw [hrest];exact hp rest
   clear hp hrest
   refine wpIn_wide.2 ?_
   have HX2:=Lib.hid hxW;have HD:=Lib.hid hD;have HFW:=Lib.hid hfW;have HPW:=Lib.hid hpW
   have k0:=(row1 hfW).1
   clear hxW hD hfW hpW
   cases hv:nmB f with
   | false=>
    have HT:=Lib.hid (Text_no f hv W)
    have HV:=Lib.hid hv
    clear hv
    go_wp2_with fail
    refine HT.out.mono ?_
    rintro _ w5 ⟨rfl,hx5⟩
    have HX5:=Lib.hid (HX2.out.trans hx5);have HD5:=Lib.hid (hx5.heap HD.out)
    clear hx5 k0
    have hxp:Ext w (w5.putObj D (.deferred none)):=Ext.of_grown HX5.out (grown_put HD5.out) (by have:=HXB.out.size;omega)
    have HXP:=Lib.hid hxp
    clear hxp
    go_wp2_with fail
    refine ⟨by simp,.inl ⟨_,_,rfl,run_takeDeferred HD5.out,?_⟩⟩
    try rw [Exit.noGoto_ret]
    exact ⟨.tuple #[.int .u32 0,.int .i64 6],by simp [results,Tryz.results52,go_sem],.inr ⟨no_text HPW.out (fun h=>by rw [HV.out] at h;cases h),rfl⟩,HXP.out⟩
   | true=>
    have hT:=Text_ok f hv W
    obtain ⟨T,hTe⟩:∃ T,textF f=T:=⟨_,rfl⟩
    rw [hTe] at hT
    have HT:=Lib.hid hT;have HTE:=Lib.hid hTe;have HV:=Lib.hid hv
    clear hv hT hTe
    by_cases he:T=s.data.toList
    ·have e3:(T==s.toList)=true:=by rw [ByteArray.toList_eq,he];exact beq_self_eq_true _
     have HE:=Lib.hid he
     clear he
     go_wp2_with fail
     refine HT.out.mono ?_
     rintro _ w5 ⟨rfl,hx5⟩
     have HX5:=Lib.hid (HX2.out.trans hx5);have HD5:=Lib.hid (hx5.heap HD.out)
     have k5:=(row1 (HFW.out.ext hx5)).1
     clear hx5 k0
     have hxp:Ext w (w5.putObj D (.deferred none)):=Ext.of_grown HX5.out (grown_put HD5.out) (by have:=HXB.out.size;omega)
     have HXP:=Lib.hid hxp
     clear hxp
     go_wp2_with fail
     refine ⟨by simp,.inl ⟨_,_,rfl,run_takeDeferred HD5.out,?_⟩⟩
     try rw [Exit.noGoto_ret]
     exact ⟨.tuple #[.int .u32 (f.toNat:Int),.int .i64 0],by simp [results,Tryz.results52,go_sem],.inl ⟨f,HV.out,HTE.out.trans HE.out,rfl⟩,HXP.out⟩
    ·have e3:(T==s.toList)=false:=by rw [ByteArray.toList_eq,beq_eq_false_iff_ne];exact he
     have HE:=Lib.hid he
     clear he
     go_wp2_with fail
     refine HT.out.mono ?_
     rintro _ w5 ⟨rfl,hx5⟩
     have HX5:=Lib.hid (HX2.out.trans hx5);have HD5:=Lib.hid (hx5.heap HD.out)
     clear hx5 k0
     have hxp:Ext w (w5.putObj D (.deferred none)):=Ext.of_grown HX5.out (grown_put HD5.out) (by have:=HXB.out.size;omega)
     have HXP:=Lib.hid hxp
     clear hxp
     go_wp2_with fail
     refine ⟨by simp,.inl ⟨_,_,rfl,run_takeDeferred HD5.out,?_⟩⟩
     try rw [Exit.noGoto_ret]
     exact ⟨.tuple #[.int .u32 0,.int .i64 6],by simp [results,Tryz.results52,go_sem],.inr ⟨no_text HPW.out (fun _ h=>HE.out (HTE.out.symm.trans h)),rfl⟩,HXP.out⟩
end Go.Proofs.YtnjmndofcpnmeaaGreatDoor
namespace Go.Proofs.YtnjmndofcpnmeaaGreatDoor
open Go Go.RowKit
theorem NoU8.of {w:World}{b:Nat}{cs:Array Value}{e:TypeId}{fr:Nat × Nat}(h:w.heap[b]? = some (.cells cs e fr))(hc:∀ x∈cs.toList,∀ n,x≠.int .u8 n):NoU8 w b:=by
 intro q hq v hv
 unfold World.cell? at hv
 rw [hq,h] at hv
 simp only at hv
 split at hv
 ·cases hv
 ·obtain ⟨hlt,he⟩:=Array.getElem?_eq_some_iff.1 hv
  exact hc _ (by rw [← Array.mem_def];exact Array.getElem_mem hlt) v he
theorem NoU8.mem {w:World}{b:Nat}{cs:Array Value}{e:TypeId}(h:NoU8 w b)(hh:w.heap[b]? = some (.cells cs e (0,0))):∀ x∈cs.toList,∀ n,x≠.int .u8 n:=by
 intro x hx n e0
 subst e0
 obtain ⟨j,hj,he⟩:=List.getElem_of_mem hx
 refine h ⟨b,j,none⟩ rfl n ?_
 rw [cell_of_row w b j cs e (0,0) hh,Array.getElem?_eq_getElem (by simpa using hj)]
 simpa using he
theorem NoU8.same {w w':World}{b:Nat}(h:NoU8 w b)(hb:w'.heap[b]? = w.heap[b]?):NoU8 w' b:=by
 intro q hq v hv
 exact h q hq v ((World.cell?_of_block (by rw [hq];exact hb.symm)).trans hv)
theorem mem_zeroCells (z:Array Value)(hz:0<z.size)(n:Nat):∀ x∈(Builtin.zeroCells z n).toList,x∈z.toList:=by
 intro x hx
 unfold Builtin.zeroCells at hx
 simp only [Array.toList_map,List.mem_map] at hx
 obtain ⟨i,_,rfl⟩:=hx
 have hlt:i % z.size<z.size:=Nat.mod_lt _ hz
 rw [getElem!_pos z _ hlt]
 rw [← Array.mem_def]
 exact Array.getElem_mem hlt
section
variable {P:Program}
theorem append_noU8 (w:World) (base:Nat) (t ty e:TypeId) (i:TypeInfo) (z:Value) (size bytes:Nat) (ht:P.underlying t=some (.slice e)) (hi:P.info? e=some i) (hz:i.zero=some z)
  (hsize:i.size=size) (hby:i.bytes=bytes) (hzs:z.cells.size=size) (hsz:0<size)
  (v:Value) (n:Nat) (xs:List Value) (hown:w.ownsRow base e size v n xs)
  (a:Addr) (m c:Nat) (news:List Value) (hl:news.length=m*size) (hnews:∀ j u,news[j]? = some u→w.cell? (a.add j)=some u) (h1:∀ u∈news,u.oneCell'=true)
  (hm0:0<m) (h63:n+m≤maxLen) (hbytes:(n+m)*bytes≤140737488355328)
  (h0:∀ r,v.ownBlock=some r→NoU8 w r) (hzn:∀ x∈z.cells.toList,∀ n,x≠.int .u8 n) (hnn:∀ x∈news,∀ n,x≠.int .u8 n)
  (v':Value) (w':World) (hrun:(Builtin.append_ #[t,t] ty #[v,.slice (some a) m c]).run P w=.ok v' w'):∀ r,v'.ownBlock=some r→NoU8 w' r:=by
 subst hsize
 subst hby
 have hsmall:n+m≤9223372036854775807:=by simp only [maxLen] at h63;omega
 rcases hown.2 with ⟨rfl,rfl⟩ | ⟨g,cap,cur,rfl,hbg,hg,hnc,hcm,hcs,htake⟩
 ·have hr:=run_append_nil (P:=P) w t ty e i z ht hi hz a m c news hl hnews hm0 (by omega) (by have hb:=hbytes;simp only [Nat.zero_add] at hb;omega)
  rw [hrun] at hr
  injection hr with e1 e2
  subst e1;subst e2
  intro r hr
  simp only [Value.ownBlock,Option.some.injEq] at hr
  subst hr
  refine NoU8.of (heap_alloc_new w.drew _) fun x hx n=>?_
  simp only [Array.toList_append,List.mem_append] at hx
  rcases hx with hx | hx
  ·exact hnn x hx n
  ·exact hzn x (mem_zeroCells _ (by omega) _ x hx) n
 ·by_cases hroom:n+m≤cap
  ·have hfit:n*i.size+news.length≤cur.size:=by rw [hl,hcs,← Nat.add_mul];exact Nat.mul_le_mul_right _ hroom
   have hr:=run_append_room (P:=P) w t ty e i ht hi g n cap cur hg a m c news hl hnews h1 hroom hfit
   rw [hrun] at hr
   injection hr with e1 e2
   subst e1;subst e2
   intro r hr
   simp only [Value.ownBlock,Option.some.injEq] at hr
   subst hr
   have hcur:=(h0 g rfl).mem hg
   refine NoU8.of (setRow_heap w g cur _ e _ hg) fun x hx n=>?_
   simp only [List.mem_append] at hx
   rcases hx with (hx | hx) | hx
   ·exact hcur x (List.mem_of_mem_take hx) n
   ·exact hnn x hx n
   ·exact hcur x (List.mem_of_mem_drop hx) n
  ·have holds:∀ j u,xs[j]? = some u→w.cell? ((⟨g,0,none⟩:Addr).add j)=some u:=hown.cells (g:=g) rfl
   have hr:=run_append_grow (P:=P) w t ty e i z ht hi hz ⟨g,0,none⟩ n cap xs hown.1 holds a m c news hl hnews (by omega) (by omega) (growslice_fits (by omega) hbytes)
   rw [hrun] at hr
   injection hr with e1 e2
   subst e1;subst e2
   intro r hr
   simp only [Value.ownBlock,Option.some.injEq] at hr
   subst hr
   have hcur:=(h0 g rfl).mem hg
   refine NoU8.of (heap_alloc_new w.drew _) fun x hx n=>?_
   simp only [Array.toList_append,List.mem_append] at hx
   rcases hx with (hx | hx) | hx
   ·refine hcur x ?_ n
    rw [← htake] at hx
    exact List.mem_of_mem_take hx
   ·exact hnn x hx n
   ·exact hzn x (mem_zeroCells _ (by omega) _ x hx) n
end
end Go.Proofs.YtnjmndofcpnmeaaGreatDoor
namespace Go.Proofs.YtnjmndofcpnmeaaGreatDoor
open Go Go.Lib
set_option linter.unusedVariables false
theorem parse_zeros (n:Nat)(r:List UInt8):parseUint10 0 (List.replicate n 48++r)=parseUint10 0 r:=by
 induction n with
 | zero=>rfl
 | succ n ih=>
  have e:(48:UInt8).toNat=48:=by decide
  rw [List.replicate_succ,List.cons_append,parseUint10,e,if_pos (by omega),if_neg (by omega),if_neg (by omega)]
  exact ih
theorem atoi_pad (n u:Nat)(h:u<1844674407370955162):atoiAll (List.replicate n 48++decDigits u)=.ok (u:Int):=by
 cases n with
 | zero=>exact atoi_dec u h
 | succ n=>
  have hp:parseMag (List.replicate (n+1) 48++decDigits u)=.ok u:=by
   rw [parseMag,if_neg (by simp),parse_zeros]
   have:=parse_dec u h []
   rw [List.append_nil] at this
   rw [this]
   rfl
  rw [List.replicate_succ,List.cons_append] at hp ⊢
  rw [atoiAll_plain 48 _ (by decide) (by decide),hp]
  unfold signless
  simp only
  rw [if_neg (by omega)]
theorem atoi_itoa' {x:Int}(h0:0≤x)(h1:x≤1099511627776):atoiAll (itoa x)=.ok x:=by
 rw [itoa_nn h0,atoi_dec _ (by omega)]
 congr 1
 omega
theorem atoi_mi {m:Int}(h0:0≤m)(h1:m≤999999)(n:Nat):atoiAll (List.replicate n 48++itoa m)=.ok m:=by
 rw [itoa_nn h0,atoi_pad _ _ (by omega)]
 congr 1
 omega
theorem cut_tim {t m:Int}(h:0≤t):cut (timW t m) [46]=(itoa t,List.replicate (6-(itoa m).length) 48++itoa m,true):=by
 have n1:(46:UInt8) ∉ itoa t:=by rw [itoa_nn h];exact dec_no _ _ (by decide)
 unfold cut timW
 rw [index_hit 46 _ _ n1,if_pos (by omega)]
 simp
def numR (s:List UInt8):Int:=if s.length=0∨15<s.length then -1 else if s.all (fun c=>decide (48≤c.toNat∧c.toNat≤57)) then (valD 0 s:Int) else -1
theorem decD_len (u n:Nat)(h:u<10 ^ (n+1)):(decDigits u).length≤n+1:=by
 induction n generalizing u with
 | zero=>rw [dec_lo u (by omega)];simp
 | succ n ih=>
  by_cases h10:u<10
  ·rw [dec_lo u h10];simp
  ·rw [dec_hi u h10,List.length_append,List.length_singleton]
   have:=ih (u / 10) (by rw [Nat.pow_succ] at h;omega)
   omega
theorem dec_all (u:Nat):(decDigits u).all (fun c=>decide (48≤c.toNat∧c.toNat≤57))=true:=by
 rw [List.all_eq_true]
 intro c hc
 rw [decide_eq_true_eq]
 exact dec_dig u c hc
theorem numR_itoa {x:Int}(h0:0≤x)(h1:x≤1099511627776):numR (itoa x)=x:=by
 have hl:=decD_len x.toNat 12 (by omega)
 have hne:=List.length_pos_iff.2 (dec_ne x.toNat)
 rw [itoa_nn h0]
 unfold numR
 rw [if_neg (by omega),if_pos (dec_all _),valD_dec]
 omega
theorem numR_mi {m:Int}(h0:0≤m)(h1:m≤999999):numR (List.replicate (6-(itoa m).length) 48++itoa m)=m:=by
 have hl:=decD_len m.toNat 5 (by omega)
 have hne:=List.length_pos_iff.2 (dec_ne m.toNat)
 have hlen:(List.replicate (6-(decDigits m.toNat).length) 48++decDigits m.toNat:List UInt8).length=6:=by rw [List.length_append,List.length_replicate];omega
 rw [itoa_nn h0]
 unfold numR
 rw [if_neg (by rw [hlen];omega),if_pos,valD_zeros,valD_dec]
 ·omega
 ·rw [List.all_append,Bool.and_eq_true]
  refine ⟨?_,dec_all _⟩
  rw [List.all_eq_true]
  intro c hc
  rw [(List.mem_replicate.1 hc).2]
  decide
theorem dec_lead (n:Nat):∀ u,u<10 ^ (n+1)→decDigits (10 ^ (n+1)+u)=49::(List.replicate (n+1-(decDigits u).length) 48++decDigits u):=by
 induction n with
 | zero=>
  intro u h
  have h10:u<10:=by simpa using h
  rw [dec_hi (10 ^ (0+1)+u) (by simp),dec_lo u h10,show (10 ^ (0+1)+u) / 10=1 by simp;omega,show (10 ^ (0+1)+u) % 10=u by simp;omega,dec_lo 1 (by omega)]
  rfl
 | succ n ih=>
  intro u h
  have hp:10 ^ (n+1+1)=10 ^ (n+1)*10:=Nat.pow_succ 10 (n+1)
  have hpos:0<10 ^ (n+1):=Nat.pos_of_ne_zero (by simp)
  rw [dec_hi (10 ^ (n+1+1)+u) (by omega),show (10 ^ (n+1+1)+u) / 10=10 ^ (n+1)+u / 10 by omega,show (10 ^ (n+1+1)+u) % 10=u % 10 by omega,ih (u / 10) (by omega)]
  by_cases h10:u<10
  ·rw [show u / 10=0 by omega,dec_lo 0 (by omega),dec_lo u h10,show u % 10=u by omega]
   simp only [List.length_singleton,List.cons_append,List.append_assoc]
   rw [show n+1-1=n by omega,show n+1+1-1=n+1 by omega,List.replicate_succ']
   simp
  ·rw [dec_hi u h10,List.length_append,List.length_singleton]
   rw [show n+1+1-((decDigits (u / 10)).length+1)=n+1-(decDigits (u / 10)).length by omega]
   simp
theorem micro_ref {m:Int}(h0:0≤m)(h1:m≤999999):(itoa (1000000+m)).drop 1=List.replicate (6-(itoa m).length) 48++itoa m:=by
 have h:=dec_lead 5 m.toNat (by omega)
 rw [itoa_nn (by omega),itoa_nn h0,show (1000000+m).toNat=10 ^ (5+1)+m.toNat by omega,h]
 rfl
end Go.Proofs.YtnjmndofcpnmeaaGreatDoor
namespace Go.Proofs.YtnjmndofcpnmeaaGreatDoor
open Go Go.RowKit
set_option linter.unusedVariables false
def fcs (f:FV):Array Value:=#[.int .i64 f.t,.int .i64 f.mi,.int .i64 f.kd,.int .i64 f.fk,.slice f.FA f.fb.length f.fc,.slice f.CA f.cp.length f.cc,.string f.cr,.slice f.SA f.sp.length f.sc,.string f.sr,.int .i64 f.co,.int .i64 f.pr,.int .u32 (f.fl.toNat:Int)]
theorem FBx.rw {w:World}{g:Nat}{f:FV}(h:FBx w g f):RW w g 41 (fcs f):=h
def EBx (w:World)(g:Nat):Prop:=∃ x:Int,RW w g 25 #[.int .i64 x]
theorem EBx.ext {w w':World}{g:Nat}(h:EBx w g)(hx:Ext w w'):EBx w' g:=let ⟨x,h⟩:=h;⟨x,h.ext hx⟩
theorem fbx_noU8 {w:World}{g:Nat}{f:FV}(h:FBx w g f):NoU8 w g:=
 NoU8.of h fun x hx n e=>by
  subst e
  simp at hx
def Trn (gF gE:Nat)(W W':World):Prop:=∃ W1,W.grownBy W1 (some gF)∧W1.grownBy W' (some gE)
theorem Trn.one {gF gE:Nat}{W W':World}(h:W.grownBy W' (some gF)):Trn gF gE W W':=⟨W',h,grown_refl _ _⟩
theorem Trn.size {gF gE:Nat}{W W':World}(h:Trn gF gE W W'):W.heap.size≤W'.heap.size:=let ⟨_,a,b⟩:=h;Nat.le_trans a.size b.size
theorem Trn.heap {gF gE k:Nat}{o:Obj}{W W':World}(h:Trn gF gE W W')(hk:W.heap[k]? = some o)(h1:k≠gF)(h2:k≠gE):W'.heap[k]? = some o:=let ⟨_,a,b⟩:=h;heap_far b (heap_far a hk h1) h2
theorem Trn.ext {gF gE:Nat}{w W W':World}(h:Trn gF gE W W')(hx:Ext w W)(h1:w.heap.size≤gF)(h2:w.heap.size≤gE):Ext w W':=let ⟨_,a,b⟩:=h;(hx.of_grown a h1).of_grown b h2
theorem DotCut_at (s:ByteArray) (hs:s.size≤3000) (w:World) (hm:MaxL w):
  Calls Tryz.prog 40 #[.string s,.string ⟨#[46]⟩] w fun e w'=>e=.returned (.tuple #[.string ⟨(Lib.cut s.data.toList [46]).1.toArray⟩,.string ⟨(Lib.cut s.data.toList [46]).2.1.toArray⟩,.bool (Lib.cut s.data.toList [46]).2.2])∧Ext w w':=by
 obtain ⟨m,hm⟩:=hm 0 (by kernel_rfl)
 refine (Tryz.strings_Cut s ⟨#[46]⟩ m w (by omega) hm).mono ?_
 rintro e w' ⟨rfl,n,rfl⟩
 exact ⟨rfl,(Ext.refl _).drewN n⟩
set_option maxRecDepth 100000 in
set_option maxHeartbeats 1000000 in
theorem C1_at (s:ByteArray) (hs:s.size≤3000) (gF:Nat) (f:FV) (W:World) (hE:Env W) (hF:FBx W gF f) (hEx:∀ W',W.grownBy W' (some gF)→Env W'):
  Calls Tryz.prog 39 #[.string s,.pointer (some ⟨gF,0,none⟩)] W fun e W'=>∃ (t mi:Int) (b:Bool),e=.returned (.bool b)∧W.grownBy W' (some gF)∧FBx W' gF { f with t:=t,mi:=mi } ∧
   ∀ t' mi':Int,0≤t'∧t'≤1099511627776→0≤mi'∧mi'≤999999→timW t' mi'=s.data.toList→t=t'∧mi=mi'∧b=true:=by
 have HC:=Lib.hid (DotCut_at s hs W hE.maxl)
 have hcl:=cut_len1 s.data.toList [46]
 rw [size_list] at hcl
 have hcv:∀ t' mi':Int,0≤t'∧t'≤1099511627776→0≤mi'∧mi'≤999999→timW t' mi'=s.data.toList→Lib.atoiAll (Lib.cut s.data.toList [46]).1=.ok t'∧Lib.atoiAll (Lib.cut s.data.toList [46]).2.1=.ok mi':=by
  intro t' mi' h1 h2 e
  rw [← e,cut_tim h1.1]
  exact ⟨atoi_itoa' h1.1 h1.2,atoi_mi h2.1 h2.2 _⟩
 have HCV:=Lib.hid hcv
 generalize (Lib.cut s.data.toList [46]).1=P at *
 generalize (Lib.cut s.data.toList [46]).2.1=Q at *
 generalize (Lib.cut s.data.toList [46]).2.2=b0 at *
 have hp:(⟨P.toArray⟩:ByteArray).size≤3000:=by show P.toArray.size≤3000;simp;omega
 have hq:(⟨Q.toArray⟩:ByteArray).size≤3000:=by show Q.toArray.size≤3000;simp;omega
 have H1:=Lib.hid (fun W2 (hx:Ext W W2)=>readNumber_at ⟨P.toArray⟩ hp gF 0 41 (fcs f) (by show 0<12;decide) W2 (hE.ext hx) (hF.rw.ext hx))
 have HEX:=Lib.hid hEx;have HQ:=Lib.hid hq
 clear hcl hcv hp hq hE hF hEx
 go_enter Tryz.func39,Tryz.ntmps39
 go_wp2_with fail
 refine HC.out.mono ?_
 rintro _ w2 ⟨rfl,hx⟩
 have HX:=Lib.hid hx
 clear hx
 go_wp2_with fail
 refine (H1.out w2 HX.out).mono ?_
 rintro _ w3 ⟨v,b,⟨rfl,hg,hr⟩,hs1⟩
 have HG:=Lib.hid (grown_trans (HX.out.but (some gF)) hg);have HR:=Lib.hid (show FBx w3 gF { f with t:=v } from hr);have HS1:=Lib.hid hs1
 clear hg hr hs1
 cases b with
 | false=>
  go_wp2_with fail
  go_ret
  exact ⟨v,f.mi,false,rfl,HG.out,HR.out,fun t' mi' h1 h2 e=>absurd (HS1.out t' (HCV.out t' mi' h1 h2 e).1).2 (by decide)⟩
 | true=>
  have H2:=Lib.hid (readNumber_at ⟨Q.toArray⟩ HQ.out gF 1 41 (fcs { f with t:=v }) (by show 1<12;decide) w3 (HEX.out w3 HG.out) HR.out)
  go_wp2_with fail
  refine H2.out.mono ?_
  rintro _ w4 ⟨u,b,⟨rfl,hg,hr⟩,hs2⟩
  have HG2:=Lib.hid (grown_trans HG.out hg);have HR2:=Lib.hid (show FBx w4 gF { f with t:=v,mi:=u } from hr);have HS2:=Lib.hid hs2
  clear hg hr hs2
  go_wp2_with fail
  go_ret
  exact ⟨v,u,b,rfl,HG2.out,HR2.out,fun t' mi' h1 h2 e=>⟨(HS1.out t' (HCV.out t' mi' h1 h2 e).1).1,HS2.out mi' (HCV.out t' mi' h1 h2 e).2⟩⟩
set_option maxRecDepth 100000 in
theorem C2_at (s:ByteArray) (gF:Nat) (f:FV) (W:World) (hF:FBx W gF f):
  Calls Tryz.prog 42 #[.string s,.pointer (some ⟨gF,0,none⟩)] W fun e W'=>∃ (k:Int) (b:Bool),e=.returned (.bool b)∧W.grownBy W' (some gF)∧FBx W' gF { f with kd:=k } ∧
   ∀ k':Int,(k'=0∨k'=10∨k'=12)→kindW k'=s.data.toList→k=k'∧b=true:=by
 have H1:=Lib.hid (readKind_at s gF 2 41 (fcs f) (by show 2<12;decide) W hF.rw)
 have HF:=Lib.hid hF
 clear hF
 go_enter Tryz.func42,Tryz.ntmps42
 go_wp2_with fail
 refine H1.out.mono ?_
 rintro en w3 (⟨k,hk,hw,rfl,hg,hr⟩ | ⟨hn,rfl,rfl⟩)
 ·have HK:=Lib.hid hk;have HW:=Lib.hid hw;have HG:=Lib.hid hg;have HR:=Lib.hid (show FBx w3 gF { f with kd:=k } from hr)
  clear hk hw hg hr
  go_wp2_with fail
  go_ret
  exact ⟨k,true,rfl,HG.out,HR.out,fun k' hk' e=>⟨kindW_inj HK.out hk' (HW.out.trans e.symm),rfl⟩⟩
 ·have HN:=Lib.hid hn
  clear hn
  go_wp2_with fail
  go_ret
  exact ⟨f.kd,false,rfl,grown_refl _ _,HF.out,fun k' hk' e=>absurd e (HN.out k' hk')⟩
set_option maxRecDepth 100000 in
theorem C3_at (s:ByteArray) (hs:s.size≤3000) (gF:Nat) (f:FV) (W:World) (hF:FBx W gF f):
  Calls Tryz.prog 44 #[.string s,.pointer (some ⟨gF,0,none⟩)] W fun e W'=>
   (s.data.toList=[45]∧e=.returned (.bool true)∧W'=W) ∨
   (∃ A c ps r,prsB (dat ps) r.data.toList=true∧prsW (dat ps) r.data.toList=s.data.toList∧e=.returned (.bool true)∧W.grownBy W' (some gF)∧FBx W' gF { f with CA:=A,cp:=ps,cc:=c,cr:=r }∧RS W' (.slice A ps.length c) (sv ps)∧(∀ ad,A=some ad→W.heap.size≤ad.block)∧(∀ p∈ps,p.size≤1000)∧r.size≤1000∧ps.length≤1000) ∨
   ((∀ (ls:List (List UInt8)) (r:List UInt8),prsB ls r=true→prsW ls r≠s.data.toList)∧e=.returned (.bool false)∧W.grownBy W' (some gF)):=by
 have H1:=Lib.hid (readName_at' s hs gF 5 41 (fcs f) (by show 5+1<12;decide) W hF.rw)
 clear hF
 go_enter Tryz.func44,Tryz.ntmps44
 go_wp2_with fail
 refine H1.out.mono ?_
 rintro en w3 (⟨h1,rfl,rfl⟩ | ⟨A,c,ps,r,h1,h2,rfl,h3,h4,h5⟩ | ⟨h1,rfl,h2⟩)
 ·have HA:=Lib.hid h1
  clear h1
  go_wp2_with fail
  go_ret
  exact .inl ⟨HA.out,rfl,rfl⟩
 ·have HA:=Lib.hid h1;have HB:=Lib.hid h2;have HC:=Lib.hid h3;have HD:=Lib.hid (show FBx w3 gF { f with CA:=A,cp:=ps,cc:=c,cr:=r } from h4);have HE:=Lib.hid h5
  clear h1 h2 h3 h4 h5
  go_wp2_with fail
  go_ret
  exact .inr (.inl ⟨A,c,ps,r,HA.out,HB.out,rfl,HC.out,HD.out,HE.out⟩)
 ·have HA:=Lib.hid h1;have HB:=Lib.hid h2
  clear h1 h2
  go_wp2_with fail
  go_ret
  exact .inr (.inr ⟨HA.out,rfl,HB.out⟩)
set_option maxRecDepth 100000 in
theorem C4_at (s:ByteArray) (hs:s.size≤3000) (gF:Nat) (f:FV) (W:World) (hF:FBx W gF f):
  Calls Tryz.prog 46 #[.string s,.pointer (some ⟨gF,0,none⟩)] W fun e W'=>
   (s.data.toList=[45]∧e=.returned (.bool true)∧W'=W) ∨
   (∃ A c ps r,prsB (dat ps) r.data.toList=true∧prsW (dat ps) r.data.toList=s.data.toList∧e=.returned (.bool true)∧W.grownBy W' (some gF)∧FBx W' gF { f with SA:=A,sp:=ps,sc:=c,sr:=r }∧RS W' (.slice A ps.length c) (sv ps)∧(∀ ad,A=some ad→W.heap.size≤ad.block)∧(∀ p∈ps,p.size≤1000)∧r.size≤1000∧ps.length≤1000) ∨
   ((∀ (ls:List (List UInt8)) (r:List UInt8),prsB ls r=true→prsW ls r≠s.data.toList)∧e=.returned (.bool false)∧W.grownBy W' (some gF)):=by
 have H1:=Lib.hid (readName_at' s hs gF 7 41 (fcs f) (by show 7+1<12;decide) W hF.rw)
 clear hF
 go_enter Tryz.func46,Tryz.ntmps46
 go_wp2_with fail
 refine H1.out.mono ?_
 rintro en w3 (⟨h1,rfl,rfl⟩ | ⟨A,c,ps,r,h1,h2,rfl,h3,h4,h5⟩ | ⟨h1,rfl,h2⟩)
 ·have HA:=Lib.hid h1
  clear h1
  go_wp2_with fail
  go_ret
  exact .inl ⟨HA.out,rfl,rfl⟩
 ·have HA:=Lib.hid h1;have HB:=Lib.hid h2;have HC:=Lib.hid h3;have HD:=Lib.hid (show FBx w3 gF { f with SA:=A,sp:=ps,sc:=c,sr:=r } from h4);have HE:=Lib.hid h5
  clear h1 h2 h3 h4 h5
  go_wp2_with fail
  go_ret
  exact .inr (.inl ⟨A,c,ps,r,HA.out,HB.out,rfl,HC.out,HD.out,HE.out⟩)
 ·have HA:=Lib.hid h1;have HB:=Lib.hid h2
  clear h1 h2
  go_wp2_with fail
  go_ret
  exact .inr (.inr ⟨HA.out,rfl,HB.out⟩)
set_option maxRecDepth 100000 in
theorem C6_at (s:ByteArray) (hs:s.size≤3000) (gF:Nat) (f:FV) (W:World) (hE:Env W) (hF:FBx W gF f):
  Calls Tryz.prog 49 #[.string s,.pointer (some ⟨gF,0,none⟩)] W fun e W'=>∃ (v:Int) (b:Bool),e=.returned (.bool b)∧W.grownBy W' (some gF)∧FBx W' gF { f with co:=v } ∧
   ∀ v':Int,0≤v'∧v'≤1099511627776→Lib.itoa v'=s.data.toList→v=v'∧b=true:=by
 have H1:=Lib.hid (readNumber_at s hs gF 9 41 (fcs f) (by show 9<12;decide) W hE hF.rw)
 clear hF hE
 go_enter Tryz.func49,Tryz.ntmps49
 go_wp2_with fail
 refine H1.out.mono ?_
 rintro _ w3 ⟨v,b,⟨rfl,hg,hr⟩,hs1⟩
 have HG:=Lib.hid hg;have HR:=Lib.hid (show FBx w3 gF { f with co:=v } from hr);have HS1:=Lib.hid hs1
 clear hg hr hs1
 go_wp2_with fail
 go_ret
 exact ⟨v,b,rfl,HG.out,HR.out,fun v' h e=>HS1.out v' (by rw [← e];exact atoi_itoa' h.1 h.2)⟩
set_option maxRecDepth 100000 in
theorem C7_at (s:ByteArray) (hs:s.size≤3000) (gF:Nat) (f:FV) (W:World) (hE:Env W) (hF:FBx W gF f):
  Calls Tryz.prog 50 #[.string s,.pointer (some ⟨gF,0,none⟩)] W fun e W'=>∃ (v:Int) (b:Bool),e=.returned (.bool b)∧W.grownBy W' (some gF)∧FBx W' gF { f with pr:=v } ∧
   ∀ v':Int,0≤v'∧v'≤1099511627776→Lib.itoa v'=s.data.toList→v=v'∧b=true:=by
 have H1:=Lib.hid (readNumber_at s hs gF 10 41 (fcs f) (by show 10<12;decide) W hE hF.rw)
 clear hF hE
 go_enter Tryz.func50,Tryz.ntmps50
 go_wp2_with fail
 refine H1.out.mono ?_
 rintro _ w3 ⟨v,b,⟨rfl,hg,hr⟩,hs1⟩
 have HG:=Lib.hid hg;have HR:=Lib.hid (show FBx w3 gF { f with pr:=v } from hr);have HS1:=Lib.hid hs1
 clear hg hr hs1
 go_wp2_with fail
 go_ret
 exact ⟨v,b,rfl,HG.out,HR.out,fun v' h e=>HS1.out v' (by rw [← e];exact atoi_itoa' h.1 h.2)⟩
set_option maxRecDepth 100000 in
set_option maxHeartbeats 1000000 in
theorem C5_at (s:ByteArray) (hs:s.size≤3000) (gF gE:Nat) (hne:gF≠gE) (f:FV) (W:World) (hE:EnvA W) (hF:FBx W gF f) (hEb:EBx W gE):
  Calls Tryz.prog 47 #[.string s,.pointer (some ⟨gF,0,none⟩),.pointer (some ⟨gE,0,none⟩)] W fun e W'=>
   (∃ k b A c,okA k b=true∧txtA k b=s.data.toList∧e=.returned (.bool true)∧Trn gF gE W W'∧EBx W' gE∧FBx W' gF { f with fk:=k,FA:=A,fb:=b,fc:=c }∧BS W' (.slice A b.length c) b) ∨
   ((∀ k b,okA k b=true→txtA k b≠s.data.toList)∧e=.returned (.bool false)∧Trn gF gE W W'):=by
 obtain ⟨xe,heb⟩:=hEb
 have H1:=Lib.hid (AParse_at s hs W hE)
 have HF:=Lib.hid hF;have HEB:=Lib.hid heb;have HNE:=Lib.hid hne
 clear hE hF heb hne
 go_enter Tryz.func47,Tryz.ntmps47
 go_wp2_with fail
 refine H1.out.mono ?_
 rintro en w2 ⟨⟨k,b,A,c,h1,rfl,h2⟩ | ⟨h1,rfl⟩,hx⟩
 ·unfold adv
  have hf2:RW w2 gF 41 (fcs f):=HF.out.rw.ext hx
  have he2:RW w2 gE 25 #[.int .i64 xe]:=HEB.out.ext hx
  have hg2:W.grownBy w2 (some gF):=hx.but _
  obtain ⟨u2,c2⟩:=hf2.get 3 (by simp [fcs])
  have s2:=hf2.soft 3
  have hf3:=hf2.set 3 (.int .i64 k)
  have hg3:=grown_set hg2 3 (.int .i64 k)
  have he3:RW (w2.setCell ⟨gF,3,none⟩ (.int .i64 k)) gE 25 #[.int .i64 xe]:=heap_far (grown_set (grown_refl _ _) 3 _) he2 (fun e=>HNE.out e.symm)
  obtain ⟨w3,e3⟩:∃ W3,w2.setCell ⟨gF,3,none⟩ (.int .i64 k)=W3:=⟨_,rfl⟩
  rw [e3] at hf3 hg3 he3
  obtain ⟨u3,c3⟩:=hf3.get 4 (by simp [fcs])
  have s3:=hf3.soft 4
  have hf4:=hf3.set 4 (.slice A b.length c)
  have hg4:=grown_set hg3 4 (.slice A b.length c)
  have he4:RW (w3.setCell ⟨gF,4,none⟩ (.slice A b.length c)) gE 25 #[.int .i64 xe]:=heap_far (grown_set (grown_refl _ _) 4 _) he3 (fun e=>HNE.out e.symm)
  obtain ⟨w4,e4⟩:∃ W3,w3.setCell ⟨gF,4,none⟩ (.slice A b.length c)=W3:=⟨_,rfl⟩
  rw [e4] at hf4 hg4 he4
  obtain ⟨u4,c4⟩:=he4.get 0 (by show 0<1;decide)
  have s4:=he4.soft 0
  have he5:=he4.set 0 (.int .i64 0)
  have hf5:=heap_far (grown_set (grown_refl w4 (some gE)) 0 (.int .i64 0)) hf4 HNE.out
  have ht5:Trn gF gE W (w4.setCell ⟨gE,0,none⟩ (.int .i64 0)):=⟨_,hg4,grown_set (grown_refl _ _) 0 _⟩
  obtain ⟨w5,e5⟩:∃ W3,w4.setCell ⟨gE,0,none⟩ (.int .i64 0)=W3:=⟨_,rfl⟩
  rw [e5] at hf5 he5 ht5
  have c5:w5.cell? ⟨gE,0,none⟩=some (.int .i64 0):=by rw [cell_of_row _ _ 0 _ _ (0,0) he5];rfl
  have HT:=Lib.hid ht5;have HE9:=Lib.hid he5;have HF9:=Lib.hid hf5
  have hbs:BS w5 (.slice A b.length c) b:=by
   have hb1:BS w4 (.slice A b.length c) b:=by
    rw [← e4,← e3]
    exact h2.but (fbx_noU8 hf2) (grown_set (grown_set (grown_refl _ _) 3 _) 4 _)
   rw [← e5]
   exact hb1.but (NoU8.of he4 fun x hx n e=>by subst e;simp at hx) (grown_set (grown_refl _ _) 0 _)
  have HBS:=Lib.hid hbs;have HA:=Lib.hid h1
  clear hf2 he2 hf3 he3 hf4 he4 hf5 he5 hg2 hg3 hg4 ht5 hbs h1 h2 hx
  go_wp2_with fail
  go_ret
  obtain ⟨k1,k2⟩:=prsA_some HA.out
  exact .inl ⟨k,b,A,c,k1,k2,rfl,HT.out,⟨_,HE9.out⟩,HF9.out,HBS.out⟩
 ·unfold adv
  have hf2:RW w2 gF 41 (fcs f):=HF.out.rw.ext hx
  have he2:RW w2 gE 25 #[.int .i64 xe]:=HEB.out.ext hx
  have hg2:W.grownBy w2 (some gF):=hx.but _
  obtain ⟨u2,c2⟩:=hf2.get 3 (by simp [fcs])
  have s2:=hf2.soft 3
  have hf3:=hf2.set 3 (.int .i64 0)
  have hg3:=grown_set hg2 3 (.int .i64 0)
  have he3:RW (w2.setCell ⟨gF,3,none⟩ (.int .i64 0)) gE 25 #[.int .i64 xe]:=heap_far (grown_set (grown_refl _ _) 3 _) he2 (fun e=>HNE.out e.symm)
  obtain ⟨w3,e3⟩:∃ W3,w2.setCell ⟨gF,3,none⟩ (.int .i64 0)=W3:=⟨_,rfl⟩
  rw [e3] at hf3 hg3 he3
  obtain ⟨u3,c3⟩:=hf3.get 4 (by simp [fcs])
  have s3:=hf3.soft 4
  have hf4:=hf3.set 4 (.slice none 0 0)
  have hg4:=grown_set hg3 4 (.slice none 0 0)
  have he4:RW (w3.setCell ⟨gF,4,none⟩ (.slice none 0 0)) gE 25 #[.int .i64 xe]:=heap_far (grown_set (grown_refl _ _) 4 _) he3 (fun e=>HNE.out e.symm)
  obtain ⟨w4,e4⟩:∃ W3,w3.setCell ⟨gF,4,none⟩ (.slice none 0 0)=W3:=⟨_,rfl⟩
  rw [e4] at hf4 hg4 he4
  obtain ⟨u4,c4⟩:=he4.get 0 (by show 0<1;decide)
  have s4:=he4.soft 0
  have he5:=he4.set 0 (.int .i64 6)
  have hf5:=heap_far (grown_set (grown_refl w4 (some gE)) 0 (.int .i64 6)) hf4 HNE.out
  have ht5:Trn gF gE W (w4.setCell ⟨gE,0,none⟩ (.int .i64 6)):=⟨_,hg4,grown_set (grown_refl _ _) 0 _⟩
  obtain ⟨w5,e5⟩:∃ W3,w4.setCell ⟨gE,0,none⟩ (.int .i64 6)=W3:=⟨_,rfl⟩
  rw [e5] at hf5 he5 ht5
  have c5:w5.cell? ⟨gE,0,none⟩=some (.int .i64 6):=by rw [cell_of_row _ _ 0 _ _ (0,0) he5];rfl
  have HT:=Lib.hid ht5;have HE9:=Lib.hid he5;have HF9:=Lib.hid hf5
  have HA:=Lib.hid h1
  clear hf2 he2 hf3 he3 hf4 he4 hf5 he5 hg2 hg3 hg4 ht5 h1 hx
  go_wp2_with fail
  go_ret
  exact .inr ⟨fun k b ho e=>(by have:=HA.out;rw [← e,prsA_txt ho] at this;cases this),rfl,HT.out⟩
set_option maxRecDepth 100000 in
set_option maxHeartbeats 1000000 in
theorem C8_at (s:ByteArray) (hs:s.size≤3000) (gF gE:Nat) (hne:gF≠gE) (f:FV) (W:World) (hF:FBx W gF f) (hEb:EBx W gE):
  Calls Tryz.prog 51 #[.string s,.pointer (some ⟨gF,0,none⟩),.pointer (some ⟨gE,0,none⟩)] W fun e W'=>
   (∃ x:W32,nmB x=true∧textF x=s.data.toList∧e=.returned (.bool true)∧Trn gF gE W W'∧EBx W' gE∧FBx W' gF { f with fl:=x }) ∨
   ((∀ x:W32,nmB x=true→textF x≠s.data.toList)∧e=.returned (.bool false)∧Trn gF gE W W'):=by
 obtain ⟨xe,heb⟩:=hEb
 have H1:=Lib.hid (FParse_at s hs W)
 have HF:=Lib.hid hF;have HEB:=Lib.hid heb;have HNE:=Lib.hid hne
 clear hF heb hne
 go_enter Tryz.func51,Tryz.ntmps51
 go_wp2_with fail
 refine H1.out.mono ?_
 rintro en w2 ⟨⟨x,h1,h2,rfl⟩ | ⟨h1,rfl⟩,hx⟩
 ·have hf2:RW w2 gF 41 (fcs f):=HF.out.rw.ext hx
  have he2:RW w2 gE 25 #[.int .i64 xe]:=HEB.out.ext hx
  have hg2:W.grownBy w2 (some gF):=hx.but _
  obtain ⟨u2,c2⟩:=hf2.get 11 (by simp [fcs])
  have s2:=hf2.soft 11
  have hf3:=hf2.set 11 (.int .u32 (x.toNat:Int))
  have hg3:=grown_set hg2 11 (.int .u32 (x.toNat:Int))
  have he3:RW (w2.setCell ⟨gF,11,none⟩ (.int .u32 (x.toNat:Int))) gE 25 #[.int .i64 xe]:=heap_far (grown_set (grown_refl _ _) 11 _) he2 (fun e=>HNE.out e.symm)
  obtain ⟨w3,e3⟩:∃ W3,w2.setCell ⟨gF,11,none⟩ (.int .u32 (x.toNat:Int))=W3:=⟨_,rfl⟩
  rw [e3] at hf3 hg3 he3
  obtain ⟨u3,c3⟩:=he3.get 0 (by show 0<1;decide)
  have s3:=he3.soft 0
  have he4:=he3.set 0 (.int .i64 0)
  have hf4:=heap_far (grown_set (grown_refl w3 (some gE)) 0 (.int .i64 0)) hf3 HNE.out
  have ht4:Trn gF gE W (w3.setCell ⟨gE,0,none⟩ (.int .i64 0)):=⟨_,hg3,grown_set (grown_refl _ _) 0 _⟩
  obtain ⟨w4,e4⟩:∃ W3,w3.setCell ⟨gE,0,none⟩ (.int .i64 0)=W3:=⟨_,rfl⟩
  rw [e4] at hf4 he4 ht4
  have c4:w4.cell? ⟨gE,0,none⟩=some (.int .i64 0):=by rw [cell_of_row _ _ 0 _ _ (0,0) he4];rfl
  have HT:=Lib.hid ht4;have HE9:=Lib.hid he4;have HF9:=Lib.hid hf4
  have HA:=Lib.hid h1;have HB:=Lib.hid h2
  clear hf2 he2 hf3 he3 hf4 he4 hg2 hg3 ht4 h1 h2 hx
  go_wp2_with fail
  go_ret
  exact .inl ⟨x,HA.out,HB.out,rfl,HT.out,⟨_,HE9.out⟩,HF9.out⟩
 ·have hf2:RW w2 gF 41 (fcs f):=HF.out.rw.ext hx
  have he2:RW w2 gE 25 #[.int .i64 xe]:=HEB.out.ext hx
  have hg2:W.grownBy w2 (some gF):=hx.but _
  obtain ⟨u2,c2⟩:=hf2.get 11 (by simp [fcs])
  have s2:=hf2.soft 11
  have hf3:=hf2.set 11 (.int .u32 0)
  have hg3:=grown_set hg2 11 (.int .u32 0)
  have he3:RW (w2.setCell ⟨gF,11,none⟩ (.int .u32 0)) gE 25 #[.int .i64 xe]:=heap_far (grown_set (grown_refl _ _) 11 _) he2 (fun e=>HNE.out e.symm)
  obtain ⟨w3,e3⟩:∃ W3,w2.setCell ⟨gF,11,none⟩ (.int .u32 0)=W3:=⟨_,rfl⟩
  rw [e3] at hf3 hg3 he3
  obtain ⟨u3,c3⟩:=he3.get 0 (by show 0<1;decide)
  have s3:=he3.soft 0
  have he4:=he3.set 0 (.int .i64 6)
  have hf4:=heap_far (grown_set (grown_refl w3 (some gE)) 0 (.int .i64 6)) hf3 HNE.out
  have ht4:Trn gF gE W (w3.setCell ⟨gE,0,none⟩ (.int .i64 6)):=⟨_,hg3,grown_set (grown_refl _ _) 0 _⟩
  obtain ⟨w4,e4⟩:∃ W3,w3.setCell ⟨gE,0,none⟩ (.int .i64 6)=W3:=⟨_,rfl⟩
  rw [e4] at hf4 he4 ht4
  have c4:w4.cell? ⟨gE,0,none⟩=some (.int .i64 6):=by rw [cell_of_row _ _ 0 _ _ (0,0) he4];rfl
  have HT:=Lib.hid ht4;have HE9:=Lib.hid he4;have HF9:=Lib.hid hf4
  have HA:=Lib.hid h1
  clear hf2 he2 hf3 he3 hf4 he4 hg2 hg3 ht4 h1 hx
  go_wp2_with fail
  go_ret
  exact .inr ⟨HA.out,rfl,HT.out⟩
end Go.Proofs.YtnjmndofcpnmeaaGreatDoor
namespace Go.Proofs.YtnjmndofcpnmeaaGreatDoor
open Go Go.Lib
set_option linter.unusedVariables false
theorem splitK_splb (x:UInt8):∀ (n:Nat) (l:List UInt8),l.length≤n→splitK [x] 0 (count l [x]) l=splb x [] l:=by
 intro n
 induction n with
 | zero=>
  intro l hl
  have:l=[]:=List.eq_nil_of_length_eq_zero (by omega)
  subst this
  rfl
 | succ n ih=>
  intro l hl
  by_cases hx:x∈l
  ·obtain ⟨a,b,rfl,ha⟩:=List.eq_append_cons_of_mem hx
   have hi:=index_hit x a b ha
   rw [count_hit (by simp) hi,Nat.add_comm,splitK,if_neg (by rw [hi,beq_iff_eq];omega),hi,splb_hit x a [] b (fun c hc e=>ha (e ▸ hc))]
   have hd:(a++x::b).drop (a.length+1)=b:=by
    rw [List.drop_append]
    simp
   rw [show ((a.length:Int)).toNat=a.length from rfl]
   simp only [List.length_singleton,Nat.add_zero,List.nil_append]
   rw [hd,ih b (by simp at hl;omega)]
   simp
  ·have hi:=index_miss x l hx
   rw [count_miss hi,splb_acc x l [] (fun c hc e=>hx (e ▸ hc))]
   rfl
theorem splitB_splb (x:UInt8)(s:ByteArray):(splitB ⟨#[x]⟩ 0 (countB s ⟨#[x]⟩) s).map (·.data.toList)=splb x [] s.data.toList:=by
 rw [splitB_data]
 exact splitK_splb x _ _ (Nat.le_refl _)
end Go.Proofs.YtnjmndofcpnmeaaGreatDoor
