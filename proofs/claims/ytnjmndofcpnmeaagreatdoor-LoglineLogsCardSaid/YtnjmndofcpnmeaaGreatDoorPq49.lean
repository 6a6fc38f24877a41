/- Pq49. -/
import Derived.Test.YtnjmndofcpnmeaaGreatDoorPq48
namespace Go.Proofs.YtnjmndofcpnmeaaGreatDoor
open Go Go.RowKit
set_option linter.unusedVariables false
noncomputable def prsE (l:List UInt8):Fct × Int:=match prsF l with
 | some f=>(f,0)
 | none=>(fv0.fct,6)
def PRE (l:List UInt8)(e:Ending)(w':World):Prop:=∃ (f:FV) (ev:Int),e=.returned (.tuple #[f.val,.int .i64 ev])∧f.In w'∧f.Sz∧(f.fct,ev)=prsE l
theorem pre_yes {l:List UInt8}{f:FV}(h:f.fct.Ok)(ht:f.fct.txt=l):(f.fct,(0:Int))=prsE l:=by
 unfold prsE
 rw [(prsF_spec l).uniq (.inl ⟨_,rfl,h,ht⟩)]
theorem pre_no {l:List UInt8}(h:∀ F:Fct,F.Ok→F.txt≠l):(fv0.fct,(6:Int))=prsE l:=by
 unfold prsE
 rw [(prsF_spec l).uniq (.inr ⟨rfl,h⟩)]
theorem fv0_in (w:World):fv0.In w:=⟨RS.nil _,RS.nil _,RS.nil _⟩
theorem fv0_sz:fv0.Sz:=⟨by decide,by decide,fun p hp=>(by cases hp),by decide,by decide,fun p hp=>(by cases hp),by decide⟩
theorem ParseE_at (s:ByteArray) (hs:s.size≤2000) (w:World) (hE:EnvA w):
  Calls Tryz.prog 14 #[.string s] w fun e w'=>PRE s.data.toList e w'∧Ext w w':=by
 refine (LParse_at s (by omega) w hE).mono ?_
 rintro e w' ⟨h,hx⟩
 rcases h with ⟨f,hok,ht,rfl,hin,hz,_,_⟩ | ⟨hno,rfl⟩
 ·exact ⟨⟨f,0,rfl,hin,hz,pre_yes hok ht⟩,hx⟩
 ·exact ⟨⟨fv0,6,rfl,fv0_in _,fv0_sz,pre_no hno⟩,hx⟩
theorem RParseE_at (s:ByteArray) (hs:s.size≤2000) (w:World) (hE:EnvA w):
  Calls Tryz.prog 27 #[.string s] w fun e w'=>PRE s.data.toList e w'∧Ext w w':=by
 refine (RFParse_at2 s (by omega) w hE).mono ?_
 rintro e w' ⟨h,hx⟩
 rcases h with ⟨f,hok,ht,rfl,hin,hz,_,_⟩ | ⟨hno,rfl⟩
 ·exact ⟨⟨f,0,rfl,hin,hz,pre_yes hok ht⟩,hx⟩
 ·exact ⟨⟨fv0,6,rfl,fv0_in _,fv0_sz,pre_no hno⟩,hx⟩
noncomputable def plgE (l:List UInt8):List Fct × Int × Int:=((plogF (splb 10 [] l) []).1,((plogF (splb 10 [] l) []).2.1:Int),(plogF (splb 10 [] l) []).2.2)
def PLE (l:List UInt8)(e:Ending)(w':World):Prop:=∃ (A:Option Addr) (c:Nat) (fs:List FV) (n ev:Int),e=.returned (.tuple #[.slice A fs.length c,.int .i64 n,.int .i64 ev])∧FS w' (.slice A fs.length c) fs∧(∀ f∈fs,f.Sz)∧(fs.map FV.fct,n,ev)=plgE l
theorem PLg.ple {B:Nat}{l:List UInt8}{e:Ending}{w':World}(h:PLg B l e w'):PLE l e w':=by
 rcases h with ⟨v,fs,rfl,hrow,hz,he⟩ | ⟨n,rfl,he⟩
 ·obtain ⟨A,c,rfl⟩:=hrow.shape
  exact ⟨A,c,fs,0,0,rfl,hrow.fs,hz,by unfold plgE;rw [he];rfl⟩
 ·exact ⟨none,0,[],n,6,rfl,FS.nil _,fun f hf=>(by cases hf),by unfold plgE;rw [he];rfl⟩
theorem PLogE_at (s:ByteArray) (hs:s.size≤2000) (w:World) (hE:EnvA w):
  Calls Tryz.prog 12 #[.string s] w fun e w'=>PLE s.data.toList e w'∧Ext w w':=by
 refine (LParseLog_at s (by omega) (fun x hx=>?_) w hE).mono ?_
 ·have:=splb_mem_len 10 _ _ _ hx
  rw [size_list] at this
  simp at this
  omega
 ·rintro e w' ⟨h,hx⟩
  exact ⟨h.ple,hx⟩
theorem RPLogE_at (s:ByteArray) (hs:s.size≤2000) (w:World) (hE:EnvA w):
  Calls Tryz.prog 29 #[.string s] w fun e w'=>PLE s.data.toList e w'∧Ext w w':=
 (RParseLog_at s (by omega) w hE).mono fun e w' ⟨h,hx⟩=>⟨h.ple,hx⟩
set_option maxRecDepth 100000 in
set_option maxHeartbeats 2000000 in
theorem lawLgPs (s:ByteArray) (w:World) (hE:EnvA w):
  Calls Tryz.prog 6 #[.string s] w fun e w'=>e=.returned (.bool true)∧Ext w w':=by
 have HE:=Lib.hid hE
 by_cases h4:s.size≤400
 case neg=>
  have q4:(400:Int)<(s.size:Int):=by omega
  have HX0:=Lib.hid (Ext.refl w)
  clear hE h4
  go_enter Tryz.func6,Tryz.ntmps6
  go_wp2_with fail
  refine (LKnown_at _ (HE.out.ext HX0.out)).mono ?_
  rintro _ wk ⟨rfl,hxk⟩
  have HXK:=Lib.hid (HX0.out.trans hxk)
  clear hxk
  go_wp2_with fail
  go_ret
  exact ⟨rfl,HXK.out⟩
 have q4:(s.size:Int)≤400:=by omega
 have HP:=Lib.hid (ParseE_at s (by omega) w hE)
 have HQ:=Lib.hid (fun W (hW:Ext w W)=>RParseE_at s (by omega) W (hE.ext hW))
 clear hE h4
 go_enter Tryz.func6,Tryz.ntmps6
 go_wp2_with fail
 refine HP.out.mono ?_
 rintro _ w1 ⟨⟨f,ev,rfl,hin,hz,he⟩,hx1⟩
 have HX1:=Lib.hid hx1;have HI1:=Lib.hid hin;have HZ1:=Lib.hid hz;have HE1:=Lib.hid he
 clear hx1 hin hz he
 have zZ:=heap_alloc_new w1 (.cells #[.int .i64 0,.int .i64 0,.int .i64 0,.int .i64 0,.slice none 0 0,.slice none 0 0,.string ⟨#[]⟩,.slice none 0 0,.string ⟨#[]⟩,.int .i64 0,.int .i64 0,.int .u32 0] 41)
 have xZ:=(Ext.refl w1).alloc (.cells #[.int .i64 0,.int .i64 0,.int .i64 0,.int .i64 0,.slice none 0 0,.slice none 0 0,.string ⟨#[]⟩,.slice none 0 0,.string ⟨#[]⟩,.int .i64 0,.int .i64 0,.int .u32 0] 41)
 obtain ⟨WZ,eZ⟩:∃ W,w1.alloc (.cells #[.int .i64 0,.int .i64 0,.int .i64 0,.int .i64 0,.slice none 0 0,.slice none 0 0,.string ⟨#[]⟩,.slice none 0 0,.string ⟨#[]⟩,.int .i64 0,.int .i64 0,.int .u32 0] 41)=W:=⟨_,rfl⟩
 rw [eZ] at zZ xZ
 unfold FV.val
 go_upto_region 4 with (first
  | (refine wpList_store_var WZ rfl (.tmp 3) (.tmp 14) 41 rfl w1.heap.size 41 #[.int .i64 0,.int .i64 0,.int .i64 0,.int .i64 0,.slice none 0 0,.slice none 0 0,.string ⟨#[]⟩,.slice none 0 0,.string ⟨#[]⟩,.int .i64 0,.int .i64 0,.int .u32 0] #[.int .i64 f.t,.int .i64 f.mi,.int .i64 f.kd,.int .i64 f.fk,.slice f.FA f.fb.length f.fc,.slice f.CA f.cp.length f.cc,.string f.cr,.slice f.SA f.sp.length f.sc,.string f.sr,.int .i64 f.co,.int .i64 f.pr,.int .u32 (f.fl.toNat:Int)] rfl rfl (Tryz.sizeOf41 WZ) zZ rfl (one8 rfl) ?_;intro WC b3 hg3)
  | fail)
 have x3:Ext w1 WC:=Below.grown xZ hg3 xZ.size (fun j hj=>by cases hj;exact Nat.le_refl _)
 have HB:=Lib.hid (show FQ WC w1.heap.size f from b3)
 have HXC:=Lib.hid (HX1.out.trans x3);have HIC:=Lib.hid (HI1.out.ext x3)
 clear zZ xZ eZ hg3 b3 x3 HX1 HI1
 go_wp2_with fail
 refine (HQ.out _ HXC.out).mono ?_
 rintro _ w2 ⟨⟨g,eh,rfl,hin,hz,he⟩,hx2⟩
 have HX2:=Lib.hid (HXC.out.trans hx2);have HI2:=Lib.hid hin;have HZ2:=Lib.hid hz;have HB2:=Lib.hid (HB.out.ext hx2);have HIF2:=Lib.hid (HIC.out.ext hx2)
 have hfg:f.fct=g.fct∧ev=eh:=by
  have h1:=HE1.out.trans he.symm
  injection h1 with h1 h2
  exact ⟨h1,h2⟩
 obtain ⟨hfg1,rfl⟩:=hfg
 have HSF:=Lib.hid (sameF_fct hfg1)
 clear hx2 hin hz he hfg1 HE1 HB HXC HIC
 have zZ:=heap_alloc_new w2 (.cells #[.int .i64 0,.int .i64 0,.int .i64 0,.int .i64 0,.slice none 0 0,.slice none 0 0,.string ⟨#[]⟩,.slice none 0 0,.string ⟨#[]⟩,.int .i64 0,.int .i64 0,.int .u32 0] 41)
 have xZ:=(Ext.refl w2).alloc (.cells #[.int .i64 0,.int .i64 0,.int .i64 0,.int .i64 0,.slice none 0 0,.slice none 0 0,.string ⟨#[]⟩,.slice none 0 0,.string ⟨#[]⟩,.int .i64 0,.int .i64 0,.int .u32 0] 41)
 obtain ⟨WZ,eZ⟩:∃ W,w2.alloc (.cells #[.int .i64 0,.int .i64 0,.int .i64 0,.int .i64 0,.slice none 0 0,.slice none 0 0,.string ⟨#[]⟩,.slice none 0 0,.string ⟨#[]⟩,.int .i64 0,.int .i64 0,.int .u32 0] 41)=W:=⟨_,rfl⟩
 rw [eZ] at zZ xZ
 unfold FV.val
 go_upto_region 5 with (first
  | (refine wpList_store_var WZ rfl (.tmp 5) (.tmp 19) 41 rfl w2.heap.size 41 #[.int .i64 0,.int .i64 0,.int .i64 0,.int .i64 0,.slice none 0 0,.slice none 0 0,.string ⟨#[]⟩,.slice none 0 0,.string ⟨#[]⟩,.int .i64 0,.int .i64 0,.int .u32 0] #[.int .i64 g.t,.int .i64 g.mi,.int .i64 g.kd,.int .i64 g.fk,.slice g.FA g.fb.length g.fc,.slice g.CA g.cp.length g.cc,.string g.cr,.slice g.SA g.sp.length g.sc,.string g.sr,.int .i64 g.co,.int .i64 g.pr,.int .u32 (g.fl.toNat:Int)] rfl rfl (Tryz.sizeOf41 WZ) zZ rfl (one8 rfl) ?_;intro WD b3 hg3)
  | fail)
 have x3:Ext w2 WD:=Below.grown xZ hg3 xZ.size (fun j hj=>by cases hj;exact Nat.le_refl _)
 have HC3:=Lib.hid (show FQ WD w2.heap.size g from b3)
 have HB3:=Lib.hid (HB2.out.ext x3)
 have HX3:=Lib.hid (HX2.out.trans x3)
 have HSM:=Lib.hid (show Calls Tryz.prog 13 #[f.val,g.val] WD fun e w'=>e=.returned (.bool true)∧Ext WD w' from by
  have k:=SameF_at f g WD (HIF2.out.ext x3) (HI2.out.ext x3) HZ1.out HZ2.out
  rw [HSF.out] at k
  exact k)
 unfold FV.val at HSM
 have hee:(ev==ev)=true:=beq_self_eq_true _
 obtain ⟨u0,u1,u2,u3,u4,u5,u6,u7,u8,u9,u10,u11⟩:=HB3.out.cells
 obtain ⟨v0,v1,v2,v3,v4,v5,v6,v7,v8,v9,v10,v11⟩:=HC3.out.cells
 clear zZ xZ eZ hg3 b3 x3
 go_wp2_with fail
 refine HSM.out.mono ?_
 rintro _ w4 ⟨rfl,hx4⟩
 have HX4:=Lib.hid (HX3.out.trans hx4)
 clear hx4 u0 u1 u2 u3 u4 u5 u6 u7 u8 u9 u10 u11 v0 v1 v2 v3 v4 v5 v6 v7 v8 v9 v10 v11
 go_wp2_with fail
 refine (LKnown_at _ (HE.out.ext HX4.out)).mono ?_
 rintro _ wk ⟨rfl,hxk⟩
 have HXK:=Lib.hid (HX4.out.trans hxk)
 clear hxk
 go_wp2_with fail
 go_ret
 exact ⟨rfl,HXK.out⟩
end Go.Proofs.YtnjmndofcpnmeaaGreatDoor
