/- Pc18. -/
import Derived.Test.YtnjmndofcpnmeaaGreatDoorPc16
import Derived.Test.YtnjmndofcpnmeaaGreatDoorPc17
import Derived.Laws.EntriesVeiled
namespace Go.Proofs.YtnjmndofcpnmeaaGreatDoor
open Go Go.RowKit
set_option linter.unusedVariables false
theorem SplitW_at (s:ByteArray) (hs:s.size≤3000) (w:World) (hm:MaxL w):
  Calls Tryz.prog 53 #[.string s,.string ⟨#[32]⟩] w fun e w'=>∃ ws:List ByteArray,e=.returned (.slice (some ⟨w.heap.size,0,none⟩) ws.length ws.length)∧RW w' w.heap.size 9 (sv ws).toArray∧Ext w w'∧w'.heap.size=w.heap.size+1∧dat ws=splb 32 [] s.data.toList∧∀ b∈ws,b.size≤3000:=by
 obtain ⟨m,hm⟩:=hm 0 (by kernel_rfl)
 refine (Tryz.strings_Split s ⟨#[32]⟩ m w (by omega) hm (by decide)).mono ?_
 rintro e w' ⟨rfl,rfl⟩
 have hl:(Lib.splitB ⟨#[32]⟩ 0 (Lib.countB s ⟨#[32]⟩) s).length=Lib.countB s ⟨#[32]⟩+1:=Lib.splitB_all _ (by decide) 0 _ s rfl
 refine ⟨Lib.splitB ⟨#[32]⟩ 0 (Lib.countB s ⟨#[32]⟩) s,by rw [hl],heap_alloc_new w _,(Ext.refl w).alloc _,by simp,splitB_splb 32 s,fun b hb=>Nat.le_trans (splitA_size _ _ s b hb) hs⟩
theorem fz_cells {w:World}{g:Nat}(h:FBx w g fv0):w.cell? ⟨g,0,none⟩=some (.int .i64 0)∧w.cell? ⟨g,1,none⟩=some (.int .i64 0)∧w.cell? ⟨g,2,none⟩=some (.int .i64 0)∧w.cell? ⟨g,3,none⟩=some (.int .i64 0)∧w.cell? ⟨g,4,none⟩=some (.slice none 0 0)∧w.cell? ⟨g,5,none⟩=some (.slice none 0 0)∧w.cell? ⟨g,6,none⟩=some (.string ⟨#[]⟩)∧w.cell? ⟨g,7,none⟩=some (.slice none 0 0)∧w.cell? ⟨g,8,none⟩=some (.string ⟨#[]⟩)∧w.cell? ⟨g,9,none⟩=some (.int .i64 0)∧w.cell? ⟨g,10,none⟩=some (.int .i64 0)∧w.cell? ⟨g,11,none⟩=some (.int .u32 0):=FBx.cells h
theorem fb_soft {w:World}{g:Nat}{f:FV}(h:FBx w g f):w.frozen? ⟨g,0,none⟩=false∧w.frozen? ⟨g,1,none⟩=false∧w.frozen? ⟨g,2,none⟩=false∧w.frozen? ⟨g,3,none⟩=false∧w.frozen? ⟨g,4,none⟩=false∧w.frozen? ⟨g,5,none⟩=false∧w.frozen? ⟨g,6,none⟩=false∧w.frozen? ⟨g,7,none⟩=false∧w.frozen? ⟨g,8,none⟩=false∧w.frozen? ⟨g,9,none⟩=false∧w.frozen? ⟨g,10,none⟩=false∧w.frozen? ⟨g,11,none⟩=false:=by
 refine ⟨?_,?_,?_,?_,?_,?_,?_,?_,?_,?_,?_,?_⟩<;>exact frozen_of_row w g _ _ _ h
theorem fv_cells {w:World}{g:Nat}{f:FV}(h:FBx w g f):w.cell? ⟨g,0,none⟩=some (.int .i64 f.t)∧w.cell? ⟨g,1,none⟩=some (.int .i64 f.mi)∧w.cell? ⟨g,2,none⟩=some (.int .i64 f.kd)∧w.cell? ⟨g,3,none⟩=some (.int .i64 f.fk)∧w.cell? ⟨g,4,none⟩=some (.slice f.FA f.fb.length f.fc)∧w.cell? ⟨g,5,none⟩=some (.slice f.CA f.cp.length f.cc)∧w.cell? ⟨g,6,none⟩=some (.string f.cr)∧w.cell? ⟨g,7,none⟩=some (.slice f.SA f.sp.length f.sc)∧w.cell? ⟨g,8,none⟩=some (.string f.sr)∧w.cell? ⟨g,9,none⟩=some (.int .i64 f.co)∧w.cell? ⟨g,10,none⟩=some (.int .i64 f.pr)∧w.cell? ⟨g,11,none⟩=some (.int .u32 (f.fl.toNat:Int)):=by
 obtain ⟨t,mi,kd,fk,FA,fb,fc,CA,cp,cc,cr,SA,sp,sc,sr,co,pr,fl⟩:=f
 exact FBx.cells h
theorem f_put {w0 W:World} {n:Nat} {f q:FV} (hx:Ext w0 W) (hn:w0.heap.size≤n) (h:FBx W n f):
  ∃ WF,((((((((((((W.setCell ⟨n,0,none⟩ (.int .i64 q.t)).setCell ⟨n,1,none⟩ (.int .i64 q.mi)).setCell ⟨n,2,none⟩ (.int .i64 q.kd)).setCell ⟨n,3,none⟩ (.int .i64 q.fk)).setCell ⟨n,4,none⟩ (.slice q.FA q.fb.length q.fc)).setCell ⟨n,5,none⟩ (.slice q.CA q.cp.length q.cc)).setCell ⟨n,6,none⟩ (.string q.cr)).setCell ⟨n,7,none⟩ (.slice q.SA q.sp.length q.sc)).setCell ⟨n,8,none⟩ (.string q.sr)).setCell ⟨n,9,none⟩ (.int .i64 q.co)).setCell ⟨n,10,none⟩ (.int .i64 q.pr)).setCell ⟨n,11,none⟩ (.int .u32 (q.fl.toNat:Int)))=WF∧Ext w0 WF∧FBx WF n q∧W.grownBy WF (some n):=by
 have h0:=h.rw
 unfold fcs at h0
 have x0:=hx
 have h1:RW (W.setCell ⟨n,0,none⟩ (.int .i64 q.t)) n 41 #[.int .i64 q.t,.int .i64 f.mi,.int .i64 f.kd,.int .i64 f.fk,.slice f.FA f.fb.length f.fc,.slice f.CA f.cp.length f.cc,.string f.cr,.slice f.SA f.sp.length f.sc,.string f.sr,.int .i64 f.co,.int .i64 f.pr,.int .u32 (f.fl.toNat:Int)]:=h0.set 0 _
 have x1:=x0.setCell (p:=⟨n,0,none⟩) hn (.int .i64 q.t)
 clear h0 x0
 have h2:RW ((W.setCell ⟨n,0,none⟩ (.int .i64 q.t)).setCell ⟨n,1,none⟩ (.int .i64 q.mi)) n 41 #[.int .i64 q.t,.int .i64 q.mi,.int .i64 f.kd,.int .i64 f.fk,.slice f.FA f.fb.length f.fc,.slice f.CA f.cp.length f.cc,.string f.cr,.slice f.SA f.sp.length f.sc,.string f.sr,.int .i64 f.co,.int .i64 f.pr,.int .u32 (f.fl.toNat:Int)]:=h1.set 1 _
 have x2:=x1.setCell (p:=⟨n,1,none⟩) hn (.int .i64 q.mi)
 clear h1 x1
 have h3:RW (((W.setCell ⟨n,0,none⟩ (.int .i64 q.t)).setCell ⟨n,1,none⟩ (.int .i64 q.mi)).setCell ⟨n,2,none⟩ (.int .i64 q.kd)) n 41 #[.int .i64 q.t,.int .i64 q.mi,.int .i64 q.kd,.int .i64 f.fk,.slice f.FA f.fb.length f.fc,.slice f.CA f.cp.length f.cc,.string f.cr,.slice f.SA f.sp.length f.sc,.string f.sr,.int .i64 f.co,.int .i64 f.pr,.int .u32 (f.fl.toNat:Int)]:=h2.set 2 _
 have x3:=x2.setCell (p:=⟨n,2,none⟩) hn (.int .i64 q.kd)
 clear h2 x2
 have h4:RW ((((W.setCell ⟨n,0,none⟩ (.int .i64 q.t)).setCell ⟨n,1,none⟩ (.int .i64 q.mi)).setCell ⟨n,2,none⟩ (.int .i64 q.kd)).setCell ⟨n,3,none⟩ (.int .i64 q.fk)) n 41 #[.int .i64 q.t,.int .i64 q.mi,.int .i64 q.kd,.int .i64 q.fk,.slice f.FA f.fb.length f.fc,.slice f.CA f.cp.length f.cc,.string f.cr,.slice f.SA f.sp.length f.sc,.string f.sr,.int .i64 f.co,.int .i64 f.pr,.int .u32 (f.fl.toNat:Int)]:=h3.set 3 _
 have x4:=x3.setCell (p:=⟨n,3,none⟩) hn (.int .i64 q.fk)
 clear h3 x3
 have h5:RW (((((W.setCell ⟨n,0,none⟩ (.int .i64 q.t)).setCell ⟨n,1,none⟩ (.int .i64 q.mi)).setCell ⟨n,2,none⟩ (.int .i64 q.kd)).setCell ⟨n,3,none⟩ (.int .i64 q.fk)).setCell ⟨n,4,none⟩ (.slice q.FA q.fb.length q.fc)) n 41 #[.int .i64 q.t,.int .i64 q.mi,.int .i64 q.kd,.int .i64 q.fk,.slice q.FA q.fb.length q.fc,.slice f.CA f.cp.length f.cc,.string f.cr,.slice f.SA f.sp.length f.sc,.string f.sr,.int .i64 f.co,.int .i64 f.pr,.int .u32 (f.fl.toNat:Int)]:=h4.set 4 _
 have x5:=x4.setCell (p:=⟨n,4,none⟩) hn (.slice q.FA q.fb.length q.fc)
 clear h4 x4
 have h6:RW ((((((W.setCell ⟨n,0,none⟩ (.int .i64 q.t)).setCell ⟨n,1,none⟩ (.int .i64 q.mi)).setCell ⟨n,2,none⟩ (.int .i64 q.kd)).setCell ⟨n,3,none⟩ (.int .i64 q.fk)).setCell ⟨n,4,none⟩ (.slice q.FA q.fb.length q.fc)).setCell ⟨n,5,none⟩ (.slice q.CA q.cp.length q.cc)) n 41 #[.int .i64 q.t,.int .i64 q.mi,.int .i64 q.kd,.int .i64 q.fk,.slice q.FA q.fb.length q.fc,.slice q.CA q.cp.length q.cc,.string f.cr,.slice f.SA f.sp.length f.sc,.string f.sr,.int .i64 f.co,.int .i64 f.pr,.int .u32 (f.fl.toNat:Int)]:=h5.set 5 _
 have x6:=x5.setCell (p:=⟨n,5,none⟩) hn (.slice q.CA q.cp.length q.cc)
 clear h5 x5
 have h7:RW (((((((W.setCell ⟨n,0,none⟩ (.int .i64 q.t)).setCell ⟨n,1,none⟩ (.int .i64 q.mi)).setCell ⟨n,2,none⟩ (.int .i64 q.kd)).setCell ⟨n,3,none⟩ (.int .i64 q.fk)).setCell ⟨n,4,none⟩ (.slice q.FA q.fb.length q.fc)).setCell ⟨n,5,none⟩ (.slice q.CA q.cp.length q.cc)).setCell ⟨n,6,none⟩ (.string q.cr)) n 41 #[.int .i64 q.t,.int .i64 q.mi,.int .i64 q.kd,.int .i64 q.fk,.slice q.FA q.fb.length q.fc,.slice q.CA q.cp.length q.cc,.string q.cr,.slice f.SA f.sp.length f.sc,.string f.sr,.int .i64 f.co,.int .i64 f.pr,.int .u32 (f.fl.toNat:Int)]:=h6.set 6 _
 have x7:=x6.setCell (p:=⟨n,6,none⟩) hn (.string q.cr)
 clear h6 x6
 have h8:RW ((((((((W.setCell ⟨n,0,none⟩ (.int .i64 q.t)).setCell ⟨n,1,none⟩ (.int .i64 q.mi)).setCell ⟨n,2,none⟩ (.int .i64 q.kd)).setCell ⟨n,3,none⟩ (.int .i64 q.fk)).setCell ⟨n,4,none⟩ (.slice q.FA q.fb.length q.fc)).setCell ⟨n,5,none⟩ (.slice q.CA q.cp.length q.cc)).setCell ⟨n,6,none⟩ (.string q.cr)).setCell ⟨n,7,none⟩ (.slice q.SA q.sp.length q.sc)) n 41 #[.int .i64 q.t,.int .i64 q.mi,.int .i64 q.kd,.int .i64 q.fk,.slice q.FA q.fb.length q.fc,.slice q.CA q.cp.length q.cc,.string q.cr,.slice q.SA q.sp.length q.sc,.string f.sr,.int .i64 f.co,.int .i64 f.pr,.int .u32 (f.fl.toNat:Int)]:=h7.set 7 _
 have x8:=x7.setCell (p:=⟨n,7,none⟩) hn (.slice q.SA q.sp.length q.sc)
 clear h7 x7
 have h9:RW (((((((((W.setCell ⟨n,0,none⟩ (.int .i64 q.t)).setCell ⟨n,1,none⟩ (.int .i64 q.mi)).setCell ⟨n,2,none⟩ (.int .i64 q.kd)).setCell ⟨n,3,none⟩ (.int .i64 q.fk)).setCell ⟨n,4,none⟩ (.slice q.FA q.fb.length q.fc)).setCell ⟨n,5,none⟩ (.slice q.CA q.cp.length q.cc)).setCell ⟨n,6,none⟩ (.string q.cr)).setCell ⟨n,7,none⟩ (.slice q.SA q.sp.length q.sc)).setCell ⟨n,8,none⟩ (.string q.sr)) n 41 #[.int .i64 q.t,.int .i64 q.mi,.int .i64 q.kd,.int .i64 q.fk,.slice q.FA q.fb.length q.fc,.slice q.CA q.cp.length q.cc,.string q.cr,.slice q.SA q.sp.length q.sc,.string q.sr,.int .i64 f.co,.int .i64 f.pr,.int .u32 (f.fl.toNat:Int)]:=h8.set 8 _
 have x9:=x8.setCell (p:=⟨n,8,none⟩) hn (.string q.sr)
 clear h8 x8
 have h10:RW ((((((((((W.setCell ⟨n,0,none⟩ (.int .i64 q.t)).setCell ⟨n,1,none⟩ (.int .i64 q.mi)).setCell ⟨n,2,none⟩ (.int .i64 q.kd)).setCell ⟨n,3,none⟩ (.int .i64 q.fk)).setCell ⟨n,4,none⟩ (.slice q.FA q.fb.length q.fc)).setCell ⟨n,5,none⟩ (.slice q.CA q.cp.length q.cc)).setCell ⟨n,6,none⟩ (.string q.cr)).setCell ⟨n,7,none⟩ (.slice q.SA q.sp.length q.sc)).setCell ⟨n,8,none⟩ (.string q.sr)).setCell ⟨n,9,none⟩ (.int .i64 q.co)) n 41 #[.int .i64 q.t,.int .i64 q.mi,.int .i64 q.kd,.int .i64 q.fk,.slice q.FA q.fb.length q.fc,.slice q.CA q.cp.length q.cc,.string q.cr,.slice q.SA q.sp.length q.sc,.string q.sr,.int .i64 q.co,.int .i64 f.pr,.int .u32 (f.fl.toNat:Int)]:=h9.set 9 _
 have x10:=x9.setCell (p:=⟨n,9,none⟩) hn (.int .i64 q.co)
 clear h9 x9
 have h11:RW (((((((((((W.setCell ⟨n,0,none⟩ (.int .i64 q.t)).setCell ⟨n,1,none⟩ (.int .i64 q.mi)).setCell ⟨n,2,none⟩ (.int .i64 q.kd)).setCell ⟨n,3,none⟩ (.int .i64 q.fk)).setCell ⟨n,4,none⟩ (.slice q.FA q.fb.length q.fc)).setCell ⟨n,5,none⟩ (.slice q.CA q.cp.length q.cc)).setCell ⟨n,6,none⟩ (.string q.cr)).setCell ⟨n,7,none⟩ (.slice q.SA q.sp.length q.sc)).setCell ⟨n,8,none⟩ (.string q.sr)).setCell ⟨n,9,none⟩ (.int .i64 q.co)).setCell ⟨n,10,none⟩ (.int .i64 q.pr)) n 41 #[.int .i64 q.t,.int .i64 q.mi,.int .i64 q.kd,.int .i64 q.fk,.slice q.FA q.fb.length q.fc,.slice q.CA q.cp.length q.cc,.string q.cr,.slice q.SA q.sp.length q.sc,.string q.sr,.int .i64 q.co,.int .i64 q.pr,.int .u32 (f.fl.toNat:Int)]:=h10.set 10 _
 have x11:=x10.setCell (p:=⟨n,10,none⟩) hn (.int .i64 q.pr)
 clear h10 x10
 have h12:RW ((((((((((((W.setCell ⟨n,0,none⟩ (.int .i64 q.t)).setCell ⟨n,1,none⟩ (.int .i64 q.mi)).setCell ⟨n,2,none⟩ (.int .i64 q.kd)).setCell ⟨n,3,none⟩ (.int .i64 q.fk)).setCell ⟨n,4,none⟩ (.slice q.FA q.fb.length q.fc)).setCell ⟨n,5,none⟩ (.slice q.CA q.cp.length q.cc)).setCell ⟨n,6,none⟩ (.string q.cr)).setCell ⟨n,7,none⟩ (.slice q.SA q.sp.length q.sc)).setCell ⟨n,8,none⟩ (.string q.sr)).setCell ⟨n,9,none⟩ (.int .i64 q.co)).setCell ⟨n,10,none⟩ (.int .i64 q.pr)).setCell ⟨n,11,none⟩ (.int .u32 (q.fl.toNat:Int))) n 41 #[.int .i64 q.t,.int .i64 q.mi,.int .i64 q.kd,.int .i64 q.fk,.slice q.FA q.fb.length q.fc,.slice q.CA q.cp.length q.cc,.string q.cr,.slice q.SA q.sp.length q.sc,.string q.sr,.int .i64 q.co,.int .i64 q.pr,.int .u32 (q.fl.toNat:Int)]:=h11.set 11 _
 have x12:=x11.setCell (p:=⟨n,11,none⟩) hn (.int .u32 (q.fl.toNat:Int))
 exact ⟨_,rfl,x12,h12,grown_set (grown_set (grown_set (grown_set (grown_set (grown_set (grown_set (grown_set (grown_set (grown_set (grown_set (grown_set (grown_refl _ _) 0 _) 1 _) 2 _) 3 _) 4 _) 5 _) 6 _) 7 _) 8 _) 9 _) 10 _) 11 _⟩
theorem fz_put {w0 W:World} {n:Nat} (hx:Ext w0 W) (hn:w0.heap.size≤n) (h:FBx W n fv0):
  ∃ WF,((((((((((((W.setCell ⟨n,0,none⟩ (.int .i64 0)).setCell ⟨n,1,none⟩ (.int .i64 0)).setCell ⟨n,2,none⟩ (.int .i64 0)).setCell ⟨n,3,none⟩ (.int .i64 0)).setCell ⟨n,4,none⟩ (.slice none 0 0)).setCell ⟨n,5,none⟩ (.slice none 0 0)).setCell ⟨n,6,none⟩ (.string ⟨#[]⟩)).setCell ⟨n,7,none⟩ (.slice none 0 0)).setCell ⟨n,8,none⟩ (.string ⟨#[]⟩)).setCell ⟨n,9,none⟩ (.int .i64 0)).setCell ⟨n,10,none⟩ (.int .i64 0)).setCell ⟨n,11,none⟩ (.int .u32 0))=WF∧Ext w0 WF∧WF.cell? ⟨n,0,none⟩=some (.int .i64 0)∧WF.cell? ⟨n,1,none⟩=some (.int .i64 0)∧WF.cell? ⟨n,2,none⟩=some (.int .i64 0)∧WF.cell? ⟨n,3,none⟩=some (.int .i64 0)∧WF.cell? ⟨n,4,none⟩=some (.slice none 0 0)∧WF.cell? ⟨n,5,none⟩=some (.slice none 0 0)∧WF.cell? ⟨n,6,none⟩=some (.string ⟨#[]⟩)∧WF.cell? ⟨n,7,none⟩=some (.slice none 0 0)∧WF.cell? ⟨n,8,none⟩=some (.string ⟨#[]⟩)∧WF.cell? ⟨n,9,none⟩=some (.int .i64 0)∧WF.cell? ⟨n,10,none⟩=some (.int .i64 0)∧WF.cell? ⟨n,11,none⟩=some (.int .u32 0):=by
 obtain ⟨WF,h1,h2,h3,_⟩:=f_put (q:=fv0) hx hn h
 exact ⟨WF,h1,h2,fz_cells h3⟩
def PLn (B:Nat)(l:List UInt8)(e:Ending)(w':World):Prop:=
 (∃ f:FV,f.fct.Ok∧f.fct.txt=l∧e=.returned (.tuple #[f.val,.int .i64 0])∧f.In w'∧f.Sz∧(∀ ad,f.CA=some ad→B≤ad.block)∧(∀ ad,f.SA=some ad→B≤ad.block)) ∨
 ((∀ F:Fct,F.Ok→F.txt≠l)∧e=.returned (.tuple #[fv0.val,.int .i64 6]))
theorem PSt.ext {w W W':World}{k:Nat}{f:FV}(h:PSt w W k f)(hx:Ext W W'):PSt w W' k f:=
 ⟨h.ex.trans hx,h.r.ext hx,h.fb.ext hx,h.eb.ext hx,h.mem.ext hx,h.sz,h.nc,h.ns,h.zc,h.zs⟩
theorem start_pst (w:World):∃ W,(((w.alloc (.cells #[.int .i64 0,.int .i64 0,.int .i64 0,.int .i64 0,.slice none 0 0,.slice none 0 0,.string ⟨#[]⟩,.slice none 0 0,.string ⟨#[]⟩,.int .i64 0,.int .i64 0,.int .u32 0] 41)).alloc (.cells #[.int .i64 0,.int .i64 0,.int .i64 0,.int .i64 0,.slice none 0 0,.slice none 0 0,.string ⟨#[]⟩,.slice none 0 0,.string ⟨#[]⟩,.int .i64 0,.int .i64 0,.int .u32 0] 41)).alloc (.cells #[.int .i64 0] 25)).alloc (.cells #[.func (.func 39) #[] #[.pointer (some ⟨w.heap.size+1,0,none⟩)],.func (.func 42) #[] #[.pointer (some ⟨w.heap.size+1,0,none⟩)],.func (.func 44) #[] #[.pointer (some ⟨w.heap.size+1,0,none⟩)],.func (.func 46) #[] #[.pointer (some ⟨w.heap.size+1,0,none⟩)],.func (.func 47) #[] #[.pointer (some ⟨w.heap.size+1,0,none⟩),.pointer (some ⟨w.heap.size+1+1,0,none⟩)],.func (.func 49) #[] #[.pointer (some ⟨w.heap.size+1,0,none⟩)],.func (.func 50) #[] #[.pointer (some ⟨w.heap.size+1,0,none⟩)],.func (.func 51) #[] #[.pointer (some ⟨w.heap.size+1,0,none⟩),.pointer (some ⟨w.heap.size+1+1,0,none⟩)]] 67)=W∧PSt w W 0 fv0∧RW W (w.heap.size+1+1+1) 67 #[.func (.func 39) #[] #[.pointer (some ⟨w.heap.size+1,0,none⟩)],.func (.func 42) #[] #[.pointer (some ⟨w.heap.size+1,0,none⟩)],.func (.func 44) #[] #[.pointer (some ⟨w.heap.size+1,0,none⟩)],.func (.func 46) #[] #[.pointer (some ⟨w.heap.size+1,0,none⟩)],.func (.func 47) #[] #[.pointer (some ⟨w.heap.size+1,0,none⟩),.pointer (some ⟨w.heap.size+1+1,0,none⟩)],.func (.func 49) #[] #[.pointer (some ⟨w.heap.size+1,0,none⟩)],.func (.func 50) #[] #[.pointer (some ⟨w.heap.size+1,0,none⟩)],.func (.func 51) #[] #[.pointer (some ⟨w.heap.size+1,0,none⟩),.pointer (some ⟨w.heap.size+1+1,0,none⟩)]]:=by
 refine ⟨_,rfl,?_,?_⟩
 ·have a0:=FBx.new w fv0
  have a1:=FBx.new (w.alloc (.cells #[.int .i64 0,.int .i64 0,.int .i64 0,.int .i64 0,.slice none 0 0,.slice none 0 0,.string ⟨#[]⟩,.slice none 0 0,.string ⟨#[]⟩,.int .i64 0,.int .i64 0,.int .u32 0] 41)) fv0
  have a2:=heap_alloc_new ((w.alloc (.cells #[.int .i64 0,.int .i64 0,.int .i64 0,.int .i64 0,.slice none 0 0,.slice none 0 0,.string ⟨#[]⟩,.slice none 0 0,.string ⟨#[]⟩,.int .i64 0,.int .i64 0,.int .u32 0] 41)).alloc (.cells #[.int .i64 0,.int .i64 0,.int .i64 0,.int .i64 0,.slice none 0 0,.slice none 0 0,.string ⟨#[]⟩,.slice none 0 0,.string ⟨#[]⟩,.int .i64 0,.int .i64 0,.int .u32 0] 41)) (.cells #[.int .i64 0] 25)
  rw [World.size_alloc] at a1
  rw [World.size_alloc,World.size_alloc] at a2
  have x3:=(Ext.refl (((w.alloc (.cells #[.int .i64 0,.int .i64 0,.int .i64 0,.int .i64 0,.slice none 0 0,.slice none 0 0,.string ⟨#[]⟩,.slice none 0 0,.string ⟨#[]⟩,.int .i64 0,.int .i64 0,.int .u32 0] 41)).alloc (.cells #[.int .i64 0,.int .i64 0,.int .i64 0,.int .i64 0,.slice none 0 0,.slice none 0 0,.string ⟨#[]⟩,.slice none 0 0,.string ⟨#[]⟩,.int .i64 0,.int .i64 0,.int .u32 0] 41)).alloc (.cells #[.int .i64 0] 25))).alloc (.cells #[.func (.func 39) #[] #[.pointer (some ⟨w.heap.size+1,0,none⟩)],.func (.func 42) #[] #[.pointer (some ⟨w.heap.size+1,0,none⟩)],.func (.func 44) #[] #[.pointer (some ⟨w.heap.size+1,0,none⟩)],.func (.func 46) #[] #[.pointer (some ⟨w.heap.size+1,0,none⟩)],.func (.func 47) #[] #[.pointer (some ⟨w.heap.size+1,0,none⟩),.pointer (some ⟨w.heap.size+1+1,0,none⟩)],.func (.func 49) #[] #[.pointer (some ⟨w.heap.size+1,0,none⟩)],.func (.func 50) #[] #[.pointer (some ⟨w.heap.size+1,0,none⟩)],.func (.func 51) #[] #[.pointer (some ⟨w.heap.size+1,0,none⟩),.pointer (some ⟨w.heap.size+1+1,0,none⟩)]] 67)
  have x2:=(Ext.refl ((w.alloc (.cells #[.int .i64 0,.int .i64 0,.int .i64 0,.int .i64 0,.slice none 0 0,.slice none 0 0,.string ⟨#[]⟩,.slice none 0 0,.string ⟨#[]⟩,.int .i64 0,.int .i64 0,.int .u32 0] 41)).alloc (.cells #[.int .i64 0,.int .i64 0,.int .i64 0,.int .i64 0,.slice none 0 0,.slice none 0 0,.string ⟨#[]⟩,.slice none 0 0,.string ⟨#[]⟩,.int .i64 0,.int .i64 0,.int .u32 0] 41))).alloc (.cells #[.int .i64 0] 25)
  have x1:=(Ext.refl (w.alloc (.cells #[.int .i64 0,.int .i64 0,.int .i64 0,.int .i64 0,.slice none 0 0,.slice none 0 0,.string ⟨#[]⟩,.slice none 0 0,.string ⟨#[]⟩,.int .i64 0,.int .i64 0,.int .u32 0] 41))).alloc (.cells #[.int .i64 0,.int .i64 0,.int .i64 0,.int .i64 0,.slice none 0 0,.slice none 0 0,.string ⟨#[]⟩,.slice none 0 0,.string ⟨#[]⟩,.int .i64 0,.int .i64 0,.int .u32 0] 41)
  have x0:=(Ext.refl w).alloc (.cells #[.int .i64 0,.int .i64 0,.int .i64 0,.int .i64 0,.slice none 0 0,.slice none 0 0,.string ⟨#[]⟩,.slice none 0 0,.string ⟨#[]⟩,.int .i64 0,.int .i64 0,.int .u32 0] 41)
  refine ⟨x0.trans (x1.trans (x2.trans x3)),((a0.ext x1).ext x2).ext x3,(a1.ext x2).ext x3,⟨0,x3.heap a2⟩,⟨BS.nil _,RS.nil _,RS.nil _⟩,⟨?_,?_,?_,?_,?_,?_,?_⟩,fun ad h=>(by cases h),fun ad h=>(by cases h),fun _=>⟨rfl,rfl⟩,fun _=>⟨rfl,rfl⟩⟩<;>first | exact Nat.zero_le _ | (intro p hp;cases hp)
 ·have a3:=heap_alloc_new (((w.alloc (.cells #[.int .i64 0,.int .i64 0,.int .i64 0,.int .i64 0,.slice none 0 0,.slice none 0 0,.string ⟨#[]⟩,.slice none 0 0,.string ⟨#[]⟩,.int .i64 0,.int .i64 0,.int .u32 0] 41)).alloc (.cells #[.int .i64 0,.int .i64 0,.int .i64 0,.int .i64 0,.slice none 0 0,.slice none 0 0,.string ⟨#[]⟩,.slice none 0 0,.string ⟨#[]⟩,.int .i64 0,.int .i64 0,.int .u32 0] 41)).alloc (.cells #[.int .i64 0] 25)) (.cells #[.func (.func 39) #[] #[.pointer (some ⟨w.heap.size+1,0,none⟩)],.func (.func 42) #[] #[.pointer (some ⟨w.heap.size+1,0,none⟩)],.func (.func 44) #[] #[.pointer (some ⟨w.heap.size+1,0,none⟩)],.func (.func 46) #[] #[.pointer (some ⟨w.heap.size+1,0,none⟩)],.func (.func 47) #[] #[.pointer (some ⟨w.heap.size+1,0,none⟩),.pointer (some ⟨w.heap.size+1+1,0,none⟩)],.func (.func 49) #[] #[.pointer (some ⟨w.heap.size+1,0,none⟩)],.func (.func 50) #[] #[.pointer (some ⟨w.heap.size+1,0,none⟩)],.func (.func 51) #[] #[.pointer (some ⟨w.heap.size+1,0,none⟩),.pointer (some ⟨w.heap.size+1+1,0,none⟩)]] 67)
  rw [World.size_alloc,World.size_alloc,World.size_alloc] at a3
  exact a3
theorem rd_cell {w W:World}(h:RW W (w.heap.size+1+1+1) 67 #[.func (.func 39) #[] #[.pointer (some ⟨w.heap.size+1,0,none⟩)],.func (.func 42) #[] #[.pointer (some ⟨w.heap.size+1,0,none⟩)],.func (.func 44) #[] #[.pointer (some ⟨w.heap.size+1,0,none⟩)],.func (.func 46) #[] #[.pointer (some ⟨w.heap.size+1,0,none⟩)],.func (.func 47) #[] #[.pointer (some ⟨w.heap.size+1,0,none⟩),.pointer (some ⟨w.heap.size+1+1,0,none⟩)],.func (.func 49) #[] #[.pointer (some ⟨w.heap.size+1,0,none⟩)],.func (.func 50) #[] #[.pointer (some ⟨w.heap.size+1,0,none⟩)],.func (.func 51) #[] #[.pointer (some ⟨w.heap.size+1,0,none⟩),.pointer (some ⟨w.heap.size+1+1,0,none⟩)]])(k:Nat)(hk:k<8):W.cell? ⟨w.heap.size+1+1+1,k,none⟩=some (.func (.func (fnK k)) #[] (capK w.heap.size k)):=by
 rw [cell_of_row _ _ k _ _ (0,0) h]
 rcases (show k=0∨k=1∨k=2∨k=3∨k=4∨k=5∨k=6∨k=7 by omega) with rfl | rfl | rfl | rfl | rfl | rfl | rfl | rfl<;>rfl
theorem txt_wrd {F:Fct}(h:F.Ok){l:List UInt8}(e:F.txt=l):splb 32 [] l=F.wrd:=by rw [← e];exact txt_words h
set_option maxRecDepth 100000 in
set_option maxHeartbeats 4000000 in
theorem LParse_at (s:ByteArray) (hs:s.size≤3000) (w:World) (hE:EnvA w):
  Calls Tryz.prog 14 #[.string s] w fun e w'=>PLn w.heap.size s.data.toList e w'∧Ext w w':=by
 have hmf:∀ (fn:Fn) (first cap:Array Value) (w:World),(Instr.makeFunc fn first cap).run Tryz.prog w=.ok (.func fn first cap) w:=fun _ _ _ _=>rfl
 obtain ⟨W1,hW1,hP,hRD⟩:=start_pst w
 have HSP:=Lib.hid (SplitW_at s hs W1 (hE.ext hP.ex).env.maxl)
 have HP:=Lib.hid hP;have HRD:=Lib.hid hRD;have HE:=Lib.hid hE;have HS:=Lib.hid hs;have HTL:=Lib.hid (ByteArray.toList_eq s)
 have HW1:=Lib.hid hW1
 clear hP hRD hE hs hW1
 go_enter Tryz.func14,Tryz.ntmps14
 go_wp2_with fail
 rw [HW1.out]
 refine HSP.out.mono ?_
 rintro _ w2 ⟨ws,rfl,hws,hx2,hz2,hd,hsz⟩
 obtain ⟨n,hn⟩:∃ n,ws.length=n:=⟨_,rfl⟩
 rw [hn]
 by_cases h8:n=8
 ·subst h8
  have hP2:=HP.out.ext hx2
  have hR2:=HRD.out.ext hx2
  have HP2:=Lib.hid hP2;have HR2:=Lib.hid hR2;have HW2:=Lib.hid hws;have HD:=Lib.hid hd;have HSZ:=Lib.hid hsz;have HN:=Lib.hid hn;have HLT:=Lib.hid (show w.heap.size+3≤W1.heap.size by exact HP.out.lt);have HLR:=Lib.hid (Array.getElem?_eq_some_iff.1 HRD.out).1
  have hwd:∀ (k:Nat) (F:Fct),F.Ok→F.txt=s.data.toList→(h:k<ws.length)→F.wrd[k]? = some ws[k].data.toList:=fun k F hF e h=>by
   rw [← txt_wrd hF e,← HD.out]
   simp [dat,h]
  have HWD:=Lib.hid hwd
  clear hP2 hR2 hws hx2 hz2 hd hsz hn hwd
  go_wp2_with fail
  go_loopw [8,9,31] (fun _ _ i wr=>∃ (k:Nat) (f:FV),k≤8∧i=.int .i64 (k:Int)∧Hid (PSt w wr k f)∧Hid (RW wr (w.heap.size+1+1+1) 67 #[.func (.func 39) #[] #[.pointer (some ⟨w.heap.size+1,0,none⟩)],.func (.func 42) #[] #[.pointer (some ⟨w.heap.size+1,0,none⟩)],.func (.func 44) #[] #[.pointer (some ⟨w.heap.size+1,0,none⟩)],.func (.func 46) #[] #[.pointer (some ⟨w.heap.size+1,0,none⟩)],.func (.func 47) #[] #[.pointer (some ⟨w.heap.size+1,0,none⟩),.pointer (some ⟨w.heap.size+1+1,0,none⟩)],.func (.func 49) #[] #[.pointer (some ⟨w.heap.size+1,0,none⟩)],.func (.func 50) #[] #[.pointer (some ⟨w.heap.size+1,0,none⟩)],.func (.func 51) #[] #[.pointer (some ⟨w.heap.size+1,0,none⟩),.pointer (some ⟨w.heap.size+1+1,0,none⟩)]])∧Hid (RW wr W1.heap.size 9 (sv ws).toArray)∧Hid (∀ F:Fct,F.Ok→F.txt=s.data.toList→Agr k F f)) (fun _ _ i _=>8-(intOf i).toNat)
  case atStart=>exact ⟨0,fv0,by omega,rfl,HP2,HR2,HW2,Lib.hid fun F _ _=>Agr.zero F fv0⟩
  case round=>
   obtain ⟨k,f,hk,rfl,HPK,HRK,HWK,HAK⟩:=hrel
   by_cases hlt:k<8
   ·have hlw:k<ws.length:=by rw [HN.out];exact hlt
    have r0:=rd_cell HRK.out k hlt
    have w0:wr.cell? ⟨W1.heap.size,k,none⟩=some (.string ws[k]):=by rw [cell_of_row _ _ k _ _ (0,0) HWK.out,List.getElem?_toArray];exact sv_get ws k hlw
    have HCL:=Lib.hid (cl_at k hlt ws[k] (HSZ.out _ (List.getElem_mem hlw)) w wr f HPK.out HE.out)
    have HEN:=Lib.hid (fnK_enters k hlt)
    have HWK2:=Lib.hid (fun F hF e=>HWD.out k F hF e hlw)
    generalize ws[k]=x at *
    generalize fnK k=fn at *
    generalize capK w.heap.size k=cap at *
    clear hlw
    go_wp2_with fail
    rw [HEN.out]
    refine HCL.out.mono ?_
    rintro en w3 ⟨b,rfl,ht,(⟨rfl,f',hp,ha⟩ | ⟨rfl,hn⟩)⟩
    ·have HP3:=Lib.hid hp
     have HR3:=Lib.hid (show RW w3 (w.heap.size+1+1+1) 67 #[.func (.func 39) #[] #[.pointer (some ⟨w.heap.size+1,0,none⟩)],.func (.func 42) #[] #[.pointer (some ⟨w.heap.size+1,0,none⟩)],.func (.func 44) #[] #[.pointer (some ⟨w.heap.size+1,0,none⟩)],.func (.func 46) #[] #[.pointer (some ⟨w.heap.size+1,0,none⟩)],.func (.func 47) #[] #[.pointer (some ⟨w.heap.size+1,0,none⟩),.pointer (some ⟨w.heap.size+1+1,0,none⟩)],.func (.func 49) #[] #[.pointer (some ⟨w.heap.size+1,0,none⟩)],.func (.func 50) #[] #[.pointer (some ⟨w.heap.size+1,0,none⟩)],.func (.func 51) #[] #[.pointer (some ⟨w.heap.size+1,0,none⟩),.pointer (some ⟨w.heap.size+1+1,0,none⟩)]] from ht.heap HRK.out (by omega) (by omega))
     have HW3:=Lib.hid (show RW w3 W1.heap.size 9 (sv ws).toArray from ht.heap HWK.out (by have:=HLT.out;omega) (by have:=HLT.out;omega))
     have HA3:=Lib.hid (fun F (hF:Fct.Ok F) e=>ha F hF (HWK2.out F hF e) (HAK.out F hF e))
     clear hp ht ha
     go_wp2_with fail
     go_roundw
     case rel=>exact ⟨k+1,f',by omega,by go_num,HP3,HR3,HW3,HA3⟩
     case measure=>simp [intOf];omega
    ·have hno:∀ F:Fct,F.Ok→F.txt≠s.data.toList:=fun F hF e=>hn F hF (HWK2.out F hF e)
     have hrz:=R_trn HPK.out ht
     have hxz:=X_trn HPK.out ht
     clear ht hn
     obtain ⟨b0,b1,b2,b3,b4,b5,b6,b7,b8,b9,b10,b11⟩:=fz_cells hrz
     obtain ⟨s0,s1,s2,s3,s4,s5,s6,s7,s8,s9,s10,s11⟩:=fb_soft hrz
     obtain ⟨WF,hWF,hxF,d0,d1,d2,d3,d4,d5,d6,d7,d8,d9,d10,d11⟩:=fz_put hxz (Nat.le_refl _) hrz
     have HXF:=Lib.hid hxF;have HNO:=Lib.hid hno
     clear hxF hrz hxz hno
     go_wp2_with fail
     refine bodyPost_ret (v:=.tuple #[.agg #[.int .i64 0,.int .i64 0,.int .i64 0,.int .i64 0,.slice none 0 0,.slice none 0 0,.string ⟨#[]⟩,.slice none 0 0,.string ⟨#[]⟩,.int .i64 0,.int .i64 0,.int .u32 0],.int .i64 6]) (by simp [results,Tryz.results14,go_sem,d0,d1,d2,d3,d4,d5,d6,d7,d8,d9,d10,d11];try rfl) rfl ?_
     exact ⟨.inr ⟨HNO.out,rfl⟩,HXF.out⟩
   ·obtain rfl:k=8:=by omega
    have HAG:=Lib.hid (fun F (hF:Fct.Ok F) e=>(HAK.out F hF e).eight)
    clear hlt
    obtain ⟨v0,v1,v2,v3,v4,v5,v6,v7,v8,v9,v10,v11⟩:=fv_cells HPK.out.fb
    have HTZ:=Lib.hid (HE.out.ext HPK.out.ex)
    cases hok:f.fct.ok with
    | false=>
     have HT:=Lib.hid (LText_no f wr HPK.out.mem HPK.out.sz HTZ.out hok)
     have hno:∀ F:Fct,F.Ok→F.txt≠s.data.toList:=fun F hF e=>by
      have h1:=HAG.out F hF e
      rw [h1,(Fct.ok_iff F).2 hF] at hok
      cases hok
     have HNO:=Lib.hid hno
     unfold FV.val at HT
     clear hok hno
     go_wp2_with fail
     refine HT.out.mono ?_
     rintro _ w5 ⟨rfl,hx5⟩
     have hno:=HNO.out
     have hrz:=HPK.out.r.ext hx5
     have hxz:=HPK.out.ex.trans hx5
     clear hx5 v0 v1 v2 v3 v4 v5 v6 v7 v8 v9 v10 v11 HNO
     obtain ⟨b0,b1,b2,b3,b4,b5,b6,b7,b8,b9,b10,b11⟩:=fz_cells hrz
     obtain ⟨s0,s1,s2,s3,s4,s5,s6,s7,s8,s9,s10,s11⟩:=fb_soft hrz
     obtain ⟨WF,hWF,hxF,d0,d1,d2,d3,d4,d5,d6,d7,d8,d9,d10,d11⟩:=fz_put hxz (Nat.le_refl _) hrz
     have HXF:=Lib.hid hxF;have HNO:=Lib.hid hno
     clear hxF hrz hxz hno
     go_wp2_with fail
     refine bodyPost_ret (v:=.tuple #[.agg #[.int .i64 0,.int .i64 0,.int .i64 0,.int .i64 0,.slice none 0 0,.slice none 0 0,.string ⟨#[]⟩,.slice none 0 0,.string ⟨#[]⟩,.int .i64 0,.int .i64 0,.int .u32 0],.int .i64 6]) (by simp [results,Tryz.results14,go_sem,d0,d1,d2,d3,d4,d5,d6,d7,d8,d9,d10,d11];try rfl) rfl ?_
     exact ⟨.inr ⟨HNO.out,rfl⟩,HXF.out⟩
    | true=>
     have HT:=Lib.hid (LText_yes f wr HPK.out.mem HPK.out.sz HTZ.out hok)
     have HOK:=Lib.hid ((Fct.ok_iff _).1 hok)
     unfold FV.val at HT
     by_cases hl:f.fct.txt=s.data.toList
     ·have hle:(f.fct.txt==s.toList)=true:=by rw [HTL.out,hl];exact beq_self_eq_true _
      have HL:=Lib.hid hl
      generalize f.fct.txt=L at hle HT
      clear hok hl
      go_wp2_with fail
      refine HT.out.mono ?_
      rintro _ w5 ⟨rfl,hx5⟩
      have hrz:=HPK.out.r.ext hx5
      have hxz:=HPK.out.ex.trans hx5
      have hpk:=HPK.out.ext hx5
      clear v0 v1 v2 v3 v4 v5 v6 v7 v8 v9 v10 v11
      obtain ⟨v0,v1,v2,v3,v4,v5,v6,v7,v8,v9,v10,v11⟩:=fv_cells hpk.fb
      obtain ⟨b0,b1,b2,b3,b4,b5,b6,b7,b8,b9,b10,b11⟩:=fz_cells hrz
      obtain ⟨s0,s1,s2,s3,s4,s5,s6,s7,s8,s9,s10,s11⟩:=fb_soft hrz
      obtain ⟨WF,hWF,hxF,hfF,hgF⟩:=f_put (q:=f) hxz (Nat.le_refl _) hrz
      obtain ⟨d0,d1,d2,d3,d4,d5,d6,d7,d8,d9,d10,d11⟩:=fv_cells hfF
      have hin:f.In WF:=⟨hpk.mem.fb.but (fbx_noU8 hrz) hgF,hpk.mem.cp.far (fun ad ha=>by have:=hpk.nc ad ha;omega) hgF,hpk.mem.sp.far (fun ad ha=>by have:=hpk.ns ad ha;omega) hgF⟩
      have HIN:=Lib.hid hin;have HXF:=Lib.hid hxF;have HPF:=Lib.hid hpk
      clear hx5 hrz hxz hpk hxF hfF hgF hin
      go_wp2_with fail
      refine bodyPost_ret (v:=.tuple #[.agg #[.int .i64 f.t,.int .i64 f.mi,.int .i64 f.kd,.int .i64 f.fk,.slice f.FA f.fb.length f.fc,.slice f.CA f.cp.length f.cc,.string f.cr,.slice f.SA f.sp.length f.sc,.string f.sr,.int .i64 f.co,.int .i64 f.pr,.int .u32 (f.fl.toNat:Int)],.int .i64 0]) (by simp [results,Tryz.results14,go_sem,d0,d1,d2,d3,d4,d5,d6,d7,d8,d9,d10,d11];try rfl) rfl ?_
      exact ⟨.inl ⟨f,HOK.out,HL.out,rfl,HIN.out,HPF.out.sz,fun ad ha=>by have:=HPF.out.nc ad ha;omega,fun ad ha=>by have:=HPF.out.ns ad ha;omega⟩,HXF.out⟩
     ·have hle:(f.fct.txt==s.toList)=false:=by rw [HTL.out];exact beq_eq_false_iff_ne.2 hl
      have HNO:=Lib.hid (fun F (hF:Fct.Ok F) e=>hl (by rw [HAG.out F hF e];exact e))
      generalize f.fct.txt=L at hle HT
      clear hok hl
      go_wp2_with fail
      refine HT.out.mono ?_
      rintro _ w5 ⟨rfl,hx5⟩
      have hno:=HNO.out
      have hrz:=HPK.out.r.ext hx5
      have hxz:=HPK.out.ex.trans hx5
      clear hx5 v0 v1 v2 v3 v4 v5 v6 v7 v8 v9 v10 v11 HNO
      obtain ⟨b0,b1,b2,b3,b4,b5,b6,b7,b8,b9,b10,b11⟩:=fz_cells hrz
      obtain ⟨s0,s1,s2,s3,s4,s5,s6,s7,s8,s9,s10,s11⟩:=fb_soft hrz
      obtain ⟨WF,hWF,hxF,d0,d1,d2,d3,d4,d5,d6,d7,d8,d9,d10,d11⟩:=fz_put hxz (Nat.le_refl _) hrz
      have HXF:=Lib.hid hxF;have HNO:=Lib.hid hno
      clear hxF hrz hxz hno
      go_wp2_with fail
      refine bodyPost_ret (v:=.tuple #[.agg #[.int .i64 0,.int .i64 0,.int .i64 0,.int .i64 0,.slice none 0 0,.slice none 0 0,.string ⟨#[]⟩,.slice none 0 0,.string ⟨#[]⟩,.int .i64 0,.int .i64 0,.int .u32 0],.int .i64 6]) (by simp [results,Tryz.results14,go_sem,d0,d1,d2,d3,d4,d5,d6,d7,d8,d9,d10,d11];try rfl) rfl ?_
      exact ⟨.inr ⟨HNO.out,rfl⟩,HXF.out⟩
 ·have q8:((n:Int) != 8)=true:=by rw [bne_iff_ne];omega
  have hno:∀ F:Fct,F.Ok→F.txt≠s.data.toList:=fun F hF e=>by
   have:=txt_wrd hF e
   rw [← hd] at this
   have h2:=congrArg List.length this
   rw [dat_length,hn] at h2
   exact h8 h2
  have HNO:=Lib.hid hno
  have hr2:=HP.out.r.ext hx2
  have hx02:=HP.out.ex.trans hx2
  obtain ⟨b0,b1,b2,b3,b4,b5,b6,b7,b8,b9,b10,b11⟩:=fz_cells hr2
  obtain ⟨s0,s1,s2,s3,s4,s5,s6,s7,s8,s9,s10,s11⟩:=fb_soft hr2
  obtain ⟨WF,hWF,hxF,d0,d1,d2,d3,d4,d5,d6,d7,d8,d9,d10,d11⟩:=fz_put hx02 (Nat.le_refl _) hr2
  have HXF:=Lib.hid hxF
  clear hxF hr2 hx02 hno hws hx2 hz2 hd hsz hn h8
  go_wp2_with fail
  refine bodyPost_ret (v:=.tuple #[.agg #[.int .i64 0,.int .i64 0,.int .i64 0,.int .i64 0,.slice none 0 0,.slice none 0 0,.string ⟨#[]⟩,.slice none 0 0,.string ⟨#[]⟩,.int .i64 0,.int .i64 0,.int .u32 0],.int .i64 6]) (by simp [results,Tryz.results14,go_sem,d0,d1,d2,d3,d4,d5,d6,d7,d8,d9,d10,d11];try rfl) rfl ?_
  exact ⟨.inr ⟨HNO.out,rfl⟩,HXF.out⟩
end Go.Proofs.YtnjmndofcpnmeaaGreatDoor
