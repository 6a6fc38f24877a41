/- Pa39. -/
import Derived.Test.YtnjmndofcpnmeaaGreatDoorPa31
import Derived.Test.YtnjmndofcpnmeaaGreatDoorPa35
import Derived.Test.YtnjmndofcpnmeaaGreatDoorPa3
import Derived.Test.YtnjmndofcpnmeaaGreatDoorPa38
import Derived.Test.YtnjmndofcpnmeaaGreatDoorPa33
import Derived.Test.YtnjmndofcpnmeaaGreatDoorPa20
import Derived.Test.YtnjmndofcpnmeaaGreatDoorPa4
import Derived.Test.YtnjmndofcpnmeaaGreatDoorPa0
namespace Go.Proofs.YtnjmndofcpnmeaaGreatDoor
open Go Go.RowKit Go.Maps
set_option linter.unusedVariables false
theorem keyA_len {k:Int}(hk:i64B k){b:List UInt8}(hb:b.length≤1000):(keyA k b).length≤2000000:=by
 have h5:=itoa_len20 k hk.1 hk.2
 unfold keyA
 rw [List.length_append,List.length_cons]
 omega
end Go.Proofs.YtnjmndofcpnmeaaGreatDoor
namespace Go.Proofs.YtnjmndofcpnmeaaGreatDoor
open Go Go.RowKit
set_option linter.unusedVariables false
structure F12 (w:World) (p:Addr) (m:FV):Prop where
 cells:w.cell? p=some (.int .i64 m.t)∧w.cell? ⟨p.block,p.off+1,none⟩=some (.int .i64 m.mi)∧w.cell? ⟨p.block,p.off+2,none⟩=some (.int .i64 m.kd)∧w.cell? ⟨p.block,p.off+3,none⟩=some (.int .i64 m.fk)∧w.cell? ⟨p.block,p.off+4,none⟩=some (.slice m.FA m.fb.length m.fc)∧w.cell? ⟨p.block,p.off+5,none⟩=some (.slice m.CA m.cp.length m.cc)∧w.cell? ⟨p.block,p.off+6,none⟩=some (.string m.cr)∧w.cell? ⟨p.block,p.off+7,none⟩=some (.slice m.SA m.sp.length m.sc)∧w.cell? ⟨p.block,p.off+8,none⟩=some (.string m.sr)∧w.cell? ⟨p.block,p.off+9,none⟩=some (.int .i64 m.co)∧w.cell? ⟨p.block,p.off+10,none⟩=some (.int .i64 m.pr)∧w.cell? ⟨p.block,p.off+11,none⟩=some (.int .u32 (m.fl.toNat:Int))
theorem F12.ext {w w':World}{p:Addr}{m:FV}(h:F12 w p m)(hx:Ext w w'):F12 w' p m:=by
 obtain ⟨u0,u1,u2,u3,u4,u5,u6,u7,u8,u9,u10,u11⟩:=h.cells
 exact ⟨hx.cell u0,hx.cell u1,hx.cell u2,hx.cell u3,hx.cell u4,hx.cell u5,hx.cell u6,hx.cell u7,hx.cell u8,hx.cell u9,hx.cell u10,hx.cell u11⟩
theorem FS.f12 {w:World}{A:Option Addr}{n c:Nat}{xs:List FV}(h:FS w (.slice A n c) xs)(k:Nat)(hk:k<xs.length):xs[k].In w∧∃ ad,A=some ad∧F12 w (ad.add (k*12)) xs[k]:=by
 obtain ⟨hin,ad,e,u0,u1,u2,u3,u4,u5,u6,u7,u8,u9,u10,u11⟩:=h.at_ k hk
 exact ⟨hin,ad,e,⟨u0,u1,u2,u3,u4,u5,u6,u7,u8,u9,u10,u11⟩⟩
structure M2 (w:World) (p:Addr) (m:MV):Prop where
 cells:w.cell? p=some (.slice m.CA m.cp.length m.cc)∧w.cell? ⟨p.block,p.off+1,none⟩=some (.string m.cr)
theorem M2.ext {w w':World}{p:Addr}{m:MV}(h:M2 w p m)(hx:Ext w w'):M2 w' p m:=⟨hx.cell h.cells.1,hx.cell h.cells.2⟩
theorem ROW.m2 {w:World}{B:Nat}{A:Option Addr}{n c:Nat}{ms:List MV}(h:ROW EM 50 w B (.slice A n c) ms)(k:Nat)(hk:k<ms.length):ms[k].In w∧∃ ad,A=some ad∧M2 w (ad.add (k*7)) ms[k]:=by
 obtain ⟨A',c',e1,_,_,h4⟩:=h.cells
 injection e1 with e1 _ _
 subst e1
 obtain ⟨hin,ad,hA,hc⟩:=h4 k hk
 refine ⟨hin,ad,hA,⟨hc 0 _ rfl,?_⟩⟩
 rw [cell_addj w ad (k*7) 1 (by decide)]
 exact hc 1 _ rfl
def MV.cl (m:MV):MV:=⟨m.CA,m.cp,m.cc,m.cr,0,none,[],0,0,0,0⟩
theorem MV.In.cl {w:World}{m:MV}(h:m.In w):m.cl.In w:=⟨h.cp,RS.nil w⟩
theorem all_ok {xs:List FV}:(xs.all fun x=>x.fct.ok)=true ↔ ∀ f∈xs.map FV.fct,f.Ok:=by
 rw [List.all_eq_true]
 constructor
 ·intro h f hf
  obtain ⟨x,hx,rfl⟩:=List.mem_map.1 hf
  exact (Fct.ok_iff _).1 (h x hx)
 ·intro h x hx
  exact (Fct.ok_iff _).2 (h _ (List.mem_map.2 ⟨x,hx,rfl⟩))
set_option maxRecDepth 100000 in
theorem RNone_at (A:Option Addr)(n c:Nat)(r:ByteArray)(w:World):Calls Tryz.prog 77 #[.agg #[.slice A n c,.string r]] w fun e w'=>e=.returned (.bool (decide (n=0)&&r.toList.isEmpty))∧Ext w w':=by
 have hg:=heap_alloc_new w (.cells #[.slice A n c,.string r] 37)
 have hx:=(Ext.refl w).alloc (.cells #[.slice A n c,.string r] 37)
 obtain ⟨W1,e1⟩:∃ W,w.alloc (.cells #[.slice A n c,.string r] 37)=W:=⟨_,rfl⟩
 rw [e1] at hg hx
 have c0:W1.cell? ⟨w.heap.size,0,none⟩=some (.slice A n c):=by rw [cell_of_row _ w.heap.size 0 _ _ (0,0) hg];rfl
 have c1:W1.cell? ⟨w.heap.size,1,none⟩=some (.string r):=by rw [cell_of_row _ w.heap.size 1 _ _ (0,0) hg];rfl
 have HX:=Lib.hid hx
 clear hg hx
 by_cases hn:n=0
 ·subst hn
  go_enter Tryz.func77,Tryz.ntmps77
  go_wp2
  go_ret
  exact ⟨by simp,HX.out⟩
 ·have q:((n:Int)==0)=false:=by rw [beq_eq_false_iff_ne];omega
  rw [decide_eq_false hn,Bool.false_and]
  clear hn
  go_enter Tryz.func77,Tryz.ntmps77
  go_wp2
  go_ret
  exact ⟨rfl,HX.out⟩
end Go.Proofs.YtnjmndofcpnmeaaGreatDoor
