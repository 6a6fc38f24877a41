/- Pc33. -/
import Derived.Test.YtnjmndofcpnmeaaGreatDoorPc9
import Derived.Laws.CopyRow
import Derived.Test.YtnjmndofcpnmeaaGreatDoorPc32
import Derived.Test.YtnjmndofcpnmeaaGreatDoorPc21
import Derived.Deep.DeepCutAuto
import Derived.Test.YtnjmndofcpnmeaaGreatDoorPc29
namespace Go.Proofs.YtnjmndofcpnmeaaGreatDoor
open Go Go.RowKit
set_option linter.unusedVariables false
theorem wpList_store_var {P:Program} (w:World) {ops:Array Oper} {rest:List Oper} {o:Oper} {a:Act} {Q:Exit→Act→World→Prop} (hgd:o.guard=none) (p x:Operand) (t:TypeId) (ho:o.op=.store t p x)
  (g:Nat) (u:TypeId) (cur vs:Array Value) (hp:a.eval p=.pointer (some ⟨g,0,none⟩)) (hx:a.eval x=.agg vs) (hsz:(sizeOf t).run P w=.ok vs.size w) (hr:w.heap[g]? = some (.cells cur u (0,0))) (hlen:cur.size=vs.size) (h1:∀ v∈vs.toList,v.oneCell'=true)
  (hK:∀ w',w'.heap[g]? = some (.cells vs u (0,0))→w.grownBy w' (some g)→wpList P ops Q rest (a.put o.dst undef) w'):wpList P ops Q (o::rest) a w:=by
 refine wpList_plain hgd fun K hK'=>?_
 have hrun:=run_storeCells_at (P:=P) g 0 u vs.toList 0 cur w hr (by simp [hlen]) h1
 have e1:(cur.toList.take (0+0)++vs.toList++cur.toList.drop (0+0+vs.toList.length)).toArray=vs:=by
  have:cur.toList.drop (0+0+vs.toList.length)=[]:=by
   apply List.drop_eq_nil_of_le
   simp [hlen]
  rw [this]
  simp
 rw [e1] at hrun
 have hw':(w.setRow g vs).heap[g]? = some (.cells vs u (0,0)):=setRow_heap w g cur vs u (0,0) hr
 have hg':w.grownBy (w.setRow g vs) (some g):=⟨rfl,rfl,rfl,by simp,fun k _ hk=>setRow_other w g k _ (fun e=>hk (by simp [e]))⟩
 unfold Oper.wp execOp
 simp only [ho,hp,hx]
 simp [Instr.storeAt,Instr.sureAddr,storeVar,Value.cells,hsz,hrun,Result.andThen,Oper.upon]
 exact hK' _ _ (hK _ hw' hg')
def STB (w:World)(A:Option Addr):Prop:=∀ ad,A=some ad→∃ cs,w.heap[ad.block]? = some (.cells cs 9 (0,0))
theorem STB.ext {w w':World}{A:Option Addr}(h:STB w A)(hx:Ext w w'):STB w' A:=fun ad hA=>let ⟨cs,e⟩:=h ad hA;⟨cs,hx.heap e⟩
theorem STB.none (w:World):STB w none:=fun ad h=>by cases h
def FQ (w:World)(g:Nat)(m:FV):Prop:=FBx w g m
theorem FQ.ext {w w':World}{g:Nat}{m:FV}(h:FQ w g m)(hx:Ext w w'):FQ w' g m:=FBx.ext h hx
theorem FQ.cells {w:World}{g:Nat}{m:FV}(h:FQ w g m):w.cell? ⟨g,0,none⟩=some (.int .i64 m.t)∧w.cell? ⟨g,1,none⟩=some (.int .i64 m.mi)∧w.cell? ⟨g,2,none⟩=some (.int .i64 m.kd)∧w.cell? ⟨g,3,none⟩=some (.int .i64 m.fk)∧w.cell? ⟨g,4,none⟩=some (.slice m.FA m.fb.length m.fc)∧w.cell? ⟨g,5,none⟩=some (.slice m.CA m.cp.length m.cc)∧w.cell? ⟨g,6,none⟩=some (.string m.cr)∧w.cell? ⟨g,7,none⟩=some (.slice m.SA m.sp.length m.sc)∧w.cell? ⟨g,8,none⟩=some (.string m.sr)∧w.cell? ⟨g,9,none⟩=some (.int .i64 m.co)∧w.cell? ⟨g,10,none⟩=some (.int .i64 m.pr)∧w.cell? ⟨g,11,none⟩=some (.int .u32 (m.fl.toNat:Int)):=by
 obtain ⟨t,mi,kd,fk,FA,fb,fc,CA,cp,cc,cr,SA,sp,sc,sr,co,pr,fl⟩:=m
 exact FBx.cells h
end Go.Proofs.YtnjmndofcpnmeaaGreatDoor
