/- Pa36. -/
import Derived.Test.YtnjmndofcpnmeaaGreatDoorPa34
import Derived.Test.YtnjmndofcpnmeaaGreatDoorPa35
import Derived.Test.YtnjmndofcpnmeaaGreatDoorPa32
import Derived.Test.YtnjmndofcpnmeaaGreatDoorPa10
import Derived.Laws.CopyRow
namespace Go.Proofs.YtnjmndofcpnmeaaGreatDoor
open Go Go.RowKit
set_option linter.unusedVariables false
theorem FS.new (w:World)(xs:List FV)(hn:xs.length≤maxLen)(hI:∀ x∈xs,x.In w):FS (w.alloc (.cells (EF.all xs).toArray 41)) (.slice (some ⟨w.heap.size,0,none⟩) xs.length xs.length) xs:=by
 refine ⟨_,_,rfl,Nat.le_refl _,hn,fun i hi=>⟨(hI _ (List.getElem_mem hi)).ext ((Ext.refl w).alloc _),_,rfl,fun j u hu=>?_⟩⟩
 have hj:j<12:=by
  have:=(List.getElem?_eq_some_iff.1 hu).1
  exact this
 have hg:(w.alloc (.cells (EF.all xs).toArray 41)).heap[w.heap.size]? = some (.cells (EF.all xs).toArray 41 (0,0)):=heap_alloc_new w _
 have e1:(⟨w.heap.size,0,none⟩:Addr).add (i*12+j)=⟨w.heap.size,i*12+j,none⟩:=by unfold Addr.add;split<;>simp_all
 rw [e1,cell_of_row _ _ _ _ _ (0,0) hg,List.getElem?_toArray]
 have:=EF.all_get xs i j hi hj
 exact this.trans hu
theorem l3_fct (b:Nat):[gX 103 b,gX 103 b,gX 109 b].map FV.fct=l3E:=rfl
theorem l2_fct (b:Nat):[fX b,gX 103 b].map FV.fct=[fE,gE]:=rfl
theorem l3_sz (b:Nat):∀ f∈[gX 103 b,gX 103 b,gX 109 b],f.Sz:=fun f hf=>by
 simp at hf
 rcases hf with rfl | rfl
 ·exact gX_sz _ _
 ·exact gX_sz _ _
theorem l3_in {w:World}{b:Nat}(h:SX w b):∀ f∈[gX 103 b,gX 103 b,gX 109 b],f.In w:=fun f hf=>by
 simp at hf
 rcases hf with rfl | rfl
 ·exact h.g _
 ·exact h.g _
theorem l2_in {w:World}{b:Nat}(h:SX w b):∀ f∈[fX b,gX 103 b],f.In w:=fun f hf=>by
 simp at hf
 rcases hf with rfl | rfl
 ·exact h.f
 ·exact h.g _
theorem clients3_at (win lim:Int) (h0:0≤win) (h1:win≤1099511627776) (h2:1≤lim) (h3:lim≤1000) (b:Nat) (A:Option Addr) (w:World) (hF:FS w (.slice A 3 3) [gX 103 b,gX 103 b,gX 109 b]) (hE:EnvA w):
  Calls Tryz.prog 16 #[.slice A 3 3,.int .i64 win,.int .i64 lim] w fun e w'=>(∃ v ms,e=.returned (.tuple #[v,.int .i64 0])∧ROW EM 50 w' w.heap.size v ms∧ms.map MV.alm=(almF l3E win lim false).map (almO l3E win false))∧Ext w w':=by
 refine (Clients_at A 3 [gX 103 b,gX 103 b,gX 109 b] win lim w hF (show 3≤1000 by decide) (l3_sz b) hE ⟨by omega,by omega⟩).mono ?_
 rintro e w' ⟨h,hx⟩
 rw [l3_fct] at h
 rcases h with ⟨hn,_⟩ | ⟨_,v,ms,k1,k2,k3⟩
 ·exact absurd (l3_arg win lim h0 h1 h2) hn
 ·exact ⟨⟨v,ms,k1,k2,k3⟩,hx⟩
theorem ms_none {ms:List MV}{l:List Alm}(h:ms.map MV.alm=l)(e:l=[]):ms=[]:=by
 subst e
 exact List.map_eq_nil_iff.1 h
theorem ms_one {ms:List MV}{a:Alm}(h:ms.map MV.alm=[a]):∃ m,ms=[m]∧m.alm=a:=by
 match ms,h with
 | [m],h=>exact ⟨m,rfl,by simpa using h⟩
def mX (A:Option Addr)(n b t:Int):MV:=⟨A,[⟨#[117]⟩],1,⟨#[82]⟩,0,none,[],0,n,b,t⟩
theorem a_alm:(almF l3E 5 2 false).map (almO l3E 5 false)=[(mX none 2 103 103).alm]:=by
 rw [l3_a.1,List.map_cons,List.map_nil]
 congr 1
theorem c_alm:(almF l3E 6 3 false).map (almO l3E 6 false)=[(mX none 3 103 109).alm]:=by
 rw [l3_c.1,List.map_cons,List.map_nil]
 congr 1
theorem wpList_store_var {P:Program} (w:World) {ops:Array Oper} {rest:List Oper} {o:Oper} {a:Act} {Q:Exit→Act→World→Prop} (hgd:o.guard=none) (p x:Operand) (t:TypeId) (ho:o.op=.store t p x)
  (g:Nat) (u:TypeId) (cur vs:Array Value) (hp:a.eval p=.pointer (some ⟨g,0,none⟩)) (hx:a.eval x=.agg vs) (hsz:(sizeOf t).run P w=.ok vs.size w) (hr:w.heap[g]? = some (.cells cur u (0,0))) (hlen:cur.size=vs.size) (h1:∀ v∈vs.toList,v.oneCell'=true)
  (hK:∀ w',w'.heap[g]? = some (.cells vs u (0,0))→w.grownBy w' (some g)→wpList P ops Q rest (a.put o.dst undef) w'):wpList P ops Q (o::rest) a w:=by
 refine wpList_plain hgd fun K hK'=>?_
 have hrun:=run_storeCells_at (P:=P) g 0 u vs.toList 0 cur w hr (by simp [hlen]) h1
 have e1:(cur.toList.take (0+0)++vs.toList++cur.toList.drop (0+0+vs.toList.length)).toArray=vs:=by
  have:cur.toList.drop (0+0+vs.toList.length)=[]:=by
   apply List.drop_eq_nil_of_le
   simp [hlen]
  rw [this]
  simp
 rw [e1] at hrun
 have hw':(w.setRow g vs).heap[g]? = some (.cells vs u (0,0)):=setRow_heap w g cur vs u (0,0) hr
 have hg':w.grownBy (w.setRow g vs) (some g):=⟨rfl,rfl,rfl,by simp,fun k _ hk=>setRow_other w g k _ (fun e=>hk (by simp [e]))⟩
 unfold Oper.wp execOp
 simp only [ho,hp,hx]
 simp [Instr.storeAt,Instr.sureAddr,storeVar,Value.cells,hsz,hrun,Result.andThen,Oper.upon]
 exact hK' _ _ (hK _ hw' hg')
theorem two_vars (w:World):∃ W2,(w.alloc (.cells #[.int .i64 0,.int .i64 0,.int .i64 0,.int .i64 0,.slice none 0 0,.slice none 0 0,.string ⟨#[]⟩,.slice none 0 0,.string ⟨#[]⟩,.int .i64 0,.int .i64 0,.int .u32 0] 41)).alloc (.cells #[.int .i64 0,.int .i64 0,.int .i64 0,.int .i64 0,.slice none 0 0,.slice none 0 0,.string ⟨#[]⟩,.slice none 0 0,.string ⟨#[]⟩,.int .i64 0,.int .i64 0,.int .u32 0] 41)=W2∧W2.heap[w.heap.size]? = some (.cells #[.int .i64 0,.int .i64 0,.int .i64 0,.int .i64 0,.slice none 0 0,.slice none 0 0,.string ⟨#[]⟩,.slice none 0 0,.string ⟨#[]⟩,.int .i64 0,.int .i64 0,.int .u32 0] 41 (0,0))∧W2.heap[w.heap.size+1]? = some (.cells #[.int .i64 0,.int .i64 0,.int .i64 0,.int .i64 0,.slice none 0 0,.slice none 0 0,.string ⟨#[]⟩,.slice none 0 0,.string ⟨#[]⟩,.int .i64 0,.int .i64 0,.int .u32 0] 41 (0,0))∧Ext w W2:=by
 have z1:=heap_alloc_new w (.cells #[.int .i64 0,.int .i64 0,.int .i64 0,.int .i64 0,.slice none 0 0,.slice none 0 0,.string ⟨#[]⟩,.slice none 0 0,.string ⟨#[]⟩,.int .i64 0,.int .i64 0,.int .u32 0] 41)
 have x1:=(Ext.refl w).alloc (.cells #[.int .i64 0,.int .i64 0,.int .i64 0,.int .i64 0,.slice none 0 0,.slice none 0 0,.string ⟨#[]⟩,.slice none 0 0,.string ⟨#[]⟩,.int .i64 0,.int .i64 0,.int .u32 0] 41)
 have z2:=heap_alloc_new (w.alloc (.cells #[.int .i64 0,.int .i64 0,.int .i64 0,.int .i64 0,.slice none 0 0,.slice none 0 0,.string ⟨#[]⟩,.slice none 0 0,.string ⟨#[]⟩,.int .i64 0,.int .i64 0,.int .u32 0] 41)) (.cells #[.int .i64 0,.int .i64 0,.int .i64 0,.int .i64 0,.slice none 0 0,.slice none 0 0,.string ⟨#[]⟩,.slice none 0 0,.string ⟨#[]⟩,.int .i64 0,.int .i64 0,.int .u32 0] 41)
 rw [World.size_alloc] at z2
 have x2:=(Ext.refl (w.alloc (.cells #[.int .i64 0,.int .i64 0,.int .i64 0,.int .i64 0,.slice none 0 0,.slice none 0 0,.string ⟨#[]⟩,.slice none 0 0,.string ⟨#[]⟩,.int .i64 0,.int .i64 0,.int .u32 0] 41))).alloc (.cells #[.int .i64 0,.int .i64 0,.int .i64 0,.int .i64 0,.slice none 0 0,.slice none 0 0,.string ⟨#[]⟩,.slice none 0 0,.string ⟨#[]⟩,.int .i64 0,.int .i64 0,.int .u32 0] 41)
 exact ⟨_,rfl,x2.heap z1,z2,x1.trans x2⟩
theorem one8 {vs:Array Value}(h:vs.toList.all (fun v=>v.oneCell')=true):∀ v∈vs.toList,v.oneCell'=true:=fun v hv=>List.all_eq_true.1 h v hv
set_option maxRecDepth 100000 in
set_option maxHeartbeats 800000 in
theorem alarm_none (win lim:Int) (h0:0≤win) (h1:win≤1099511627776) (h2:1≤lim) (h3:lim≤1000) (ha:almF l3E win lim false=[]) (x y:Int) (w:World) (hE:EnvA w):
  Calls Tryz.prog 32 #[.int .i64 win,.int .i64 lim,.int .i64 0,.int .i64 x,.int .i64 y] w fun e w'=>e=.returned (.bool true)∧Ext w w':=by
 have HS:=Lib.hid (sample_at w)
 unfold FV.val at HS
 have HE:=Lib.hid hE
 have HC:=Lib.hid (fun b A W (hF:FS W (.slice A 3 3) [gX 103 b,gX 103 b,gX 109 b]) (hE:EnvA W)=>clients3_at win lim h0 h1 h2 h3 b A W hF hE)
 have HAL:=Lib.hid ha
 clear h0 h1 h2 h3 ha hE
 go_enter Tryz.func32,Tryz.ntmps32
 go_wp2_with fail
 refine HS.out.mono ?_
 rintro _ w1 ⟨⟨b,rfl,hS⟩,hx1⟩
 have HX1:=Lib.hid hx1
 obtain ⟨W2,e2,z1,z2,hx2⟩:=two_vars w1
 have HSX:=Lib.hid hS;have HX2:=Lib.hid hx2
 have tok1:True:=trivial
 have tok2:True:=trivial
 clear hS hx1 hx2
 go_upto_region 2 with (first
  | (refine wpList_store_var W2 rfl (.tmp 11) (.tmp 18) 41 rfl w1.heap.size 41 #[.int .i64 0,.int .i64 0,.int .i64 0,.int .i64 0,.slice none 0 0,.slice none 0 0,.string ⟨#[]⟩,.slice none 0 0,.string ⟨#[]⟩,.int .i64 0,.int .i64 0,.int .u32 0] #[.int .i64 100,.int .i64 5,.int .i64 10,.int .i64 2,.slice (some ⟨b,0,none⟩) 4 4,.slice (some ⟨b+1,0,none⟩) 1 1,.string ⟨#[82]⟩,.slice (some ⟨b+1+1,0,none⟩) 2 2,.string ⟨#[82]⟩,.int .i64 0,.int .i64 2,.int .u32 257] rfl rfl (Tryz.sizeOf41 W2) z1 rfl (one8 rfl) ?_;intro WA hA hgA;have z2A:=(hgA.block (w1.heap.size+1) (Array.getElem?_eq_some_iff.1 z2).1 (by simp)).trans z2)
  | (refine wpList_store_var _ rfl (.tmp 12) (.tmp 19) 41 rfl (w1.heap.size+1) 41 #[.int .i64 0,.int .i64 0,.int .i64 0,.int .i64 0,.slice none 0 0,.slice none 0 0,.string ⟨#[]⟩,.slice none 0 0,.string ⟨#[]⟩,.int .i64 0,.int .i64 0,.int .u32 0] #[.int .i64 103,.int .i64 5,.int .i64 10,.int .i64 2,.slice (some ⟨b,0,none⟩) 4 4,.slice (some ⟨b+1,0,none⟩) 1 1,.string ⟨#[82]⟩,.slice (some ⟨b+1+1,0,none⟩) 2 2,.string ⟨#[82]⟩,.int .i64 24,.int .i64 0,.int .u32 0] rfl rfl (Tryz.sizeOf41 _) z2A rfl (one8 rfl) ?_;intro WB bG hgB)
  | fail)
 have hxB:Ext w1 WB:=Below.grown (Below.grown HX2.out hgA HX2.out.size (fun j hj=>by cases hj;exact Nat.le_refl _)) hgB (Nat.le_trans HX2.out.size hgA.size) (fun j hj=>by cases hj;exact Nat.le_succ _)
 have hSB:=HSX.out.ext hxB
 clear e2 z1 z2 z2A hA hgA hgB
 obtain ⟨⟨kc0,kc1,kc2,kc3,kc4,kc5,kc6,kc7,kc8,kc9,kc10,kc11⟩,_⟩:=rw12 (show RW WB (w1.heap.size+1) 41 #[.int .i64 103,.int .i64 5,.int .i64 10,.int .i64 2,.slice (some ⟨b,0,none⟩) 4 4,.slice (some ⟨b+1,0,none⟩) 1 1,.string ⟨#[82]⟩,.slice (some ⟨b+1+1,0,none⟩) 2 2,.string ⟨#[82]⟩,.int .i64 24,.int .i64 0,.int .u32 0] from bG)
 have zZ:=heap_alloc_new WB (.cells #[.int .i64 0,.int .i64 0,.int .i64 0,.int .i64 0,.slice none 0 0,.slice none 0 0,.string ⟨#[]⟩,.slice none 0 0,.string ⟨#[]⟩,.int .i64 0,.int .i64 0,.int .u32 0] 41)
 have xZ:=(Ext.refl WB).alloc (.cells #[.int .i64 0,.int .i64 0,.int .i64 0,.int .i64 0,.slice none 0 0,.slice none 0 0,.string ⟨#[]⟩,.slice none 0 0,.string ⟨#[]⟩,.int .i64 0,.int .i64 0,.int .u32 0] 41)
 obtain ⟨WZ,eZ⟩:∃ W,WB.alloc (.cells #[.int .i64 0,.int .i64 0,.int .i64 0,.int .i64 0,.slice none 0 0,.slice none 0 0,.string ⟨#[]⟩,.slice none 0 0,.string ⟨#[]⟩,.int .i64 0,.int .i64 0,.int .u32 0] 41)=W:=⟨_,rfl⟩
 rw [eZ] at zZ xZ
 go_upto_region 3 with (first
  | (refine wpList_store_var WZ rfl (.tmp 13) (.tmp 20) 41 rfl WB.heap.size 41 #[.int .i64 0,.int .i64 0,.int .i64 0,.int .i64 0,.slice none 0 0,.slice none 0 0,.string ⟨#[]⟩,.slice none 0 0,.string ⟨#[]⟩,.int .i64 0,.int .i64 0,.int .u32 0] #[.int .i64 103,.int .i64 5,.int .i64 10,.int .i64 2,.slice (some ⟨b,0,none⟩) 4 4,.slice (some ⟨b+1,0,none⟩) 1 1,.string ⟨#[82]⟩,.slice (some ⟨b+1+1,0,none⟩) 2 2,.string ⟨#[82]⟩,.int .i64 24,.int .i64 0,.int .u32 0] rfl rfl (Tryz.sizeOf41 WZ) zZ rfl (one8 rfl) ?_;intro WC b3 hg3)
  | fail)
 have x3:Ext WB WC:=Below.grown xZ hg3 xZ.size (fun j hj=>by cases hj;exact Nat.le_refl _)
 clear eZ zZ xZ hg3
 change RW WC WB.heap.size 41 #[.int .i64 103,.int .i64 5,.int .i64 10,.int .i64 2,.slice (some ⟨b,0,none⟩) 4 4,.slice (some ⟨b+1,0,none⟩) 1 1,.string ⟨#[82]⟩,.slice (some ⟨b+1+1,0,none⟩) 2 2,.string ⟨#[82]⟩,.int .i64 24,.int .i64 0,.int .u32 0] at b3
 obtain ⟨⟨kd0,kd1,kd2,kd3,kd4,kd5,kd6,kd7,kd8,kd9,kd10,kd11⟩,kdz0,_⟩:=rw12 b3
 have b4:RW (WC.setCell ⟨WB.heap.size,0,none⟩ (.int .i64 109)) WB.heap.size 41 #[.int .i64 109,.int .i64 5,.int .i64 10,.int .i64 2,.slice (some ⟨b,0,none⟩) 4 4,.slice (some ⟨b+1,0,none⟩) 1 1,.string ⟨#[82]⟩,.slice (some ⟨b+1+1,0,none⟩) 2 2,.string ⟨#[82]⟩,.int .i64 24,.int .i64 0,.int .u32 0]:=b3.set 0 (.int .i64 109)
 have x4:=x3.setCell (p:=⟨WB.heap.size,0,none⟩) (Nat.le_refl _) (.int .i64 109)
 obtain ⟨WD,eD⟩:∃ W,WC.setCell ⟨WB.heap.size,0,none⟩ (.int .i64 109)=W:=⟨_,rfl⟩
 rw [eD] at b4 x4
 obtain ⟨⟨ke0,ke1,ke2,ke3,ke4,ke5,ke6,ke7,ke8,ke9,ke10,ke11⟩,_⟩:=rw12 b4
 obtain ⟨⟨kf0,kf1,kf2,kf3,kf4,kf5,kf6,kf7,kf8,kf9,kf10,kf11⟩,_⟩:=rw12 (show RW WD (w1.heap.size+1) 41 #[.int .i64 103,.int .i64 5,.int .i64 10,.int .i64 2,.slice (some ⟨b,0,none⟩) 4 4,.slice (some ⟨b+1,0,none⟩) 1 1,.string ⟨#[82]⟩,.slice (some ⟨b+1+1,0,none⟩) 2 2,.string ⟨#[82]⟩,.int .i64 24,.int .i64 0,.int .u32 0] from RW.ext bG x4)
 have hSD:=hSB.ext x4
 have f5:=FS.new WD [gX 103 b,gX 103 b,gX 109 b] (show 3≤maxLen by decide) (l3_in hSD)
 have x5:=(Ext.refl WD).alloc (.cells #[.int .i64 103,.int .i64 5,.int .i64 10,.int .i64 2,.slice (some ⟨b,0,none⟩) 4 4,.slice (some ⟨b+1,0,none⟩) 1 1,.string ⟨#[82]⟩,.slice (some ⟨b+1+1,0,none⟩) 2 2,.string ⟨#[82]⟩,.int .i64 24,.int .i64 0,.int .u32 0,.int .i64 103,.int .i64 5,.int .i64 10,.int .i64 2,.slice (some ⟨b,0,none⟩) 4 4,.slice (some ⟨b+1,0,none⟩) 1 1,.string ⟨#[82]⟩,.slice (some ⟨b+1+1,0,none⟩) 2 2,.string ⟨#[82]⟩,.int .i64 24,.int .i64 0,.int .u32 0,.int .i64 109,.int .i64 5,.int .i64 10,.int .i64 2,.slice (some ⟨b,0,none⟩) 4 4,.slice (some ⟨b+1,0,none⟩) 1 1,.string ⟨#[82]⟩,.slice (some ⟨b+1+1,0,none⟩) 2 2,.string ⟨#[82]⟩,.int .i64 24,.int .i64 0,.int .u32 0] 41)
 change FS (WD.alloc (.cells #[.int .i64 103,.int .i64 5,.int .i64 10,.int .i64 2,.slice (some ⟨b,0,none⟩) 4 4,.slice (some ⟨b+1,0,none⟩) 1 1,.string ⟨#[82]⟩,.slice (some ⟨b+1+1,0,none⟩) 2 2,.string ⟨#[82]⟩,.int .i64 24,.int .i64 0,.int .u32 0,.int .i64 103,.int .i64 5,.int .i64 10,.int .i64 2,.slice (some ⟨b,0,none⟩) 4 4,.slice (some ⟨b+1,0,none⟩) 1 1,.string ⟨#[82]⟩,.slice (some ⟨b+1+1,0,none⟩) 2 2,.string ⟨#[82]⟩,.int .i64 24,.int .i64 0,.int .u32 0,.int .i64 109,.int .i64 5,.int .i64 10,.int .i64 2,.slice (some ⟨b,0,none⟩) 4 4,.slice (some ⟨b+1,0,none⟩) 1 1,.string ⟨#[82]⟩,.slice (some ⟨b+1+1,0,none⟩) 2 2,.string ⟨#[82]⟩,.int .i64 24,.int .i64 0,.int .u32 0] 41)) (.slice (some ⟨WD.heap.size,0,none⟩) 3 3) _ at f5
 obtain ⟨WE,eE⟩:∃ W,WD.alloc (.cells #[.int .i64 103,.int .i64 5,.int .i64 10,.int .i64 2,.slice (some ⟨b,0,none⟩) 4 4,.slice (some ⟨b+1,0,none⟩) 1 1,.string ⟨#[82]⟩,.slice (some ⟨b+1+1,0,none⟩) 2 2,.string ⟨#[82]⟩,.int .i64 24,.int .i64 0,.int .u32 0,.int .i64 103,.int .i64 5,.int .i64 10,.int .i64 2,.slice (some ⟨b,0,none⟩) 4 4,.slice (some ⟨b+1,0,none⟩) 1 1,.string ⟨#[82]⟩,.slice (some ⟨b+1+1,0,none⟩) 2 2,.string ⟨#[82]⟩,.int .i64 24,.int .i64 0,.int .u32 0,.int .i64 109,.int .i64 5,.int .i64 10,.int .i64 2,.slice (some ⟨b,0,none⟩) 4 4,.slice (some ⟨b+1,0,none⟩) 1 1,.string ⟨#[82]⟩,.slice (some ⟨b+1+1,0,none⟩) 2 2,.string ⟨#[82]⟩,.int .i64 24,.int .i64 0,.int .u32 0] 41)=W:=⟨_,rfl⟩
 rw [eE] at f5 x5
 have HX5:=Lib.hid (((HX1.out.trans hxB).trans x4).trans x5)
 have HCC:=Lib.hid (HC.out b _ WE f5 (HE.out.ext HX5.out))
 clear bG hxB hSB b3 x3 b4 x4 hSD f5 x5
 go_wp2_with fail
 refine HCC.out.mono ?_
 rintro _ w6 ⟨⟨v,ms,rfl,hrow,hms⟩,hx6⟩
 obtain rfl:=ms_none hms (by rw [HAL.out];rfl)
 obtain ⟨A,c,rfl⟩:=hrow.shape
 have HX6:=Lib.hid (HX5.out.trans hx6)
 clear hrow hms hx6
 go_wp2_with fail
 go_ret
 exact ⟨rfl,HX6.out⟩
end Go.Proofs.YtnjmndofcpnmeaaGreatDoor
