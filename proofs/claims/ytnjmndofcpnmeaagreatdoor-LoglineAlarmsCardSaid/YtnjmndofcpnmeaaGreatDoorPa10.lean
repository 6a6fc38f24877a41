/- Pa10. -/
import Derived.Test.YtnjmndofcpnmeaaGreatDoorPa9
import Derived.MapKept
import Derived.RangeFuncRecord
import Derived.Test.YtnjmndofcpnmeaaGreatDoorPa0
import Derived.Laws.Concat
namespace Go.Proofs.YtnjmndofcpnmeaaGreatDoor
open Go Go.RowKit
set_option linter.unusedVariables false
def kindsL:List (Int × Value):=[(2,.func (.func 196) #[] #[]),(20,.func (.func 197) #[] #[]),(24,.func (.func 198) #[] #[])]
def entsA (i:Nat):List MapEntry:=((kindsL.take i).zipIdx).map fun x=>{ key:=.int .i64 x.1.1,val:=x.1.2,born:=x.2 }
def KM (W:World)(b:Nat):Prop:=W.heap[b]? = some (.map (entsA 3).toArray 3)
theorem KM.ext {W W':World}{b:Nat}(h:KM W b)(hx:Ext W W'):KM W' b:=hx.heap h
theorem run_mapNewA {P:Program} {W:World} {T K E b n:Nat} {d:TypeDesc} {es:Array MapEntry} {k v:Value} (hT:P.underlying T=some (.map K E)) (hK:P.underlying K=some d) (hk:MapKept.IsKey d k) (h:W.heap[b]? = some (.map es n)) (hf:Instr.findNow d k es.toList 0=some none):
  (Instr.mapUpdate T (.map (some b)) k v).run P W=.ok () (W.putObj b (.map (es.push { key:=k,val:=v,born:=n }) (n+1))):=by
 simp [Instr.mapUpdate,run_underlying hT,MapKept.run_getObj_map h,MapKept.run_checkKey hK hk,MapKept.run_findKey hK hf,MapKept.run_setObj_map _ h,Result.andThen,World.putObj]
theorem put_sameA {W:World}{b:Nat}{o o':Obj}(h:W.heap[b]? = some o):(W.putObj b o').heap[b]? = some o':=World.putObj_heap_same (Array.getElem?_eq_some_iff.1 h).1
theorem ext_putA {w W:World}{b:Nat}{o:Obj}(h:Ext w W)(hb:w.heap.size≤b):Ext w (W.putObj b o):=
 ⟨h.os,h.tape,h.output,Nat.le_trans h.size (by simp [World.putObj]),fun k hk=>(World.putObj_heap_other (by omega)).trans (h.block k hk)⟩
theorem insA0 (W:World)(b:Nat)(h:W.heap[b]? = some (.map (entsA 0).toArray 0)):(Instr.mapUpdate 203 (.map (some b)) (.int .i64 2) (.func (.func 196) #[] #[])).run Tryz.prog W=.ok () (W.putObj b (.map (entsA 1).toArray 1)):=
 run_mapNewA (k:=.int .i64 2) Tryz.underlying203 Tryz.underlying3 (d:=.int .i64) rfl h (by kernel_rfl)
theorem insA1 (W:World)(b:Nat)(h:W.heap[b]? = some (.map (entsA 1).toArray 1)):(Instr.mapUpdate 203 (.map (some b)) (.int .i64 20) (.func (.func 197) #[] #[])).run Tryz.prog W=.ok () (W.putObj b (.map (entsA 2).toArray 2)):=
 run_mapNewA (k:=.int .i64 20) Tryz.underlying203 Tryz.underlying3 (d:=.int .i64) rfl h (by kernel_rfl)
theorem insA2 (W:World)(b:Nat)(h:W.heap[b]? = some (.map (entsA 2).toArray 2)):(Instr.mapUpdate 203 (.map (some b)) (.int .i64 24) (.func (.func 198) #[] #[])).run Tryz.prog W=.ok () (W.putObj b (.map (entsA 3).toArray 3)):=
 run_mapNewA (k:=.int .i64 24) Tryz.underlying203 Tryz.underlying3 (d:=.int .i64) rfl h (by kernel_rfl)
set_option maxRecDepth 100000 in
theorem kinds_at (w:World):
  Calls Tryz.prog 155 #[] w fun e w'=>e=.returned (.map (some w.heap.size))∧KM w' w.heap.size∧Ext w w':=by
 have hmm:=@run_makeMap Tryz.prog
 have g0:(w.alloc (.map #[] 0)).heap[w.heap.size]? = some (.map (entsA 0).toArray 0):=heap_alloc_new w _
 have x0:=(Ext.refl w).alloc (.map #[] 0)
 obtain ⟨W0,hW0⟩:∃ W,w.alloc (.map #[] 0)=W:=⟨_,rfl⟩
 rw [hW0] at g0 x0
 have h0:=insA0 W0 _ g0
 have g1:=put_sameA (o':=.map (entsA 1).toArray 1) g0
 have x1:=ext_putA (o:=.map (entsA 1).toArray 1) x0 (Nat.le_refl _)
 obtain ⟨W1,hW1⟩:∃ W,W0.putObj w.heap.size (.map (entsA 1).toArray 1)=W:=⟨_,rfl⟩
 rw [hW1] at h0 g1 x1
 clear hW1
 have h1:=insA1 W1 _ g1
 have g2:=put_sameA (o':=.map (entsA 2).toArray 2) g1
 have x2:=ext_putA (o:=.map (entsA 2).toArray 2) x1 (Nat.le_refl _)
 obtain ⟨W2,hW2⟩:∃ W,W1.putObj w.heap.size (.map (entsA 2).toArray 2)=W:=⟨_,rfl⟩
 rw [hW2] at h1 g2 x2
 clear hW2
 have h2:=insA2 W2 _ g2
 have g3:=put_sameA (o':=.map (entsA 3).toArray 3) g2
 have x3:=ext_putA (o:=.map (entsA 3).toArray 3) x2 (Nat.le_refl _)
 obtain ⟨W3,hW3⟩:∃ W,W2.putObj w.heap.size (.map (entsA 3).toArray 3)=W:=⟨_,rfl⟩
 rw [hW3] at h2 g3 x3
 clear hW3
 have G:=Lib.hid g3;have X:=Lib.hid x3
 clear g0 x0 g1 x1 g2 x2 g3 x3
 go_enter Tryz.func155,Tryz.ntmps155
 go_wp2
 go_ret
 exact ⟨rfl,G.out,X.out⟩
theorem run_lookA {P:Program} {W:World} {T K E b n:Nat} {d:TypeDesc} {es:Array MapEntry} {k z v:Value} {r:Option (Nat × Value)} {ok:Bool} (hT:P.underlying T=some (.map K E)) (hK:P.underlying K=some d) (hk:MapKept.IsKey d k) (h:W.heap[b]? = some (.map es n)) (hz:(zeroValue E).run P W=.ok z W) (hf:Instr.findNow d k es.toList 0=some r)
  (hr:v=(match r with | some x=>x.2 | none=>z)) (hok:ok=r.isSome):(Instr.lookup T (.map (some b)) k true).run P W=.ok (.tuple #[v,.bool ok]) W:=by
 subst hr;subst hok
 cases r with
 | none=>simp [Instr.lookup,run_underlying hT,MapKept.run_getObj_map h,MapKept.run_checkKey hK hk,MapKept.run_findKey hK hf,hz,Result.andThen]
 | some x=>simp [Instr.lookup,run_underlying hT,MapKept.run_getObj_map h,MapKept.run_checkKey hK hk,MapKept.run_findKey hK hf,Result.andThen]
theorem zeroF (W:World):(zeroValue 201).run Tryz.prog W=.ok .nilFunc W:=by kernel_rfl
theorem look_no (k:Int)(h2:k≠2)(h20:k≠20)(h24:k≠24)(W:World)(b:Nat)(h:KM W b):(Instr.lookup 203 (.map (some b)) (.int .i64 k) true).run Tryz.prog W=.ok (.tuple #[.nilFunc,.bool false]) W:=by
 have hf:Instr.findNow (.int .i64) (.int .i64 k) (entsA 3) 0=some none:=by
  rcases MapKept.findNow_spec (d:=.int .i64) (k:=.int .i64 k) rfl (entsA 3) 0 (by intro x hx;simp [entsA,kindsL] at hx;rcases hx with rfl | rfl | rfl<;>rfl) with ⟨h1,_⟩ | ⟨j,e,_,h2',h3⟩
  ·exact h1
  ·have hm:=List.mem_of_getElem? h2'
   simp [entsA,kindsL] at hm
   rcases hm with rfl | rfl | rfl<;>(injection h3 with _ h3;omega)
 exact run_lookA (k:=.int .i64 k) Tryz.underlying203 Tryz.underlying3 (d:=.int .i64) rfl h (zeroF W) (r:=none) (by simpa using hf) rfl rfl
theorem look_2 (W:World)(b:Nat)(h:KM W b):(Instr.lookup 203 (.map (some b)) (.int .i64 2) true).run Tryz.prog W=.ok (.tuple #[.func (.func 196) #[] #[],.bool true]) W:=
 run_lookA (k:=.int .i64 2) Tryz.underlying203 Tryz.underlying3 (d:=.int .i64) rfl h (zeroF W) (r:=some (0,.func (.func 196) #[] #[])) (by kernel_rfl) rfl rfl
theorem look_20 (W:World)(b:Nat)(h:KM W b):(Instr.lookup 203 (.map (some b)) (.int .i64 20) true).run Tryz.prog W=.ok (.tuple #[.func (.func 197) #[] #[],.bool true]) W:=
 run_lookA (k:=.int .i64 20) Tryz.underlying203 Tryz.underlying3 (d:=.int .i64) rfl h (zeroF W) (r:=some (1,.func (.func 197) #[] #[])) (by kernel_rfl) rfl rfl
theorem look_24 (W:World)(b:Nat)(h:KM W b):(Instr.lookup 203 (.map (some b)) (.int .i64 24) true).run Tryz.prog W=.ok (.tuple #[.func (.func 198) #[] #[],.bool true]) W:=
 run_lookA (k:=.int .i64 24) Tryz.underlying203 Tryz.underlying3 (d:=.int .i64) rfl h (zeroF W) (r:=some (2,.func (.func 198) #[] #[])) (by kernel_rfl) rfl rfl
def AB (w:World)(g:Nat)(k:Int)(A:Option Addr)(n c:Nat):Prop:=w.heap[g]? = some (.cells #[.int .i64 k,.slice A n c] 34 (0,0))
theorem AB.ext {w w':World}{g:Nat}{k:Int}{A:Option Addr}{n c:Nat}(h:AB w g k A n c)(hx:Ext w w'):AB w' g k A n c:=hx.heap h
theorem AB.cells {w:World}{g:Nat}{k:Int}{A:Option Addr}{n c:Nat}(h:AB w g k A n c):w.cell? ⟨g,0,none⟩=some (.int .i64 k)∧w.cell? ⟨g,1,none⟩=some (.slice A n c):=
 ⟨by rw [cell_of_row w g 0 _ _ (0,0) h];rfl,by rw [cell_of_row w g 1 _ _ (0,0) h];rfl⟩
theorem AB.new (w:World)(k:Int)(A:Option Addr)(n c:Nat):AB (w.alloc (.cells #[.int .i64 k,.slice A n c] 34)) w.heap.size k A n c:=heap_alloc_new w _
def adv (k:Int)(A:Option Addr)(n c:Nat):Value:=.agg #[.int .i64 k,.slice A n c]
set_option maxRecDepth 100000 in
set_option maxHeartbeats 1000000 in
theorem text_of (k:Int) (f:Nat) (A:Option Addr) (n c:Nat) (vb:Bool) (l:List UInt8) (w:World) (eg:∀ args w,(callFunc f args).run Tryz.prog w=.ok (.enter f args) w)
  (HL:∀ (W:World) (b:Nat),KM W b→(Instr.lookup 203 (.map (some b)) (.int .i64 k) true).run Tryz.prog W=.ok (.tuple #[.func (.func f) #[] #[],.bool true]) W)
  (HF:∀ W,Ext w W→Calls Tryz.prog f #[.slice A n c] W fun e W'=>e=.returned (resA vb l)∧Ext W W'):
  Calls Tryz.prog 107 #[adv k A n c] w fun e w'=>e=.returned (resA vb l)∧Ext w w':=by
 have h0:=AB.new w k A n c
 obtain ⟨W1,e1⟩:∃ W,w.alloc (.cells #[.int .i64 k,.slice A n c] 34)=W:=⟨_,rfl⟩
 have x1:Ext w W1:=e1 ▸ (Ext.refl w).alloc _
 rw [e1] at h0
 obtain ⟨c0,c1⟩:=h0.cells
 have HB:=Lib.hid h0;have HX:=Lib.hid x1;have HLL:=Lib.hid HL;have HFF:=Lib.hid HF
 unfold resA at HFF ⊢
 obtain ⟨S,hS⟩:∃ S,(⟨(if vb=true then l else []).toArray⟩:ByteArray)=S:=⟨_,rfl⟩
 rw [hS] at HFF ⊢
 clear h0 x1 HL HF hS
 unfold adv
 go_enter Tryz.func107,Tryz.ntmps107
 go_wp2_with fail
 refine wp_region_ext (fun i v' w'=>match i with | 0=>∃ g,v'=.map (some g)∧KM w' g | _=>False) (by kernel_rfl) (by kernel_rfl) ?_
 refine wpE_call 7 rfl (by simp) rfl (fun w' hw' K' hK'=>?_) ?_
 ·have hE:=hw'.1
  go_step
  refine (kinds_at w').mono ?_
  rintro _ w2 ⟨rfl,hn,hx⟩
  exact hK' _ _ ⟨_,rfl,⟨_,rfl,hn⟩⟩ hx
 rintro v7 w7 hE7 ⟨g7,rfl,hn7⟩
 have HN7:=Lib.hid hn7
 clear hn7
 simp only [Act.put,sT1,sT2,sT3]
 refine wpE_op rfl rfl (fun w' hw' K' hK'=>?_)
 have hE:=hw'.1
 go_step
 refine hK' _ ⟨_,rfl⟩ ?_
 clear hK' K' hE hw' w'
 refine wpE_op rfl rfl (fun w' hw' K' hK'=>?_)
 have hE:=hw'.1
 have u0:=((Ext.drew _).trans hE).cell c0
 go_step
 refine hK' _ ⟨_,rfl⟩ ?_
 clear hK' K' u0 hE hw' w'
 refine wpE_op rfl rfl (fun w' hw' K' hK'=>?_)
 have hE:=hw'.1
 have hM:Ext w7 w':=hw'.2 7 w7 (by simp [adds]) (by decide)
 have hlk:=HLL.out w' g7 (HN7.out.ext hM)
 go_step
 refine hK' _ ⟨_,rfl⟩ ?_
 clear hK' K' hM hlk hE hw' w'
 refine wpE_op rfl rfl (fun w' hw' K' hK'=>?_)
 have hE:=hw'.1
 go_step
 refine hK' _ ⟨_,rfl⟩ ?_
 clear hK' K' hE hw' w'
 refine wpE_op rfl rfl (fun w' hw' K' hK'=>?_)
 have hE:=hw'.1
 go_step
 refine hK' _ ⟨_,rfl⟩ ?_
 clear hK' K' hE hw' w'
 refine wpE_op rfl rfl (fun w' hw' K' hK'=>?_)
 have hE:=hw'.1
 go_step
 refine hK' _ ⟨_,rfl⟩ ?_
 clear hK' K' hE hw' w'
 refine wpE_op rfl rfl (fun w' hw' K' hK'=>?_)
 have hE:=hw'.1
 go_step
 refine hK' _ ⟨_,rfl⟩ ?_
 clear hK' K' hE hw' w'
 refine wpE_op rfl rfl (fun w' hw' K' hK'=>?_)
 have hE:=hw'.1
 go_step
 refine hK' _ ⟨_,rfl⟩ ?_
 clear hK' K' hE hw' w'
 refine wpE_nil (fun w2 hw2=>?_)
 have hx2:=(Ext.drew W1).trans hw2.1
 have HX2:=Lib.hid (HX.out.trans hx2)
 obtain ⟨d0,d1⟩:=(HB.out.ext hx2).cells
 clear hw2 hx2 c0 c1 e1
 go_wp2_with fail
 refine (HFF.out _ HX2.out).mono ?_
 rintro _ w3 ⟨rfl,hx3⟩
 have HX3:=Lib.hid (HX2.out.trans hx3)
 clear hx3
 go_wp2_with fail
 go_ret2
 exact ⟨rfl,HX3.out⟩
set_option maxRecDepth 100000 in
set_option maxHeartbeats 1000000 in
theorem text_miss (k:Int) (h2:k≠2) (h20:k≠20) (h24:k≠24) (A:Option Addr) (n c:Nat) (w:World):
  Calls Tryz.prog 107 #[adv k A n c] w fun e w'=>e=.returned (.tuple #[.string ⟨#[]⟩,.bool false])∧Ext w w':=by
 have h0:=AB.new w k A n c
 obtain ⟨W1,e1⟩:∃ W,w.alloc (.cells #[.int .i64 k,.slice A n c] 34)=W:=⟨_,rfl⟩
 have x1:Ext w W1:=e1 ▸ (Ext.refl w).alloc _
 rw [e1] at h0
 obtain ⟨c0,c1⟩:=h0.cells
 have HB:=Lib.hid h0;have HX:=Lib.hid x1;have HLL:=Lib.hid (look_no k h2 h20 h24)
 clear h0 x1 h2 h20 h24
 unfold adv
 go_enter Tryz.func107,Tryz.ntmps107
 go_wp2_with fail
 refine wp_region_ext (fun i v' w'=>match i with | 0=>∃ g,v'=.map (some g)∧KM w' g | _=>False) (by kernel_rfl) (by kernel_rfl) ?_
 refine wpE_call 7 rfl (by simp) rfl (fun w' hw' K' hK'=>?_) ?_
 ·have hE:=hw'.1
  go_step
  refine (kinds_at w').mono ?_
  rintro _ w2 ⟨rfl,hn,hx⟩
  exact hK' _ _ ⟨_,rfl,⟨_,rfl,hn⟩⟩ hx
 rintro v7 w7 hE7 ⟨g7,rfl,hn7⟩
 have HN7:=Lib.hid hn7
 clear hn7
 simp only [Act.put,sT1,sT2,sT3]
 refine wpE_op rfl rfl (fun w' hw' K' hK'=>?_)
 have hE:=hw'.1
 go_step
 refine hK' _ ⟨_,rfl⟩ ?_
 clear hK' K' hE hw' w'
 refine wpE_op rfl rfl (fun w' hw' K' hK'=>?_)
 have hE:=hw'.1
 have u0:=((Ext.drew _).trans hE).cell c0
 go_step
 refine hK' _ ⟨_,rfl⟩ ?_
 clear hK' K' u0 hE hw' w'
 refine wpE_op rfl rfl (fun w' hw' K' hK'=>?_)
 have hE:=hw'.1
 have hM:Ext w7 w':=hw'.2 7 w7 (by simp [adds]) (by decide)
 have hlk:=HLL.out w' g7 (HN7.out.ext hM)
 go_step
 refine hK' _ ⟨_,rfl⟩ ?_
 clear hK' K' hM hlk hE hw' w'
 refine wpE_op rfl rfl (fun w' hw' K' hK'=>?_)
 have hE:=hw'.1
 go_step
 refine hK' _ ⟨_,rfl⟩ ?_
 clear hK' K' hE hw' w'
 refine wpE_op rfl rfl (fun w' hw' K' hK'=>?_)
 have hE:=hw'.1
 go_step
 refine hK' _ ⟨_,rfl⟩ ?_
 clear hK' K' hE hw' w'
 refine wpE_op rfl rfl (fun w' hw' K' hK'=>?_)
 have hE:=hw'.1
 go_step
 refine hK' _ ⟨_,rfl⟩ ?_
 clear hK' K' hE hw' w'
 refine wpE_op rfl rfl (fun w' hw' K' hK'=>?_)
 have hE:=hw'.1
 go_step
 refine hK' _ ⟨_,rfl⟩ ?_
 clear hK' K' hE hw' w'
 refine wpE_op rfl rfl (fun w' hw' K' hK'=>?_)
 have hE:=hw'.1
 go_step
 refine hK' _ ⟨_,rfl⟩ ?_
 clear hK' K' hE hw' w'
 refine wpE_nil (fun w2 hw2=>?_)
 have hx2:=(Ext.drew W1).trans hw2.1
 have HX2:=Lib.hid (HX.out.trans hx2)
 clear hw2 hx2 c0 c1 e1
 go_wp2_with fail
 go_ret2
 exact ⟨rfl,HX2.out⟩
theorem resA_false (l:List UInt8):resA false l=.tuple #[.string ⟨#[]⟩,.bool false]:=rfl
theorem resA_true (l:List UInt8):resA true l=.tuple #[.string ⟨l.toArray⟩,.bool true]:=rfl
theorem text_at (k:Int) (b:List UInt8) (A:Option Addr) (c:Nat) (w:World) (hb:BS w (.slice A b.length c) b) (hE:EnvA w):
  Calls Tryz.prog 107 #[adv k A b.length c] w fun e w'=>e=.returned (resA (okA k b) (txtA k b))∧Ext w w':=by
 by_cases h2:k=2
 ·subst h2
  refine text_of 2 196 A b.length c (okA 2 b) (txtA 2 b) w (Go.Proofs.enters_of Tryz.func196 (by kernel_rfl) rfl) look_2 (fun W hx=>?_)
  by_cases h4:b.length=4
  ·rw [show okA 2 b=true by simp [okA,h4],resA_true]
   exact text4_at b A c W (hb.ext hx) (hE.ext hx) h4
  ·rw [show okA 2 b=false by simp [okA,h4],resA_false]
   exact text4_no b A c W h4
 by_cases h24:k=24
 ·subst h24
  refine text_of 24 198 A b.length c (okA 24 b) (txtA 24 b) w (Go.Proofs.enters_of Tryz.func198 (by kernel_rfl) rfl) look_24 (fun W hx=>?_)
  by_cases h4:b.length=16
  ·rw [show okA 24 b=true by simp [okA,h4],resA_true]
   exact text6_at b A c W (hb.ext hx) (hE.ext hx) h4
  ·rw [show okA 24 b=false by simp [okA,h4],resA_false]
   exact text6_no b A c W h4
 by_cases h20:k=20
 ·subst h20
  refine text_of 20 197 A b.length c (okA 20 b) (txtA 20 b) w (Go.Proofs.enters_of Tryz.func197 (by kernel_rfl) rfl) look_20 (fun W hx=>?_)
  by_cases hl:1≤b.length∧b.length≤16
  ·have e:okA 20 b=b.all visB:=by
    show (decide (1≤b.length∧b.length≤16)&&b.all visB)=_
    rw [decide_eq_true hl,Bool.true_and]
   rw [e]
   exact textH_at b A c W (hb.ext hx) hl.1 hl.2 _ rfl
  ·have e:okA 20 b=false:=by
    show (decide (1≤b.length∧b.length≤16)&&b.all visB)=_
    rw [decide_eq_false hl,Bool.false_and]
   rw [e,resA_false]
   exact textH_len b A c W (by omega)
 ·have e:okA k b=false:=by unfold okA;rw [if_neg h2,if_neg h24,if_neg h20]
  rw [e,resA_false]
  exact text_miss k h2 h20 h24 A b.length c w
theorem Valid_at' (k:Int) (b:List UInt8) (A:Option Addr) (c:Nat) (w:World) (hb:BS w (.slice A b.length c) b) (hE:EnvA w):
  Calls Tryz.prog 81 #[adv k A b.length c] w fun e w'=>e=.returned (.bool (okA k b))∧Ext w w':=by
 have h0:=AB.new w k A b.length c
 obtain ⟨W1,e1⟩:∃ W,w.alloc (.cells #[.int .i64 k,.slice A b.length c] 34)=W:=⟨_,rfl⟩
 have x1:Ext w W1:=e1 ▸ (Ext.refl w).alloc _
 rw [e1] at h0
 obtain ⟨c0,c1⟩:=h0.cells
 have HX:=Lib.hid x1;have HT:=Lib.hid (text_at k b A c W1 (hb.ext x1) (hE.ext x1))
 unfold resA at HT
 obtain ⟨S,hS⟩:∃ S,(⟨(if okA k b=true then txtA k b else []).toArray⟩:ByteArray)=S:=⟨_,rfl⟩
 rw [hS] at HT
 clear h0 x1 hb hE hS
 unfold adv at HT ⊢
 go_enter Tryz.func81,Tryz.ntmps81
 go_wp2_with fail
 refine HT.out.mono ?_
 rintro _ w2 ⟨rfl,hx2⟩
 have HX2:=Lib.hid (HX.out.trans hx2)
 clear hx2
 go_wp2_with fail
 go_ret
 exact ⟨rfl,HX2.out⟩
theorem AText_at (k:Int) (b:List UInt8) (A:Option Addr) (c:Nat) (w:World) (hb:BS w (.slice A b.length c) b) (hE:EnvA w) (vb:Bool) (hv:okA k b=vb):
  Calls Tryz.prog 55 #[adv k A b.length c] w fun e w'=>e=.returned (.tuple #[.string ⟨(if vb then txtA k b else []).toArray⟩,.int .i64 (if vb then 0 else 2)])∧Ext w w':=by
 have h0:=AB.new w k A b.length c
 obtain ⟨W1,e1⟩:∃ W,w.alloc (.cells #[.int .i64 k,.slice A b.length c] 34)=W:=⟨_,rfl⟩
 have x1:Ext w W1:=e1 ▸ (Ext.refl w).alloc _
 rw [e1] at h0
 obtain ⟨c0,c1⟩:=h0.cells
 have ht:=text_at k b A c W1 (hb.ext x1) (hE.ext x1)
 rw [hv] at ht
 have HX:=Lib.hid x1;have HT:=Lib.hid ht
 clear h0 x1 hb hE hv ht
 unfold adv at HT ⊢
 cases vb with
 | true=>
  rw [resA_true] at HT
  simp only [if_true]
  obtain ⟨L,hL⟩:∃ L,txtA k b=L:=⟨_,rfl⟩
  rw [hL] at HT ⊢
  clear hL
  go_enter Tryz.func55,Tryz.ntmps55
  go_wp2_with fail
  refine HT.out.mono ?_
  rintro _ w2 ⟨rfl,hx2⟩
  have HX2:=Lib.hid (HX.out.trans hx2)
  clear hx2
  go_wp2_with fail
  go_ret2
  exact ⟨rfl,HX2.out⟩
 | false=>
  rw [resA_false] at HT
  simp only [Bool.false_eq_true,if_false]
  go_enter Tryz.func55,Tryz.ntmps55
  go_wp2_with fail
  refine HT.out.mono ?_
  rintro _ w2 ⟨rfl,hx2⟩
  have HX2:=Lib.hid (HX.out.trans hx2)
  clear hx2
  go_wp2_with fail
  go_ret2
  exact ⟨rfl,HX2.out⟩
section
variable {P:Program} {ops:Array Oper} {Vs:Nat→Value→World→Prop} {w0:World}
theorem wpE_sym {Q:Act→World→Prop} {k:Nat} {o:Oper} {rest:List Oper} {a:Act} {Ws:Marks'} (c:Bool) (v:Value) (hwd:Region.wanted o (yielded ops a.tmps)=c) (hp:plainOp o.op=true)
  (h:c=true→∀ w,okw ops w0 Ws o w→∀ K:Act→World→Prop,K (a.put o.dst v) w→o.wp P a w K (fun _ _ _=>False))
  (h2:wpE P ops Vs w0 Q (k+1) rest (a.put o.dst (bif c then v else undef)) Ws):wpE P ops Vs w0 Q k (o::rest) a Ws:=by
 cases c with
 | true=>
  rw [cond_true] at h2
  exact wpE_op hwd hp fun w hw K hK=>h rfl w hw K (hK _ ⟨v,rfl⟩ h2)
 | false=>
  rw [cond_false] at h2
  unfold wpE
  rw [hwd,if_neg (by decide)]
  exact h2
theorem wpE_val {Q:Act→World→Prop} {k:Nat} {o:Oper} {rest:List Oper} {a:Act} {Ws:Marks'} (v:Value) (hwd:Region.wanted o (yielded ops a.tmps)=true) (hp:plainOp o.op=true)
  (h:∀ w,okw ops w0 Ws o w→∀ K:Act→World→Prop,K (a.put o.dst v) w→o.wp P a w K (fun _ _ _=>False))
  (h2:wpE P ops Vs w0 Q (k+1) rest (a.put o.dst v) Ws):wpE P ops Vs w0 Q k (o::rest) a Ws:=
 wpE_op hwd hp fun w hw K hK=>h w hw K (hK _ ⟨v,rfl⟩ h2)
theorem wpE_cat {Q:Act→World→Prop} {k:Nat} {o:Oper} {rest:List Oper} {a:Act} {Ws:Marks'} (l m:List UInt8) {t:TypeId} {x y:Operand} {b:TypeId} (ho:o.op=.binOp .add t x y b) (hwd:Region.wanted o (yielded ops a.tmps)=true)
  (hx:a.eval x=.string ⟨l.toArray⟩) (hy:a.eval y=.string ⟨m.toArray⟩) (hs:l.length+m.length≤9223372036854775807)
  (h2:wpE P ops Vs w0 Q (k+1) rest (a.put o.dst (.string ⟨(l++m).toArray⟩)) Ws):wpE P ops Vs w0 Q k (o::rest) a Ws:=by
 refine wpE_val _ hwd (by rw [ho];rfl) (fun w hw K hK=>?_) h2
 unfold Oper.wp execOp
 rw [ho]
 have hr:=run_string_add_sum (P:=P) w ⟨l.toArray⟩ ⟨m.toArray⟩ (by simpa [ByteArray.size] using hs)
 rw [ByteArray.mk_append_mk] at hr
 generalize (⟨(l++m).toArray⟩:ByteArray)=r at *
 simp only [hx,hy]
 simp [binOp,eqGuard,hr,Oper.upon,Result.andThen]
 exact hK
theorem wpE_symcall {Q:Act→World→Prop} {k:Nat} {o:Oper} {rest:List Oper} {a:Act} {Ws:Marks'} (d:Tmp) (ho:o.dst=some d) (hd:d<a.tmps.size) (c:Bool) (v:Value) (hwd:Region.wanted o (yielded ops a.tmps)=c) (hv:∀ v' w',Vs k v' w'→v'=v)
  (h:c=true→∀ w,okw ops w0 Ws o w→∀ K:Act→World→Prop,(∀ v' w',Vs k v' w'→Ext w w'→K (a.put o.dst v') w')→o.wp P a w K (fun _ _ _=>False))
  (h2:wpE P ops Vs w0 Q (k+1) rest (a.put o.dst (bif c then v else undef)) Ws):wpE P ops Vs w0 Q k (o::rest) a Ws:=by
 cases c with
 | true=>
  rw [cond_true] at h2
  refine wpE_call d ho hd hwd (fun w hw K hK=>h rfl w hw K fun v' w' hv' hx=>hK _ _ ⟨v',rfl,hv'⟩ hx) fun v' w' _ hv'=>?_
  obtain rfl:=hv v' w' hv'
  exact wpE_mono rest (k+1) _ _ _ (stronger_adds _ _ _) h2
 | false=>
  rw [cond_false] at h2
  unfold wpE
  rw [hwd,if_neg (by decide)]
  exact h2
end
section
variable {P:Program} {ops:Array Oper}
theorem wpL_sym {Q:Exit→Act→World→Prop} {o:Oper} {rest:List Oper} {a:Act} {w:World} (c:Bool) (v:Value) (hwd:Region.wanted o (yielded ops a.tmps)=c)
  (h:c=true→∀ K:Act→World→Prop,K (a.put o.dst v) w→o.wp P a w K Q)
  (h2:wpList P ops Q rest (a.put o.dst (bif c then v else undef)) w):wpList P ops Q (o::rest) a w:=by
 cases c with
 | true=>exact wpList_step fun K hK=>by rw [hwd,if_pos rfl];exact h rfl K (hK _ _ h2)
 | false=>exact wpList_step fun K hK=>by rw [hwd,if_neg (by decide)];exact hK _ _ h2
theorem wpL_symcall {Q:Exit→Act→World→Prop} {o:Oper} {rest:List Oper} {a:Act} {w:World} (c:Bool) (v:Value) (hwd:Region.wanted o (yielded ops a.tmps)=c)
  (h:c=true→∀ K:Act→World→Prop,(∀ w',Ext w w'→K (a.put o.dst v) w')→o.wp P a w K Q)
  (h2:∀ w',Ext w w'→wpList P ops Q rest (a.put o.dst (bif c then v else undef)) w'):wpList P ops Q (o::rest) a w:=by
 cases c with
 | true=>exact wpList_step fun K hK=>by rw [hwd,if_pos rfl];exact h rfl K fun w' hx=>hK _ _ (h2 w' hx)
 | false=>exact wpList_step fun K hK=>by rw [hwd,if_neg (by decide)];exact hK _ _ (h2 w (Ext.refl w))
theorem wpL_val {Q:Exit→Act→World→Prop} {o:Oper} {rest:List Oper} {a:Act} {w:World} (v:Value) (hwd:Region.wanted o (yielded ops a.tmps)=true)
  (h:∀ K:Act→World→Prop,K (a.put o.dst v) w→o.wp P a w K Q)
  (h2:wpList P ops Q rest (a.put o.dst v) w):wpList P ops Q (o::rest) a w:=
 wpL_sym true v hwd (fun _=>h) h2
end
end Go.Proofs.YtnjmndofcpnmeaaGreatDoor
