/- Pc13. -/
import Derived.Test.YtnjmndofcpnmeaaGreatDoorPc0
import Derived.Lib.AppendStr
namespace Go.Proofs.YtnjmndofcpnmeaaGreatDoor
open Go Go.RowKit Go.Lib
set_option linter.unusedVariables false
def zst (n:Nat):ByteArray:=⟨(List.replicate n 0).toArray⟩
theorem zst_size (n:Nat):(zst n).size=n:=by simp [zst,ByteArray.size]
theorem zst_cells (n:Nat):strCells (zst n)=bv (List.replicate n 0):=by simp [strCells,zst,bv]
section
variable {P:Program}
theorem zero_cells (n:Nat):Builtin.zeroCells #[Value.int .u8 0] n=(bv (List.replicate n 0)).toArray:=by
 apply Array.ext'
 unfold Builtin.zeroCells bv
 simp only [Array.toList_map,List.map_replicate]
 rw [List.eq_replicate_iff]
 refine ⟨by simp,fun x hx=>?_⟩
 simp only [List.mem_map] at hx
 obtain ⟨j,_,rfl⟩:=hx
 simp [Nat.mod_one]
theorem run_append_zeros (w:World) (t ti ts ty e:TypeId) (i:TypeInfo) (ht:P.underlying t=some (.slice e)) (hti:P.underlying ti=some (.int .i64)) (hts:P.underlying ts=some .string) (hi:P.info? e=some i) (hz:i.zero=some (.int .u8 0))
  (hsize:i.size=1) (hby:i.bytes=1) (A:Option Addr) (len cap n:Nat) (hn:n≤1000) (hlen:len≤1000) (hlc:len≤cap) (hcap:Builtin.nextslicecap (len+n) cap≤281474976710656∨len+n≤cap):
  (Builtin.append_ #[t,ti] ty #[.slice A len cap,.int .i64 (n:Int)]).run P w=(Builtin.append_ #[t,ts] ty #[.slice A len cap,.string (zst n)]).run P w:=by
 have hw:IntKind.i64.wrap (n:Int)=n:=by rw [IntKind.wrap_i64];omega
 have hw0:IntKind.i64.wrap 0=0:=by rw [IntKind.wrap_i64];decide
 have h0:¬ ((n:Int)<0):=by omega
 have h1:¬ (281474976710656<(n:Int)):=by omega
 have hf (W:World):=run_firstCells_string (P:=P) W 1 (zst n)
 rw [zst_size] at hf
 have hzc:=zero_cells n
 have h63:¬ (9223372036854775807<(len:Int)+(n:Int)):=by omega
 by_cases hroom:len+n≤cap
 ·rcases Nat.eq_zero_or_pos n with rfl | hp
  ·have hf0 (W:World):(Builtin.firstCells 1 0 (.string (zst 0))).run P W=.ok #[] W:=by rw [hf];rfl
   simp [Builtin.append_,run_underlying ht,run_underlying hti,run_underlying hts,sizeOf,typeInfo,zeroValue,hi,hz,hsize,hby,Builtin.lenOf,zst_size,hlc,hw0,hf0,asInt,asIntOf]
  ·simp [Builtin.append_,run_underlying ht,run_underlying hti,run_underlying hts,sizeOf,typeInfo,zeroValue,hi,hz,hsize,hby,Builtin.lenOf,zst_size,hroom,hw,h0,h1,hf,asInt,asIntOf,hzc,zst_cells,Nat.pos_iff_ne_zero.1 hp,Value.cells]
 ·have hns:¬ (281474976710656<Builtin.nextslicecap (len+n) cap):=by
   rcases hcap with h | h
   ·omega
   ·exact absurd h hroom
  have hp:0<n:=by omega
  simp [Builtin.append_,run_underlying ht,run_underlying hti,run_underlying hts,sizeOf,typeInfo,zeroValue,hi,hz,hsize,hby,Builtin.lenOf,zst_size,hroom,hw,h0,h1,hf,asInt,asIntOf,hzc,zst_cells,Nat.pos_iff_ne_zero.1 hp,Value.cells,hns,h63]
theorem run_append_zeros_own (w:World) (base:Nat) (t ti ts ty e:TypeId) (i:TypeInfo) (ht:P.underlying t=some (.slice e)) (hti:P.underlying ti=some (.int .i64)) (hts:P.underlying ts=some .string) (hi:P.info? e=some i) (hz:i.zero=some (.int .u8 0))
  (hsize:i.size=1) (hby:i.bytes=1) (v:Value) (l:List UInt8) (hown:OB e w base v l) (n:Nat) (hn:n≤1000) (hl:l.length≤1000) (hbase:base≤w.heap.size):
  ∃ v' w',(Builtin.append_ #[t,ti] ty #[v,.int .i64 (n:Int)]).run P w=.ok v' w'∧OB e w' base v' (l++List.replicate n 0)∧w.grownBy w' v.ownBlock:=by
 obtain ⟨A,c,hv,hlc,hcm,_⟩:=hown.bs.open_
 obtain ⟨v',w',hr,h1,h2,_⟩:=run_append_own_string (P:=P) w base t ts ty e i ht hts hi hz hsize hby v l.length (bv l) hown (zst n) (by rw [zst_size];unfold maxLen;omega) (by rw [zst_size];omega) hbase
 refine ⟨v',w',?_,?_,h2⟩
 ·rw [← hr,hv]
  exact run_append_zeros w t ti ts ty e i ht hti hts hi hz hsize hby A l.length c n hn hl hlc (by
   by_cases h:l.length+n≤c
   ·exact .inr h
   ·exact .inl (by have:=growslice_fits (old:=c) (need:=l.length+n) (bytes:=1) (by omega) (by omega);omega))
 ·unfold OB
  rw [zst_size,zst_cells,← bv_append] at h1
  rw [List.length_append,List.length_replicate]
  exact h1
theorem wpList_append_zeros (w:World) {ops:Array Oper} {rest:List Oper} {o:Oper} {a:Act} {Q:Exit→Act→World→Prop} (hgd:o.guard=none) (s x:Operand) (t ti ts:TypeId)
  (ho:o.op=.call { callee:=.builtin .append,args:=#[s,x],argTypes:=#[t,ti] })
  (base:Nat) (e:TypeId) (i:TypeInfo) (ht:P.underlying t=some (.slice e)) (hti:P.underlying ti=some (.int .i64)) (hts:P.underlying ts=some .string) (hi:P.info? e=some i) (hz:i.zero=some (.int .u8 0))
  (hsize:i.size=1) (hby:i.bytes=1) (v:Value) (l:List UInt8) (hs:a.eval s=v) (hown:OB e w base v l) (n:Nat) (hx:a.eval x=.int .i64 (n:Int)) (hn:n≤1000) (hl:l.length≤1000) (hbase:base≤w.heap.size)
  (h:∀ v' w',OB e w' base v' (l++List.replicate n 0)→w.grownBy w' v.ownBlock→wpList P ops Q rest (a.put o.dst v') w'):wpList P ops Q (o::rest) a w:=by
 refine wpList_plain hgd fun K hK=>?_
 obtain ⟨v',w',hrun,h2,h3⟩:=run_append_zeros_own (P:=P) w base t ti ts o.type e i ht hti hts hi hz hsize hby v l hown n hn hl hbase
 unfold Oper.wp execOp
 simp only [ho,resolve,invoke,builtin,Sem.run_bind,Sem.run_pure,Result.andThen_ok,List.map_toArray,List.map_cons,List.map_nil,hs,hx,hrun]
 exact hK _ _ (h v' w' h2 h3)
end
end Go.Proofs.YtnjmndofcpnmeaaGreatDoor
