/- Pc44. -/
import Derived.Test.YtnjmndofcpnmeaaGreatDoorPc4
namespace Go.Proofs.YtnjmndofcpnmeaaGreatDoor
open Go Go.RowKit
set_option linter.unusedVariables false
def KA (B:Nat)(W W':World):Prop:=W.heap.size≤W'.heap.size∧∀ k o,B≤k→W.heap[k]? = some o→W'.heap[k]? = some o
theorem KA.refl (B:Nat)(W:World):KA B W W:=⟨Nat.le_refl _,fun _ _ _ h=>h⟩
theorem KA.trans {B:Nat}{X Y Z:World}(h:KA B X Y)(k:KA B Y Z):KA B X Z:=⟨Nat.le_trans h.1 k.1,fun i o hB hi=>k.2 i o hB (h.2 i o hB hi)⟩
theorem KA.mono {B C:Nat}{X Y:World}(h:KA B X Y)(hB:B≤C):KA C X Y:=⟨h.1,fun k o hk hi=>h.2 k o (by omega) hi⟩
theorem KA.put {B l:Nat}{W:World}(o:Obj)(h:l<B):KA B W (W.putObj l o):=⟨by simp [World.putObj],fun k o' hk hi=>(World.putObj_heap_other (by omega)).trans hi⟩
theorem KA.of_grown {B l:Nat}{W W':World}(h:W.grownBy W' (some l))(hl:l<B):KA B W W':=⟨h.size,fun k o hk hi=>(h.block k (Array.getElem?_eq_some_iff.1 hi).1 (by intro e;cases e;omega)).trans hi⟩
theorem KA.nck {B:Nat}{W W':World}(h:KA B W W'):NCK B W W':=⟨h.1,fun k o hB hi _=>h.2 k o hB hi⟩
theorem KA.keeps {B:Nat}{W W':World}(h:KA B W W'):KeepsFrom B W W':=⟨h.1,fun k o hB hi _=>h.2 k o hB hi⟩
theorem Stab.rs {B:Nat}(v:Value)(xs:List Value):Stab B (fun W=>RS W v xs):=fun W W' l _ hn hg ⟨A,c,hv,h1,h2,h3⟩=>⟨A,c,hv,h1,h2,fun hp=>by
 obtain ⟨ad,ha,hb,hc⟩:=h3 hp
 refine ⟨ad,ha,Nat.lt_of_lt_of_le hb hg.size,fun j u hu=>?_⟩
 have hcu:=hc j u hu
 refine hg.cell hcu ?_
 rw [block_of_add]
 intro e
 injection e with e
 subst e
 unfold World.cell? at hcu
 cases ho:W.heap[(ad.add j).block]? with
 | none=>rw [ho] at hcu;simp at hcu
 | some o=>
  rw [block_of_add] at ho
  cases o with
  | cells cs t fr=>exact hn cs t fr ho
  | _=>simp [ho,block_of_add] at hcu⟩
section
variable {P:Program}
end
end Go.Proofs.YtnjmndofcpnmeaaGreatDoor
