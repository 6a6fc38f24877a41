/- Pc32. -/
import Derived.Test.YtnjmndofcpnmeaaGreatDoorPc31
import Derived.Test.YtnjmndofcpnmeaaGreatDoorPc22
import Derived.Test.YtnjmndofcpnmeaaGreatDoorPc7
import Derived.Test.YtnjmndofcpnmeaaGreatDoorPc16
import Derived.Test.YtnjmndofcpnmeaaGreatDoorPc5
import Derived.Test.YtnjmndofcpnmeaaGreatDoorPc20
import Derived.IntWalk
import Derived.Test.YtnjmndofcpnmeaaGreatDoorPc15
import Derived.Laws.DeepStrings4
import Derived.Test.YtnjmndofcpnmeaaGreatDoorPc19
import Derived.Test.YtnjmndofcpnmeaaGreatDoorPc4
namespace Go.Proofs.YtnjmndofcpnmeaaGreatDoor
open Go Go.RowKit
set_option linter.unusedVariables false
def ES:Ek ByteArray where
 k:=1
 kp:=by decide
 cs:=fun s=>[.string s]
 len:=fun _=>rfl
 one:=fun x u hu=>by simp at hu;subst hu;rfl
 no8:=fun x u hu n e=>by subst e;simp at hu
 In:=fun _ _=>True
 Blk:=fun _ _=>False
 blt:=fun _ _ _ _ h=>h.elim
 keep:=fun _ _ _ _ _ _ _=>trivial
theorem ES.new (w:World)(B:Nat)(hB:B≤w.heap.size)(x:ByteArray):ROW ES 9 (w.alloc (.cells #[.string x] 9)) B (.slice (some ⟨w.heap.size,0,none⟩) 1 1) [x]:=by
 have hg:=heap_alloc_new w (.cells #[.string x] 9)
 refine ⟨fun r hr=>?_,⟨rfl,.inr ⟨w.heap.size,1,#[.string x],rfl,hB,hg,Nat.le_refl _,by unfold maxLen;decide,rfl,rfl⟩⟩,fun y hy=>⟨trivial,fun b _=>id⟩⟩
 simp [Value.ownBlock] at hr
 subst hr
 exact NoU8.of hg fun y hy n e=>by subst e;simp at hy
theorem ROW.rs {w:World}{B:Nat}{v:Value}{xs:List ByteArray}(h:ROW ES 9 w B v xs):RS w v (sv xs):=by
 obtain ⟨A,c,rfl,h1,h2,h3⟩:=h.cells
 refine ⟨A,c,by rw [sv_length],by rw [sv_length];exact h1,h2,fun hp=>?_⟩
 rw [sv_length] at hp
 obtain ⟨_,ad,hA,h4⟩:=h3 0 hp
 have hc0:=h4 0 _ rfl
 refine ⟨ad,hA,by have:=World.block_lt_of_cell? w _ hc0;rwa [block_of_add] at this,fun j u hu=>?_⟩
 have hj:j<xs.length:=by
  have:=(List.getElem?_eq_some_iff.1 hu).1
  rwa [sv_length] at this
 obtain ⟨_,ad',hA',h5⟩:=h3 j hj
 rw [hA] at hA'
 injection hA' with hA'
 subst hA'
 rw [sv_get xs j hj] at hu
 injection hu with hu
 subst hu
 have:=h5 0 _ rfl
 simpa [ES] using this
end Go.Proofs.YtnjmndofcpnmeaaGreatDoor
namespace Go.Proofs.YtnjmndofcpnmeaaGreatDoor
open Go Go.Lib
set_option linter.unusedVariables false
end Go.Proofs.YtnjmndofcpnmeaaGreatDoor
