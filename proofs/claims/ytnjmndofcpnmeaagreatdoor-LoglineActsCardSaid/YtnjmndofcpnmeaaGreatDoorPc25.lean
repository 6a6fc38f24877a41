/- Pc25. -/
import Derived.Test.YtnjmndofcpnmeaaGreatDoorPc24
namespace Go.Proofs.YtnjmndofcpnmeaaGreatDoor
open Go Go.RowKit
set_option linter.unusedVariables false
def iv (g:List Nat):List Value:=g.map fun (x:Nat)=>Value.int .i64 (x:Int)
theorem iv_length (g:List Nat):(iv g).length=g.length:=by simp [iv]
theorem iv_get (g:List Nat)(j:Nat)(h:j<g.length):(iv g)[j]? = some (.int .i64 (g[j]:Int)):=by
 unfold iv;rw [List.getElem?_map,List.getElem?_eq_getElem h];rfl
def OwI (w:World)(B:Nat)(v:Value)(g:List Nat):Prop:=w.ownsRow B 3 1 v g.length (iv g)
theorem OwI.nil (w:World)(B:Nat):OwI w B (.slice none 0 0) []:=World.ownsRow_nil _ _ _ _
theorem OwI.ext {w w':World}{B:Nat}{v:Value}{l:List Nat}(h:OwI w B v l)(he:Ext w w'):OwI w' B v l:=by
 refine ⟨h.1,?_⟩
 rcases h.2 with hn | ⟨g,cap,cur,hv,hb,hg,r⟩
 ·exact .inl hn
 ·exact .inr ⟨g,cap,cur,hv,hb,he.heap hg,r⟩
theorem OwI.lt {w:World}{B:Nat}{v:Value}{l:List Nat}(h:OwI w B v l):∀ k,v.ownBlock=some k→B≤k:=fun k hk=>(World.ownsRow.lt h k hk).1
theorem OwI.rs {w:World}{B:Nat}{v:Value}{l:List Nat}(h:OwI w B v l):RS w v (iv l):=RS.of_own h
theorem OwI.shape {w:World}{B:Nat}{v:Value}{l:List Nat}(h:OwI w B v l):∃ A c,v=.slice A l.length c∧l.length≤c∧c≤maxLen:=by
 obtain ⟨A,c,hv,h1,h2,_⟩:=h.rs
 rw [iv_length] at hv h1
 exact ⟨A,c,hv,h1,h2⟩
theorem OwI.off {w w':World}{B:Nat}{v:Value}{b:List Nat}{row:Option Nat}(h:OwI w B v b)(hg:w.grownBy w' row)(hne:∀ g k,row=some g→v.ownBlock=some k→g≠k):OwI w' B v b:=by
 refine ⟨h.1,?_⟩
 rcases h.2 with hh | ⟨g',cap,cur,hv,hb,hh,r⟩
 ·exact .inl hh
 ·refine .inr ⟨g',cap,cur,hv,hb,(hg.block g' (Array.getElem?_eq_some_iff.1 hh).1 (by intro e;exact hne g' g' e.symm (by subst hv;rfl) rfl)).trans hh,r⟩
section
variable {P:Program}
end
end Go.Proofs.YtnjmndofcpnmeaaGreatDoor
