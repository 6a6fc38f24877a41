/- Pa34. -/
import Derived.Test.YtnjmndofcpnmeaaGreatDoorPa33
import Derived.Test.YtnjmndofcpnmeaaGreatDoorPa9
import Derived.Test.YtnjmndofcpnmeaaGreatDoorProg
import Derived.Test.YtnjmndofcpnmeaaGreatDoorPa0
import Derived.WalkLawsBesides
import Derived.WalkSpells
import Derived.Deep.LoopGhost
import Derived.Lib.Hide
import Derived.Test.YtnjmndofcpnmeaaGreatDoorPa8
namespace Go.Proofs.YtnjmndofcpnmeaaGreatDoor
open Go Go.RowKit
set_option linter.unusedVariables false
def gE9:Fct:={ gE with t:=109 }
def l3E:List Fct:=[gE,gE,gE9]
set_option maxRecDepth 100000 in
theorem gE_ok:gE.ok=true:=by decide
set_option maxRecDepth 100000 in
theorem gE9_ok:gE9.ok=true:=by decide
theorem l3_arg (win lim:Int)(h0:0≤win)(h1:win≤1099511627776)(h2:1≤lim):argB l3E win lim:=by
 refine ⟨h0,h1,h2,fun i hi=>?_⟩
 have hi':i<3:=hi
 rcases (show i=0∨i=1∨i=2 by omega) with rfl | rfl | rfl
 ·exact ⟨gE_ok,fun h=>absurd h (by decide)⟩
 ·exact ⟨gE_ok,fun _=>by decide⟩
 ·exact ⟨gE9_ok,fun _=>by decide⟩
set_option maxRecDepth 100000 in
theorem l3_a:almF l3E 5 2 false=[1]∧cntF l3E 5 false 1=2∧begF l3E 5 false 1=103∧(atF l3E 1).t=103:=by decide
set_option maxRecDepth 100000 in
theorem l3_b:almF l3E 5 3 false=[]:=by decide
set_option maxRecDepth 100000 in
theorem l3_c:almF l3E 6 3 false=[2]∧cntF l3E 6 false 2=3∧begF l3E 6 false 2=103∧(atF l3E 2).t=109:=by decide
end Go.Proofs.YtnjmndofcpnmeaaGreatDoor
namespace Go.Proofs.YtnjmndofcpnmeaaGreatDoor
def encLen (n:Nat):List UInt8:=
 if n<128 then [UInt8.ofNat n] else if n<256 then [0x81,UInt8.ofNat n] else if n<65536 then [0x82,UInt8.ofNat (n / 256),UInt8.ofNat n]
 else [0x83,UInt8.ofNat (n / 65536),UInt8.ofNat (n / 256),UInt8.ofNat n]
def elem (t:UInt8)(l:List UInt8):List UInt8:=if l.length<16777216 then t::(encLen l.length++l) else []
end Go.Proofs.YtnjmndofcpnmeaaGreatDoor
namespace Go.Proofs.YtnjmndofcpnmeaaGreatDoor
open Go Go.RowKit
theorem u8info:(Tryz.prog.info? 5).map (fun i=>(i.zero,i.size,i.bytes))=some (some (.int .u8 0),1,1):=by kernel_rfl
end Go.Proofs.YtnjmndofcpnmeaaGreatDoor
namespace Go.Proofs.YtnjmndofcpnmeaaGreatDoor
end Go.Proofs.YtnjmndofcpnmeaaGreatDoor
namespace Go.Proofs.YtnjmndofcpnmeaaGreatDoor
open Go Go.RowKit
set_option linter.unusedVariables false
end Go.Proofs.YtnjmndofcpnmeaaGreatDoor
