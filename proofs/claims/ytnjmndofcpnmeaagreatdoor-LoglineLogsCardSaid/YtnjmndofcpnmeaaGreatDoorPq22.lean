/- Pq22. -/
import Derived.Test.YtnjmndofcpnmeaaGreatDoorPq11
import Derived.Test.YtnjmndofcpnmeaaGreatDoorPq0
import Derived.Deep.QuietTactic
import Derived.BigQuiet
namespace Go.Proofs.YtnjmndofcpnmeaaGreatDoor
open Go Go.RowKit
set_option linter.unusedVariables false
theorem byte_at (s:ByteArray)(k:Nat)(h:k<s.size):s.data.toList[k]'(by rw [Array.length_toList];exact h)=s[k]:=by
 rw [Array.getElem_toList];rfl
set_option maxRecDepth 100000 in
theorem RVisible_at (s:ByteArray) (hs:s.size≤4294967280) (w:World) (vb:Bool) (hvb:s.data.toList.all visB=vb):
  Calls Tryz.prog 137 #[.string s] w fun e w'=>e=.returned (.bool vb)∧w=w':=by
 have HVB:=Lib.hid hvb;have hsz:s.data.toList.length=s.size:=by rw [Array.length_toList];rfl
 have HSZ:=Lib.hid hsz
 clear hvb hsz
 go_enter Tryz.func137,Tryz.ntmps137
 go_wp2_with fail
 go_loopw [3] (fun i wr=>∃ k:Nat,i=.int .i64 (k:Int)∧k≤s.size∧Hid ((s.data.toList.take k).all visB=true)∧Hid (w=wr)) (fun i _=>s.size-(intOf i).toNat)
 case atStart=>exact ⟨0,rfl,by omega,Lib.hid rfl,Lib.hid rfl⟩
 case round=>
  obtain ⟨k,rfl,hk,HV,HWR⟩:=hrel
  obtain rfl:=HWR.out
  clear HWR
  by_cases hlt:k<s.size
  ·have hb:=byte_at s k hlt
   have htk:s.data.toList.take (k+1)=s.data.toList.take k++[s[k]]:=by rw [List.take_succ_eq_append_getElem (by rw [HSZ.out];exact hlt),hb]
   have hdk:s.data.toList=s.data.toList.take k++s[k]::s.data.toList.drop (k+1):=by rw [← hb,← List.drop_eq_getElem_cons,List.take_append_drop]
   have hxl:=s[k].toNat_lt
   by_cases hvis:33≤s[k].toNat∧s[k].toNat≤126
   ·obtain ⟨v1,v2⟩:=hvis
    have i1:33≤(s[k].toNat:Int):=by omega
    have i2:(s[k].toNat:Int)≤126:=by omega
    have HV2:=Lib.hid (show (s.data.toList.take (k+1)).all visB=true by rw [htk,List.all_append,HV.out];simp [(visB_iff s[k]).2 ⟨v1,v2⟩])
    clear htk hdk hb v1 v2
    go_wp2_with fail
    go_roundw
    case rel=>exact ⟨k+1,by go_num,by omega,HV2,(by first | exact Lib.hid rfl | exact Lib.hid trivial)⟩
    case measure=>simp [intOf];omega
   ·have HV2:=Lib.hid (show s.data.toList.all visB=false by
     rw [hdk,List.all_append,List.all_cons,show visB s[k]=false by cases hv:visB s[k] with | false=>rfl | true=>exact absurd ((visB_iff s[k]).1 hv) hvis];simp)
    have hvv:(s[k].toNat:Int)<33∨126<(s[k].toNat:Int):=by omega
    clear htk hdk hb hvis
    rcases hvv with hvv | hvv
    all_goals
     go_wp2_with fail
     go_ret
     have e:vb=false:=HVB.out.symm.trans HV2.out
     subst e
     exact ⟨rfl,rfl⟩
  ·obtain rfl:k=s.size:=by omega
   have HVV:=Lib.hid (show s.data.toList.all visB=true by have h:=HV.out;rwa [List.take_of_length_le (by rw [HSZ.out];exact Nat.le_refl _)] at h)
   clear hlt
   go_wp2_with fail
   go_ret
   have e:vb=true:=HVB.out.symm.trans HVV.out
   subst e
   exact ⟨rfl,rfl⟩
set_option maxRecDepth 100000 in
theorem RAValid_at (k:Int) (b:List UInt8) (A:Option Addr) (c:Nat) (w:World) (hb:BS w (.slice A b.length c) b):
  Calls Tryz.prog 84 #[adv k A b.length c] w fun e w'=>e=.returned (.bool (okA k b))∧Ext w w':=by
 have h0:=AB.new w k A b.length c
 have x0:=(Ext.refl w).alloc (.cells #[.int .i64 k,.slice A b.length c] 34)
 obtain ⟨W1,e1⟩:∃ W,w.alloc (.cells #[.int .i64 k,.slice A b.length c] 34)=W:=⟨_,rfl⟩
 rw [e1] at h0 x0
 obtain ⟨c0,c1⟩:=h0.cells
 have hcv:=run_str (P:=Tryz.prog) W1 32 9 5 (.slice A b.length c) b Tryz.underlying32 Tryz.underlying5 Tryz.underlying9 (hb.ext x0)
 have HX:=Lib.hid x0
 unfold adv
 clear h0 x0 hb
 by_cases h2:k=2
 ·subst h2
  rw [show okA 2 b=((b.length:Int)==4) by rw [Bool.eq_iff_iff];simp [okA];omega]
  clear hcv
  go_enter Tryz.func84,Tryz.ntmps84
  go_wp2_with fail
  go_ret
  exact ⟨rfl,HX.out⟩
 by_cases h24:k=24
 ·subst h24
  rw [show okA 24 b=((b.length:Int)==16) by rw [Bool.eq_iff_iff];simp [okA];omega]
  clear hcv
  go_enter Tryz.func84,Tryz.ntmps84
  go_wp2_with fail
  go_ret
  exact ⟨rfl,HX.out⟩
 have q2:(k==2)=false:=by rw [beq_eq_false_iff_ne];exact h2
 have q24:(k==24)=false:=by rw [beq_eq_false_iff_ne];exact h24
 by_cases h20:k=20
 ·subst h20
  have hok:okA 20 b=(decide (1≤b.length∧b.length≤16)&&b.all visB):=rfl
  by_cases hl:1≤b.length∧b.length≤16
  ·have hv:okA 20 b=b.all visB:=by rw [hok,decide_eq_true hl,Bool.true_and]
   rw [hv]
   obtain ⟨v,hvv⟩:∃ v,b.all visB=v:=⟨_,rfl⟩
   rw [hvv]
   have HV:=Lib.hid (RVisible_at ⟨b.toArray⟩ (by show b.toArray.size≤_;simp;omega) W1 v (by simpa using hvv))
   have i1:(1:Int)≤(b.length:Int):=by omega
   have i2:(b.length:Int)≤16:=by omega
   clear hok hv hl hvv
   go_enter Tryz.func84,Tryz.ntmps84
   go_wp2_with fail
   refine HV.out.mono ?_
   rintro _ w2 ⟨rfl,rfl⟩
   go_wp2_with fail
   go_ret
   exact ⟨rfl,HX.out⟩
  ·have hv:okA 20 b=false:=by rw [hok,decide_eq_false hl,Bool.false_and]
   rw [hv]
   have hl2:(b.length:Int)<1∨(1≤(b.length:Int)∧16<(b.length:Int)):=by omega
   clear hok hv hl hcv
   rcases hl2 with h | ⟨h,h'⟩
   all_goals
    go_enter Tryz.func84,Tryz.ntmps84
    go_wp2_with fail
    go_ret
    exact ⟨rfl,HX.out⟩
 ·have q20:(k==20)=false:=by rw [beq_eq_false_iff_ne];exact h20
  rw [show okA k b=false by unfold okA;rw [if_neg h2,if_neg h24,if_neg h20]]
  clear hcv h2 h24 h20
  go_enter Tryz.func84,Tryz.ntmps84
  go_wp2_with fail
  go_ret
  exact ⟨rfl,HX.out⟩
theorem RAEqual_at (k k':Int) (a b:List UInt8) (A B:Option Addr) (c d:Nat) (w:World) (ha:BS w (.slice A a.length c) a) (hb:BS w (.slice B b.length d) b):
  Calls Tryz.prog 37 #[adv k A a.length c,adv k' B b.length d] w fun e w'=>e=.returned (.bool (k==k'&&a==b))∧Ext w w':=by
 have h0:=AB.new w k A a.length c
 have x0:=(Ext.refl w).alloc (.cells #[.int .i64 k,.slice A a.length c] 34)
 obtain ⟨W1,e1⟩:∃ W,w.alloc (.cells #[.int .i64 k,.slice A a.length c] 34)=W:=⟨_,rfl⟩
 rw [e1] at h0 x0
 have h1:=AB.new W1 k' B b.length d
 have x1:=(Ext.refl W1).alloc (.cells #[.int .i64 k',.slice B b.length d] 34)
 obtain ⟨W2,e2⟩:∃ W,W1.alloc (.cells #[.int .i64 k',.slice B b.length d] 34)=W:=⟨_,rfl⟩
 rw [e2] at h1 x1
 obtain ⟨c0,c1⟩:=(h0.ext x1).cells
 obtain ⟨d0,d1⟩:=h1.cells
 have hcv:=run_str (P:=Tryz.prog) W2 32 9 5 (.slice A a.length c) a Tryz.underlying32 Tryz.underlying5 Tryz.underlying9 (ha.ext (x0.trans x1))
 have hcw:=run_str (P:=Tryz.prog) W2 32 9 5 (.slice B b.length d) b Tryz.underlying32 Tryz.underlying5 Tryz.underlying9 (hb.ext (x0.trans x1))
 have HX:=Lib.hid (x0.trans x1)
 clear h0 h1 x0 x1 ha hb
 unfold adv
 by_cases hk:k=k'
 ·have hq:(k==k')=true:=by rw [hk];exact beq_self_eq_true _
  rw [hq,Bool.true_and]
  clear hk
  go_enter Tryz.func37,Tryz.ntmps37
  go_wp2_with fail
  go_ret
  refine ⟨?_,HX.out⟩
  simp
 ·have hq:(k==k')=false:=by rw [beq_eq_false_iff_ne];exact hk
  rw [hq,Bool.false_and]
  clear hk hcv hcw
  go_enter Tryz.func37,Tryz.ntmps37
  go_wp2_with fail
  go_ret
  exact ⟨rfl,HX.out⟩
end Go.Proofs.YtnjmndofcpnmeaaGreatDoor
