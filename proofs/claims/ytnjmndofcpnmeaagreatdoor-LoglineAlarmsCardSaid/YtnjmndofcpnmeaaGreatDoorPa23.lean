/- Pa23. -/
import Derived.Test.YtnjmndofcpnmeaaGreatDoorPa22
import Derived.Test.YtnjmndofcpnmeaaGreatDoorPa9
import Derived.Test.YtnjmndofcpnmeaaGreatDoorPa2
namespace Go.Proofs.YtnjmndofcpnmeaaGreatDoor
open Go Go.RowKit
set_option linter.unusedVariables false
theorem byte_at (s:ByteArray)(k:Nat)(h:k<s.size):s.data.toList[k]'(by rw [Array.length_toList];exact h)=s[k]:=by
 rw [Array.getElem_toList];rfl
set_option maxRecDepth 100000 in
theorem RVisible_at (s:ByteArray) (hs:s.size≤4294967280) (w:World) (vb:Bool) (hvb:s.data.toList.all visB=vb):
  Calls Tryz.prog 137 #[.string s] w fun e w'=>e=.returned (.bool vb)∧w=w':=by
 have HVB:=Lib.hid hvb;have hsz:s.data.toList.length=s.size:=by rw [Array.length_toList];rfl
 have HSZ:=Lib.hid hsz
 clear hvb hsz
 go_enter Tryz.func137,Tryz.ntmps137
 go_wp2_with fail
 go_loopw [3] (fun i wr=>∃ k:Nat,i=.int .i64 (k:Int)∧k≤s.size∧Hid ((s.data.toList.take k).all visB=true)∧Hid (w=wr)) (fun i _=>s.size-(intOf i).toNat)
 case atStart=>exact ⟨0,rfl,by omega,Lib.hid rfl,Lib.hid rfl⟩
 case round=>
  obtain ⟨k,rfl,hk,HV,HWR⟩:=hrel
  obtain rfl:=HWR.out
  clear HWR
  by_cases hlt:k<s.size
  ·have hb:=byte_at s k hlt
   have htk:s.data.toList.take (k+1)=s.data.toList.take k++[s[k]]:=by rw [List.take_succ_eq_append_getElem (by rw [HSZ.out];exact hlt),hb]
   have hdk:s.data.toList=s.data.toList.take k++s[k]::s.data.toList.drop (k+1):=by rw [← hb,← List.drop_eq_getElem_cons,List.take_append_drop]
   have hxl:=s[k].toNat_lt
   by_cases hvis:33≤s[k].toNat∧s[k].toNat≤126
   ·obtain ⟨v1,v2⟩:=hvis
    have i1:33≤(s[k].toNat:Int):=by omega
    have i2:(s[k].toNat:Int)≤126:=by omega
    have HV2:=Lib.hid (show (s.data.toList.take (k+1)).all visB=true by rw [htk,List.all_append,HV.out];simp [(visB_iff s[k]).2 ⟨v1,v2⟩])
    clear htk hdk hb v1 v2
    go_wp2_with fail
    go_roundw
    case rel=>exact ⟨k+1,by go_num,by omega,HV2,(by first | exact Lib.hid rfl | exact Lib.hid trivial)⟩
    case measure=>simp [intOf];omega
   ·have HV2:=Lib.hid (show s.data.toList.all visB=false by
     rw [hdk,List.all_append,List.all_cons,show visB s[k]=false by cases hv:visB s[k] with | false=>rfl | true=>exact absurd ((visB_iff s[k]).1 hv) hvis];simp)
    have hvv:(s[k].toNat:Int)<33∨126<(s[k].toNat:Int):=by omega
    clear htk hdk hb hvis
    rcases hvv with hvv | hvv
    all_goals
     go_wp2_with fail
     go_ret
     have e:vb=false:=HVB.out.symm.trans HV2.out
     subst e
     exact ⟨rfl,rfl⟩
  ·obtain rfl:k=s.size:=by omega
   have HVV:=Lib.hid (show s.data.toList.all visB=true by have h:=HV.out;rwa [List.take_of_length_le (by rw [HSZ.out];exact Nat.le_refl _)] at h)
   clear hlt
   go_wp2_with fail
   go_ret
   have e:vb=true:=HVB.out.symm.trans HVV.out
   subst e
   exact ⟨rfl,rfl⟩
set_option maxRecDepth 100000 in
theorem RAValid_at (k:Int) (b:List UInt8) (A:Option Addr) (c:Nat) (w:World) (hb:BS w (.slice A b.length c) b):
  Calls Tryz.prog 84 #[adv k A b.length c] w fun e w'=>e=.returned (.bool (okA k b))∧Ext w w':=by
 have h0:=AB.new w k A b.length c
 have x0:=(Ext.refl w).alloc (.cells #[.int .i64 k,.slice A b.length c] 34)
 obtain ⟨W1,e1⟩:∃ W,w.alloc (.cells #[.int .i64 k,.slice A b.length c] 34)=W:=⟨_,rfl⟩
 rw [e1] at h0 x0
 obtain ⟨c0,c1⟩:=h0.cells
 have hcv:=run_str (P:=Tryz.prog) W1 32 9 5 (.slice A b.length c) b Tryz.underlying32 Tryz.underlying5 Tryz.underlying9 (hb.ext x0)
 have HX:=Lib.hid x0
 unfold adv
 clear h0 x0 hb
 by_cases h2:k=2
 ·subst h2
  rw [show okA 2 b=((b.length:Int)==4) by rw [Bool.eq_iff_iff];simp [okA];omega]
  clear hcv
  go_enter Tryz.func84,Tryz.ntmps84
  go_wp2_with fail
  go_ret
  exact ⟨rfl,HX.out⟩
 by_cases h24:k=24
 ·subst h24
  rw [show okA 24 b=((b.length:Int)==16) by rw [Bool.eq_iff_iff];simp [okA];omega]
  clear hcv
  go_enter Tryz.func84,Tryz.ntmps84
  go_wp2_with fail
  go_ret
  exact ⟨rfl,HX.out⟩
 have q2:(k==2)=false:=by rw [beq_eq_false_iff_ne];exact h2
 have q24:(k==24)=false:=by rw [beq_eq_false_iff_ne];exact h24
 by_cases h20:k=20
 ·subst h20
  have hok:okA 20 b=(decide (1≤b.length∧b.length≤16)&&b.all visB):=rfl
  by_cases hl:1≤b.length∧b.length≤16
  ·have hv:okA 20 b=b.all visB:=by rw [hok,decide_eq_true hl,Bool.true_and]
   rw [hv]
   obtain ⟨v,hvv⟩:∃ v,b.all visB=v:=⟨_,rfl⟩
   rw [hvv]
   have HV:=Lib.hid (RVisible_at ⟨b.toArray⟩ (by show b.toArray.size≤_;simp;omega) W1 v (by simpa using hvv))
   have i1:(1:Int)≤(b.length:Int):=by omega
   have i2:(b.length:Int)≤16:=by omega
   clear hok hv hl hvv
   go_enter Tryz.func84,Tryz.ntmps84
   go_wp2_with fail
   refine HV.out.mono ?_
   rintro _ w2 ⟨rfl,rfl⟩
   go_wp2_with fail
   go_ret
   exact ⟨rfl,HX.out⟩
  ·have hv:okA 20 b=false:=by rw [hok,decide_eq_false hl,Bool.false_and]
   rw [hv]
   have hl2:(b.length:Int)<1∨(1≤(b.length:Int)∧16<(b.length:Int)):=by omega
   clear hok hv hl hcv
   rcases hl2 with h | ⟨h,h'⟩
   all_goals
    go_enter Tryz.func84,Tryz.ntmps84
    go_wp2_with fail
    go_ret
    exact ⟨rfl,HX.out⟩
 ·have q20:(k==20)=false:=by rw [beq_eq_false_iff_ne];exact h20
  rw [show okA k b=false by unfold okA;rw [if_neg h2,if_neg h24,if_neg h20]]
  clear hcv h2 h24 h20
  go_enter Tryz.func84,Tryz.ntmps84
  go_wp2_with fail
  go_ret
  exact ⟨rfl,HX.out⟩
theorem RAEqual_at (k k':Int) (a b:List UInt8) (A B:Option Addr) (c d:Nat) (w:World) (ha:BS w (.slice A a.length c) a) (hb:BS w (.slice B b.length d) b):
  Calls Tryz.prog 37 #[adv k A a.length c,adv k' B b.length d] w fun e w'=>e=.returned (.bool (k==k'&&a==b))∧Ext w w':=by
 have h0:=AB.new w k A a.length c
 have x0:=(Ext.refl w).alloc (.cells #[.int .i64 k,.slice A a.length c] 34)
 obtain ⟨W1,e1⟩:∃ W,w.alloc (.cells #[.int .i64 k,.slice A a.length c] 34)=W:=⟨_,rfl⟩
 rw [e1] at h0 x0
 have h1:=AB.new W1 k' B b.length d
 have x1:=(Ext.refl W1).alloc (.cells #[.int .i64 k',.slice B b.length d] 34)
 obtain ⟨W2,e2⟩:∃ W,W1.alloc (.cells #[.int .i64 k',.slice B b.length d] 34)=W:=⟨_,rfl⟩
 rw [e2] at h1 x1
 obtain ⟨c0,c1⟩:=(h0.ext x1).cells
 obtain ⟨d0,d1⟩:=h1.cells
 have hcv:=run_str (P:=Tryz.prog) W2 32 9 5 (.slice A a.length c) a Tryz.underlying32 Tryz.underlying5 Tryz.underlying9 (ha.ext (x0.trans x1))
 have hcw:=run_str (P:=Tryz.prog) W2 32 9 5 (.slice B b.length d) b Tryz.underlying32 Tryz.underlying5 Tryz.underlying9 (hb.ext (x0.trans x1))
 have HX:=Lib.hid (x0.trans x1)
 clear h0 h1 x0 x1 ha hb
 unfold adv
 by_cases hk:k=k'
 ·have hq:(k==k')=true:=by rw [hk];exact beq_self_eq_true _
  rw [hq,Bool.true_and]
  clear hk
  go_enter Tryz.func37,Tryz.ntmps37
  go_wp2_with fail
  go_ret
  refine ⟨?_,HX.out⟩
  simp
 ·have hq:(k==k')=false:=by rw [beq_eq_false_iff_ne];exact hk
  rw [hq,Bool.false_and]
  clear hk hcv hcw
  go_enter Tryz.func37,Tryz.ntmps37
  go_wp2_with fail
  go_ret
  exact ⟨rfl,HX.out⟩
theorem baA_append (a b:List UInt8):(⟨a.toArray⟩:ByteArray)++⟨b.toArray⟩=⟨(a++b).toArray⟩:=by
 apply ByteArray.ext
 simp [ByteArray.data_append]
theorem decA_len {n:Nat}(h:n≤1099511627776):(Lib.decDigits n).length≤21:=by
 have:=Lib.itoa_length_le (n:Int) (by omega) (by omega)
 rwa [Lib.itoa_nonneg] at this
set_option maxRecDepth 100000 in
theorem RADec_at (n:Nat) (h1:n≤1000000) (w:World):
  Calls Tryz.prog 86 #[.int .i64 (n:Int)] w fun e w'=>e=.returned (.string ⟨(Lib.decDigits n).toArray⟩)∧Ext w w':=by
 induction n using Nat.strongRecOn generalizing w with
 | _ n ih=>
  by_cases hlt:n<10
  ·obtain ⟨d,hd⟩:∃ d,UInt8.ofNat (48+n)=d:=⟨_,rfl⟩
   have hdn:(d.toNat:Int)=48+(n:Int):=by rw [← hd,u8_dig _ (by omega)];omega
   have hcv:(convert 32 9 (.slice (some ⟨w.heap.size,0,none⟩) 1 1)).run Tryz.prog (w.alloc (.cells #[.int .u8 (48+(n:Int))] 5))=.ok (.string ⟨#[d]⟩) (w.alloc (.cells #[.int .u8 (48+(n:Int))] 5)):=
    run_str _ _ _ 5 _ [d] Tryz.underlying32 Tryz.underlying5 Tryz.underlying9 (OB.lit w 5 0 [.int .u8 (48+(n:Int))] [d] (by simp [bv,hdn]) 1 rfl (by simp [maxLen]) (by omega)).bs
   have hm:(48+(n:Int)) % 256=48+(n:Int):=by omega
   have HD:=Lib.hid (show Lib.decDigits n=[d] by rw [dec_lo _ hlt,hd])
   have hlt':(n:Int)<10:=by omega
   clear hd hdn ih hlt
   go_enter Tryz.func86,Tryz.ntmps86
   go_wp2_with fail
   go_ret
   refine ⟨?_,(Ext.refl w).alloc _⟩
   rw [HD.out];rfl
  ·have i1:=ih (n / 10) (by omega) (by omega) w
   have i2:=fun (W:World)=>ih (n % 10) (by omega) (by omega) W
   rw [show ((n / 10:Nat):Int)=(n:Int) / 10 by omega] at i1
   simp only [show ((n % 10:Nat):Int)=(n:Int) % 10 by omega] at i2
   have I1:=Lib.hid i1;have I2:=Lib.hid i2
   have HD:=Lib.hid (show Lib.decDigits n=Lib.decDigits (n / 10)++Lib.decDigits (n % 10) by rw [dec_hi _ (by omega),dec_lo (n % 10) (by omega)])
   have l1:(Lib.decDigits (n / 10)).length≤21:=decA_len (by omega)
   have l2:(Lib.decDigits (n % 10)).length≤21:=decA_len (by omega)
   have hlt':10≤(n:Int):=by omega
   clear ih i1 i2 hlt
   go_enter Tryz.func86,Tryz.ntmps86
   go_wp2_with fail
   refine I1.out.mono ?_
   rintro e w2 ⟨rfl,hx2⟩
   have HX2:=Lib.hid hx2;clear hx2
   go_wp2_with fail
   refine (I2.out w2).mono ?_
   rintro e w3 ⟨rfl,hx3⟩
   have HX3:=Lib.hid (HX2.out.trans hx3);clear hx3
   go_wp2_with fail
   go_ret
   refine ⟨?_,HX3.out⟩
   rw [HD.out,← baA_append];rfl
theorem hexS_one (d:Nat)(h:d<16)(W:World):(Instr.slice 9 (.string ⟨#[48,49,50,51,52,53,54,55,56,57,97,98,99,100,101,102]⟩) (some (.int .i64 (d:Int))) (some (.int .i64 ((d:Int)+1))) none).run Tryz.prog W=.ok (.string ⟨#[hxc d]⟩) W:=by
 rw [run_slice_string_if W _ _ _ _ _ _ Tryz.underlying9,if_pos (by show (0:Int)≤d+1∧(d:Int)+1≤16;omega),if_pos (by omega),show ((d:Int)).toNat=d by omega,show ((d:Int)+1).toNat=d+1 by omega]
 have e:(⟨#[48,49,50,51,52,53,54,55,56,57,97,98,99,100,101,102]⟩:ByteArray).extract d (d+1)=⟨#[hxc d]⟩:=by
  revert h;revert d;decide
 rw [e]
set_option maxRecDepth 100000 in
theorem RAhex_at (n:Nat) (h1:n<65536) (w:World):
  Calls Tryz.prog 185 #[.int .i64 (n:Int)] w fun e w'=>e=.returned (.string ⟨(hexD n).toArray⟩)∧w=w':=by
 induction n using Nat.strongRecOn generalizing w with
 | _ n ih=>
  obtain ⟨d,hd⟩:∃ d,n % 16=d:=⟨_,rfl⟩
  have hs:=fun W=>hexS_one d (by omega) W
  have hdi:(n:Int) % 16=(d:Int):=by omega
  have hd0:0≤(d:Int)+1:=by omega
  by_cases hlt:n<16
  ·have HD:=Lib.hid (show hexD n=[hxc d] by rw [hexD_lo hlt,← hd,Nat.mod_eq_of_lt hlt])
   have hlt':(n:Int)<16:=by omega
   clear ih hlt hd
   go_enter Tryz.func185,Tryz.ntmps185
   go_wp2_with fail
   go_ret
   refine ⟨?_,rfl⟩
   rw [HD.out];rfl
  ·have i1:=fun (W:World)=>ih (n / 16) (by omega) (by omega) W
   simp only [show ((n / 16:Nat):Int)=(n:Int) / 16 by omega] at i1
   have I1:=Lib.hid i1
   have HD:=Lib.hid (show hexD n=hexD (n / 16)++[hxc d] by rw [hexD_hi hlt,hd])
   have l1:(hexD (n / 16)).length≤4:=hexD_len _ (by omega)
   have hlt':16≤(n:Int):=by omega
   clear ih i1 hlt hd
   go_enter Tryz.func185,Tryz.ntmps185
   go_wp2_with fail
   refine (I1.out _).mono ?_
   rintro e w2 ⟨rfl,rfl⟩
   go_wp2_with fail
   go_ret
   refine ⟨?_,rfl⟩
   rw [HD.out,← baA_append];rfl
def c8 (G:List Nat):Array Value:=#[.int .i64 (G.getD 0 0:Nat),.int .i64 (G.getD 1 0:Nat),.int .i64 (G.getD 2 0:Nat),.int .i64 (G.getD 3 0:Nat),.int .i64 (G.getD 4 0:Nat),.int .i64 (G.getD 5 0:Nat),.int .i64 (G.getD 6 0:Nat),.int .i64 (G.getD 7 0:Nat)]
theorem c8_get (G:List Nat)(i:Nat)(h:i<8):(c8 G)[i]? = some (.int .i64 (G.getD i 0:Nat)):=by
 have hi:i=0∨i=1∨i=2∨i=3∨i=4∨i=5∨i=6∨i=7:=by omega
 rcases hi with rfl | rfl | rfl | rfl | rfl | rfl | rfl | rfl<;>rfl
def GB (w:World)(g:Nat)(G:List Nat):Prop:=w.heap[g]? = some (.cells (c8 G) 184 (0,0))
theorem GB.ext {w w':World}{g:Nat}{G:List Nat}(h:GB w g G)(hx:Ext w w'):GB w' g G:=hx.heap h
theorem GB.cell {w:World}{g:Nat}{G:List Nat}(h:GB w g G)(i:Nat)(hi:i<8):w.cell? ⟨g,i,none⟩=some (.int .i64 (G.getD i 0:Nat)):=by
 rw [cell_of_row w g i _ _ (0,0) h,c8_get G i hi]
theorem GB.new (w:World)(G:List Nat):GB (w.alloc (.cells (c8 G) 184)) w.heap.size G:=heap_alloc_new w _
theorem getD_of {G:List Nat}{i x:Nat}(h:G[i]? = some x):G.getD i 0=x:=by rw [List.getD_eq_getElem?_getD,h];rfl
set_option maxRecDepth 100000 in
theorem RAzeros_at (G:List Nat) (hG:G.length=8) (k:Nat) (hk:k≤8) (w:World):
  Calls Tryz.prog 140 #[.agg (c8 G),.int .i64 (k:Int)] w fun e w'=>e=.returned (.int .i64 (zrs (G.drop k):Nat))∧Ext w w':=by
 have h0:=GB.new w G
 have x0:=(Ext.refl w).alloc (.cells (c8 G) 184)
 obtain ⟨w1,e1⟩:∃ W,w.alloc (.cells (c8 G) 184)=W:=⟨_,rfl⟩
 rw [e1] at h0 x0
 have HB:=Lib.hid h0;have HX:=Lib.hid x0;have HGL:=Lib.hid hG
 clear h0 x0 hG
 unfold c8 at e1 ⊢
 generalize G.getD 0 0=g0 at e1 ⊢
 generalize G.getD 1 0=g1 at e1 ⊢
 generalize G.getD 2 0=g2 at e1 ⊢
 generalize G.getD 3 0=g3 at e1 ⊢
 generalize G.getD 4 0=g4 at e1 ⊢
 generalize G.getD 5 0=g5 at e1 ⊢
 generalize G.getD 6 0=g6 at e1 ⊢
 generalize G.getD 7 0=g7 at e1 ⊢
 go_enter Tryz.func140,Tryz.ntmps140
 go_wp2_with fail
 clear e1
 go_loopw [5] (fun vn wr=>∃ m:Nat,vn=.int .i64 (m:Int)∧k+m≤8∧Hid (m≤zrs (G.drop k))∧Hid (w1=wr)) (fun vn _=>8-(intOf vn).toNat)
 case atStart=>exact ⟨0,rfl,by omega,Lib.hid (Nat.zero_le _),Lib.hid rfl⟩
 case round=>
  obtain ⟨m,rfl,hkm,HM,HWR⟩:=hrel
  obtain rfl:=HWR.out
  clear HWR
  have hGd:(G.drop k)[m]? = G[k+m]?:=List.getElem?_drop
  by_cases hlt:k+m<8
  ·have hx:G[k+m]? = some (G[k+m]'(by rw [HGL.out];exact hlt)):=List.getElem?_eq_getElem _
   obtain ⟨x,hxx⟩:∃ x,G[k+m]'(by rw [HGL.out];exact hlt)=x:=⟨_,rfl⟩
   rw [hxx] at hx
   have hc:=HB.out.cell (k+m) hlt
   rw [getD_of hx] at hc
   have hik2:(k:Int)+(m:Int)<8:=by omega
   by_cases h0:x=0
   ·have HM2:=Lib.hid ((zrs_step (G.drop k) m HM.out).1 (by rw [hGd,hx,h0]))
    subst h0
    clear hx hxx hGd
    go_wp2_with fail
    go_roundw
    case rel=>exact ⟨m+1,by go_num,by omega,HM2,(by first | exact Lib.hid rfl | exact Lib.hid trivial)⟩
    case measure=>simp [intOf];omega
   ·have HM2:=Lib.hid ((zrs_step (G.drop k) m HM.out).2 (by rw [hGd,hx];intro e;injection e with e;exact h0 e))
    have q:((x:Int)==0)=false:=by rw [beq_eq_false_iff_ne];omega
    clear hx hxx hGd h0
    go_wp2_with fail
    go_ret
    rw [← HM2.out]
    exact ⟨rfl,HX.out⟩
  ·have HM2:=Lib.hid ((zrs_step (G.drop k) m HM.out).2 (by rw [hGd,List.getElem?_eq_none (by rw [HGL.out];omega)];simp))
   have hik2:(8:Int)≤(k:Int)+(m:Int):=by omega
   clear hGd
   go_wp2_with fail
   go_ret
   rw [← HM2.out]
   exact ⟨rfl,HX.out⟩
theorem hjoin_snoc:∀ (g:List Nat) (x:Nat),g≠[]→hjoin (g++[x])=hjoin g++58::hexD x
 | [],x,h=>absurd rfl h
 | [y],x,_=>by rw [hjoin_one,← hjoin_one x];exact hjoin_cons y x []
 | y::z::r,x,_=>by
  have ih:=hjoin_snoc (z::r) x (by simp)
  rw [List.cons_append,List.cons_append,hjoin_cons,← List.cons_append,ih,hjoin_cons]
  simp
set_option maxRecDepth 100000 in
set_option maxHeartbeats 1000000 in
theorem RAgroups_at (G:List Nat) (hG:G.length=8) (hlt:∀ x∈G,x<65536) (a b:Nat) (hb:b≤8) (w:World):
  Calls Tryz.prog 141 #[.agg (c8 G),.int .i64 (a:Int),.int .i64 (b:Int)] w fun e w'=>e=.returned (.string ⟨(hjoin ((G.drop a).take (b-a))).toArray⟩)∧Ext w w':=by
 have h0:=GB.new w G
 have x0:=(Ext.refl w).alloc (.cells (c8 G) 184)
 obtain ⟨w1,e1⟩:∃ W,w.alloc (.cells (c8 G) 184)=W:=⟨_,rfl⟩
 rw [e1] at h0 x0
 have HB:=Lib.hid h0;have HX:=Lib.hid x0;have HGL:=Lib.hid hG;have HLT:=Lib.hid hlt
 clear h0 x0 hG hlt
 unfold c8 at e1 ⊢
 generalize G.getD 0 0=g0 at e1 ⊢
 generalize G.getD 1 0=g1 at e1 ⊢
 generalize G.getD 2 0=g2 at e1 ⊢
 generalize G.getD 3 0=g3 at e1 ⊢
 generalize G.getD 4 0=g4 at e1 ⊢
 generalize G.getD 5 0=g5 at e1 ⊢
 generalize G.getD 6 0=g6 at e1 ⊢
 generalize G.getD 7 0=g7 at e1 ⊢
 go_enter Tryz.func141,Tryz.ntmps141
 go_wp2_with fail
 clear e1
 go_loopw [7,8] (fun vs vi wr=>∃ (i:Nat) (S:List UInt8),vs=.string ⟨S.toArray⟩∧vi=.int .i64 (i:Int)∧a≤i∧(i≤b∨i=a)∧Hid (S=hjoin ((G.drop a).take (i-a)))∧S.length≤5*(i-a)∧Hid (w1=wr)) (fun _ vi _=>8-(intOf vi).toNat)
 case atStart=>exact ⟨a,[],rfl,rfl,Nat.le_refl _,.inr rfl,Lib.hid (by simp [hjoin_nil]),Nat.zero_le _,Lib.hid rfl⟩
 case round=>
  obtain ⟨i,S,rfl,rfl,hai,hm,HS,hSl,HWR⟩:=hrel
  obtain rfl:=HWR.out
  clear HWR
  by_cases hab:i<b
  ·have hlt:i<8:=by omega
   have hxe:G[i]? = some (G[i]'(by rw [HGL.out];exact hlt)):=List.getElem?_eq_getElem _
   have hxm:G[i]'(by rw [HGL.out];exact hlt)<65536:=HLT.out _ (List.getElem_mem _)
   obtain ⟨x,hxx⟩:∃ x,G[i]'(by rw [HGL.out];exact hlt)=x:=⟨_,rfl⟩
   rw [hxx] at hxe hxm
   have hc:=HB.out.cell i hlt
   rw [getD_of hxe] at hc
   have hHX:=Lib.hid (RAhex_at x hxm w1)
   have htk:(G.drop a).take (i+1-a)=(G.drop a).take (i-a)++[x]:=by
    rw [show i+1-a=i-a+1 by omega,List.take_add_one,List.getElem?_drop,show a+(i-a)=i by omega,hxe];rfl
   have hl4:=hexD_len x hxm
   have hab':(i:Int)<(b:Int):=by omega
   have hlt8:(i:Int)<8:=by omega
   rcases Nat.eq_or_lt_of_le hai with h0 | hpos
   ·subst h0
    have hS0:S=[]:=by rw [HS.out];simp [hjoin_nil]
    subst hS0
    have HS2:=Lib.hid (show hexD x=hjoin ((G.drop a).take (a+1-a)) by rw [htk];simp [hjoin_one])
    clear htk hxe hxx hxm hm hSl
    go_wp2_with fail
    refine hHX.out.mono ?_
    rintro _ w2 ⟨rfl,rfl⟩
    go_wp2_with fail
    go_roundw
    case rel=>exact ⟨a+1,hexD x,by first | rfl | simp,by go_num,by omega,.inl (by omega),HS2,by omega,(by first | exact Lib.hid rfl | exact Lib.hid trivial)⟩
    case measure=>simp [intOf];omega
   ·have hlen:((G.drop a).take (i-a)).length=i-a:=by rw [List.length_take,List.length_drop,HGL.out];omega
    have HS2:=Lib.hid (show S++58::hexD x=hjoin ((G.drop a).take (i+1-a)) by
     rw [htk,hjoin_snoc _ _ (fun e=>by rw [e] at hlen;simp at hlen;omega),HS.out])
    have hgt:(a:Int)<(i:Int):=by omega
    have hS60:S.length≤60:=by omega
    have HSL:=Lib.hid (show (S++58::hexD x).length≤5*(i+1-a) by rw [List.length_append,List.length_cons];omega)
    clear htk hxe hxx hxm hlen hSl
    go_wp2_with fail
    refine hHX.out.mono ?_
    rintro _ w2 ⟨rfl,rfl⟩
    go_wp2_with fail
    go_roundw
    case rel=>exact ⟨i+1,S++58::hexD x,by rw [show S++58::hexD x=(S++[58])++hexD x by simp,← baA_append,← baA_append],by go_num,by omega,.inl (by omega),HS2,HSL.out,(by first | exact Lib.hid rfl | exact Lib.hid trivial)⟩
    case measure=>simp [intOf];omega
  ·have hab':(b:Int)≤(i:Int):=by omega
   have HS2:=Lib.hid (show (G.drop a).take (b-a)=(G.drop a).take (i-a) by
    rcases hm with hm | hm
    ·rw [show b-a=i-a by omega]
    ·rw [show b-a=i-a by omega])
   go_wp2_with fail
   go_ret
   rw [HS2.out,← HS.out]
   exact ⟨rfl,HX.out⟩
end Go.Proofs.YtnjmndofcpnmeaaGreatDoor
