/- Pq24. -/
import Derived.Test.YtnjmndofcpnmeaaGreatDoorPq11
import Derived.Test.YtnjmndofcpnmeaaGreatDoorPq2
import Derived.Test.YtnjmndofcpnmeaaGreatDoorPq5
import Derived.Test.YtnjmndofcpnmeaaGreatDoorPq18
import Derived.Test.YtnjmndofcpnmeaaGreatDoorPq21
import Derived.Laws.EntriesVeiled
namespace Go.Proofs.YtnjmndofcpnmeaaGreatDoor
open Go Go.RowKit
set_option linter.unusedVariables false
theorem baA_append (a b:List UInt8):(⟨a.toArray⟩:ByteArray)++⟨b.toArray⟩=⟨(a++b).toArray⟩:=by
 apply ByteArray.ext
 simp [ByteArray.data_append]
theorem decA_len {n:Nat}(h:n≤1099511627776):(Lib.decDigits n).length≤21:=by
 have:=Lib.itoa_length_le (n:Int) (by omega) (by omega)
 rwa [Lib.itoa_nonneg] at this
set_option maxRecDepth 100000 in
theorem RADec_at (n:Nat) (h1:n≤1000000) (w:World):
  Calls Tryz.prog 86 #[.int .i64 (n:Int)] w fun e w'=>e=.returned (.string ⟨(Lib.decDigits n).toArray⟩)∧Ext w w':=by
 induction n using Nat.strongRecOn generalizing w with
 | _ n ih=>
  by_cases hlt:n<10
  ·obtain ⟨d,hd⟩:∃ d,UInt8.ofNat (48+n)=d:=⟨_,rfl⟩
   have hdn:(d.toNat:Int)=48+(n:Int):=by rw [← hd,u8_dig _ (by omega)];omega
   have hcv:(convert 32 9 (.slice (some ⟨w.heap.size,0,none⟩) 1 1)).run Tryz.prog (w.alloc (.cells #[.int .u8 (48+(n:Int))] 5))=.ok (.string ⟨#[d]⟩) (w.alloc (.cells #[.int .u8 (48+(n:Int))] 5)):=
    run_str _ _ _ 5 _ [d] Tryz.underlying32 Tryz.underlying5 Tryz.underlying9 (OB.lit w 5 0 [.int .u8 (48+(n:Int))] [d] (by simp [bv,hdn]) 1 rfl (by simp [maxLen]) (by omega)).bs
   have hm:(48+(n:Int)) % 256=48+(n:Int):=by omega
   have HD:=Lib.hid (show Lib.decDigits n=[d] by rw [dec_lo _ hlt,hd])
   have hlt':(n:Int)<10:=by omega
   clear hd hdn ih hlt
   go_enter Tryz.func86,Tryz.ntmps86
   go_wp2_with fail
   go_ret
   refine ⟨?_,(Ext.refl w).alloc _⟩
   rw [HD.out];rfl
  ·have i1:=ih (n / 10) (by omega) (by omega) w
   have i2:=fun (W:World)=>ih (n % 10) (by omega) (by omega) W
   rw [show ((n / 10:Nat):Int)=(n:Int) / 10 by omega] at i1
   simp only [show ((n % 10:Nat):Int)=(n:Int) % 10 by omega] at i2
   have I1:=Lib.hid i1;have I2:=Lib.hid i2
   have HD:=Lib.hid (show Lib.decDigits n=Lib.decDigits (n / 10)++Lib.decDigits (n % 10) by rw [dec_hi _ (by omega),dec_lo (n % 10) (by omega)])
   have l1:(Lib.decDigits (n / 10)).length≤21:=decA_len (by omega)
   have l2:(Lib.decDigits (n % 10)).length≤21:=decA_len (by omega)
   have hlt':10≤(n:Int):=by omega
   clear ih i1 i2 hlt
   go_enter Tryz.func86,Tryz.ntmps86
   go_wp2_with fail
   refine I1.out.mono ?_
   rintro e w2 ⟨rfl,hx2⟩
   have HX2:=Lib.hid hx2;clear hx2
   go_wp2_with fail
   refine (I2.out w2).mono ?_
   rintro e w3 ⟨rfl,hx3⟩
   have HX3:=Lib.hid (HX2.out.trans hx3);clear hx3
   go_wp2_with fail
   go_ret
   refine ⟨?_,HX3.out⟩
   rw [HD.out,← baA_append];rfl
theorem hexS_one (d:Nat)(h:d<16)(W:World):(Instr.slice 9 (.string ⟨#[48,49,50,51,52,53,54,55,56,57,97,98,99,100,101,102]⟩) (some (.int .i64 (d:Int))) (some (.int .i64 ((d:Int)+1))) none).run Tryz.prog W=.ok (.string ⟨#[hxc d]⟩) W:=by
 rw [run_slice_string_if W _ _ _ _ _ _ Tryz.underlying9,if_pos (by show (0:Int)≤d+1∧(d:Int)+1≤16;omega),if_pos (by omega),show ((d:Int)).toNat=d by omega,show ((d:Int)+1).toNat=d+1 by omega]
 have e:(⟨#[48,49,50,51,52,53,54,55,56,57,97,98,99,100,101,102]⟩:ByteArray).extract d (d+1)=⟨#[hxc d]⟩:=by
  revert h;revert d;decide
 rw [e]
set_option maxRecDepth 100000 in
theorem RAhex_at (n:Nat) (h1:n<65536) (w:World):
  Calls Tryz.prog 185 #[.int .i64 (n:Int)] w fun e w'=>e=.returned (.string ⟨(hexD n).toArray⟩)∧w=w':=by
 induction n using Nat.strongRecOn generalizing w with
 | _ n ih=>
  obtain ⟨d,hd⟩:∃ d,n % 16=d:=⟨_,rfl⟩
  have hs:=fun W=>hexS_one d (by omega) W
  have hdi:(n:Int) % 16=(d:Int):=by omega
  have hd0:0≤(d:Int)+1:=by omega
  by_cases hlt:n<16
  ·have HD:=Lib.hid (show hexD n=[hxc d] by rw [hexD_lo hlt,← hd,Nat.mod_eq_of_lt hlt])
   have hlt':(n:Int)<16:=by omega
   clear ih hlt hd
   go_enter Tryz.func185,Tryz.ntmps185
   go_wp2_with fail
   go_ret
   refine ⟨?_,rfl⟩
   rw [HD.out];rfl
  ·have i1:=fun (W:World)=>ih (n / 16) (by omega) (by omega) W
   simp only [show ((n / 16:Nat):Int)=(n:Int) / 16 by omega] at i1
   have I1:=Lib.hid i1
   have HD:=Lib.hid (show hexD n=hexD (n / 16)++[hxc d] by rw [hexD_hi hlt,hd])
   have l1:(hexD (n / 16)).length≤4:=hexD_len _ (by omega)
   have hlt':16≤(n:Int):=by omega
   clear ih i1 hlt hd
   go_enter Tryz.func185,Tryz.ntmps185
   go_wp2_with fail
   refine (I1.out _).mono ?_
   rintro e w2 ⟨rfl,rfl⟩
   go_wp2_with fail
   go_ret
   refine ⟨?_,rfl⟩
   rw [HD.out,← baA_append];rfl
def c8 (G:List Nat):Array Value:=#[.int .i64 (G.getD 0 0:Nat),.int .i64 (G.getD 1 0:Nat),.int .i64 (G.getD 2 0:Nat),.int .i64 (G.getD 3 0:Nat),.int .i64 (G.getD 4 0:Nat),.int .i64 (G.getD 5 0:Nat),.int .i64 (G.getD 6 0:Nat),.int .i64 (G.getD 7 0:Nat)]
theorem c8_get (G:List Nat)(i:Nat)(h:i<8):(c8 G)[i]? = some (.int .i64 (G.getD i 0:Nat)):=by
 have hi:i=0∨i=1∨i=2∨i=3∨i=4∨i=5∨i=6∨i=7:=by omega
 rcases hi with rfl | rfl | rfl | rfl | rfl | rfl | rfl | rfl<;>rfl
def GB (w:World)(g:Nat)(G:List Nat):Prop:=w.heap[g]? = some (.cells (c8 G) 184 (0,0))
theorem GB.ext {w w':World}{g:Nat}{G:List Nat}(h:GB w g G)(hx:Ext w w'):GB w' g G:=hx.heap h
theorem GB.cell {w:World}{g:Nat}{G:List Nat}(h:GB w g G)(i:Nat)(hi:i<8):w.cell? ⟨g,i,none⟩=some (.int .i64 (G.getD i 0:Nat)):=by
 rw [cell_of_row w g i _ _ (0,0) h,c8_get G i hi]
theorem GB.new (w:World)(G:List Nat):GB (w.alloc (.cells (c8 G) 184)) w.heap.size G:=heap_alloc_new w _
theorem getD_of {G:List Nat}{i x:Nat}(h:G[i]? = some x):G.getD i 0=x:=by rw [List.getD_eq_getElem?_getD,h];rfl
set_option maxRecDepth 100000 in
theorem RAzeros_at (G:List Nat) (hG:G.length=8) (k:Nat) (hk:k≤8) (w:World):
  Calls Tryz.prog 140 #[.agg (c8 G),.int .i64 (k:Int)] w fun e w'=>e=.returned (.int .i64 (zrs (G.drop k):Nat))∧Ext w w':=by
 have h0:=GB.new w G
 have x0:=(Ext.refl w).alloc (.cells (c8 G) 184)
 obtain ⟨w1,e1⟩:∃ W,w.alloc (.cells (c8 G) 184)=W:=⟨_,rfl⟩
 rw [e1] at h0 x0
 have HB:=Lib.hid h0;have HX:=Lib.hid x0;have HGL:=Lib.hid hG
 clear h0 x0 hG
 unfold c8 at e1 ⊢
 generalize G.getD 0 0=g0 at e1 ⊢
 generalize G.getD 1 0=g1 at e1 ⊢
 generalize G.getD 2 0=g2 at e1 ⊢
 generalize G.getD 3 0=g3 at e1 ⊢
 generalize G.getD 4 0=g4 at e1 ⊢
 generalize G.getD 5 0=g5 at e1 ⊢
 generalize G.getD 6 0=g6 at e1 ⊢
 generalize G.getD 7 0=g7 at e1 ⊢
 go_enter Tryz.func140,Tryz.ntmps140
 go_wp2_with fail
 clear e1
 go_loopw [5] (fun vn wr=>∃ m:Nat,vn=.int .i64 (m:Int)∧k+m≤8∧Hid (m≤zrs (G.drop k))∧Hid (w1=wr)) (fun vn _=>8-(intOf vn).toNat)
 case atStart=>exact ⟨0,rfl,by omega,Lib.hid (Nat.zero_le _),Lib.hid rfl⟩
 case round=>
  obtain ⟨m,rfl,hkm,HM,HWR⟩:=hrel
  obtain rfl:=HWR.out
  clear HWR
  have hGd:(G.drop k)[m]? = G[k+m]?:=List.getElem?_drop
  by_cases hlt:k+m<8
  ·have hx:G[k+m]? = some (G[k+m]'(by rw [HGL.out];exact hlt)):=List.getElem?_eq_getElem _
   obtain ⟨x,hxx⟩:∃ x,G[k+m]'(by rw [HGL.out];exact hlt)=x:=⟨_,rfl⟩
   rw [hxx] at hx
   have hc:=HB.out.cell (k+m) hlt
   rw [getD_of hx] at hc
   have hik2:(k:Int)+(m:Int)<8:=by omega
   by_cases h0:x=0
   ·have HM2:=Lib.hid ((zrs_step (G.drop k) m HM.out).1 (by rw [hGd,hx,h0]))
    subst h0
    clear hx hxx hGd
    go_wp2_with fail
    go_roundw
    case rel=>exact ⟨m+1,by go_num,by omega,HM2,(by first | exact Lib.hid rfl | exact Lib.hid trivial)⟩
    case measure=>simp [intOf];omega
   ·have HM2:=Lib.hid ((zrs_step (G.drop k) m HM.out).2 (by rw [hGd,hx];intro e;injection e with e;exact h0 e))
    have q:((x:Int)==0)=false:=by rw [beq_eq_false_iff_ne];omega
    clear hx hxx hGd h0
    go_wp2_with fail
    go_ret
    rw [← HM2.out]
    exact ⟨rfl,HX.out⟩
  ·have HM2:=Lib.hid ((zrs_step (G.drop k) m HM.out).2 (by rw [hGd,List.getElem?_eq_none (by rw [HGL.out];omega)];simp))
   have hik2:(8:Int)≤(k:Int)+(m:Int):=by omega
   clear hGd
   go_wp2_with fail
   go_ret
   rw [← HM2.out]
   exact ⟨rfl,HX.out⟩
theorem hjoin_snoc:∀ (g:List Nat) (x:Nat),g≠[]→hjoin (g++[x])=hjoin g++58::hexD x
 | [],x,h=>absurd rfl h
 | [y],x,_=>by rw [hjoin_one,← hjoin_one x];exact hjoin_cons y x []
 | y::z::r,x,_=>by
  have ih:=hjoin_snoc (z::r) x (by simp)
  rw [List.cons_append,List.cons_append,hjoin_cons,← List.cons_append,ih,hjoin_cons]
  simp
set_option maxRecDepth 100000 in
set_option maxHeartbeats 1000000 in
theorem RAgroups_at (G:List Nat) (hG:G.length=8) (hlt:∀ x∈G,x<65536) (a b:Nat) (hb:b≤8) (w:World):
  Calls Tryz.prog 141 #[.agg (c8 G),.int .i64 (a:Int),.int .i64 (b:Int)] w fun e w'=>e=.returned (.string ⟨(hjoin ((G.drop a).take (b-a))).toArray⟩)∧Ext w w':=by
 have h0:=GB.new w G
 have x0:=(Ext.refl w).alloc (.cells (c8 G) 184)
 obtain ⟨w1,e1⟩:∃ W,w.alloc (.cells (c8 G) 184)=W:=⟨_,rfl⟩
 rw [e1] at h0 x0
 have HB:=Lib.hid h0;have HX:=Lib.hid x0;have HGL:=Lib.hid hG;have HLT:=Lib.hid hlt
 clear h0 x0 hG hlt
 unfold c8 at e1 ⊢
 generalize G.getD 0 0=g0 at e1 ⊢
 generalize G.getD 1 0=g1 at e1 ⊢
 generalize G.getD 2 0=g2 at e1 ⊢
 generalize G.getD 3 0=g3 at e1 ⊢
 generalize G.getD 4 0=g4 at e1 ⊢
 generalize G.getD 5 0=g5 at e1 ⊢
 generalize G.getD 6 0=g6 at e1 ⊢
 generalize G.getD 7 0=g7 at e1 ⊢
 go_enter Tryz.func141,Tryz.ntmps141
 go_wp2_with fail
 clear e1
 go_loopw [7,8] (fun vs vi wr=>∃ (i:Nat) (S:List UInt8),vs=.string ⟨S.toArray⟩∧vi=.int .i64 (i:Int)∧a≤i∧(i≤b∨i=a)∧Hid (S=hjoin ((G.drop a).take (i-a)))∧S.length≤5*(i-a)∧Hid (w1=wr)) (fun _ vi _=>8-(intOf vi).toNat)
 case atStart=>exact ⟨a,[],rfl,rfl,Nat.le_refl _,.inr rfl,Lib.hid (by simp [hjoin_nil]),Nat.zero_le _,Lib.hid rfl⟩
 case round=>
  obtain ⟨i,S,rfl,rfl,hai,hm,HS,hSl,HWR⟩:=hrel
  obtain rfl:=HWR.out
  clear HWR
  by_cases hab:i<b
  ·have hlt:i<8:=by omega
   have hxe:G[i]? = some (G[i]'(by rw [HGL.out];exact hlt)):=List.getElem?_eq_getElem _
   have hxm:G[i]'(by rw [HGL.out];exact hlt)<65536:=HLT.out _ (List.getElem_mem _)
   obtain ⟨x,hxx⟩:∃ x,G[i]'(by rw [HGL.out];exact hlt)=x:=⟨_,rfl⟩
   rw [hxx] at hxe hxm
   have hc:=HB.out.cell i hlt
   rw [getD_of hxe] at hc
   have hHX:=Lib.hid (RAhex_at x hxm w1)
   have htk:(G.drop a).take (i+1-a)=(G.drop a).take (i-a)++[x]:=by
    rw [show i+1-a=i-a+1 by omega,List.take_add_one,List.getElem?_drop,show a+(i-a)=i by omega,hxe];rfl
   have hl4:=hexD_len x hxm
   have hab':(i:Int)<(b:Int):=by omega
   have hlt8:(i:Int)<8:=by omega
   rcases Nat.eq_or_lt_of_le hai with h0 | hpos
   ·subst h0
    have hS0:S=[]:=by rw [HS.out];simp [hjoin_nil]
    subst hS0
    have HS2:=Lib.hid (show hexD x=hjoin ((G.drop a).take (a+1-a)) by rw [htk];simp [hjoin_one])
    clear htk hxe hxx hxm hm hSl
    go_wp2_with fail
    refine hHX.out.mono ?_
    rintro _ w2 ⟨rfl,rfl⟩
    go_wp2_with fail
    go_roundw
    case rel=>exact ⟨a+1,hexD x,by first | rfl | simp,by go_num,by omega,.inl (by omega),HS2,by omega,(by first | exact Lib.hid rfl | exact Lib.hid trivial)⟩
    case measure=>simp [intOf];omega
   ·have hlen:((G.drop a).take (i-a)).length=i-a:=by rw [List.length_take,List.length_drop,HGL.out];omega
    have HS2:=Lib.hid (show S++58::hexD x=hjoin ((G.drop a).take (i+1-a)) by
     rw [htk,hjoin_snoc _ _ (fun e=>by rw [e] at hlen;simp at hlen;omega),HS.out])
    have hgt:(a:Int)<(i:Int):=by omega
    have hS60:S.length≤60:=by omega
    have HSL:=Lib.hid (show (S++58::hexD x).length≤5*(i+1-a) by rw [List.length_append,List.length_cons];omega)
    clear htk hxe hxx hxm hlen hSl
    go_wp2_with fail
    refine hHX.out.mono ?_
    rintro _ w2 ⟨rfl,rfl⟩
    go_wp2_with fail
    go_roundw
    case rel=>exact ⟨i+1,S++58::hexD x,by rw [show S++58::hexD x=(S++[58])++hexD x by simp,← baA_append,← baA_append],by go_num,by omega,.inl (by omega),HS2,HSL.out,(by first | exact Lib.hid rfl | exact Lib.hid trivial)⟩
    case measure=>simp [intOf];omega
  ·have hab':(b:Int)≤(i:Int):=by omega
   have HS2:=Lib.hid (show (G.drop a).take (b-a)=(G.drop a).take (i-a) by
    rcases hm with hm | hm
    ·rw [show b-a=i-a by omega]
    ·rw [show b-a=i-a by omega])
   go_wp2_with fail
   go_ret
   rw [HS2.out,← HS.out]
   exact ⟨rfl,HX.out⟩
end Go.Proofs.YtnjmndofcpnmeaaGreatDoor
namespace Go.Proofs.YtnjmndofcpnmeaaGreatDoor
open Go Go.Lib
set_option linter.unusedVariables false
noncomputable def prsF (l:List UInt8):Option Fct:=open Classical in if h:∃ f:Fct,f.Ok∧f.txt=l then some h.choose else none
theorem prsF_spec (l:List UInt8):PrsS l (prsF l):=by
 unfold prsF
 split
 ·next h=>exact .inl ⟨_,rfl,h.choose_spec⟩
 ·next h=>exact .inr ⟨rfl,fun f hf e=>h ⟨f,hf,e⟩⟩
theorem prsF_txt {f:Fct}(h:f.Ok):prsF f.txt=some f:=(prsF_spec f.txt).uniq (.inl ⟨f,rfl,h,rfl⟩)
noncomputable def plogF:List (List UInt8)→List Fct→List Fct × Nat × Int
 | [],acc=>(acc,0,0)
 | [x],acc=>if x=[] then (acc,0,0) else ([],acc.length+1,6)
 | x::y::r,acc=>match prsF x with
  | none=>([],acc.length+1,6)
  | some f=>plogF (y::r) (acc++[f])
theorem plog_one (x:List UInt8)(acc:List Fct):plogF [x] acc=if x=[] then (acc,0,0) else ([],acc.length+1,6):=by rw [plogF]
theorem plog_none {x y:List UInt8}{r:List (List UInt8)}{acc:List Fct}(h:prsF x=none):plogF (x::y::r) acc=([],acc.length+1,6):=by rw [plogF,h]
theorem plog_some {x y:List UInt8}{r:List (List UInt8)}{acc:List Fct}{f:Fct}(h:prsF x=some f):plogF (x::y::r) acc=plogF (y::r) (acc++[f]):=by rw [plogF,h]
theorem splb_ne (x:UInt8):∀ (s acc:List UInt8),splb x acc s≠[]
 | [],acc=>by rw [splb];simp
 | c::r,acc=>by
  rw [splb]
  split
  ·simp
  ·exact splb_ne x r _
def lnP:List (List UInt8)→List (List UInt8 × Bool)
 | []=>[]
 | [x]=>if x=[] then [] else [(x,false)]
 | x::y::r=>(x,true)::lnP (y::r)
def lnF (l:List UInt8):List (List UInt8 × Bool):=lnP (splb 10 [] l)
theorem lnF_nil:lnF []=[]:=rfl
theorem lnP_two {x:List UInt8}{ls:List (List UInt8)}(h:ls≠[]):lnP (x::ls)=(x,true)::lnP ls:=by
 cases ls with
 | nil=>exact absurd rfl h
 | cons y r=>rfl
theorem lnF_cut {l:List UInt8}(h:l≠[]):lnF l=((cut l [10]).1,(cut l [10]).2.2)::lnF (cut l [10]).2.1∧(cut l [10]).2.1.length<l.length:=by
 unfold lnF
 by_cases hx:(10:UInt8)∈l
 ·obtain ⟨a,b,rfl,ha⟩:=List.eq_append_cons_of_mem hx
  have hi:=index_hit 10 a b ha
  have hc:cut (a++10::b) [10]=(a,b,true):=by
   unfold cut
   rw [hi,if_pos (by omega),show ((a.length:Int)).toNat=a.length from rfl]
   simp
  rw [hc,splb_hit 10 a [] b (fun c hc e=>ha (e ▸ hc)),lnP_two (splb_ne 10 b []),List.nil_append]
  exact ⟨rfl,by simp;omega⟩
 ·have hi:=index_miss 10 l hx
  have hc:cut l [10]=(l,[],false):=by
   unfold cut
   rw [hi,if_neg (by decide)]
  rw [hc,splb_acc 10 l [] (fun c hc e=>hx (e ▸ hc)),List.nil_append]
  refine ⟨?_,List.length_pos_iff.2 h⟩
  show (if l=[] then [] else [(l,false)])=_
  rw [if_neg h]
  rfl
noncomputable def plogN:List (List UInt8 × Bool)→List Fct→List Fct × Nat × Int
 | [],acc=>(acc,0,0)
 | (x,e)::r,acc=>match prsF x with
  | none=>([],acc.length+1,6)
  | some f=>if e then plogN r (acc++[f]) else ([],acc.length+1,6)
theorem plogN_P:∀ (ls:List (List UInt8)) (acc:List Fct),plogN (lnP ls) acc=plogF ls acc
 | [],acc=>rfl
 | [x],acc=>by
  rw [plog_one]
  show plogN (if x=[] then [] else [(x,false)]) acc=_
  split
  ·rfl
  ·rw [plogN]
   cases prsF x<;>rfl
 | x::y::r,acc=>by
  show plogN ((x,true)::lnP (y::r)) acc=_
  rw [plogN]
  cases hp:prsF x with
  | none=>rw [plog_none hp]
  | some f=>rw [plog_some hp];exact plogN_P (y::r) _
theorem plogN_pre:∀ (fs:List Fct) (rest:List (List UInt8 × Bool)) (acc:List Fct),(∀ f∈fs,f.Ok)→plogN (fs.map (fun f=>(f.txt,true))++rest) acc=plogN rest (acc++fs)
 | [],rest,acc,_=>by simp
 | f::fs,rest,acc,h=>by
  rw [List.map_cons,List.cons_append,plogN,prsF_txt (h f (by simp))]
  show (if true=true then _ else _)=_
  rw [if_pos rfl,plogN_pre fs rest (acc++[f]) (fun g hg=>h g (List.mem_cons_of_mem _ hg))]
  simp
theorem plog_all {l:List UInt8}{fs:List Fct}(h:∀ f∈fs,f.Ok)(e:lnF l=fs.map (fun f=>(f.txt,true))):plogF (splb 10 [] l) []=(fs,0,0):=by
 rw [← plogN_P]
 show plogN (lnF l) []=_
 have:=plogN_pre fs [] [] h
 rw [List.append_nil] at this
 rw [e,this]
 rfl
theorem plog_bad {l:List UInt8}{fs:List Fct}{x:List UInt8}{b:Bool}{rest:List (List UInt8 × Bool)}(h:∀ f∈fs,f.Ok)(e:lnF l=fs.map (fun f=>(f.txt,true))++(x,b)::rest)(hb:prsF x=none∨b=false):plogF (splb 10 [] l) []=([],fs.length+1,6):=by
 rw [← plogN_P]
 show plogN (lnF l) []=_
 rw [e,plogN_pre fs _ [] h,plogN,List.nil_append]
 rcases hb with hb | rfl
 ·rw [hb]
 ·cases prsF x<;>rfl
end Go.Proofs.YtnjmndofcpnmeaaGreatDoor
namespace Go.Proofs.YtnjmndofcpnmeaaGreatDoor
open Go Go.RowKit
set_option linter.unusedVariables false
def dtL (xs:List (ByteArray × Bool)):List (List UInt8 × Bool):=xs.map fun x=>(x.1.data.toList,x.2)
theorem dtL_snoc (xs:List (ByteArray × Bool))(x:ByteArray × Bool):dtL (xs++[x])=dtL xs++[(x.1.data.toList,x.2)]:=by simp [dtL]
theorem Stab.maxl (B:Nat):Stab B MaxL:=fun W W' l _ hn hg h g hgl=>by
 obtain ⟨m,hm⟩:=h g hgl
 refine ⟨m,?_⟩
 have hm0:=hm
 unfold World.cell? at hm0
 simp only at hm0
 cases ho:W.heap[g]? with
 | none=>rw [ho] at hm0;simp at hm0
 | some o=>
  rw [ho] at hm0
  cases o<;>simp at hm0
  case cells cs t fr=>
   rw [← hm]
   exact World.cell?_of_block ((heap_nc hn hg ho).trans ho.symm)
def LnIt (s:ByteArray)(b:Nat)(W:World):Prop:=W.heap[b]? = some (.cells #[.string s] 9 (0,0))∧MaxL W
theorem LnIt.stab (B:Nat)(s:ByteArray)(b:Nat):Stab B (LnIt s b):=(Stab.heap _ _ _ _).and (Stab.maxl B)
theorem LnIt.ext {s:ByteArray}{b:Nat}{W W':World}(h:LnIt s b W)(hx:Ext W W'):LnIt s b W':=⟨hx.heap h.1,h.2.ext hx⟩
def LnG (s:ByteArray)(pre:List (ByteArray × Bool))(x:ByteArray × Bool)(_:World):Prop:=(∃ rest,lnF s.data.toList=dtL pre++(x.1.data.toList,x.2)::rest)∧x.1.size≤s.size
def strLn (v:Value):Nat:=match v with | .string b=>b.size | _=>0
theorem NlCut_at (s:ByteArray) (hs:s.size≤100000000) (w:World) (hm:MaxL w):
  Calls Tryz.prog 40 #[.string s,.string ⟨#[10]⟩] w fun e w'=>e=.returned (.tuple #[.string ⟨(Lib.cut s.data.toList [10]).1.toArray⟩,.string ⟨(Lib.cut s.data.toList [10]).2.1.toArray⟩,.bool (Lib.cut s.data.toList [10]).2.2])∧Ext w w':=by
 obtain ⟨m,hm⟩:=hm 0 (by kernel_rfl)
 refine (Tryz.strings_Cut s ⟨#[10]⟩ m w (by omega) hm).mono ?_
 rintro e w' ⟨rfl,n,rfl⟩
 exact ⟨rfl,(Ext.refl _).drewN n⟩
theorem lines_at (s:ByteArray) (w:World):
  Calls Tryz.prog 36 #[.string s] w fun e w'=>e=.returned (.func (.func 99) #[] #[.pointer (some ⟨w.heap.size,0,none⟩)])∧w'=w.alloc (.cells #[.string s] 9):=by
 have hmf:∀ (fn:Fn) (first cap:Array Value) (w:World),(Instr.makeFunc fn first cap).run Tryz.prog w=.ok (.func fn first cap) w:=fun _ _ _ _=>rfl
 go_enter Tryz.func36,Tryz.ntmps36
 go_wp2
 go_ret
 exact ⟨rfl,rfl⟩
attribute [local go_sem] Oper.semAt_some
set_option maxRecDepth 100000 in
set_option maxHeartbeats 2000000 in
theorem lines_iter (s:ByteArray) (hs:s.size≤100000000) (b:Nat):
  Iter Tryz.prog 99 #[.pointer (some ⟨b,0,none⟩)] (fun x:ByteArray × Bool=>#[.string x.1,.bool x.2]) (LnIt s b) (LnG s) (fun _=>False) (fun xs=>lnF s.data.toList=dtL xs) (fun pre=>∃ rest,lnF s.data.toList=dtL pre++rest):=by
 intro lp J Jx W hJ hJx hY hit h0
 refine callsIn_of_wp Tryz.func99 rfl trivial ?_ rfl
 simp only [Tryz.ntmps99,List.size_toArray,List.length_cons,List.length_nil,Nat.reduceAdd,Nat.reduceSub,Array.replicate_succ,Array.replicate_zero,List.push_toArray,List.append_toArray,List.nil_append,List.cons_append]
 have k1:W.cell? ⟨b,0,none⟩=some (.string s):=(row1 hit.1).1
 gi_wp2
 gi_loopw [3,4,5,6] (fun v _ _ _ wr=>∃ (pre:List (ByteArray × Bool)) (cur:ByteArray),v=.string cur∧J pre wr∧LnIt s b wr∧lnF s.data.toList=dtL pre++lnF cur.data.toList∧cur.size≤s.size) (fun v _ _ _ _=>strLn v)
 case atStart=>exact ⟨[],s,rfl,h0,hit,rfl,Nat.le_refl _⟩
 case round=>
  obtain ⟨pre,cur,rfl,hj,hi,he,hz⟩:=hrel
  have HI:=Lib.hid hi;have HE:=Lib.hid he;have HJ:=Lib.hid hj;have HZ:=Lib.hid hz
  clear hi he hj hz k1
  by_cases hemp:cur.data.toList=[]
  ·have e1:cur.toList=[]:=by rw [ByteArray.toList_eq];exact hemp
   have HS:=Lib.hid (show lnF s.data.toList=dtL pre by rw [HE.out,hemp,lnF_nil,List.append_nil])
   clear hemp
   gi_wp2_with fail
   first | go_end0 | refine bodyPost_ret (results_none rfl _ _ _) rfl ?_
   exact ⟨⟨_,rfl⟩,.inl ⟨pre,HS.out,HJ.out,HI.out⟩⟩
  ·have e1:cur.toList.isEmpty=false:=by rw [ByteArray.toList_eq];cases hx:cur.data.toList with | nil=>exact absurd hx hemp | cons a b=>rfl
   have e2:cur.toList≠[]:=by rw [ByteArray.toList_eq];exact hemp
   obtain ⟨hlc,hll⟩:=lnF_cut hemp
   have HC:=Lib.hid (NlCut_at cur (by have:=HZ.out;omega) wr HI.out.2)
   have hcl:=cut_len1 cur.data.toList [10]
   rw [size_list] at hcl hll
   generalize (Lib.cut cur.data.toList [10]).1=P at *
   generalize (Lib.cut cur.data.toList [10]).2.1=Q at *
   generalize (Lib.cut cur.data.toList [10]).2.2=b0 at *
   have HS:=Lib.hid (show lnF s.data.toList=dtL (pre++[(⟨P.toArray⟩,b0)])++lnF Q by rw [HE.out,hlc,dtL_snoc];simp)
   have HQL:=Lib.hid hll;have HPL:=Lib.hid hcl
   clear hemp hlc hll hcl
   gi_wp2_with fail
   refine wide_call HC.out ?_
   rintro e w' ⟨rfl,hx⟩
   obtain ⟨fn,tmps,assign,body,hy,hR⟩:=hY pre (⟨P.toArray⟩,b0) w' (hJ _ _ _ none (fun k hk=>by cases hk) (hx.but none) HJ.out) (HI.out.ext hx) ⟨⟨lnF Q,by rw [HS.out,dtL_snoc];simp⟩,by show P.toArray.size≤_;have:=HPL.out;have:=HZ.out;simp;omega⟩
   gi_wp2_with fail
   refine ⟨rfl,hR.mono ?_⟩
   rintro e W3 (⟨rfl,hJ3,hI3⟩ | ⟨rfl,hJx3⟩)
   ·have HI3:=Lib.hid hI3;have HJ3:=Lib.hid hJ3;clear hI3 hJ3
    gi_wp2_with fail
    go_roundw
    case rel=>exact ⟨pre++[(⟨P.toArray⟩,b0)],⟨Q.toArray⟩,rfl,HJ3.out,HI3.out,by rw [HS.out],by show Q.toArray.size≤_;have:=HPL.out;have:=HZ.out;simp;omega⟩
    case measure=>show Q.toArray.size<cur.size;rw [List.size_toArray];exact HQL.out
   ·gi_wp2_with fail
    first | go_end0 | refine bodyPost_ret (results_none rfl _ _ _) rfl ?_
    exact ⟨⟨_,rfl⟩,.inr ⟨_,⟨_,HS.out⟩,hJx3⟩⟩
end Go.Proofs.YtnjmndofcpnmeaaGreatDoor
namespace Go.Proofs.YtnjmndofcpnmeaaGreatDoor
open Go Go.RowKit
set_option linter.unusedVariables false
theorem RS.off {w w':World}{A:Option Addr}{n c:Nat}{row:Option Nat}{xs:List Value}(h:RS w (.slice A n c) xs)(hA:xs≠[]→∀ ad,A=some ad→row≠some ad.block)(hg:w.grownBy w' row):RS w' (.slice A n c) xs:=by
 obtain ⟨A',c',he,h1,h2,h3⟩:=h
 injection he with e1 e2 e3
 subst e1;subst e3
 refine ⟨A,c,by rw [e2],h1,h2,fun hp=>?_⟩
 obtain ⟨ad,ha,hb,hc⟩:=h3 hp
 refine ⟨ad,ha,Nat.lt_of_lt_of_le hb hg.size,fun j u hu=>?_⟩
 have hblk:(ad.add j).block=ad.block:=block_of_add ad j
 have:=hg.block ad.block hb (fun e=>hA (List.ne_nil_of_length_pos hp) ad ha e.symm)
 rw [← hc j u hu]
 exact World.cell?_of_block (by rw [hblk];exact this)
theorem RS.lt {w:World}{A:Option Addr}{n c:Nat}{xs:List Value}(h:RS w (.slice A n c) xs)(hne:xs≠[]){ad:Addr}(ha:A=some ad):ad.block<w.heap.size∧∃ cs t fr,w.heap[ad.block]? = some (.cells cs t fr):=by
 obtain ⟨A',c',he,h1,h2,h3⟩:=h
 injection he with e1 e2 e3
 subst e1
 obtain ⟨ad',ha',hb,hc⟩:=h3 (List.length_pos_iff.2 hne)
 rw [ha] at ha'
 injection ha' with ha'
 subst ha'
 refine ⟨hb,?_⟩
 have hpos:=List.length_pos_iff.2 hne
 have h0:=hc 0 xs[0] (List.getElem?_eq_getElem hpos)
 unfold World.cell? at h0
 rw [block_of_add] at h0
 cases ho:w.heap[ad.block]? with
 | none=>rw [ho] at h0;simp at h0
 | some o=>
  rw [ho] at h0
  cases o<;>simp at h0
  case cells cs t fr=>exact ⟨cs,t,fr,rfl⟩
theorem BS.offRow {w w':World}{v:Value}{l:List UInt8}{row:Option Nat}(h:BS w v l)(hn:∀ b,row=some b→NoU8 w b)(hg:w.grownBy w' row):BS w' v l:=by
 cases row with
 | none=>exact h.ext (grown_of_ext hg)
 | some b=>exact h.but (hn b rfl) hg
def FV.Blk (f:FV)(b:Nat):Prop:=(f.cp≠[]∧∃ ad,f.CA=some ad∧ad.block=b)∨(f.sp≠[]∧∃ ad,f.SA=some ad∧ad.block=b)
theorem sv_ne {ps:List ByteArray}(h:ps≠[]):sv ps≠[]:=by cases ps with | nil=>exact absurd rfl h | cons a b=>simp [sv]
theorem ne_sv {ps:List ByteArray}(h:sv ps≠[]):ps≠[]:=fun e=>h (by rw [e];rfl)
theorem FV.In.off {w w':World}{f:FV}{row:Option Nat}(h:f.In w)(hg:w.grownBy w' row)(hr:∀ b,row=some b→NoU8 w b∧¬ f.Blk b):f.In w':=
 ⟨h.fb.offRow (fun b hb=>(hr b hb).1) hg,h.cp.off (fun hne ad ha e=>(hr _ e).2 (.inl ⟨ne_sv hne,ad,ha,rfl⟩)) hg,h.sp.off (fun hne ad ha e=>(hr _ e).2 (.inr ⟨ne_sv hne,ad,ha,rfl⟩)) hg⟩
theorem FV.In.blk {w:World}{f:FV}(h:f.In w){b:Nat}(hb:f.Blk b):b<w.heap.size∧∃ cs t fr,w.heap[b]? = some (.cells cs t fr):=by
 rcases hb with ⟨hne,ad,ha,rfl⟩ | ⟨hne,ad,ha,rfl⟩
 ·exact h.cp.lt (sv_ne hne) ha
 ·exact h.sp.lt (sv_ne hne) ha
theorem FV.In.notOne {w:World}{f:FV}(h:f.In w){b:Nat}{v:Value}{t:TypeId}(hb:w.heap[b]? = some (.cells #[v] t (0,0)))(hv:∀ s,v≠.string s):¬ f.Blk b:=by
 have key:∀ {A:Option Addr} {n c:Nat} {ps:List ByteArray} {ad:Addr},RS w (.slice A n c) (sv ps)→ps≠[]→A=some ad→ad.block=b→False:=by
  intro A n c ps ad hr hne ha hbk
  obtain ⟨A',c',he,_,_,h3⟩:=hr
  injection he with e1 _ _
  subst e1
  obtain ⟨ad',ha',_,hc⟩:=h3 (List.length_pos_iff.2 (sv_ne hne))
  rw [ha] at ha'
  injection ha' with ha'
  subst ha'
  cases ps with
  | nil=>exact hne rfl
  | cons p r=>
   have h0:=hc 0 (.string p) rfl
   unfold World.cell? at h0
   rw [block_of_add,hbk,hb] at h0
   simp only at h0
   split at h0
   ·cases h0
   ·obtain ⟨hlt,he⟩:=Array.getElem?_eq_some_iff.1 h0
    have hz:(ad.add 0).off=0:=by simp at hlt;omega
    simp only [hz] at he
    exact hv p he
 rintro (⟨hne,ad,ha,hbk⟩ | ⟨hne,ad,ha,hbk⟩)
 ·exact key h.cp hne ha hbk
 ·exact key h.sp hne ha hbk
def EF:Ek FV where
 k:=12
 kp:=by decide
 cs:=FV.cs
 len:=fun _=>rfl
 one:=fun x u hu=>by
  unfold FV.cs at hu
  simp only [List.mem_cons,List.not_mem_nil,or_false] at hu
  rcases hu with rfl | rfl | rfl | rfl | rfl | rfl | rfl | rfl | rfl | rfl | rfl | rfl<;>rfl
 no8:=fun x u hu n e=>by
  subst e
  unfold FV.cs at hu
  simp at hu
 In:=fun w f=>f.In w
 Blk:=fun f b=>f.Blk b
 blt:=fun w x b h hb=>(h.blk hb).1
 keep:=fun w w' x row h hg hr=>h.off hg hr
theorem EF_nc (w:World)(l:Nat)(x:FV)(hn:NC w l)(h:x.In w):¬ x.Blk l:=fun hb=>by
 obtain ⟨_,cs,t,fr,e⟩:=h.blk hb
 exact hn _ _ _ e
theorem ROW.fs {e:TypeId}{w:World}{B:Nat}{v:Value}{xs:List FV}(h:ROW EF e w B v xs):FS w v xs:=by
 obtain ⟨A,c,h1,h2,h3,h4⟩:=h.cells
 exact ⟨A,c,h1,h2,h3,fun i hi=>⟨(h4 i hi).1,(h4 i hi).2⟩⟩
theorem finfo:(Tryz.prog.info? 41).map (fun i=>(i.zero,i.size,i.bytes))=some (some (.agg #[.int .i64 0,.int .i64 0,.int .i64 0,.int .i64 0,.slice none 0 0,.slice none 0 0,.string ⟨#[]⟩,.slice none 0 0,.string ⟨#[]⟩,.int .i64 0,.int .i64 0,.int .u32 0]),12,160):=by kernel_rfl
theorem fact_zn:∀ x∈(Value.agg #[.int .i64 0,.int .i64 0,.int .i64 0,.int .i64 0,.slice none 0 0,.slice none 0 0,.string ⟨#[]⟩,.slice none 0 0,.string ⟨#[]⟩,.int .i64 0,.int .i64 0,.int .u32 0]).cells.toList,∀ n,x≠.int .u8 n:=by
 intro x hx n e
 subst e
 simp [Value.cells] at hx
def factZ:Value:=.agg #[.int .i64 0,.int .i64 0,.int .i64 0,.int .i64 0,.slice none 0 0,.slice none 0 0,.string ⟨#[]⟩,.slice none 0 0,.string ⟨#[]⟩,.int .i64 0,.int .i64 0,.int .u32 0]
theorem fact_zs:factZ.cells.size=EF.k:=rfl
theorem fact_zn':∀ x∈factZ.cells.toList,∀ n,x≠.int .u8 n:=fact_zn
theorem fact_info:∃ i:TypeInfo,Tryz.prog.info? 41=some i∧i.zero=some factZ∧i.size=EF.k∧i.bytes=160:=by
 obtain ⟨i0,hi,hz0,hz1,hz2⟩:=info_parts finfo
 exact ⟨i0,hi,hz0,hz1,hz2⟩
theorem add0 (g:Nat)(j:Nat):(⟨g,0,none⟩:Addr).add j=⟨g,j,none⟩:=by unfold Addr.add;split<;>simp_all
theorem FBx.news {w:World}{g:Nat}{f:FV}(h:FBx w g f):∀ j u,(EF.all [f])[j]? = some u→w.cell? ((⟨g,0,none⟩:Addr).add j)=some u:=fun j u hu=>by
 rw [Ek.all_one] at hu
 rw [add0,cell_of_row _ _ j _ _ (0,0) h]
 rw [← hu]
 show _=(FV.cs f)[j]?
 unfold FV.cs
 rw [← List.getElem?_toArray]
end Go.Proofs.YtnjmndofcpnmeaaGreatDoor
