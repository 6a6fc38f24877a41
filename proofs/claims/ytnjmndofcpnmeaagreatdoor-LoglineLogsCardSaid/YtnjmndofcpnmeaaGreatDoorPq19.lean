/- Pq19. -/
import Derived.Test.YtnjmndofcpnmeaaGreatDoorPq0
import Derived.Test.YtnjmndofcpnmeaaGreatDoorPq18
import Derived.Test.YtnjmndofcpnmeaaGreatDoorPq5
import Derived.Test.YtnjmndofcpnmeaaGreatDoorPq8
import Derived.Test.YtnjmndofcpnmeaaGreatDoorPq13
namespace Go.Proofs.YtnjmndofcpnmeaaGreatDoor
open Go Go.RowKit
set_option linter.unusedVariables false
def fv0:FV:=⟨0,0,0,0,none,[],0,none,[],0,⟨#[]⟩,none,[],0,⟨#[]⟩,0,0,0#32⟩
structure PSt (w W:World) (k:Nat) (f:FV):Prop where
 ex:Ext w W
 r:FBx W w.heap.size fv0
 fb:FBx W (w.heap.size+1) f
 eb:EBx W (w.heap.size+1+1)
 mem:f.In W
 sz:f.Sz
 nc:∀ ad,f.CA=some ad→w.heap.size+3≤ad.block
 ns:∀ ad,f.SA=some ad→w.heap.size+3≤ad.block
 zc:k≤2→f.cp=[]∧f.cr=⟨#[]⟩
 zs:k≤3→f.sp=[]∧f.sr=⟨#[]⟩
theorem PSt.lt {w W:World}{k:Nat}{f:FV}(h:PSt w W k f):w.heap.size+3≤W.heap.size:=by obtain ⟨x,h⟩:=h.eb;exact (Array.getElem?_eq_some_iff.1 h).1
structure Agr (k:Nat) (F:Fct) (f:FV):Prop where
 a0:0<k→f.t=F.t∧f.mi=F.mi
 a1:1<k→f.kd=F.kd
 a2:2<k→dat f.cp=F.cp∧f.cr.data.toList=F.cr
 a3:3<k→dat f.sp=F.sp∧f.sr.data.toList=F.sr
 a4:4<k→f.fk=F.fk∧f.fb=F.fb
 a5:5<k→f.co=F.co
 a6:6<k→f.pr=F.pr
 a7:7<k→f.fl=F.fl
theorem Agr.zero (F:Fct)(f:FV):Agr 0 F f:=by constructor<;>intro h<;>omega
theorem Agr.eight {F:Fct}{f:FV}(h:Agr 8 F f):f.fct=F:=by
 cases F
 obtain ⟨h0,h1,h2,h3,h4,h5,h6,h7⟩:=h
 have k0:=h0 (by omega);have k1:=h1 (by omega);have k2:=h2 (by omega);have k3:=h3 (by omega);have k4:=h4 (by omega);have k5:=h5 (by omega);have k6:=h6 (by omega);have k7:=h7 (by omega)
 simp only at k0 k1 k2 k3 k4 k5 k6 k7
 unfold FV.fct
 rw [k0.1,k0.2,k1,k2.1,k2.2,k3.1,k3.2,k4.1,k4.2,k5,k6,k7]
theorem In_trn {w W W':World}{k:Nat}{f:FV}(h:PSt w W k f)(ht:Trn (w.heap.size+1) (w.heap.size+1+1) W W'):f.In W':=by
 obtain ⟨W1,a,b⟩:=ht
 obtain ⟨x,he⟩:=h.eb
 have he1:RW W1 (w.heap.size+1+1) _ _:=heap_far a he (by omega)
 have hn1:=fbx_noU8 h.fb
 have hn2:NoU8 W1 (w.heap.size+1+1):=NoU8.of he1 fun x hx n e=>by subst e;simp at hx
 exact ⟨(h.mem.fb.but hn1 a).but hn2 b,(h.mem.cp.far (fun ad ha=>by have:=h.nc ad ha;omega) a).far (fun ad ha=>by have:=h.nc ad ha;omega) b,(h.mem.sp.far (fun ad ha=>by have:=h.ns ad ha;omega) a).far (fun ad ha=>by have:=h.ns ad ha;omega) b⟩
theorem Eb_trn {w W W':World}{k:Nat}{f:FV}(h:PSt w W k f)(hg:W.grownBy W' (some (w.heap.size+1))):EBx W' (w.heap.size+1+1):=by
 obtain ⟨x,he⟩:=h.eb
 exact ⟨x,heap_far hg he (by omega)⟩
theorem R_trn {w W W':World}{k:Nat}{f:FV}(h:PSt w W k f)(ht:Trn (w.heap.size+1) (w.heap.size+1+1) W W'):FBx W' w.heap.size fv0:=ht.heap h.r (by omega) (by omega)
theorem X_trn {w W W':World}{k:Nat}{f:FV}(h:PSt w W k f)(ht:Trn (w.heap.size+1) (w.heap.size+1+1) W W'):Ext w W':=ht.ext h.ex (by omega) (by omega)
def fnK (k:Nat):Nat:=match k with | 0=>39 | 1=>42 | 2=>44 | 3=>46 | 4=>47 | 5=>49 | 6=>50 | _=>51
def capK (n k:Nat):Array Value:=if k=4∨k=7 then #[.pointer (some ⟨n+1,0,none⟩),.pointer (some ⟨n+1+1,0,none⟩)] else #[.pointer (some ⟨n+1,0,none⟩)]
def StepP (w W:World)(k:Nat)(s:List UInt8)(f:FV)(e:Ending)(W':World):Prop:=∃ b,e=.returned (.bool b)∧Trn (w.heap.size+1) (w.heap.size+1+1) W W' ∧
 ((b=true∧∃ f',PSt w W' (k+1) f'∧∀ F:Fct,F.Ok→F.wrd[k]? = some s→Agr k F f→Agr (k+1) F f')∨(b=false∧∀ F:Fct,F.Ok→F.wrd[k]?≠some s))
theorem word_eq {F:Fct}{k:Nat}{x s:List UInt8}(h:F.wrd[k]? = some s)(hx:F.wrd[k]? = some x):x=s:=by rw [hx] at h;injection h
theorem step0 (s:ByteArray) (hs:s.size≤3000) (w W:World) (f:FV) (hP:PSt w W 0 f) (hE:EnvA w):
  Calls Tryz.prog 39 (#[.string s,.pointer (some ⟨w.heap.size+1,0,none⟩)]) W (StepP w W 0 s.data.toList f):=by
 have hW:=hE.ext hP.ex
 have hEx:∀ W',W.grownBy W' (some (w.heap.size+1))→Env W':=fun W' hg=>(hE.env).ext (X_trn hP (Trn.one hg))
 refine (C1_at s hs (w.heap.size+1) f W hW.env hP.fb hEx).mono ?_
 rintro e W' ⟨t,mi,b,rfl,hg,hr,hq⟩
 have ht:Trn (w.heap.size+1) (w.heap.size+1+1) W W':=Trn.one hg
 have hv:∀ F:Fct,F.Ok→F.wrd[0]? = some s.data.toList→t=F.t∧mi=F.mi∧b=true:=fun F hF hw=>hq F.t F.mi hF.t hF.mi (word_eq hw rfl)
 refine ⟨b,rfl,ht,?_⟩
 cases b with
 | true=>exact .inl ⟨rfl,_,⟨X_trn hP ht,R_trn hP ht,hr,Eb_trn hP hg,⟨(In_trn hP ht).fb,(In_trn hP ht).cp,(In_trn hP ht).sp⟩,⟨hP.sz.fb,hP.sz.cp,hP.sz.cps,hP.sz.cr,hP.sz.sp,hP.sz.sps,hP.sz.sr⟩,hP.nc,hP.ns,fun h=>hP.zc (by omega),fun h=>hP.zs (by omega)⟩,fun F hF hw ha=>⟨fun _=>⟨(hv F hF hw).1,(hv F hF hw).2.1⟩,fun h=>absurd h (by omega),fun h=>absurd h (by omega),fun h=>absurd h (by omega),fun h=>absurd h (by omega),fun h=>absurd h (by omega),fun h=>absurd h (by omega),fun h=>absurd h (by omega)⟩⟩
 | false=>exact .inr ⟨rfl,fun F hF hw=>absurd (hv F hF hw).2.2 (by decide)⟩
theorem step1 (s:ByteArray) (hs:s.size≤3000) (w W:World) (f:FV) (hP:PSt w W 1 f) (hE:EnvA w):
  Calls Tryz.prog 42 (#[.string s,.pointer (some ⟨w.heap.size+1,0,none⟩)]) W (StepP w W 1 s.data.toList f):=by
 have hW:=hE.ext hP.ex
 refine (C2_at s (w.heap.size+1) f W hP.fb).mono ?_
 rintro e W' ⟨k,b,rfl,hg,hr,hq⟩
 have ht:Trn (w.heap.size+1) (w.heap.size+1+1) W W':=Trn.one hg
 have hv:∀ F:Fct,F.Ok→F.wrd[1]? = some s.data.toList→k=F.kd∧b=true:=fun F hF hw=>hq F.kd hF.kd (word_eq hw rfl)
 refine ⟨b,rfl,ht,?_⟩
 cases b with
 | true=>exact .inl ⟨rfl,_,⟨X_trn hP ht,R_trn hP ht,hr,Eb_trn hP hg,⟨(In_trn hP ht).fb,(In_trn hP ht).cp,(In_trn hP ht).sp⟩,⟨hP.sz.fb,hP.sz.cp,hP.sz.cps,hP.sz.cr,hP.sz.sp,hP.sz.sps,hP.sz.sr⟩,hP.nc,hP.ns,fun h=>hP.zc (by omega),fun h=>hP.zs (by omega)⟩,fun F hF hw ha=>⟨fun _=>ha.a0 (by omega),fun _=>(hv F hF hw).1,fun h=>absurd h (by omega),fun h=>absurd h (by omega),fun h=>absurd h (by omega),fun h=>absurd h (by omega),fun h=>absurd h (by omega),fun h=>absurd h (by omega)⟩⟩
 | false=>exact .inr ⟨rfl,fun F hF hw=>absurd (hv F hF hw).2 (by decide)⟩
theorem step2 (s:ByteArray) (hs:s.size≤3000) (w W:World) (f:FV) (hP:PSt w W 2 f) (hE:EnvA w):
  Calls Tryz.prog 44 (#[.string s,.pointer (some ⟨w.heap.size+1,0,none⟩)]) W (StepP w W 2 s.data.toList f):=by
 have hW:=hE.ext hP.ex
 refine (C3_at s hs (w.heap.size+1) f W hP.fb).mono ?_
 rintro e W' (⟨h1,rfl,rfl⟩ | ⟨A,c,ps,r,h1,h2,rfl,hg,hr,h5,h6,h7,h8,h9⟩ | ⟨h1,rfl,hg⟩)
 ·have ht:Trn (w.heap.size+1) (w.heap.size+1+1) W' W':=Trn.one (grown_refl _ _)
  refine ⟨true,rfl,ht,.inl ⟨rfl,f,⟨X_trn hP ht,R_trn hP ht,hP.fb,hP.eb,hP.mem,⟨hP.sz.fb,hP.sz.cp,hP.sz.cps,hP.sz.cr,hP.sz.sp,hP.sz.sps,hP.sz.sr⟩,hP.nc,hP.ns,fun h=>absurd h (by omega),fun h=>hP.zs (by omega)⟩,fun F hF hw ha=>?_⟩⟩
  have e0:prsW F.cp F.cr=prsW [] []:=by rw [word_eq hw rfl,h1];rfl
  obtain ⟨e1,e2⟩:=prsW_inj hF.cl (by decide) e0
  obtain ⟨z1,z2⟩:=hP.zc (by omega)
  have hh:dat f.cp=F.cp∧f.cr.data.toList=F.cr:=by rw [z1,z2,e1,e2];exact ⟨rfl,rfl⟩
  exact ⟨fun _=>ha.a0 (by omega),fun _=>ha.a1 (by omega),fun _=>hh,fun h=>absurd h (by omega),fun h=>absurd h (by omega),fun h=>absurd h (by omega),fun h=>absurd h (by omega),fun h=>absurd h (by omega)⟩
 ·have ht:Trn (w.heap.size+1) (w.heap.size+1+1) W W':=Trn.one hg
  refine ⟨true,rfl,ht,.inl ⟨rfl,_,⟨X_trn hP ht,R_trn hP ht,hr,Eb_trn hP hg,⟨(In_trn hP ht).fb,h5,(In_trn hP ht).sp⟩,⟨hP.sz.fb,h9,h7,h8,hP.sz.sp,hP.sz.sps,hP.sz.sr⟩,fun ad ha=>Nat.le_trans hP.lt (h6 ad ha),hP.ns,fun h=>absurd h (by omega),fun h=>hP.zs (by omega)⟩,fun F hF hw ha=>?_⟩⟩
  obtain ⟨e1,e2⟩:=prsW_inj hF.cl h1 ((word_eq hw rfl).trans h2.symm)
  exact ⟨fun _=>ha.a0 (by omega),fun _=>ha.a1 (by omega),fun _=>⟨e1.symm,e2.symm⟩,fun h=>absurd h (by omega),fun h=>absurd h (by omega),fun h=>absurd h (by omega),fun h=>absurd h (by omega),fun h=>absurd h (by omega)⟩
 ·have ht:Trn (w.heap.size+1) (w.heap.size+1+1) W W':=Trn.one hg
  exact ⟨false,rfl,ht,.inr ⟨rfl,fun F hF hw=>h1 F.cp F.cr hF.cl (word_eq hw rfl)⟩⟩
theorem step3 (s:ByteArray) (hs:s.size≤3000) (w W:World) (f:FV) (hP:PSt w W 3 f) (hE:EnvA w):
  Calls Tryz.prog 46 (#[.string s,.pointer (some ⟨w.heap.size+1,0,none⟩)]) W (StepP w W 3 s.data.toList f):=by
 have hW:=hE.ext hP.ex
 refine (C4_at s hs (w.heap.size+1) f W hP.fb).mono ?_
 rintro e W' (⟨h1,rfl,rfl⟩ | ⟨A,c,ps,r,h1,h2,rfl,hg,hr,h5,h6,h7,h8,h9⟩ | ⟨h1,rfl,hg⟩)
 ·have ht:Trn (w.heap.size+1) (w.heap.size+1+1) W' W':=Trn.one (grown_refl _ _)
  refine ⟨true,rfl,ht,.inl ⟨rfl,f,⟨X_trn hP ht,R_trn hP ht,hP.fb,hP.eb,hP.mem,⟨hP.sz.fb,hP.sz.cp,hP.sz.cps,hP.sz.cr,hP.sz.sp,hP.sz.sps,hP.sz.sr⟩,hP.nc,hP.ns,fun h=>absurd h (by omega),fun h=>absurd h (by omega)⟩,fun F hF hw ha=>?_⟩⟩
  have e0:prsW F.sp F.sr=prsW [] []:=by rw [word_eq hw rfl,h1];rfl
  obtain ⟨e1,e2⟩:=prsW_inj hF.sv (by decide) e0
  obtain ⟨z1,z2⟩:=hP.zs (by omega)
  have hh:dat f.sp=F.sp∧f.sr.data.toList=F.sr:=by rw [z1,z2,e1,e2];exact ⟨rfl,rfl⟩
  exact ⟨fun _=>ha.a0 (by omega),fun _=>ha.a1 (by omega),fun _=>ha.a2 (by omega),fun _=>hh,fun h=>absurd h (by omega),fun h=>absurd h (by omega),fun h=>absurd h (by omega),fun h=>absurd h (by omega)⟩
 ·have ht:Trn (w.heap.size+1) (w.heap.size+1+1) W W':=Trn.one hg
  refine ⟨true,rfl,ht,.inl ⟨rfl,_,⟨X_trn hP ht,R_trn hP ht,hr,Eb_trn hP hg,⟨(In_trn hP ht).fb,(In_trn hP ht).cp,h5⟩,⟨hP.sz.fb,hP.sz.cp,hP.sz.cps,hP.sz.cr,h9,h7,h8⟩,hP.nc,fun ad ha=>Nat.le_trans hP.lt (h6 ad ha),fun h=>absurd h (by omega),fun h=>absurd h (by omega)⟩,fun F hF hw ha=>?_⟩⟩
  obtain ⟨e1,e2⟩:=prsW_inj hF.sv h1 ((word_eq hw rfl).trans h2.symm)
  exact ⟨fun _=>ha.a0 (by omega),fun _=>ha.a1 (by omega),fun _=>ha.a2 (by omega),fun _=>⟨e1.symm,e2.symm⟩,fun h=>absurd h (by omega),fun h=>absurd h (by omega),fun h=>absurd h (by omega),fun h=>absurd h (by omega)⟩
 ·have ht:Trn (w.heap.size+1) (w.heap.size+1+1) W W':=Trn.one hg
  exact ⟨false,rfl,ht,.inr ⟨rfl,fun F hF hw=>h1 F.sp F.sr hF.sv (word_eq hw rfl)⟩⟩
theorem step4 (s:ByteArray) (hs:s.size≤3000) (w W:World) (f:FV) (hP:PSt w W 4 f) (hE:EnvA w):
  Calls Tryz.prog 47 (#[.string s,.pointer (some ⟨w.heap.size+1,0,none⟩),.pointer (some ⟨w.heap.size+1+1,0,none⟩)]) W (StepP w W 4 s.data.toList f):=by
 have hW:=hE.ext hP.ex
 refine (C5_at s hs (w.heap.size+1) (w.heap.size+1+1) (by omega) f W hW hP.fb hP.eb).mono ?_
 rintro e W' (⟨k,b,A,c,h1,h2,rfl,ht,heb,hr,h5⟩ | ⟨h1,rfl,ht⟩)
 ·have hb:b.length≤1000:=by rcases okA_kinds h1 with ⟨_,h⟩ | ⟨_,h⟩ | ⟨_,h,_⟩<;>omega
  refine ⟨true,rfl,ht,.inl ⟨rfl,_,⟨X_trn hP ht,R_trn hP ht,hr,heb,⟨h5,(In_trn hP ht).cp,(In_trn hP ht).sp⟩,⟨hb,hP.sz.cp,hP.sz.cps,hP.sz.cr,hP.sz.sp,hP.sz.sps,hP.sz.sr⟩,hP.nc,hP.ns,fun h=>absurd h (by omega),fun h=>absurd h (by omega)⟩,fun F hF hw ha=>?_⟩⟩
  obtain ⟨e1,e2⟩:=txtA_inj hF.fr h1 ((word_eq hw rfl).trans h2.symm)
  exact ⟨fun _=>ha.a0 (by omega),fun _=>ha.a1 (by omega),fun _=>ha.a2 (by omega),fun _=>ha.a3 (by omega),fun _=>⟨e1.symm,e2.symm⟩,fun h=>absurd h (by omega),fun h=>absurd h (by omega),fun h=>absurd h (by omega)⟩
 ·exact ⟨false,rfl,ht,.inr ⟨rfl,fun F hF hw=>h1 F.fk F.fb hF.fr (word_eq hw rfl)⟩⟩
theorem step5 (s:ByteArray) (hs:s.size≤3000) (w W:World) (f:FV) (hP:PSt w W 5 f) (hE:EnvA w):
  Calls Tryz.prog 49 (#[.string s,.pointer (some ⟨w.heap.size+1,0,none⟩)]) W (StepP w W 5 s.data.toList f):=by
 have hW:=hE.ext hP.ex
 refine (C6_at s hs (w.heap.size+1) f W hW.env hP.fb).mono ?_
 rintro e W' ⟨v,b,rfl,hg,hr,hq⟩
 have ht:Trn (w.heap.size+1) (w.heap.size+1+1) W W':=Trn.one hg
 have hv:∀ F:Fct,F.Ok→F.wrd[5]? = some s.data.toList→v=F.co∧b=true:=fun F hF hw=>hq F.co ⟨hF.co.1,by have:=hF.co.2;omega⟩ (word_eq hw rfl)
 refine ⟨b,rfl,ht,?_⟩
 cases b with
 | true=>exact .inl ⟨rfl,_,⟨X_trn hP ht,R_trn hP ht,hr,Eb_trn hP hg,⟨(In_trn hP ht).fb,(In_trn hP ht).cp,(In_trn hP ht).sp⟩,⟨hP.sz.fb,hP.sz.cp,hP.sz.cps,hP.sz.cr,hP.sz.sp,hP.sz.sps,hP.sz.sr⟩,hP.nc,hP.ns,fun h=>absurd h (by omega),fun h=>absurd h (by omega)⟩,fun F hF hw ha=>⟨fun _=>ha.a0 (by omega),fun _=>ha.a1 (by omega),fun _=>ha.a2 (by omega),fun _=>ha.a3 (by omega),fun _=>ha.a4 (by omega),fun _=>(hv F hF hw).1,fun h=>absurd h (by omega),fun h=>absurd h (by omega)⟩⟩
 | false=>exact .inr ⟨rfl,fun F hF hw=>absurd (hv F hF hw).2 (by decide)⟩
theorem step6 (s:ByteArray) (hs:s.size≤3000) (w W:World) (f:FV) (hP:PSt w W 6 f) (hE:EnvA w):
  Calls Tryz.prog 50 (#[.string s,.pointer (some ⟨w.heap.size+1,0,none⟩)]) W (StepP w W 6 s.data.toList f):=by
 have hW:=hE.ext hP.ex
 refine (C7_at s hs (w.heap.size+1) f W hW.env hP.fb).mono ?_
 rintro e W' ⟨v,b,rfl,hg,hr,hq⟩
 have ht:Trn (w.heap.size+1) (w.heap.size+1+1) W W':=Trn.one hg
 have hv:∀ F:Fct,F.Ok→F.wrd[6]? = some s.data.toList→v=F.pr∧b=true:=fun F hF hw=>hq F.pr ⟨hF.pr.1,by have:=hF.pr.2;omega⟩ (word_eq hw rfl)
 refine ⟨b,rfl,ht,?_⟩
 cases b with
 | true=>exact .inl ⟨rfl,_,⟨X_trn hP ht,R_trn hP ht,hr,Eb_trn hP hg,⟨(In_trn hP ht).fb,(In_trn hP ht).cp,(In_trn hP ht).sp⟩,⟨hP.sz.fb,hP.sz.cp,hP.sz.cps,hP.sz.cr,hP.sz.sp,hP.sz.sps,hP.sz.sr⟩,hP.nc,hP.ns,fun h=>absurd h (by omega),fun h=>absurd h (by omega)⟩,fun F hF hw ha=>⟨fun _=>ha.a0 (by omega),fun _=>ha.a1 (by omega),fun _=>ha.a2 (by omega),fun _=>ha.a3 (by omega),fun _=>ha.a4 (by omega),fun _=>ha.a5 (by omega),fun _=>(hv F hF hw).1,fun h=>absurd h (by omega)⟩⟩
 | false=>exact .inr ⟨rfl,fun F hF hw=>absurd (hv F hF hw).2 (by decide)⟩
theorem step7 (s:ByteArray) (hs:s.size≤3000) (w W:World) (f:FV) (hP:PSt w W 7 f) (hE:EnvA w):
  Calls Tryz.prog 51 (#[.string s,.pointer (some ⟨w.heap.size+1,0,none⟩),.pointer (some ⟨w.heap.size+1+1,0,none⟩)]) W (StepP w W 7 s.data.toList f):=by
 have hW:=hE.ext hP.ex
 refine (C8_at s hs (w.heap.size+1) (w.heap.size+1+1) (by omega) f W hP.fb hP.eb).mono ?_
 rintro e W' (⟨x,h1,h2,rfl,ht,heb,hr⟩ | ⟨h1,rfl,ht⟩)
 ·refine ⟨true,rfl,ht,.inl ⟨rfl,_,⟨X_trn hP ht,R_trn hP ht,hr,heb,⟨(In_trn hP ht).fb,(In_trn hP ht).cp,(In_trn hP ht).sp⟩,⟨hP.sz.fb,hP.sz.cp,hP.sz.cps,hP.sz.cr,hP.sz.sp,hP.sz.sps,hP.sz.sr⟩,hP.nc,hP.ns,fun h=>absurd h (by omega),fun h=>absurd h (by omega)⟩,fun F hF hw ha=>?_⟩⟩
  have e1:=textF_inj (tk_nm hF.fl) h1 ((word_eq hw rfl).trans h2.symm)
  exact ⟨fun _=>ha.a0 (by omega),fun _=>ha.a1 (by omega),fun _=>ha.a2 (by omega),fun _=>ha.a3 (by omega),fun _=>ha.a4 (by omega),fun _=>ha.a5 (by omega),fun _=>ha.a6 (by omega),fun _=>e1.symm⟩
 ·exact ⟨false,rfl,ht,.inr ⟨rfl,fun F hF hw=>h1 F.fl (tk_nm hF.fl) (word_eq hw rfl)⟩⟩
theorem cl_at (k:Nat) (hk:k<8) (s:ByteArray) (hs:s.size≤3000) (w W:World) (f:FV) (hP:PSt w W k f) (hE:EnvA w):
  Calls Tryz.prog (fnK k) (#[.string s]++capK w.heap.size k) W (StepP w W k s.data.toList f):=by
 rcases (show k=0∨k=1∨k=2∨k=3∨k=4∨k=5∨k=6∨k=7 by omega) with rfl | rfl | rfl | rfl | rfl | rfl | rfl | rfl
 ·exact step0 s hs w W f hP hE
 ·exact step1 s hs w W f hP hE
 ·exact step2 s hs w W f hP hE
 ·exact step3 s hs w W f hP hE
 ·exact step4 s hs w W f hP hE
 ·exact step5 s hs w W f hP hE
 ·exact step6 s hs w W f hP hE
 ·exact step7 s hs w W f hP hE
theorem fnK_enters (k:Nat)(hk:k<8)(args:Array Value)(W:World):(callFunc (fnK k) args).run Tryz.prog W=.ok (.enter (fnK k) args) W:=by
 rcases (show k=0∨k=1∨k=2∨k=3∨k=4∨k=5∨k=6∨k=7 by omega) with rfl | rfl | rfl | rfl | rfl | rfl | rfl | rfl
 ·exact Go.Proofs.enters_of Tryz.func39 (by kernel_rfl) rfl args W
 ·exact Go.Proofs.enters_of Tryz.func42 (by kernel_rfl) rfl args W
 ·exact Go.Proofs.enters_of Tryz.func44 (by kernel_rfl) rfl args W
 ·exact Go.Proofs.enters_of Tryz.func46 (by kernel_rfl) rfl args W
 ·exact Go.Proofs.enters_of Tryz.func47 (by kernel_rfl) rfl args W
 ·exact Go.Proofs.enters_of Tryz.func49 (by kernel_rfl) rfl args W
 ·exact Go.Proofs.enters_of Tryz.func50 (by kernel_rfl) rfl args W
 ·exact Go.Proofs.enters_of Tryz.func51 (by kernel_rfl) rfl args W
end Go.Proofs.YtnjmndofcpnmeaaGreatDoor
namespace Go.Proofs.YtnjmndofcpnmeaaGreatDoor
open Go Go.Lib
set_option linter.unusedVariables false
theorem kindW_len (k:Int):(kindW k).length≤7:=by
 unfold kindW
 split
 ·decide
 ·split<;>decide
theorem itoa_len13 {x:Int}(h0:0≤x)(h1:x≤1099511627776):(itoa x).length≤13:=by
 rw [itoa_nn h0]
 exact decD_len x.toNat 12 (by omega)
theorem itoa_len6 {x:Int}(h0:0≤x)(h1:x≤999999):(itoa x).length≤6:=by
 rw [itoa_nn h0]
 exact decD_len x.toNat 5 (by omega)
theorem timW_len {t m:Int}(h:0≤t∧t≤1099511627776)(k:0≤m∧m≤999999):(timW t m).length≤20:=by
 have h1:=itoa_len13 h.1 h.2
 have h2:=itoa_len6 k.1 k.2
 unfold timW
 rw [List.length_append,List.length_cons,List.length_append,List.length_replicate]
 omega
theorem prsW_len {p:List (List UInt8)}{r:List UInt8}(h:prsB p r=true):(prsW p r).length≤293:=by
 unfold prsW
 split
 ·decide
 ·next hn=>
  unfold prsB at h
  rw [Bool.or_eq_true] at h
  obtain ⟨h1,h2,h3,h4⟩:=nameB_parts (h.resolve_left hn)
  have h5:=partsT_len p h1
  have h6:=realmB_len h4
  unfold textN
  rw [List.length_append,List.length_cons]
  omega
theorem txtA_len {k:Int}{b:List UInt8}(h:okA k b=true):(txtA k b).length≤41:=by
 rcases okA_kinds h with ⟨rfl,hl⟩ | ⟨rfl,hl⟩ | ⟨rfl,hl,hv⟩
 ·obtain ⟨x,y,z,t,rfl⟩:=list4 hl
  show (txt4 [x,y,z,t]).length≤41
  rw [txt4_eq]
  have d:∀ c:UInt8,(decDigits c.toNat).length≤3:=fun c=>decD_len _ 2 (by have:=c.toNat_lt;omega)
  have:=d x;have:=d y;have:=d z;have:=d t
  simp only [List.length_append,List.length_cons]
  omega
 ·exact (txt6_len hl).2
 ·show (txtH b).length≤41
  unfold txtH
  rw [List.length_append]
  have:([104,111,115,116,47]:List UInt8).length=5:=rfl
  omega
theorem textF_len (f:W32):(textF f).length≤416:=by
 unfold textF
 split
 ·decide
 ·unfold joinF
  refine Nat.le_trans (join_len _ fun l hl=>?_) ?_
  ·obtain ⟨b,hb,rfl⟩:=List.mem_map.1 hl
   unfold nmL at hb
   obtain ⟨k,hk,rfl⟩:=List.mem_map.1 hb
   have:=nmS_len k
   rwa [Array.length_toList]
  ·have h2:=bitsF_len f
   unfold nmL
   simp only [List.length_map]
   omega
theorem join_lens:∀ (ws:List (List UInt8)) (x:UInt8),(join ws [x]).length≤(ws.map fun w=>w.length+1).sum
 | [],x=>by rw [join_nil];exact Nat.zero_le _
 | [y],x=>by rw [join_one];simp
 | y::z::r,x=>by
  have h:=join_lens (z::r) x
  rw [join_cons]
  rw [join_cons] at h
  unfold joinTail at h ⊢
  rw [List.map_cons,List.flatten_cons,List.length_append,List.length_append,List.length_append]
  rw [List.length_append] at h
  rw [List.map_cons,List.sum_cons]
  simp only [List.length_singleton]
  omega
theorem txt_len {f:Fct}(h:f.Ok):f.txt.length≤1200:=by
 have h0:=join_lens f.wrd 32
 have h1:=timW_len h.t h.mi
 have h2:=kindW_len f.kd
 have h3:=prsW_len h.cl
 have h4:=prsW_len h.sv
 have h5:=txtA_len h.fr
 have h6:=itoa_len13 h.co.1 (by have:=h.co.2;omega)
 have h7:=itoa_len13 h.pr.1 (by have:=h.pr.2;omega)
 have h8:=textF_len f.fl
 unfold Fct.txt
 refine Nat.le_trans h0 ?_
 unfold Fct.wrd
 simp only [List.map_cons,List.map_nil,List.sum_cons,List.sum_nil]
 omega
end Go.Proofs.YtnjmndofcpnmeaaGreatDoor
namespace Go.Proofs.YtnjmndofcpnmeaaGreatDoor
open Go Go.RowKit
set_option linter.unusedVariables false
set_option maxRecDepth 100000 in
theorem LText_no (f:FV) (w:World) (hM:f.In w) (hz:f.Sz) (hE:EnvA w) (hv:f.fct.ok=false):
  Calls Tryz.prog 15 #[f.val] w fun e w'=>e=.returned (.tuple #[.string ⟨#[]⟩,.int .i64 2])∧Ext w w':=by
 obtain ⟨t,mi,kd,fk,FA,fb,fc,CA,cp,cc,cr,SA,sp,sc,sr,co,pr,fl⟩:=f
 have hb0:=FBx.new w ⟨t,mi,kd,fk,FA,fb,fc,CA,cp,cc,cr,SA,sp,sc,sr,co,pr,fl⟩
 have hx0:=(Ext.refl w).alloc (.cells #[.int .i64 t,.int .i64 mi,.int .i64 kd,.int .i64 fk,.slice FA fb.length fc,.slice CA cp.length cc,.string cr,.slice SA sp.length sc,.string sr,.int .i64 co,.int .i64 pr,.int .u32 (fl.toNat:Int)] 41)
 obtain ⟨W1,e1⟩:∃ W,w.alloc (.cells #[.int .i64 t,.int .i64 mi,.int .i64 kd,.int .i64 fk,.slice FA fb.length fc,.slice CA cp.length cc,.string cr,.slice SA sp.length sc,.string sr,.int .i64 co,.int .i64 pr,.int .u32 (fl.toNat:Int)] 41)=W:=⟨_,rfl⟩
 rw [e1] at hx0
 have hv0:=LValid_at ⟨t,mi,kd,fk,FA,fb,fc,CA,cp,cc,cr,SA,sp,sc,sr,co,pr,fl⟩ W1 (hM.ext hx0) hz (hE.ext hx0)
 rw [hv] at hv0
 dsimp only [FV.val] at hb0 hv0
 rw [e1] at hb0
 have HV:=Lib.hid hv0;have HB:=Lib.hid hb0;have HX:=Lib.hid hx0
 dsimp only [FV.val]
 clear hb0 hv0 hM hz hE hv hx0
 obtain ⟨u0,u1,u2,u3,u4,u5,u6,u7,u8,u9,u10,u11⟩:=HB.out.cells
 go_enter Tryz.func15,Tryz.ntmps15
 go_wp2_with fail
 refine HV.out.mono ?_
 rintro _ w2 ⟨rfl,hx2⟩
 have HX2:=Lib.hid (HX.out.trans hx2)
 clear hx2
 go_wp2_with fail
 go_ret2
 exact ⟨rfl,HX2.out⟩
set_option maxRecDepth 100000 in
set_option maxHeartbeats 4000000 in
theorem LText_yes (f:FV) (w:World) (hM:f.In w) (hz:f.Sz) (hE:EnvA w) (hv:f.fct.ok=true):
  Calls Tryz.prog 15 #[f.val] w fun e w'=>e=.returned (.tuple #[.string ⟨f.fct.txt.toArray⟩,.int .i64 0])∧Ext w w':=by
 have hok:=(Fct.ok_iff _).1 hv
 have htl:=txt_len hok
 obtain ⟨t,mi,kd,fk,FA,fb,fc,CA,cp,cc,cr,SA,sp,sc,sr,co,pr,fl⟩:=f
 have hb0:=FBx.new w ⟨t,mi,kd,fk,FA,fb,fc,CA,cp,cc,cr,SA,sp,sc,sr,co,pr,fl⟩
 have hx0:=(Ext.refl w).alloc (.cells #[.int .i64 t,.int .i64 mi,.int .i64 kd,.int .i64 fk,.slice FA fb.length fc,.slice CA cp.length cc,.string cr,.slice SA sp.length sc,.string sr,.int .i64 co,.int .i64 pr,.int .u32 (fl.toNat:Int)] 41)
 obtain ⟨W1,e1⟩:∃ W,w.alloc (.cells #[.int .i64 t,.int .i64 mi,.int .i64 kd,.int .i64 fk,.slice FA fb.length fc,.slice CA cp.length cc,.string cr,.slice SA sp.length sc,.string sr,.int .i64 co,.int .i64 pr,.int .u32 (fl.toNat:Int)] 41)=W:=⟨_,rfl⟩
 rw [e1] at hx0
 have hv0:=LValid_at ⟨t,mi,kd,fk,FA,fb,fc,CA,cp,cc,cr,SA,sp,sc,sr,co,pr,fl⟩ W1 (hM.ext hx0) hz (hE.ext hx0)
 rw [hv] at hv0
 dsimp only [FV.val] at hb0 hv0
 rw [e1] at hb0
 have HV:=Lib.hid hv0;have HB:=Lib.hid hb0;have HX:=Lib.hid hx0
 obtain ⟨k1,k2,k3,k4,k5,k6,k7,k8,k9⟩:=hok
 dsimp only [FV.fct] at k1 k2 k3 k4 k5 k6 k7 k8 k9
 obtain ⟨m1,m2,m3⟩:=hM
 obtain ⟨z1,z2,z3,z4,z5,z6,z7⟩:=hz
 dsimp only at m1 m2 m3 z1 z2 z3 z4 z5 z6 z7
 have l1:=itoa_len13 k1.1 k1.2
 have l2:=itoa_len6 k2.1 k2.2
 obtain ⟨K,hK⟩:∃ K,6-(Lib.itoa mi).length=K:=⟨_,rfl⟩
 have htx:(FV.fct ⟨t,mi,kd,fk,FA,fb,fc,CA,cp,cc,cr,SA,sp,sc,sr,co,pr,fl⟩).txt=Lib.join [Lib.itoa t++[46]++List.replicate K 48++Lib.itoa mi,kindW kd,prsW (dat cp) cr.data.toList,prsW (dat sp) sr.data.toList,txtA fk fb,Lib.itoa co,Lib.itoa pr,textF fl] [32]:=by
  unfold Fct.txt Fct.wrd
  dsimp only [FV.fct]
  unfold timW
  rw [hK]
  simp
 rw [htx] at htl ⊢
 have HMI:=Lib.hid (fun W (hx:Ext W1 W)=>ItoaZ_at mi (by omega) (by omega) W (hE.ext (hx0.trans hx)).env.pow)
 have HTI:=Lib.hid (fun W (hx:Ext W1 W)=>ItoaZ_at t (by omega) (by omega) W (hE.ext (hx0.trans hx)).env.pow)
 have HCO:=Lib.hid (fun W (hx:Ext W1 W)=>ItoaZ_at co (by omega) (by omega) W (hE.ext (hx0.trans hx)).env.pow)
 have HPR:=Lib.hid (fun W (hx:Ext W1 W)=>ItoaZ_at pr (by omega) (by omega) W (hE.ext (hx0.trans hx)).env.pow)
 have HAW:=Lib.hid (fun W (hx:Ext W1 W)=>AText_at fk fb FA fc W (m1.ext (hx0.trans hx)) (hE.ext (hx0.trans hx)) true k4)
 have HFW:=Lib.hid (fun W (hx:Ext W1 W)=>Text_ok fl (tk_nm k9) W)
 have HKW:=Lib.hid (fun W (hx:Ext W1 W)=>(textKind_at kd W).mono fun e w' (h:e=.returned (.string ⟨(kindW kd).toArray⟩)∧w'=W)=>(⟨h.1,h.2 ▸ Ext.refl _⟩:e=.returned (.string ⟨(kindW kd).toArray⟩)∧Ext W w'))
 have HCW:=Lib.hid (fun W (hx:Ext W1 W)=>textName_at CA cc cp cr z2 W (m2.ext (hx0.trans hx)) k5)
 have HSW:=Lib.hid (fun W (hx:Ext W1 W)=>textName_at SA sc sp sr z5 W (m3.ext (hx0.trans hx)) k6)
 have HRP:=Lib.hid (fun W (hx:Ext W1 W)=>Repeat0_at K K (by omega) W rfl)
 simp only [if_true] at HAW
 unfold adv at HAW
 generalize Lib.itoa t=TI at *
 generalize Lib.itoa mi=MI at *
 generalize Lib.itoa co=CO at *
 generalize Lib.itoa pr=PR at *
 generalize kindW kd=KW at *
 generalize txtA fk fb=AW at *
 generalize textF fl=FW at *
 generalize prsW (dat cp) cr.data.toList=CW at *
 generalize prsW (dat sp) sr.data.toList=SW at *
 obtain ⟨TW,hTW⟩:∃ L,TI++[46]++List.replicate K 48++MI=L:=⟨_,rfl⟩
 rw [hTW] at htl ⊢
 have HTW:=Lib.hid hTW;clear hTW
 have HLL:=Lib.hid (show TI.length≤13∧MI.length≤6∧K≤6 from ⟨l1,l2,by omega⟩)
 have HMK:=Lib.hid (show MI.length+K=6 by omega)
 have HLEN:=Lib.hid (show (Lib.join [TW,KW,CW,SW,AW,CO,PR,FW] [32]).length≤100000 by omega)
 dsimp only [FV.val]
 clear hb0 hv0 hv hx0 k1 k2 k3 k4 k5 k6 k7 k8 k9 m1 m2 m3 z1 z2 z3 z4 z5 z6 z7 hE l1 l2 hK htx htl
 obtain ⟨u0,u1,u2,u3,u4,u5,u6,u7,u8,u9,u10,u11⟩:=HB.out.cells
 go_enter Tryz.func15,Tryz.ntmps15
 go_wp2_with fail
 refine HV.out.mono ?_
 rintro _ w2 ⟨rfl,hx2⟩
 have HX2:=Lib.hid hx2
 clear hx2 u0 u1 u2 u3 u4 u5 u6 u7 u8 u9 u10 u11
 obtain ⟨u0,u1,u2,u3,u4,u5,u6,u7,u8,u9,u10,u11⟩:=(HB.out.ext HX2.out).cells
 go_wp2_with fail
 refine (HMI.out _ HX2.out).mono ?_
 rintro _ w3 ⟨rfl,hx3⟩
 have HX3:=Lib.hid (HX2.out.trans hx3)
 clear hx3 u0 u1 u2 u3 u4 u5 u6 u7 u8 u9 u10 u11
 obtain ⟨u0,u1,u2,u3,u4,u5,u6,u7,u8,u9,u10,u11⟩:=(HB.out.ext HX3.out).cells
 go_wp2_with fail
 refine (HAW.out _ HX3.out).mono ?_
 rintro _ w4 ⟨rfl,hx4⟩
 have HX4:=Lib.hid (HX3.out.trans hx4)
 clear hx4 u0 u1 u2 u3 u4 u5 u6 u7 u8 u9 u10 u11
 obtain ⟨u0,u1,u2,u3,u4,u5,u6,u7,u8,u9,u10,u11⟩:=(HB.out.ext HX4.out).cells
 go_wp2_with fail
 refine (HFW.out _ HX4.out).mono ?_
 rintro _ wr ⟨rfl,hx5⟩
 have HX5:=Lib.hid (HX4.out.trans hx5)
 clear hx5 u0 u1 u2 u3 u4 u5 u6 u7 u8 u9 u10 u11
 have HB0:=HB
 clear HB
 have HB:=Lib.hid (HB0.out.ext HX5.out)
 clear HB0
 go_upto_region 6 with fail
 refine wp_region_ext (fun i v' w'=>match i with | 2=>v'=.string ⟨(TI).toArray⟩ | 7=>v'=.string ⟨(List.replicate K 48).toArray⟩ | 13=>v'=.string ⟨(KW).toArray⟩ | 16=>v'=.string ⟨(CW).toArray⟩ | 19=>v'=.string ⟨(SW).toArray⟩ | 23=>v'=.string ⟨(CO).toArray⟩ | 26=>v'=.string ⟨(PR).toArray⟩ | 28=>∃ g,v'=.slice (some ⟨g,0,none⟩) 8 8∧w'.heap[g]? = some (.cells #[.string ⟨TW.toArray⟩,.string ⟨KW.toArray⟩,.string ⟨CW.toArray⟩,.string ⟨SW.toArray⟩,.string ⟨AW.toArray⟩,.string ⟨CO.toArray⟩,.string ⟨PR.toArray⟩,.string ⟨FW.toArray⟩] 9 (0,0)) | 29=>v'=.string ⟨(Lib.join [TW,KW,CW,SW,AW,CO,PR,FW] [32]).toArray⟩ | _=>False) (by kernel_rfl) (by kernel_rfl) ?_
 refine wpE_val (.pointer (some ⟨w.heap.size,0,none⟩)) rfl rfl (fun w' hw' K' hK'=>?_) ?_
 ·have hE:=hw'.1
  go_step
  exact hK'
 simp only [Act.put,sT1,sT2,sT3]
 refine wpE_val (.int .i64 t) rfl rfl (fun w' hw' K' hK'=>?_) ?_
 ·have hE:=hw'.1
  obtain ⟨u0,u1,u2,u3,u4,u5,u6,u7,u8,u9,u10,u11⟩:=(HB.out.ext ((Ext.drew wr).trans hE)).cells
  go_step
  exact hK'
 simp only [Act.put,sT1,sT2,sT3]
 refine wpE_symcall 29 rfl (by simp) true (.string ⟨(TI).toArray⟩) (rfl) (fun _ _ h=>h) (fun hc w' hw' K' hK'=>?_) ?_
 ·have hE:=hw'.1
  try simp only [cond_true]
  go_step
  refine (HTI.out w' (HX5.out.trans ((Ext.drew _).trans hE))).mono ?_
  rintro _ w2 ⟨rfl,hx⟩
  exact hK' _ _ rfl hx
 simp only [cond_true,Act.put,sT1,sT2,sT3]
 refine wpE_cat (TI) ([46]) rfl rfl rfl rfl (by have:=HLL.out;simp;omega) ?_
 simp only [Act.put,sT1,sT2,sT3]
 refine wpE_val (.string ⟨(MI).toArray⟩) rfl rfl (fun w' hw' K' hK'=>?_) ?_
 ·have hE:=hw'.1
  go_step
  exact hK'
 simp only [Act.put,sT1,sT2,sT3]
 refine wpE_val (.int .i64 (MI.length:Int)) rfl rfl (fun w' hw' K' hK'=>?_) ?_
 ·have hE:=hw'.1
  go_step
  first | exact hK' | simpa [ByteArray.size] using hK'
 simp only [Act.put,sT1,sT2,sT3]
 refine wpE_val (.int .i64 (K:Int)) rfl rfl (fun w' hw' K' hK'=>?_) ?_
 ·have hE:=hw'.1
  have hmk:=HMK.out
  have e:(6:Int)-(MI.length:Int)=(K:Int):=by omega
  have hl6:(MI.length:Int)≤6:=by omega
  go_step
  first | exact hK' | (rw [e];exact hK') | simpa [e] using hK'
 simp only [Act.put,sT1,sT2,sT3]
 refine wpE_symcall 34 rfl (by simp) true (.string ⟨(List.replicate K 48).toArray⟩) (rfl) (fun _ _ h=>h) (fun hc w' hw' K' hK'=>?_) ?_
 ·have hE:=hw'.1
  try simp only [cond_true]
  go_step
  refine (HRP.out w' (HX5.out.trans ((Ext.drew _).trans hE))).mono ?_
  rintro _ w2 ⟨rfl,hx⟩
  exact hK' _ _ rfl hx
 simp only [cond_true,Act.put,sT1,sT2,sT3]
 refine wpE_cat ((TI++[46])) (List.replicate K 48) rfl rfl rfl rfl (by have:=HLL.out;simp;omega) ?_
 simp only [Act.put,sT1,sT2,sT3]
 refine wpE_val (.string ⟨(MI).toArray⟩) rfl rfl (fun w' hw' K' hK'=>?_) ?_
 ·have hE:=hw'.1
  go_step
  exact hK'
 simp only [Act.put,sT1,sT2,sT3]
 refine wpE_cat (((TI++[46])++List.replicate K 48)) (MI) rfl rfl rfl rfl (by have:=HLL.out;simp;omega) ?_
 simp only [Act.put,sT1,sT2,sT3]
 rw [HTW.out]
 refine wpE_val (.pointer (some ⟨w.heap.size,2,none⟩)) rfl rfl (fun w' hw' K' hK'=>?_) ?_
 ·have hE:=hw'.1
  go_step
  exact hK'
 simp only [Act.put,sT1,sT2,sT3]
 refine wpE_val (.int .i64 kd) rfl rfl (fun w' hw' K' hK'=>?_) ?_
 ·have hE:=hw'.1
  obtain ⟨u0,u1,u2,u3,u4,u5,u6,u7,u8,u9,u10,u11⟩:=(HB.out.ext ((Ext.drew wr).trans hE)).cells
  go_step
  exact hK'
 simp only [Act.put,sT1,sT2,sT3]
 refine wpE_symcall 40 rfl (by simp) true (.string ⟨(KW).toArray⟩) (rfl) (fun _ _ h=>h) (fun hc w' hw' K' hK'=>?_) ?_
 ·have hE:=hw'.1
  try simp only [cond_true]
  go_step
  refine (HKW.out w' (HX5.out.trans ((Ext.drew _).trans hE))).mono ?_
  rintro _ w2 ⟨rfl,hx⟩
  exact hK' _ _ rfl hx
 simp only [cond_true,Act.put,sT1,sT2,sT3]
 refine wpE_val (.pointer (some ⟨w.heap.size,5,none⟩)) rfl rfl (fun w' hw' K' hK'=>?_) ?_
 ·have hE:=hw'.1
  go_step
  exact hK'
 simp only [Act.put,sT1,sT2,sT3]
 refine wpE_val (.agg #[.slice CA cp.length cc,.string cr]) rfl rfl (fun w' hw' K' hK'=>?_) ?_
 ·have hE:=hw'.1
  obtain ⟨u0,u1,u2,u3,u4,u5,u6,u7,u8,u9,u10,u11⟩:=(HB.out.ext ((Ext.drew wr).trans hE)).cells
  go_step
  exact hK'
 simp only [Act.put,sT1,sT2,sT3]
 refine wpE_symcall 43 rfl (by simp) true (.string ⟨(CW).toArray⟩) (rfl) (fun _ _ h=>h) (fun hc w' hw' K' hK'=>?_) ?_
 ·have hE:=hw'.1
  try simp only [cond_true]
  go_step
  refine (HCW.out w' (HX5.out.trans ((Ext.drew _).trans hE))).mono ?_
  rintro _ w2 ⟨rfl,hx⟩
  exact hK' _ _ rfl hx
 simp only [cond_true,Act.put,sT1,sT2,sT3]
 refine wpE_val (.pointer (some ⟨w.heap.size,7,none⟩)) rfl rfl (fun w' hw' K' hK'=>?_) ?_
 ·have hE:=hw'.1
  go_step
  exact hK'
 simp only [Act.put,sT1,sT2,sT3]
 refine wpE_val (.agg #[.slice SA sp.length sc,.string sr]) rfl rfl (fun w' hw' K' hK'=>?_) ?_
 ·have hE:=hw'.1
  obtain ⟨u0,u1,u2,u3,u4,u5,u6,u7,u8,u9,u10,u11⟩:=(HB.out.ext ((Ext.drew wr).trans hE)).cells
  go_step
  exact hK'
 simp only [Act.put,sT1,sT2,sT3]
 refine wpE_symcall 46 rfl (by simp) true (.string ⟨(SW).toArray⟩) (rfl) (fun _ _ h=>h) (fun hc w' hw' K' hK'=>?_) ?_
 ·have hE:=hw'.1
  try simp only [cond_true]
  go_step
  refine (HSW.out w' (HX5.out.trans ((Ext.drew _).trans hE))).mono ?_
  rintro _ w2 ⟨rfl,hx⟩
  exact hK' _ _ rfl hx
 simp only [cond_true,Act.put,sT1,sT2,sT3]
 refine wpE_val (.string ⟨(AW).toArray⟩) rfl rfl (fun w' hw' K' hK'=>?_) ?_
 ·have hE:=hw'.1
  go_step
  exact hK'
 simp only [Act.put,sT1,sT2,sT3]
 refine wpE_val (.pointer (some ⟨w.heap.size,9,none⟩)) rfl rfl (fun w' hw' K' hK'=>?_) ?_
 ·have hE:=hw'.1
  go_step
  exact hK'
 simp only [Act.put,sT1,sT2,sT3]
 refine wpE_val (.int .i64 co) rfl rfl (fun w' hw' K' hK'=>?_) ?_
 ·have hE:=hw'.1
  obtain ⟨u0,u1,u2,u3,u4,u5,u6,u7,u8,u9,u10,u11⟩:=(HB.out.ext ((Ext.drew wr).trans hE)).cells
  go_step
  exact hK'
 simp only [Act.put,sT1,sT2,sT3]
 refine wpE_symcall 50 rfl (by simp) true (.string ⟨(CO).toArray⟩) (rfl) (fun _ _ h=>h) (fun hc w' hw' K' hK'=>?_) ?_
 ·have hE:=hw'.1
  try simp only [cond_true]
  go_step
  refine (HCO.out w' (HX5.out.trans ((Ext.drew _).trans hE))).mono ?_
  rintro _ w2 ⟨rfl,hx⟩
  exact hK' _ _ rfl hx
 simp only [cond_true,Act.put,sT1,sT2,sT3]
 refine wpE_val (.pointer (some ⟨w.heap.size,10,none⟩)) rfl rfl (fun w' hw' K' hK'=>?_) ?_
 ·have hE:=hw'.1
  go_step
  exact hK'
 simp only [Act.put,sT1,sT2,sT3]
 refine wpE_val (.int .i64 pr) rfl rfl (fun w' hw' K' hK'=>?_) ?_
 ·have hE:=hw'.1
  obtain ⟨u0,u1,u2,u3,u4,u5,u6,u7,u8,u9,u10,u11⟩:=(HB.out.ext ((Ext.drew wr).trans hE)).cells
  go_step
  exact hK'
 simp only [Act.put,sT1,sT2,sT3]
 refine wpE_symcall 53 rfl (by simp) true (.string ⟨(PR).toArray⟩) (rfl) (fun _ _ h=>h) (fun hc w' hw' K' hK'=>?_) ?_
 ·have hE:=hw'.1
  try simp only [cond_true]
  go_step
  refine (HPR.out w' (HX5.out.trans ((Ext.drew _).trans hE))).mono ?_
  rintro _ w2 ⟨rfl,hx⟩
  exact hK' _ _ rfl hx
 simp only [cond_true,Act.put,sT1,sT2,sT3]
 refine wpE_val (.string ⟨(FW).toArray⟩) rfl rfl (fun w' hw' K' hK'=>?_) ?_
 ·have hE:=hw'.1
  go_step
  exact hK'
 simp only [Act.put,sT1,sT2,sT3]
 refine wpE_call 55 rfl (by simp) rfl (fun w' hw' K' hK'=>?_) ?_
 ·have hE:=hw'.1
  have HROW:=Lib.hid (heap_alloc_new w' (.cells #[.string ⟨TW.toArray⟩,.string ⟨KW.toArray⟩,.string ⟨CW.toArray⟩,.string ⟨SW.toArray⟩,.string ⟨AW.toArray⟩,.string ⟨CO.toArray⟩,.string ⟨PR.toArray⟩,.string ⟨FW.toArray⟩] 9))
  have hxa:=(Ext.refl w').alloc (.cells #[.string ⟨TW.toArray⟩,.string ⟨KW.toArray⟩,.string ⟨CW.toArray⟩,.string ⟨SW.toArray⟩,.string ⟨AW.toArray⟩,.string ⟨CO.toArray⟩,.string ⟨PR.toArray⟩,.string ⟨FW.toArray⟩] 9)
  go_step
  exact hK' _ _ ⟨_,rfl,_,rfl,HROW.out⟩ hxa
 rintro _ w55x hE55 ⟨g,rfl,hrow⟩
 have HROW:=Lib.hid hrow
 clear hrow hE55
 simp only [Act.put,sT1,sT2,sT3]
 refine wpE_call 56 rfl (by simp) rfl (fun w' hw' K' hK'=>?_) ?_
 ·have hE:=hw'.1
  have hM:Ext w55x w':=hw'.2 55 w55x (by simp [adds]) (by decide)
  go_step
  refine (JoinS_at [TW,KW,CW,SW,AW,CO,PR,FW] _ g 8 w' (hM.heap HROW.out) rfl rfl HLEN.out (by omega)).mono ?_
  rintro _ w2 ⟨rfl,hx⟩
  exact hK' _ _ ⟨_,rfl,rfl⟩ hx
 rintro _ w56x hE56 rfl
 simp only [Act.put,sT1,sT2,sT3]
 refine wpE_val (.string ⟨(Lib.join [TW,KW,CW,SW,AW,CO,PR,FW] [32]).toArray⟩) rfl rfl (fun w' hw' K' hK'=>?_) ?_
 ·have hE:=hw'.1
  go_step
  exact hK'
 simp only [Act.put,sT1,sT2,sT3]
 refine wpE_op rfl rfl (fun w' hw' K' hK'=>?_)
 go_step
 refine hK' _ ⟨_,rfl⟩ ?_
 clear hK' K' hw' w'
 refine wpE_nil (fun W hW=>?_)
 have HXW:=Lib.hid ((HX.out.trans HX5.out).trans ((Ext.drew _).trans hW.1))
 clear hW
 go_wp2_with fail
 go_ret2
 exact ⟨rfl,HXW.out⟩
end Go.Proofs.YtnjmndofcpnmeaaGreatDoor
