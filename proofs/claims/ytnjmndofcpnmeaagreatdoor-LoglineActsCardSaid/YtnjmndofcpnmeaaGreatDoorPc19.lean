/- Pc19. -/
import Derived.Test.YtnjmndofcpnmeaaGreatDoorPc18
import Derived.Test.YtnjmndofcpnmeaaGreatDoorPc1
import Derived.Test.YtnjmndofcpnmeaaGreatDoorPc4
import Derived.Test.YtnjmndofcpnmeaaGreatDoorPc5
import Derived.Maps.RangeWalk
import Derived.Maps.OwnRows
import Derived.Maps.Ext
import Derived.Test.YtnjmndofcpnmeaaGreatDoorPc16
namespace Go.Proofs.YtnjmndofcpnmeaaGreatDoor
open Go Go.RowKit Go.Shelf
set_option linter.unusedVariables false
end Go.Proofs.YtnjmndofcpnmeaaGreatDoor
namespace Go.Proofs.YtnjmndofcpnmeaaGreatDoor
open Go Go.RowKit
set_option linter.unusedVariables false
theorem cell_addj (w:World)(a:Addr)(n j:Nat)(hj:0<j):w.cell? ⟨(a.add n).block,(a.add n).off+j,none⟩=w.cell? (a.add (n+j)):=by
 rw [← add_of_add]
 conv=>rhs;unfold Addr.add
 rw [if_neg (by omega)]
 rfl
theorem FS.at_ {w:World}{A:Option Addr}{n c:Nat}{xs:List FV}(h:FS w (.slice A n c) xs)(k:Nat)(hk:k<xs.length):xs[k].In w∧∃ ad,A=some ad∧w.cell? (ad.add (k*12))=some (.int .i64 xs[k].t)∧w.cell? ⟨(ad.add (k*12)).block,(ad.add (k*12)).off+1,none⟩=some (.int .i64 xs[k].mi)∧w.cell? ⟨(ad.add (k*12)).block,(ad.add (k*12)).off+2,none⟩=some (.int .i64 xs[k].kd)∧w.cell? ⟨(ad.add (k*12)).block,(ad.add (k*12)).off+3,none⟩=some (.int .i64 xs[k].fk)∧w.cell? ⟨(ad.add (k*12)).block,(ad.add (k*12)).off+4,none⟩=some (.slice xs[k].FA xs[k].fb.length xs[k].fc)∧w.cell? ⟨(ad.add (k*12)).block,(ad.add (k*12)).off+5,none⟩=some (.slice xs[k].CA xs[k].cp.length xs[k].cc)∧w.cell? ⟨(ad.add (k*12)).block,(ad.add (k*12)).off+6,none⟩=some (.string xs[k].cr)∧w.cell? ⟨(ad.add (k*12)).block,(ad.add (k*12)).off+7,none⟩=some (.slice xs[k].SA xs[k].sp.length xs[k].sc)∧w.cell? ⟨(ad.add (k*12)).block,(ad.add (k*12)).off+8,none⟩=some (.string xs[k].sr)∧w.cell? ⟨(ad.add (k*12)).block,(ad.add (k*12)).off+9,none⟩=some (.int .i64 xs[k].co)∧w.cell? ⟨(ad.add (k*12)).block,(ad.add (k*12)).off+10,none⟩=some (.int .i64 xs[k].pr)∧w.cell? ⟨(ad.add (k*12)).block,(ad.add (k*12)).off+11,none⟩=some (.int .u32 (xs[k].fl.toNat:Int)):=by
 obtain ⟨A',c',he,_,_,h4⟩:=h
 injection he with e1 e2 e3
 subst e1
 obtain ⟨k1,ad,rfl,k3⟩:=h4 k hk
 refine ⟨k1,ad,rfl,?_,?_,?_,?_,?_,?_,?_,?_,?_,?_,?_,?_⟩
 ·exact k3 0 _ rfl
 ·rw [cell_addj w ad (k*12) 1 (by decide)];exact k3 1 _ rfl
 ·rw [cell_addj w ad (k*12) 2 (by decide)];exact k3 2 _ rfl
 ·rw [cell_addj w ad (k*12) 3 (by decide)];exact k3 3 _ rfl
 ·rw [cell_addj w ad (k*12) 4 (by decide)];exact k3 4 _ rfl
 ·rw [cell_addj w ad (k*12) 5 (by decide)];exact k3 5 _ rfl
 ·rw [cell_addj w ad (k*12) 6 (by decide)];exact k3 6 _ rfl
 ·rw [cell_addj w ad (k*12) 7 (by decide)];exact k3 7 _ rfl
 ·rw [cell_addj w ad (k*12) 8 (by decide)];exact k3 8 _ rfl
 ·rw [cell_addj w ad (k*12) 9 (by decide)];exact k3 9 _ rfl
 ·rw [cell_addj w ad (k*12) 10 (by decide)];exact k3 10 _ rfl
 ·rw [cell_addj w ad (k*12) 11 (by decide)];exact k3 11 _ rfl
theorem FS.shape {w:World}{v:Value}{xs:List FV}(h:FS w v xs):∃ A c,v=.slice A xs.length c∧xs.length≤c∧c≤maxLen:=let ⟨A,c,h1,h2,h3,_⟩:=h;⟨A,c,h1,h2,h3⟩
end Go.Proofs.YtnjmndofcpnmeaaGreatDoor
namespace Go.Proofs.YtnjmndofcpnmeaaGreatDoor
open Go Go.RowKit Go.WideShapes Go.ChangeShapes Go.ChangeAt Go.Deep
set_option linter.unusedVariables false
theorem i64_of_wf {a:Int}(h:(Lit.int .i64 a).wf=true):i64B a:=by
 simp only [Lit.wf,IntKind.min,IntKind.max,IntKind.signed,IntKind.bits,Bool.and_eq_true] at h
 unfold i64B
 simp at h
 omega
theorem u32_of_wf {a:Int}(h:(Lit.int .u32 a).wf=true):0≤a∧a≤4294967295:=by
 simp only [Lit.wf,IntKind.min,IntKind.max,IntKind.signed,IntKind.bits,Bool.and_eq_true] at h
 simp at h
 omega
theorem rs_of_field {H:Type} {enc:TypeId × Value→H} {P:Program} {ts te:TypeId} (hts:P.underlying ts=some (.slice te)) (hte:P.underlying te=some .string) (hce:P.cellsOf te=1) {W:World} {v:Value} {n:Nat} {y:DataW H × List MemPlace}
  (hf:DataW.trod enc P W 0 (fun _=>true) true n ts [v]=some y):∃ (A:Option Addr) (c:Nat) (ps:List ByteArray),v=.slice A ps.length c∧RS W (.slice A ps.length c) (sv ps):=by
 rcases Go.Deep.open_strs hts hte hce hf with ⟨hcs,_⟩ | ⟨a,len,cap,m,Sx,hcs,_,hl,hm,hmm,_,hcell⟩
 ·simp only [List.cons.injEq,and_true] at hcs
  subst hcs
  exact ⟨none,0,[],rfl,RS.nil W⟩
 ·simp only [List.cons.injEq,and_true] at hcs
  subst hcs
  simp only [if_true] at hmm
  have hlen:((List.range len).map Sx).length=len:=by simp
  refine ⟨some a,cap,(List.range len).map Sx,by rw [hlen],?_⟩
  rw [hlen]
  refine ⟨some a,cap,by rw [sv_length,hlen],by rw [sv_length,hlen];exact hl,hm,fun hp=>⟨a,rfl,?_,fun j u hu=>?_⟩⟩
  ·rw [sv_length,hlen] at hp
   have:=World.block_lt_of_cell? W (a.add 0) (hcell 0 (by omega)).1
   rwa [block_of_add] at this
  ·have hj:j<len:=by
    have:=(List.getElem?_eq_some_iff.1 hu).1
    rwa [sv_length,hlen] at this
   rw [(hcell j (by omega)).1]
   rw [sv_get _ j (by rw [hlen];exact hj)] at hu
   rw [← hu]
   simp
theorem cells_int:Tryz.prog.cellsOf 3=1:=by kernel_rfl
theorem cells_kind:Tryz.prog.cellsOf 31=1:=by kernel_rfl
theorem cells_adr:Tryz.prog.cellsOf 34=2:=by kernel_rfl
theorem cells_prin:Tryz.prog.cellsOf 37=2:=by kernel_rfl
theorem cells_flags:Tryz.prog.cellsOf 39=1:=by kernel_rfl
theorem cells_fact:Tryz.prog.cellsOf 41=12:=by kernel_rfl
theorem cells_bs:Tryz.prog.cellsOf 32=1:=by kernel_rfl
theorem cells_ss:Tryz.prog.cellsOf 35=1:=by kernel_rfl
theorem cells_str:Tryz.prog.cellsOf 9=1:=by kernel_rfl
section
variable {H:Type} {enc:TypeId × Value→H} {W:World} {n:Nat}
theorem adr_of_cs {a b:Value}{x:DataW H × List MemPlace}(h:DataW.trod enc Tryz.prog W 0 (fun _=>true) true n 34 [a,b]=some x):∃ (k:Int) (A:Option Addr) (c:Nat) (l:List UInt8),a=.int .i64 k∧b=.slice A l.length c∧BS W (.slice A l.length c) l∧i64B k:=by
 obtain ⟨xs,m,_,_,hl,hlen,hf⟩:=DataW.trod_struct Tryz.underlying34 h
 match xs,hlen with
 | [y0,y1],_=>
  have k0:DataW.trod enc Tryz.prog W 0 (fun _=>true) true m 3 (([a,b].drop 0).take (Tryz.prog.cellsOf 3))=some y0:=hf 0 _ rfl
  have k1:DataW.trod enc Tryz.prog W 0 (fun _=>true) true m 32 (([a,b].drop 1).take (Tryz.prog.cellsOf 32))=some y1:=hf 1 _ rfl
  rw [cells_int] at k0
  rw [cells_bs] at k1
  obtain ⟨k,e0,_,w0⟩:=DataW.trod_int Tryz.underlying3 (show DataW.trod enc Tryz.prog W 0 (fun _=>true) true m 3 [a]=some y0 from k0)
  obtain ⟨A,c,l,e1,hl⟩:=bs_of_field Tryz.underlying32 Tryz.underlying5 (by kernel_rfl) (show DataW.trod enc Tryz.prog W 0 (fun _=>true) true m 32 [b]=some y1 from k1)
  simp only [List.cons.injEq,and_true] at e0
  exact ⟨k,A,c,l,e0,e1,hl,i64_of_wf w0⟩
theorem prin_of_cs {a b:Value}{x:DataW H × List MemPlace}(h:DataW.trod enc Tryz.prog W 0 (fun _=>true) true n 37 [a,b]=some x):∃ (A:Option Addr) (c:Nat) (ps:List ByteArray) (r:ByteArray),a=.slice A ps.length c∧b=.string r∧RS W (.slice A ps.length c) (sv ps):=by
 obtain ⟨xs,m,_,_,hl,hlen,hf⟩:=DataW.trod_struct Tryz.underlying37 h
 match xs,hlen with
 | [y0,y1],_=>
  have k0:DataW.trod enc Tryz.prog W 0 (fun _=>true) true m 35 (([a,b].drop 0).take (Tryz.prog.cellsOf 35))=some y0:=hf 0 _ rfl
  have k1:DataW.trod enc Tryz.prog W 0 (fun _=>true) true m 9 (([a,b].drop 1).take (Tryz.prog.cellsOf 9))=some y1:=hf 1 _ rfl
  rw [cells_ss] at k0
  rw [cells_str] at k1
  obtain ⟨A,c,ps,e0,hr⟩:=rs_of_field Tryz.underlying35 Tryz.underlying9 (by kernel_rfl) (show DataW.trod enc Tryz.prog W 0 (fun _=>true) true m 35 [a]=some y0 from k0)
  obtain ⟨s,e1,_,_⟩:=DataW.trod_string Tryz.underlying9 (show DataW.trod enc Tryz.prog W 0 (fun _=>true) true m 9 [b]=some y1 from k1)
  simp only [List.cons.injEq,and_true] at e1
  exact ⟨A,c,ps,s,e0,e1,hr⟩
set_option maxRecDepth 100000 in
theorem fact_of_cs {cs:List Value}{x:DataW H × List MemPlace}(h:DataW.trod enc Tryz.prog W 0 (fun _=>true) true n 41 cs=some x):∃ f:FV,cs=f.cs∧f.In W∧f.Wf:=by
 obtain ⟨xs,m,_,_,hl,hlen,hf⟩:=DataW.trod_struct Tryz.underlying41 h
 rw [cells_fact] at hl
 match cs,hl,hf with
 | [c0,c1,c2,c3,c4,c5,c6,c7,c8,c9,c10,c11],_,hf=>
  match xs,hlen,hf with
  | [y0,y1,y2,y3,y4,y5,y6,y7,y8],_,hf=>
   have k0:DataW.trod enc Tryz.prog W 0 (fun _=>true) true m 3 (([c0,c1,c2,c3,c4,c5,c6,c7,c8,c9,c10,c11].drop 0).take (Tryz.prog.cellsOf 3))=some y0:=hf 0 _ rfl
   have k1:DataW.trod enc Tryz.prog W 0 (fun _=>true) true m 3 (([c0,c1,c2,c3,c4,c5,c6,c7,c8,c9,c10,c11].drop 1).take (Tryz.prog.cellsOf 3))=some y1:=hf 1 _ rfl
   have k2:DataW.trod enc Tryz.prog W 0 (fun _=>true) true m 31 (([c0,c1,c2,c3,c4,c5,c6,c7,c8,c9,c10,c11].drop 2).take (Tryz.prog.cellsOf 31))=some y2:=hf 2 _ rfl
   have k3:DataW.trod enc Tryz.prog W 0 (fun _=>true) true m 34 (([c0,c1,c2,c3,c4,c5,c6,c7,c8,c9,c10,c11].drop 3).take (Tryz.prog.cellsOf 34))=some y3:=hf 3 _ rfl
   have k4:DataW.trod enc Tryz.prog W 0 (fun _=>true) true m 37 (([c0,c1,c2,c3,c4,c5,c6,c7,c8,c9,c10,c11].drop 5).take (Tryz.prog.cellsOf 37))=some y4:=hf 4 _ rfl
   have k5:DataW.trod enc Tryz.prog W 0 (fun _=>true) true m 37 (([c0,c1,c2,c3,c4,c5,c6,c7,c8,c9,c10,c11].drop 7).take (Tryz.prog.cellsOf 37))=some y5:=hf 5 _ rfl
   have k6:DataW.trod enc Tryz.prog W 0 (fun _=>true) true m 3 (([c0,c1,c2,c3,c4,c5,c6,c7,c8,c9,c10,c11].drop 9).take (Tryz.prog.cellsOf 3))=some y6:=hf 6 _ rfl
   have k7:DataW.trod enc Tryz.prog W 0 (fun _=>true) true m 3 (([c0,c1,c2,c3,c4,c5,c6,c7,c8,c9,c10,c11].drop 10).take (Tryz.prog.cellsOf 3))=some y7:=hf 7 _ rfl
   have k8:DataW.trod enc Tryz.prog W 0 (fun _=>true) true m 39 (([c0,c1,c2,c3,c4,c5,c6,c7,c8,c9,c10,c11].drop 11).take (Tryz.prog.cellsOf 39))=some y8:=hf 8 _ rfl
   rw [cells_int] at k0 k1 k6 k7
   rw [cells_kind] at k2
   rw [cells_adr] at k3
   rw [cells_prin] at k4 k5
   rw [cells_flags] at k8
   obtain ⟨t,e0,_,w0⟩:=DataW.trod_int Tryz.underlying3 (show DataW.trod enc Tryz.prog W 0 (fun _=>true) true m 3 [c0]=some y0 from k0)
   obtain ⟨mi,e1,_,w1⟩:=DataW.trod_int Tryz.underlying3 (show DataW.trod enc Tryz.prog W 0 (fun _=>true) true m 3 [c1]=some y1 from k1)
   obtain ⟨kd,e2,_,w2⟩:=DataW.trod_int Tryz.underlying31 (show DataW.trod enc Tryz.prog W 0 (fun _=>true) true m 31 [c2]=some y2 from k2)
   obtain ⟨fk,FA,fc,fb,e3,e4,h3,w3⟩:=adr_of_cs (show DataW.trod enc Tryz.prog W 0 (fun _=>true) true m 34 [c3,c4]=some y3 from k3)
   obtain ⟨CA,cc,cp,cr,e5,e6,h4⟩:=prin_of_cs (show DataW.trod enc Tryz.prog W 0 (fun _=>true) true m 37 [c5,c6]=some y4 from k4)
   obtain ⟨SA,sc,sp,sr,e7,e8,h5⟩:=prin_of_cs (show DataW.trod enc Tryz.prog W 0 (fun _=>true) true m 37 [c7,c8]=some y5 from k5)
   obtain ⟨co,e9,_,w6⟩:=DataW.trod_int Tryz.underlying3 (show DataW.trod enc Tryz.prog W 0 (fun _=>true) true m 3 [c9]=some y6 from k6)
   obtain ⟨pr,e10,_,w7⟩:=DataW.trod_int Tryz.underlying3 (show DataW.trod enc Tryz.prog W 0 (fun _=>true) true m 3 [c10]=some y7 from k7)
   obtain ⟨fl,e11,_,w8⟩:=DataW.trod_int Tryz.underlying39 (show DataW.trod enc Tryz.prog W 0 (fun _=>true) true m 39 [c11]=some y8 from k8)
   obtain ⟨F,rfl⟩:=u32_of fl (u32_of_wf w8).1 (u32_of_wf w8).2
   simp only [List.cons.injEq,and_true] at e0 e1 e2 e9 e10 e11
   subst e0;subst e1;subst e2;subst e3;subst e4;subst e5;subst e6;subst e7;subst e8;subst e9;subst e10;subst e11
   exact ⟨⟨t,mi,kd,fk,FA,fb,fc,CA,cp,cc,cr,SA,sp,sc,sr,co,pr,F⟩,rfl,⟨h3,h4,h5⟩,⟨i64_of_wf w0,i64_of_wf w1,i64_of_wf w2,w3,i64_of_wf w6,i64_of_wf w7⟩⟩
end
set_option maxRecDepth 100000 in
theorem facts_of_trod {H:Type} {enc:TypeId × Value→H} {r:Reach} {base:Nat} {W:World} {v:Value} {d:DataW H} {qs:List MemPlace}
  (hv:Value.okWide Tryz.prog W r base 22 v) (h:DataW.Trod enc Tryz.prog W 0 (fun _=>true) true 22 v d qs):∃ (A:Option Addr) (c:Nat) (xs:List FV),v=.slice A xs.length c∧FS W (.slice A xs.length c) xs∧∀ f∈xs,f.Wf:=by
 obtain ⟨a0,len,cap,rfl⟩:=okWide_slice Tryz.underlying22 hv
 obtain ⟨fuel,hf⟩:=h
 rcases open_slice Tryz.underlying22 hf with ⟨hcs,_⟩ | ⟨a,len',cap',m,n,D,Pl,hcs,_,hl,hm,hmm,_,hrow⟩
 ·simp only [Value.cells,List.cons.injEq,and_true,Value.slice.injEq] at hcs
  obtain ⟨rfl,rfl,rfl⟩:=hcs
  exact ⟨none,0,[],rfl,FS.nil W,fun f h=>by cases h⟩
 ·simp only [Value.cells,List.cons.injEq,and_true,Value.slice.injEq] at hcs
  obtain ⟨rfl,rfl,rfl⟩:=hcs
  simp only [if_true] at hmm
  have key:∀ i,i<len→∃ f:FV,f.In W∧f.Wf∧∀ j u,f.cs[j]? = some u→W.cell? (a.add (i*12+j))=some u:=by
   intro i hi'
   obtain ⟨cs',hc,ht⟩:=hrow i (by omega)
   obtain ⟨f,e,h1,h2⟩:=fact_of_cs ht
   rw [cells_fact] at hc
   obtain ⟨_,hcl,hat⟩:=World.cells?_some hc
   refine ⟨f,h1,h2,fun j u hu=>?_⟩
   have hj:j<12:=by
    have:=(List.getElem?_eq_some_iff.1 hu).1
    exact this
   rw [← Go.Deep.add_add,hat j hj,e,hu]
  have key2:∃ g:Nat→FV,∀ i,i<len→(g i).In W∧(g i).Wf∧∀ j u,(g i).cs[j]? = some u→W.cell? (a.add (i*12+j))=some u:=
   ⟨fun i=>if hi':i<len then Classical.choose (key i hi') else fv0,fun i hi'=>by
    have:=Classical.choose_spec (key i hi')
    simpa only [dif_pos hi'] using this⟩
  obtain ⟨g,hg⟩:=key2
  have hlen:((List.range len).map g).length=len:=by simp
  refine ⟨some a,cap,(List.range len).map g,by rw [hlen],⟨some a,cap,rfl,by rw [hlen];exact hl,hm,fun i hi'=>?_⟩,fun f hf=>?_⟩
  ·have hi2:i<len:=by rwa [hlen] at hi'
   have e:((List.range len).map g)[i]=g i:=by simp
   rw [e]
   exact ⟨(hg i hi2).1,a,rfl,(hg i hi2).2.2⟩
  ·obtain ⟨i,hi,rfl⟩:=List.mem_map.1 hf
   exact (hg i (List.mem_range.1 hi)).2.1
end Go.Proofs.YtnjmndofcpnmeaaGreatDoor
namespace Go.Proofs.YtnjmndofcpnmeaaGreatDoor
open Go Go.Lib
set_option linter.unusedVariables false
theorem nodup_le {α:Type} [DecidableEq α]:∀ {a b:List α},a.Nodup→(∀ x∈a,x∈b)→a.length≤b.length
 | [],b,_,_=>Nat.zero_le _
 | x::a,b,hd,hs=>by
  rw [List.nodup_cons] at hd
  have hx:=hs x (by simp)
  have h1:∀ y∈a,y∈b.erase x:=fun y hy=>by
   rw [List.mem_erase_of_ne (fun (e:y=x)=>hd.1 (by rw [← e];exact hy))]
   exact hs y (List.mem_cons_of_mem _ hy)
  have h2:=nodup_le hd.2 h1
  rw [List.length_erase_of_mem hx] at h2
  have h3:=List.length_pos_of_mem hx
  rw [List.length_cons]
  omega
theorem nodup_filt {l:List Nat}(p:Nat→Bool)(h:l.Nodup):(l.filter p).Nodup:=List.Pairwise.filter p h
theorem nodup_mapK {κ:Type}{l:List Nat}{K:Nat→κ}(h:l.Nodup)(hk:∀ i∈l,∀ j∈l,K i=K j→i=j):(l.map K).Nodup:=by
 induction l with
 | nil=>exact List.nodup_nil
 | cons x l ih=>
  rw [List.nodup_cons] at h
  rw [List.map_cons,List.nodup_cons]
  refine ⟨fun hm=>?_,ih h.2 (fun i hi j hj=>hk i (List.mem_cons_of_mem _ hi) j (List.mem_cons_of_mem _ hj))⟩
  obtain ⟨y,hy,e⟩:=List.mem_map.1 hm
  have:=hk y (List.mem_cons_of_mem _ hy) x (by simp) e
  exact h.1 (this ▸ hy)
section
variable {κ:Type} [DecidableEq κ]
def fstK (n:Nat)(P:Nat→Bool)(K:Nat→κ):List Nat:=(List.range n).filter fun i=>P i&&(List.range i).all fun j=>!(P j&&decide (K j=K i))
theorem fstK_mem {n:Nat}{P:Nat→Bool}{K:Nat→κ}{i:Nat}:i∈fstK n P K ↔ i<n∧P i=true∧∀ j,j<i→P j=true→K j≠K i:=by
 unfold fstK
 rw [List.mem_filter,List.mem_range,Bool.and_eq_true,List.all_eq_true]
 constructor
 ·rintro ⟨h1,h2,h3⟩
  refine ⟨h1,h2,fun j hj hp e=>?_⟩
  have:=h3 j (List.mem_range.2 hj)
  rw [hp,decide_eq_true e] at this
  exact absurd this (by decide)
 ·rintro ⟨h1,h2,h3⟩
  refine ⟨h1,h2,fun j hj=>?_⟩
  have:=h3 j (List.mem_range.1 hj)
  cases hp:P j with
  | false=>rfl
  | true=>rw [decide_eq_false (this hp)];rfl
theorem fstK_ex {n:Nat}{P:Nat→Bool}{K:Nat→κ}:∀ (i:Nat),i<n→P i=true→∃ j∈fstK n P K,K j=K i∧j≤i:=by
 intro i
 induction i using Nat.strongRecOn with
 | _ i ih=>
  intro hi hp
  by_cases h:∃ j,j<i∧P j=true∧K j=K i
  ·obtain ⟨j,hj,hpj,hk⟩:=h
   obtain ⟨m,hm,hmk,hle⟩:=ih j hj (by omega) hpj
   exact ⟨m,hm,hmk.trans hk,by omega⟩
  ·exact ⟨i,fstK_mem.2 ⟨hi,hp,fun j hj hpj e=>h ⟨j,hj,hpj,e⟩⟩,rfl,Nat.le_refl _⟩
theorem fstK_one {n:Nat}{P:Nat→Bool}{K:Nat→κ}{i j:Nat}(hi:i∈fstK n P K)(hj:j∈fstK n P K)(e:K i=K j):i=j:=by
 obtain ⟨_,pi,fi⟩:=fstK_mem.1 hi
 obtain ⟨_,pj,fj⟩:=fstK_mem.1 hj
 rcases Nat.lt_trichotomy i j with h | h | h
 ·exact absurd e (fj i h pi)
 ·exact h
 ·exact absurd e.symm (fi j h pj)
theorem fstK_nodup {n:Nat}{P:Nat→Bool}{K:Nat→κ}:(fstK n P K).Nodup:=nodup_filt _ List.nodup_range
theorem fstK_succ {n:Nat}{P:Nat→Bool}{K:Nat→κ}:fstK (n+1) P K=if P n=true∧∀ j∈fstK n P K,K j≠K n then fstK n P K++[n] else fstK n P K:=by
 unfold fstK
 rw [List.range_succ,List.filter_append]
 by_cases h:n∈fstK (n+1) P K
 ·obtain ⟨_,h2,h3⟩:=fstK_mem.1 h
  have hc:∀ j∈fstK n P K,K j≠K n:=fun j hj=>h3 j (fstK_mem.1 hj).1 (fstK_mem.1 hj).2.1
  unfold fstK at hc
  rw [if_pos ⟨h2,hc⟩]
  ·congr 1
   have:(P n&&(List.range n).all fun j=>!(P j&&decide (K j=K n)))=true:=(List.mem_filter.1 h).2
   rw [List.filter_cons,if_pos this,List.filter_nil]
 ·rw [if_neg]
  ·have:¬ (P n&&(List.range n).all fun j=>!(P j&&decide (K j=K n)))=true:=fun e=>h (List.mem_filter.2 ⟨List.mem_range.2 (Nat.lt_succ_self n),e⟩)
   rw [List.filter_cons,if_neg this,List.filter_nil,List.append_nil]
  ·rintro ⟨h2,h3⟩
   refine h (fstK_mem.2 ⟨Nat.lt_succ_self n,h2,fun j hj hp e=>?_⟩)
   obtain ⟨m,hm,hk,_⟩:=fstK_ex (K:=K) j hj hp
   exact h3 m hm (hk.trans e)
end
def failB (f:Fct):Bool:=decide (f.kd=10)&&decide (f.co=24) && !noneN f.cp f.cr
inductive Who where
 | from (k:Int) (b:List UInt8)
 | client (p:List (List UInt8)) (r:List UInt8)
 deriving DecidableEq
def who (ad:Bool)(f:Fct):Who:=if ad then .from f.fk f.fb else .client f.cp f.cr
def dftF:Fct:=⟨0,0,0,0,[],[],[],[],[],0,0,0#32⟩
def atF (l:List Fct)(i:Nat):Fct:=l[i]?.getD dftF
def winF (l:List Fct)(w:Int)(ad:Bool)(i:Nat):List Nat:=(List.range (i+1)).filter fun j=>failB (atF l j)&&decide (who ad (atF l j)=who ad (atF l i))&&decide ((atF l i).t-w≤(atF l j).t)
def cntF (l:List Fct)(w:Int)(ad:Bool)(i:Nat):Nat:=if ad then (fstK (i+1) (fun j=>(winF l w ad i).contains j) (fun j=>who false (atF l j))).length else (winF l w ad i).length
def hitF (l:List Fct)(w lim:Int)(ad:Bool)(i:Nat):Bool:=failB (atF l i)&&decide (lim≤(cntF l w ad i:Int))
def almF (l:List Fct)(w lim:Int)(ad:Bool):List Nat:=fstK l.length (hitF l w lim ad) (fun i=>who ad (atF l i))
end Go.Proofs.YtnjmndofcpnmeaaGreatDoor
namespace Go.Proofs.YtnjmndofcpnmeaaGreatDoor
open Go Go.Lib
set_option linter.unusedVariables false
theorem filt_succ (n:Nat)(Q:Nat→Bool):(List.range (n+1)).filter Q=(List.range n).filter Q++(if Q n then [n] else []):=by
 rw [List.range_succ,List.filter_append]
 congr 1
 cases h:Q n
 ·rw [List.filter_cons,h];rfl
 ·rw [List.filter_cons,h];rfl
theorem filt_take {Q:Nat→Bool}:∀ (n p i:Nat),((List.range n).filter Q)[p]? = some i→((List.range n).filter Q).take (p+1)=(List.range (i+1)).filter Q
 | 0,p,i,h=>by simp at h
 | n+1,p,i,h=>by
  rw [filt_succ] at h ⊢
  by_cases hp:p<((List.range n).filter Q).length
  ·rw [List.getElem?_append_left hp] at h
   rw [List.take_append_of_le_length (by omega)]
   exact filt_take n p i h
  ·rw [List.getElem?_append_right (by omega)] at h
   cases hq:Q n with
   | false=>rw [hq] at h;simp at h
   | true=>
    rw [hq,if_pos rfl] at h
    obtain ⟨h1,h2⟩:p-((List.range n).filter Q).length=0∧n=i:=by
     cases hx:p-((List.range n).filter Q).length with
     | zero=>rw [hx] at h;exact ⟨rfl,by simpa using h⟩
     | succ m=>rw [hx] at h;simp at h
    subst h2
    rw [if_pos rfl,List.take_of_length_le (by rw [List.length_append,List.length_singleton];omega),filt_succ,hq,if_pos rfl]
theorem filt_drop {α:Type} {R:α→Bool}:∀ (h:List α) (low:Nat),low≤h.length→(∀ q (hq:q<h.length),q<low→R h[q]=false)→(∀ q (hq:q<h.length),low≤q→R h[q]=true)→h.filter R=h.drop low
 | [],low,_,_,_=>by simp
 | x::h,0,_,_,k=>by
  have h0:=k 0 (by simp) (by omega)
  rw [List.drop_zero,List.filter_cons,show R x=true from h0,if_pos rfl]
  have:=filt_drop h 0 (by omega) (fun q hq hl=>absurd hl (by omega)) (fun q hq _=>k (q+1) (by simpa using hq) (by omega))
  rw [this,List.drop_zero]
 | x::h,low+1,hle,m,k=>by
  have h0:=m 0 (by simp) (by omega)
  rw [List.drop_succ_cons,List.filter_cons,show R x=false from h0,if_neg (by simp)]
  exact filt_drop h low (by simpa using hle) (fun q hq hl=>m (q+1) (by simpa using hq) (by omega)) (fun q hq hl=>k (q+1) (by simpa using hq) (by omega))
def grpF (l:List Fct)(ad:Bool)(x:Who):List Nat:=(List.range l.length).filter fun j=>failB (atF l j)&&decide (who ad (atF l j)=x)
theorem grp_mem {l:List Fct}{ad:Bool}{x:Who}{i:Nat}:i∈grpF l ad x ↔ i<l.length∧failB (atF l i)=true∧who ad (atF l i)=x:=by
 unfold grpF
 rw [List.mem_filter,List.mem_range,Bool.and_eq_true,decide_eq_true_eq]
def ordT (l:List Fct):Prop:=∀ i j,i≤j→j<l.length→(atF l i).t≤(atF l j).t
theorem grp_sorted {l:List Fct}{ad:Bool}{x:Who}:(grpF l ad x).Pairwise (· < ·):=List.Pairwise.filter _ List.pairwise_lt_range
theorem win_slice {l:List Fct} (ho:ordT l) {w:Int} {ad:Bool} {x:Who} {p low i:Nat} (hp:(grpF l ad x)[p]? = some i) (hlow:low≤p+1)
  (h1:∀ q j,q<low→(grpF l ad x)[q]? = some j→(atF l j).t<(atF l i).t-w)
  (h2:∀ j,(grpF l ad x)[low]? = some j→low≤p→(atF l i).t-w≤(atF l j).t):winF l w ad i=((grpF l ad x).take (p+1)).drop low:=by
 have hi:=grp_mem.1 (List.mem_of_getElem? hp)
 have hpl:p<(grpF l ad x).length:=(List.getElem?_eq_some_iff.1 hp).1
 have ht:=filt_take (Q:=fun j=>failB (atF l j)&&decide (who ad (atF l j)=x)) l.length p i hp
 have hw:winF l w ad i=((grpF l ad x).take (p+1)).filter fun j=>decide ((atF l i).t-w≤(atF l j).t):=by
  unfold winF
  rw [show (grpF l ad x).take (p+1)=(List.range (i+1)).filter (fun j=>failB (atF l j)&&decide (who ad (atF l j)=x)) from ht,List.filter_filter,hi.2.2]
  congr 1
  funext j
  rw [Bool.and_comm]
 rw [hw]
 have hlen:((grpF l ad x).take (p+1)).length=p+1:=by rw [List.length_take];omega
 refine filt_drop _ low (by omega) (fun q hq hl=>?_) (fun q hq hl=>?_)
 ·rw [decide_eq_false_iff_not]
  have:=h1 q (((grpF l ad x).take (p+1))[q]) hl (by rw [List.getElem_take];exact List.getElem?_eq_getElem _)
  omega
 ·rw [decide_eq_true_eq]
  have hlp:low≤p:=by omega
  have h3:=h2 ((grpF l ad x)[low]'(by omega)) (List.getElem?_eq_getElem _) hlp
  have h4:(grpF l ad x)[low]'(by omega)≤(grpF l ad x)[q]'(by omega):=by
   rcases Nat.lt_or_eq_of_le hl with h | rfl
   ·exact Nat.le_of_lt (List.pairwise_iff_getElem.1 grp_sorted low q (by omega) (by omega) h)
   ·exact Nat.le_refl _
  have h5:=ho _ _ h4 (grp_mem.1 (List.getElem_mem (by omega:q<(grpF l ad x).length))).1
  rw [List.getElem_take]
  omega
theorem hit_fail {l:List Fct}{w lim:Int}{ad:Bool}{i:Nat}(h:hitF l w lim ad i=true):failB (atF l i)=true:=by
 unfold hitF at h
 rw [Bool.and_eq_true] at h
 exact h.1
theorem alm_lt {l:List Fct}{w lim:Int}{ad:Bool}{i:Nat}(h:i∈almF l w lim ad):i<l.length:=(fstK_mem.1 h).1
theorem find_alm {l:List Fct}{w lim:Int}{ad:Bool}{x:Who}{i:Nat}:(grpF l ad x).find? (hitF l w lim ad)=some i ↔ i∈almF l w lim ad∧who ad (atF l i)=x:=by
 rw [List.find?_eq_some_iff_getElem]
 constructor
 ·rintro ⟨hh,p,hp,rfl,hb⟩
  have hm:=grp_mem.1 (List.getElem_mem hp)
  refine ⟨fstK_mem.2 ⟨hm.1,hh,fun j hj hhj e=>?_⟩,hm.2.2⟩
  have hjm:j∈grpF l ad x:=grp_mem.2 ⟨by omega,hit_fail hhj,e.trans hm.2.2⟩
  obtain ⟨q,hq,rfl⟩:=List.getElem_of_mem hjm
  have hqp:q<p:=by
   rcases Nat.lt_trichotomy q p with h | h | h
   ·exact h
   ·subst h;omega
   ·have:=List.pairwise_iff_getElem.1 (grp_sorted (l:=l) (ad:=ad) (x:=x)) p q hp hq h
    omega
  have:=hb q hqp
  rw [hhj] at this
  exact absurd this (by decide)
 ·rintro ⟨hm,rfl⟩
  obtain ⟨h1,h2,h3⟩:=fstK_mem.1 hm
  have hmem:i∈grpF l ad (who ad (atF l i)):=grp_mem.2 ⟨h1,hit_fail h2,rfl⟩
  obtain ⟨p,hp,hpi⟩:=List.getElem_of_mem hmem
  refine ⟨h2,p,hp,hpi,fun q hq=>?_⟩
  have hql:q<(grpF l ad (who ad (atF l i))).length:=by omega
  have hlt:=List.pairwise_iff_getElem.1 (grp_sorted (l:=l) (ad:=ad) (x:=who ad (atF l i))) q p hql hp hq
  rw [hpi] at hlt
  cases hh:hitF l w lim ad ((grpF l ad (who ad (atF l i)))[q]) with
  | false=>rfl
  | true=>exact absurd (grp_mem.1 (List.getElem_mem hql)).2.2 (h3 _ hlt hh)
theorem rise_eq:∀ {a b:List Nat},a.Pairwise (· < ·)→b.Pairwise (· < ·)→(∀ x,x∈a ↔ x∈b)→a=b
 | [],[],_,_,_=>rfl
 | [],y::b,_,_,h=>absurd ((h y).2 (by simp)) (by simp)
 | x::a,[],_,_,h=>absurd ((h x).1 (by simp)) (by simp)
 | x::a,y::b,ha,hb,h=>by
  rw [List.pairwise_cons] at ha hb
  have hxy:x=y:=by
   rcases List.mem_cons.1 ((h x).1 (by simp)) with e | e
   ·exact e
   ·rcases List.mem_cons.1 ((h y).2 (by simp)) with e' | e'
    ·exact e'.symm
    ·have h1:=hb.1 x e
     have h2:=ha.1 y e'
     omega
  subst hxy
  have:a=b:=rise_eq ha.2 hb.2 fun z=>by
   constructor
   ·intro hz
    rcases List.mem_cons.1 ((h z).1 (List.mem_cons_of_mem _ hz)) with e | e
    ·have:=ha.1 z hz;omega
    ·exact e
   ·intro hz
    rcases List.mem_cons.1 ((h z).2 (List.mem_cons_of_mem _ hz)) with e | e
    ·have:=hb.1 z hz;omega
    ·exact e
  rw [this]
theorem alm_sorted {l:List Fct}{w lim:Int}{ad:Bool}:(almF l w lim ad).Pairwise (· < ·):=List.Pairwise.filter _ List.pairwise_lt_range
theorem alms_of {l:List Fct}{w lim:Int}{ad:Bool}{f:List Nat}(hs:f.Pairwise (· < ·))(h:∀ i,i∈f ↔ ∃ x,(grpF l ad x).find? (hitF l w lim ad)=some i):f=almF l w lim ad:=
 rise_eq hs alm_sorted fun i=>by
  rw [h]
  constructor
  ·rintro ⟨x,hx⟩;exact (find_alm.1 hx).1
  ·intro hi;exact ⟨_,find_alm.2 ⟨hi,rfl⟩⟩
theorem mem_eq_len {α:Type} [DecidableEq α]{a b:List α}(ha:a.Nodup)(hb:b.Nodup)(h:∀ x,x∈a ↔ x∈b):a.length=b.length:=
 Nat.le_antisymm (nodup_le ha fun x hx=>(h x).1 hx) (nodup_le hb fun x hx=>(h x).2 hx)
theorem cnt_any {l:List Fct}{w:Int}{i:Nat}{ks:List Who}(hd:ks.Nodup)(h:∀ x,x∈ks ↔ ∃ j∈winF l w true i,who false (atF l j)=x):cntF l w true i=ks.length:=by
 unfold cntF
 rw [if_pos rfl]
 have h1:((fstK (i+1) (fun j=>(winF l w true i).contains j) (fun j=>who false (atF l j))).map (fun j=>who false (atF l j))).Nodup:=nodup_mapK fstK_nodup fun a ha b hb=>fstK_one ha hb
 have:=mem_eq_len h1 hd fun x=>by
  rw [h]
  constructor
  ·intro hx
   obtain ⟨j,hj,e⟩:=List.mem_map.1 hx
   have:=(fstK_mem.1 hj).2.1
   rw [List.contains_iff_mem] at this
   exact ⟨j,this,e⟩
  ·rintro ⟨j,hj,rfl⟩
   have hji:j<i+1:=by
    unfold winF at hj
    exact List.mem_range.1 (List.mem_filter.1 hj).1
   obtain ⟨m,hm,e,_⟩:=fstK_ex (n:=i+1) (P:=fun j=>(winF l w true i).contains j) (K:=fun j=>who false (atF l j)) j hji (by rw [List.contains_iff_mem];exact hj)
   exact List.mem_map.2 ⟨m,hm,e⟩
 rw [← this,List.length_map]
theorem cnt_win {l:List Fct}{w:Int}{i:Nat}:cntF l w false i=(winF l w false i).length:=by unfold cntF;rw [if_neg (by decide)]
def addK {α:Type} [DecidableEq α](ks:List α)(x:α):List α:=if x∈ks then ks else ks++[x]
theorem addK_mem {α:Type} [DecidableEq α]{ks:List α}{x y:α}:y∈addK ks x ↔ y∈ks∨y=x:=by
 unfold addK
 split
 ·next h=>exact ⟨.inl,fun k=>k.elim id fun e=>e ▸ h⟩
 ·simp
theorem addK_nodup {α:Type} [DecidableEq α]{ks:List α}{x:α}(h:ks.Nodup):(addK ks x).Nodup:=by
 unfold addK
 split
 ·exact h
 ·next hx=>
  rw [List.nodup_append]
  refine ⟨h,by simp,fun a ha b hb=>?_⟩
  rw [List.mem_singleton] at hb
  subst hb
  exact fun e=>hx (e ▸ ha)
theorem rise_eqR {α:Type} {r:α→α→Prop} (irr:∀ x,¬ r x x) (tr:∀ x y z,r x y→r y z→r x z):∀ {a b:List α},a.Pairwise r→b.Pairwise r→(∀ x,x∈a ↔ x∈b)→a=b
 | [],[],_,_,_=>rfl
 | [],y::b,_,_,h=>absurd ((h y).2 (by simp)) (by simp)
 | x::a,[],_,_,h=>absurd ((h x).1 (by simp)) (by simp)
 | x::a,y::b,ha,hb,h=>by
  rw [List.pairwise_cons] at ha hb
  have hxy:x=y:=by
   rcases List.mem_cons.1 ((h x).1 (by simp)) with e | e
   ·exact e
   ·rcases List.mem_cons.1 ((h y).2 (by simp)) with e' | e'
    ·exact e'.symm
    ·exact absurd (tr _ _ _ (hb.1 x e) (ha.1 y e')) (irr _)
  subst hxy
  have:a=b:=rise_eqR irr tr ha.2 hb.2 fun z=>by
   constructor
   ·intro hz
    rcases List.mem_cons.1 ((h z).1 (List.mem_cons_of_mem _ hz)) with e | e
    ·exact absurd (e ▸ ha.1 z hz) (irr _)
    ·exact e
   ·intro hz
    rcases List.mem_cons.1 ((h z).2 (List.mem_cons_of_mem _ hz)) with e | e
    ·exact absurd (e ▸ hb.1 z hz) (irr _)
    ·exact e
  rw [this]
theorem rise_ins {α:Type}{r:α→α→Prop}(tr:∀ x y z,r x y→r y z→r x z){l:List α}{n:Nat}{x:α}(h:l.Pairwise r)(h1:∀ y∈l.take n,r y x)(h2:∀ y∈l.drop n,r x y):(l.take n++x::l.drop n).Pairwise r:=by
 rw [← List.take_append_drop n l,List.pairwise_append] at h
 rw [List.pairwise_append,List.pairwise_cons]
 refine ⟨h.1,⟨h2,h.2.1⟩,fun y hy z hz=>?_⟩
 rcases List.mem_cons.1 hz with rfl | hz
 ·exact h1 y hy
 ·exact h.2.2 y hy z hz
def wantB (f:Fct):Bool:=!decide (f.kd=0) && !noneN f.cp f.cr
def grpA (l:List Fct)(x:Who):List Nat:=(List.range l.length).filter fun j=>wantB (atF l j)&&decide (who false (atF l j)=x)
structure Actv where
 cp:List (List UInt8)
 cr:List UInt8
 req:Nat
 suc:Nat
 pln:Nat
 adr:Nat
 fst:Int
 lst:Int
 deriving DecidableEq
def sucB (f:Fct):Bool:=decide (f.co=0)
def plnB (f:Fct):Bool:=decide (f.co=0)&&decide (f.kd=10)&&decide (f.pr=0)
def actF (l:List Fct)(i:Nat):Actv:=
 { cp:=(atF l i).cp,cr:=(atF l i).cr,req:=(grpA l (who false (atF l i))).length,suc:=((grpA l (who false (atF l i))).filter fun j=>sucB (atF l j)).length,pln:=((grpA l (who false (atF l i))).filter fun j=>plnB (atF l j)).length,adr:=((grpA l (who false (atF l i))).foldl (fun ks j=>addK ks (who true (atF l j))) []).length,fst:=(atF l i).t,lst:=(atF l ((grpA l (who false (atF l i))).getLast?.getD i)).t }
def codF (l:List Fct)(c:Int):Nat:=(l.filter fun f=>decide (f.co=c)).length
def keyP:List (List UInt8)→List UInt8
 | []=>[]
 | p::r=>32::(itoa (p.length:Int)++32::(p++keyP r))
def keyN (p:List (List UInt8))(r:List UInt8):List UInt8:=itoa (p.length:Int)++(keyP p++32::r)
def keyA (k:Int)(b:List UInt8):List UInt8:=itoa k++32::b
theorem keyP_snoc:∀ (ls:List (List UInt8)) (p:List UInt8),keyP (ls++[p])=keyP ls++(32::(itoa (p.length:Int)++32::p))
 | [],p=>by simp [keyP]
 | q::r,p=>by rw [List.cons_append,keyP,keyP_snoc r p,keyP];simp
theorem itoa_no32 (x:Int):(32:UInt8) ∉ itoa x:=by
 unfold itoa
 split
 ·intro h
  rcases List.mem_cons.1 h with h | h
  ·exact absurd h (by decide)
  ·exact dec_no _ _ (by decide) h
 ·exact dec_no _ _ (by decide)
theorem dec_no45 (n:Nat):(45:UInt8) ∉ decDigits n:=dec_no _ _ (by decide)
theorem itoa_injZ {x y:Int}(e:itoa x=itoa y):x=y:=by
 unfold itoa at e
 split at e
 ·split at e
  ·injection e with _ e
   have:=dec_inj e
   omega
  ·exact absurd (e ▸ List.mem_cons_self) (dec_no45 _)
 ·split at e
  ·exact absurd (e ▸ List.mem_cons_self) (dec_no45 _)
  ·have:=dec_inj e
   omega
theorem keyA_inj {k k':Int}{b b':List UInt8}(e:keyA k b=keyA k' b'):k=k'∧b=b':=by
 obtain ⟨e1,e2⟩:=app_sep (itoa_no32 k) (itoa_no32 k') e
 exact ⟨itoa_injZ e1,e2⟩
theorem keyP_inj:∀ {p q:List (List UInt8)} {a b:List UInt8},p.length=q.length→keyP p++a=keyP q++b→p=q∧a=b
 | [],[],a,b,_,e=>⟨rfl,e⟩
 | [],_::_,a,b,h,_=>by simp at h
 | _::_,[],a,b,h,_=>by simp at h
 | x::p,y::q,a,b,h,e=>by
  rw [keyP,keyP] at e
  simp only [List.cons_append,List.append_assoc] at e
  injection e with _ e
  obtain ⟨e1,e2⟩:=app_sep (itoa_no32 _) (itoa_no32 _) e
  have hl:x.length=y.length:=by have:=itoa_injZ e1;omega
  obtain ⟨e3,e4⟩:=List.append_inj e2 hl
  obtain ⟨e5,e6⟩:=keyP_inj (by simpa using h) e4
  exact ⟨by rw [e3,e5],e6⟩
theorem keyN_inj {p q:List (List UInt8)}{r s:List UInt8}(e:keyN p r=keyN q s):p=q∧r=s:=by
 unfold keyN at e
 have hs:∀ (p:List (List UInt8)) (r:List UInt8),∃ t,keyP p++32::r=32::t:=fun p r=>by
  cases p with
  | nil=>exact ⟨r,rfl⟩
  | cons x p=>exact ⟨_,by rw [keyP];rfl⟩
 obtain ⟨t,ht⟩:=hs p r
 obtain ⟨u,hu⟩:=hs q s
 have e':=e
 rw [ht,hu] at e'
 obtain ⟨e1,e2⟩:=app_sep (itoa_no32 _) (itoa_no32 _) e'
 have hl:p.length=q.length:=by have:=itoa_injZ e1;omega
 have e3:keyP p++32::r=keyP q++32::s:=by rw [ht,hu,e2]
 obtain ⟨e4,e5⟩:=keyP_inj hl e3
 injection e5 with _ e5
 exact ⟨e4,e5⟩
end Go.Proofs.YtnjmndofcpnmeaaGreatDoor
namespace Go.Proofs.YtnjmndofcpnmeaaGreatDoor
open Go Go.Lib Go.Maps
open Go.ChangeShapes (lits)
set_option linter.unusedVariables false
def grpK (n:Nat)(P:Nat→Bool)(K:Nat→List UInt8)(s:List UInt8):List Nat:=(List.range n).filter fun j=>P j&&decide (K j=s)
theorem grpK_zero (P:Nat→Bool)(K:Nat→List UInt8)(s:List UInt8):grpK 0 P K s=[]:=rfl
theorem grpK_succ (n:Nat)(P:Nat→Bool)(K:Nat→List UInt8)(s:List UInt8):grpK (n+1) P K s=grpK n P K s++(if P n&&decide (K n=s) then [n] else []):=filt_succ n _
theorem grpK_mem {n:Nat}{P:Nat→Bool}{K:Nat→List UInt8}{s:List UInt8}{i:Nat}:i∈grpK n P K s ↔ i<n∧P i=true∧K i=s:=by
 unfold grpK
 rw [List.mem_filter,List.mem_range,Bool.and_eq_true,decide_eq_true_eq]
theorem grpK_ne {n:Nat}{P:Nat→Bool}{K:Nat→List UInt8}{s:List UInt8}:grpK n P K s≠[] ↔ ∃ j,j<n∧P j=true∧K j=s:=by
 rw [List.ne_nil_iff_length_pos,List.length_pos_iff_exists_mem]
 exact ⟨fun ⟨j,h⟩=>⟨j,grpK_mem.1 h⟩,fun ⟨j,h⟩=>⟨j,grpK_mem.2 h⟩⟩
def zI (l:List Nat):List Int:=l.map fun n:Nat=>(n:Int)
theorem zI_append (a b:List Nat):zI (a++b)=zI a++zI b:=by simp [zI]
theorem zI_len (a:List Nat):(zI a).length=a.length:=by simp [zI]
section
variable {H:Type}
theorem lits_inj {a b:List Int}(h:lits (H:=H) .i64 a=lits .i64 b):a=b:=by
 unfold lits at h
 refine (List.map_inj_right (fun x y e=>?_)).1 h
 injection e with e
 injection e
structure GD (D:DataW H) (n:Nat) (P:Nat→Bool) (K:Nat→List UInt8):Prop where
 map:IsMap D
 has:∀ s,Maps.has D (.string s)=true ↔ grpK n P K s≠[]
 at_:∀ s,grpK n P K s≠[]→∀ z,D.atKey (.string s) z=.slice (lits .i64 (zI (grpK n P K s))) []
theorem GD.start (P:Nat→Bool)(K:Nat→List UInt8):GD (.map []:DataW H) 0 P K:=
 ⟨isMap_empty,fun s=>by simp [Maps.has,grpK_zero],fun s h=>absurd rfl h⟩
theorem GD.skip {D:DataW H}{n:Nat}{P:Nat→Bool}{K:Nat→List UInt8}(h:GD D n P K)(hp:P n=false):GD D (n+1) P K:=by
 have e:∀ s,grpK (n+1) P K s=grpK n P K s:=fun s=>by rw [grpK_succ,hp];simp
 exact ⟨h.map,fun s=>by rw [e];exact h.has s,fun s hs=>by rw [e] at hs ⊢;exact h.at_ s hs⟩
theorem GD.look {w:World} {base:Nat} {e:TypeId} {v:Value} {zs:List Int} {D:DataW H} {n:Nat} {P:Nat→Bool} {K:Nat→List UInt8} (h:GD D n P K) (s:List UInt8) (ho:w.ownsInts base e .i64 v zs)
  (hat:D.atKey (.string s) .nil=rowDatum .i64 v zs):zs=zI (grpK n P K s):=by
 by_cases hg:grpK n P K s=[]
 ·have hn:Maps.has D (.string s)=false:=by
   cases hh:Maps.has D (.string s) with
   | false=>rfl
   | true=>exact absurd hg ((h.has s).1 hh)
  rw [atKey_of_not_has hn] at hat
  rw [hg]
  rcases ho.datum (H:=H) with ⟨_,h1⟩ | h1
  ·exact h1
  ·rw [h1] at hat;cases hat
 ·rw [h.at_ s hg] at hat
  rcases ho.datum (H:=H) with ⟨h1,_⟩ | h1
  ·rw [h1] at hat;cases hat
  ·rw [h1] at hat
   injection hat with hat _
   exact (lits_inj hat).symm
theorem GD.step {zs:List Int}{D:DataW H}{n:Nat}{P:Nat→Bool}{K:Nat→List UInt8}(h:GD D n P K)(hp:P n=true)(hz:zs=zI (grpK n P K (K n))):GD (D.put (.string (K n)) (.slice (lits .i64 (zs++[(n:Int)])) [])) (n+1) P K:=by
 have e1:grpK (n+1) P K (K n)=grpK n P K (K n)++[n]:=by rw [grpK_succ,hp];simp
 have e2:∀ s,s≠K n→grpK (n+1) P K s=grpK n P K s:=fun s hs=>by rw [grpK_succ,hp,decide_eq_false (fun e=>hs e.symm)];simp
 have hlit:∀ s,s≠K n→(Lit.string s)≠.string (K n):=fun s hs e=>hs (by injection e)
 refine ⟨h.map.put _ _,fun s=>?_,fun s hs z=>?_⟩
 ·by_cases hk:s=K n
  ·subst hk
   rw [has_put_same h.map (by trivial),e1]
   simp
  ·rw [has_put_other (hlit s hk),e2 s hk]
   exact h.has s
 ·by_cases hk:s=K n
  ·subst hk
   rw [atKey_put_same h.map (by trivial),e1,hz,zI_append]
   rfl
  ·rw [atKey_put_other (hlit s hk),e2 s hk]
   rw [e2 s hk] at hs
   exact h.at_ s hs z
end
def keyF (ad:Bool)(f:Fct):List UInt8:=if ad then keyA f.fk f.fb else keyN f.cp f.cr
theorem keyF_inj {ad:Bool}{f g:Fct}:keyF ad f=keyF ad g ↔ who ad f=who ad g:=by
 unfold keyF who
 cases ad with
 | true=>
  simp only [if_pos]
  constructor
  ·intro h;obtain ⟨h1,h2⟩:=keyA_inj h;rw [h1,h2]
  ·intro h;injection h with h1 h2;rw [h1,h2]
 | false=>
  simp only [Bool.false_eq_true,if_false]
  constructor
  ·intro h;obtain ⟨h1,h2⟩:=keyN_inj h;rw [h1,h2]
  ·intro h;injection h with h1 h2;rw [h1,h2]
theorem grpK_F {l:List Fct}{ad:Bool}{i:Nat}:grpK l.length (fun j=>failB (atF l j)) (fun j=>keyF ad (atF l j)) (keyF ad (atF l i))=grpF l ad (who ad (atF l i)):=by
 unfold grpK grpF
 congr 1
 funext j
 rw [decide_eq_decide.2 keyF_inj]
theorem grpK_A {l:List Fct}{i:Nat}:grpK l.length (fun j=>wantB (atF l j)) (fun j=>keyF false (atF l j)) (keyF false (atF l i))=grpA l (who false (atF l i)):=by
 unfold grpK grpA
 congr 1
 funext j
 rw [decide_eq_decide.2 keyF_inj]
end Go.Proofs.YtnjmndofcpnmeaaGreatDoor
namespace Go.Proofs.YtnjmndofcpnmeaaGreatDoor
open Go Go.RowKit
set_option linter.unusedVariables false
structure Ek (α:Type) where
 k:Nat
 kp:0<k
 cs:α→List Value
 len:∀ x,(cs x).length=k
 one:∀ x,∀ u∈cs x,u.oneCell'=true
 no8:∀ x,∀ u∈cs x,∀ n,u≠.int .u8 n
 In:World→α→Prop
 Blk:α→Nat→Prop
 blt:∀ w x b,In w x→Blk x b→b<w.heap.size
 keep:∀ w w' x row,In w x→w.grownBy w' row→(∀ b,row=some b→NoU8 w b∧¬ Blk x b)→In w' x
section
variable {α:Type} (E:Ek α)
theorem Ek.ext {w w':World}{x:α}(h:E.In w x)(hx:Ext w w'):E.In w' x:=E.keep w w' x none h (hx.but none) (fun b e=>by cases e)
def Ek.all (xs:List α):List Value:=xs.flatMap E.cs
theorem Ek.all_len:∀ xs:List α,(E.all xs).length=xs.length*E.k
 | []=>by simp [Ek.all]
 | x::xs=>by
  have h:=Ek.all_len xs
  unfold Ek.all at h ⊢
  rw [List.flatMap_cons,List.length_append,E.len,h,List.length_cons,Nat.succ_mul,Nat.add_comm]
theorem Ek.all_append (xs ys:List α):E.all (xs++ys)=E.all xs++E.all ys:=by simp [Ek.all]
theorem Ek.all_one (x:α):E.all [x]=E.cs x:=by simp [Ek.all]
theorem Ek.all_get:∀ (xs:List α) (i j:Nat) (h:i<xs.length),j<E.k→(E.all xs)[i*E.k+j]? = (E.cs xs[i])[j]?
 | [],i,j,h,_=>by simp at h
 | x::xs,0,j,h,hj=>by
  unfold Ek.all
  rw [List.flatMap_cons,Nat.zero_mul,Nat.zero_add,List.getElem?_append_left (by rw [E.len];exact hj)]
  rfl
 | x::xs,i+1,j,h,hj=>by
  have hh:=Ek.all_get xs i j (by simpa using h) hj
  unfold Ek.all at hh ⊢
  rw [List.flatMap_cons,List.getElem?_append_right (by rw [E.len,Nat.succ_mul];omega),E.len,show (i+1)*E.k+j-E.k=i*E.k+j by rw [Nat.succ_mul];omega]
  exact hh
def ROW (e:TypeId)(w:World)(B:Nat)(v:Value)(xs:List α):Prop:=
 (∀ r,v.ownBlock=some r→NoU8 w r)∧w.ownsRow B e E.k v xs.length (E.all xs)∧∀ x∈xs,E.In w x∧∀ b,v.ownBlock=some b→¬ E.Blk x b
variable {E} {e:TypeId} {w w':World} {B:Nat} {v:Value} {xs ys:List α}
theorem ROW.nil (e:TypeId)(w:World)(B:Nat):ROW E e w B (.slice none 0 0) []:=⟨fun r h=>by simp [Value.ownBlock] at h,World.ownsRow_nil _ _ _ _,fun x h=>by cases h⟩
theorem ROW.lt (h:ROW E e w B v xs):∀ b,v.ownBlock=some b→B≤b∧b<w.heap.size:=World.ownsRow.lt h.2.1
theorem ROW.shape (h:ROW E e w B v xs):∃ A c,v=.slice A xs.length c:=by
 rcases h.2.1.2 with ⟨rfl,h0⟩ | ⟨g,cap,cur,rfl,_⟩
 ·exact ⟨none,0,by rw [h0]⟩
 ·exact ⟨_,cap,rfl⟩
theorem ROW.keep (h:ROW E e w B v xs){row:Option Nat}(hg:w.grownBy w' row)(hne:∀ b,row=some b→v.ownBlock≠some b∧NoU8 w b∧∀ x∈xs,¬ E.Blk x b):ROW E e w' B v xs:=by
 obtain ⟨h0,h1,h2⟩:=h
 refine ⟨fun r hr=>(h0 r hr).same (hg.block r (World.ownsRow.lt h1 r hr).2 (fun e'=>(hne r e'.symm).1 hr)),h1.kept hg ?_,fun x hx=>⟨E.keep w w' x row (h2 x hx).1 hg (fun b hb=>⟨(hne b hb).2.1,(hne b hb).2.2 x hx⟩),(h2 x hx).2⟩⟩
 cases hv:v.ownBlock with
 | none=>exact .inl rfl
 | some r=>exact .inr (fun e'=>(hne r e'.symm).1 hv)
theorem ROW.ext (h:ROW E e w B v xs)(hx:Ext w w'):ROW E e w' B v xs:=h.keep (hx.but none) (fun b e=>by cases e)
theorem ROW.down {B':Nat}(h:ROW E e w B v xs)(hB:B'≤B):ROW E e w B' v xs:=by
 obtain ⟨h0,⟨h1,h2⟩,h3⟩:=h
 refine ⟨h0,⟨h1,?_⟩,h3⟩
 rcases h2 with h | ⟨g,cap,cur,e1,e2,r⟩
 ·exact .inl h
 ·exact .inr ⟨g,cap,cur,e1,Nat.le_trans hB e2,r⟩
theorem ROW.cells (h:ROW E e w B v xs):∃ A c,v=.slice A xs.length c∧xs.length≤c∧c≤maxLen∧∀ i (hi:i<xs.length),E.In w xs[i]∧∃ ad,A=some ad∧∀ j u,(E.cs xs[i])[j]? = some u→w.cell? (ad.add (i*E.k+j))=some u:=by
 obtain ⟨_,h1,h2⟩:=h
 rcases h1.2 with ⟨rfl,h0⟩ | ⟨g,cap,cur,rfl,hb,hg,hnc,hcm,_⟩
 ·exact ⟨none,0,by rw [h0],by omega,by unfold maxLen;omega,fun i hi=>by omega⟩
 ·refine ⟨some ⟨g,0,none⟩,cap,rfl,hnc,hcm,fun i hi=>⟨(h2 _ (List.getElem_mem hi)).1,_,rfl,fun j u hu=>?_⟩⟩
  have hj:j<E.k:=by rw [← E.len xs[i]];exact (List.getElem?_eq_some_iff.1 hu).1
  exact h1.cells rfl _ _ (by rw [E.all_get xs i j hi hj];exact hu)
end
section
variable {α:Type} {E:Ek α} {P:Program}
theorem run_append_row (w:World) (base:Nat) (t ty e:TypeId) (i:TypeInfo) (z:Value) (bytes:Nat) (ht:P.underlying t=some (.slice e)) (hi:P.info? e=some i) (hz:i.zero=some z)
  (hsize:i.size=E.k) (hby:i.bytes=bytes) (hzs:z.cells.size=E.k) (hzn:∀ x∈z.cells.toList,∀ n,x≠.int .u8 n)
  (v:Value) (xs:List α) (hown:ROW E e w base v xs) (ad:Addr) (c:Nat) (ys:List α) (hy0:0<ys.length) (hnews:∀ j u,(E.all ys)[j]? = some u→w.cell? (ad.add j)=some u)
  (hys:∀ y∈ys,E.In w y∧∀ b,v.ownBlock=some b→¬ E.Blk y b)
  (hbytes:(xs.length+ys.length)*bytes≤140737488355328) (hby0:0<bytes) (hbase:base≤w.heap.size):
  ∃ v' w',(Builtin.append_ #[t,t] ty #[v,.slice (some ad) ys.length c]).run P w=.ok v' w'∧ROW E e w' base v' (xs++ys)∧w.grownBy w' v.ownBlock∧(v'.ownBlock=v.ownBlock∨v'.ownBlock=some w.heap.size):=by
 obtain ⟨h0,h1,h2⟩:=hown
 have h63:xs.length+ys.length≤maxLen:=by
  have:xs.length+ys.length≤(xs.length+ys.length)*bytes:=Nat.le_mul_of_pos_right _ hby0
  unfold maxLen;omega
 have hone:∀ u∈E.all ys,u.oneCell'=true:=by
  intro u hu
  unfold Ek.all at hu
  obtain ⟨y,_,hu⟩:=List.mem_flatMap.1 hu
  exact E.one y u hu
 have hno8:∀ u∈E.all ys,∀ n,u≠.int .u8 n:=by
  intro u hu
  unfold Ek.all at hu
  obtain ⟨y,_,hu⟩:=List.mem_flatMap.1 hu
  exact E.no8 y u hu
 obtain ⟨v',w',hrun,g1,g2,_,g3⟩:=run_append_own_at (P:=P) w base t ty e i z E.k bytes ht hi hz hsize hby hzs E.kp v xs.length (E.all xs) h1 ad ys.length c (E.all ys) (E.all_len ys) hnews hone h63 hbytes hbase
 have g4:=append_noU8 (P:=P) w base t ty e i z E.k bytes ht hi hz hsize hby hzs E.kp v xs.length (E.all xs) h1 ad ys.length c (E.all ys) (E.all_len ys) hnews hone hy0 h63 hbytes h0 hzn hno8 v' w' hrun
 have key:∀ x,(E.In w x∧∀ b,v.ownBlock=some b→¬ E.Blk x b)→E.In w' x∧∀ b,v'.ownBlock=some b→¬ E.Blk x b:=by
  rintro x ⟨k1,k2⟩
  refine ⟨E.keep w w' x v.ownBlock k1 g2 (fun b hb=>⟨h0 b hb,k2 b hb⟩),fun b hb hB=>?_⟩
  rcases g3 with g | g
  ·exact k2 b (g ▸ hb) hB
  ·rw [g] at hb
   injection hb with hb
   have:=E.blt w x b k1 hB
   omega
 refine ⟨v',w',hrun,⟨g4,?_,fun x hx=>?_⟩,g2,g3⟩
 ·rw [E.all_append,List.length_append];exact g1
 ·rcases List.mem_append.1 hx with hx | hx
  ·exact key x (h2 x hx)
  ·exact key x (hys x hx)
theorem wpList_append_row (w:World) {ops:Array Oper} {rest:List Oper} {o:Oper} {a:Act} {Q:Exit→Act→World→Prop} (hgd:o.guard=none) (s x:Operand) (t:TypeId)
  (ho:o.op=.call { callee:=.builtin .append,args:=#[s,x],argTypes:=#[t,t] })
  (base:Nat) (e:TypeId) (i:TypeInfo) (z:Value) (bytes:Nat) (ht:P.underlying t=some (.slice e)) (hi:P.info? e=some i) (hz:i.zero=some z)
  (hsize:i.size=E.k) (hby:i.bytes=bytes) (hzs:z.cells.size=E.k) (hzn:∀ x∈z.cells.toList,∀ n,x≠.int .u8 n)
  (v:Value) (xs:List α) (hs:a.eval s=v) (hown:ROW E e w base v xs) (ad:Addr) (c:Nat) (ys:List α) (hx:a.eval x=.slice (some ad) ys.length c) (hy0:0<ys.length) (hnews:∀ j u,(E.all ys)[j]? = some u→w.cell? (ad.add j)=some u)
  (hys:∀ y∈ys,E.In w y∧∀ b,v.ownBlock=some b→¬ E.Blk y b)
  (hbytes:(xs.length+ys.length)*bytes≤140737488355328) (hby0:0<bytes) (hbase:base≤w.heap.size)
  (h:∀ v' w',ROW E e w' base v' (xs++ys)→w.grownBy w' v.ownBlock→(v'.ownBlock=v.ownBlock∨v'.ownBlock=some w.heap.size)→wpList P ops Q rest (a.put o.dst v') w'):wpList P ops Q (o::rest) a w:=by
 refine wpList_plain hgd fun K hK=>?_
 obtain ⟨v',w',hrun,h2,h3,h4⟩:=run_append_row (P:=P) w base t o.type e i z bytes ht hi hz hsize hby hzs hzn v xs hown ad c ys hy0 hnews hys hbytes hby0 hbase
 unfold Oper.wp execOp
 simp only [ho,resolve,invoke,builtin,Sem.run_bind,Sem.run_pure,Result.andThen_ok,List.map_toArray,List.map_cons,List.map_nil,hs,hx,hrun]
 exact hK _ _ (h v' w' h2 h3 h4)
theorem wpListIn_append_row {F:Fence} {n:Nat} (w:World) {ops:Array Oper} {rest:List Oper} {o:Oper} {a:Act} {Q:Exit→Act→World→Prop} (hgd:o.guard=none) (s x:Operand) (t:TypeId)
  (ho:o.op=.call { callee:=.builtin .append,args:=#[s,x],argTypes:=#[t,t] })
  (base:Nat) (e:TypeId) (i:TypeInfo) (z:Value) (bytes:Nat) (ht:P.underlying t=some (.slice e)) (hi:P.info? e=some i) (hz:i.zero=some z)
  (hsize:i.size=E.k) (hby:i.bytes=bytes) (hzs:z.cells.size=E.k) (hzn:∀ x∈z.cells.toList,∀ n,x≠.int .u8 n)
  (v:Value) (xs:List α) (hs:a.eval s=v) (hown:ROW E e w base v xs) (ad:Addr) (c:Nat) (ys:List α) (hx:a.eval x=.slice (some ad) ys.length c) (hy0:0<ys.length) (hnews:∀ j u,(E.all ys)[j]? = some u→w.cell? (ad.add j)=some u)
  (hys:∀ y∈ys,E.In w y∧∀ b,v.ownBlock=some b→¬ E.Blk y b)
  (hbytes:(xs.length+ys.length)*bytes≤140737488355328) (hby0:0<bytes) (hbase:base≤w.heap.size)
  (h:∀ v' w',ROW E e w' base v' (xs++ys)→w.grownBy w' v.ownBlock→(v'.ownBlock=v.ownBlock∨v'.ownBlock=some w.heap.size)→wpListIn F n P ops Q rest (a.put o.dst v') w'):wpListIn F n P ops Q (o::rest) a w:=by
 refine wpListIn_plain hgd fun K hK=>?_
 obtain ⟨v',w',hrun,h2,h3,h4⟩:=run_append_row (P:=P) w base t o.type e i z bytes ht hi hz hsize hby hzs hzn v xs hown ad c ys hy0 hnews hys hbytes hby0 hbase
 unfold Oper.wpIn
 refine ⟨?_,?_⟩
 ·simp [Oper.about,ho,resolve,Target.leads,Sem.run_pure]
 ·rw [Oper.semAt_plain F _ _ (by rw [ho];intro c hc';cases hc')]
  simp [execOp,ho,resolve,invoke,builtin,hs,hx,hrun,Result.andThen]
  exact hK _ _ (h v' w' h2 h3 h4)
end
theorem ROW.keepsOthers {α:Type}{E:Ek α}{e:TypeId}{w W':World}{B:Nat}{v:Value}{xs:List α}(h:ROW E e w B v xs)(hg:w.grownBy W' v.ownBlock):KeepsOthers w W':=
 KeepsOthers.of_grownBy hg (fun j o hj ho=>by
  rcases h.2.1.2 with ⟨rfl,_⟩ | ⟨g,cap,cur,rfl,hb,hgg,_⟩
  ·simp [Value.ownBlock] at hj
  ·have:g=j:=Option.some.inj hj
   subst this
   rw [hgg] at ho;injection ho with ho;subst ho;rfl)
theorem Stab.row {α:Type}{E:Ek α}{B:Nat}(e:TypeId)(b0:Nat)(v:Value)(xs:List α)(hB:∀ w l x,NC w l→E.In w x→¬ E.Blk x l):Stab B (fun W=>ROW E e W b0 v xs):=fun W W' l _ hn hg h=>
 h.keep hg (fun b hb=>by
  injection hb with hb
  subst hb
  refine ⟨fun hv=>?_,hn.noU8,fun x hx=>hB W l x hn (h.2.2 x hx).1⟩
  rcases h.2.1.2 with ⟨rfl,_⟩ | ⟨g,cap,cur,rfl,hb,hgg,_⟩
  ·simp [Value.ownBlock] at hv
  ·have:g=l:=Option.some.inj hv
   subst this
   exact hn _ _ _ hgg)
end Go.Proofs.YtnjmndofcpnmeaaGreatDoor
namespace Go.Proofs.YtnjmndofcpnmeaaGreatDoor
open Go Go.Lib
set_option linter.unusedVariables false
noncomputable def prsF (l:List UInt8):Option Fct:=open Classical in if h:∃ f:Fct,f.Ok∧f.txt=l then some h.choose else none
theorem prsF_spec (l:List UInt8):PrsS l (prsF l):=by
 unfold prsF
 split
 ·next h=>exact .inl ⟨_,rfl,h.choose_spec⟩
 ·next h=>exact .inr ⟨rfl,fun f hf e=>h ⟨f,hf,e⟩⟩
theorem prsF_txt {f:Fct}(h:f.Ok):prsF f.txt=some f:=(prsF_spec f.txt).uniq (.inl ⟨f,rfl,h,rfl⟩)
noncomputable def plogF:List (List UInt8)→List Fct→List Fct × Nat × Int
 | [],acc=>(acc,0,0)
 | [x],acc=>if x=[] then (acc,0,0) else ([],acc.length+1,6)
 | x::y::r,acc=>match prsF x with
  | none=>([],acc.length+1,6)
  | some f=>plogF (y::r) (acc++[f])
theorem plog_one (x:List UInt8)(acc:List Fct):plogF [x] acc=if x=[] then (acc,0,0) else ([],acc.length+1,6):=by rw [plogF]
theorem plog_none {x y:List UInt8}{r:List (List UInt8)}{acc:List Fct}(h:prsF x=none):plogF (x::y::r) acc=([],acc.length+1,6):=by rw [plogF,h]
theorem plog_some {x y:List UInt8}{r:List (List UInt8)}{acc:List Fct}{f:Fct}(h:prsF x=some f):plogF (x::y::r) acc=plogF (y::r) (acc++[f]):=by rw [plogF,h]
theorem splb_ne (x:UInt8):∀ (s acc:List UInt8),splb x acc s≠[]
 | [],acc=>by rw [splb];simp
 | c::r,acc=>by
  rw [splb]
  split
  ·simp
  ·exact splb_ne x r _
def lnP:List (List UInt8)→List (List UInt8 × Bool)
 | []=>[]
 | [x]=>if x=[] then [] else [(x,false)]
 | x::y::r=>(x,true)::lnP (y::r)
def lnF (l:List UInt8):List (List UInt8 × Bool):=lnP (splb 10 [] l)
theorem lnF_nil:lnF []=[]:=rfl
theorem lnP_two {x:List UInt8}{ls:List (List UInt8)}(h:ls≠[]):lnP (x::ls)=(x,true)::lnP ls:=by
 cases ls with
 | nil=>exact absurd rfl h
 | cons y r=>rfl
theorem lnF_cut {l:List UInt8}(h:l≠[]):lnF l=((cut l [10]).1,(cut l [10]).2.2)::lnF (cut l [10]).2.1∧(cut l [10]).2.1.length<l.length:=by
 unfold lnF
 by_cases hx:(10:UInt8)∈l
 ·obtain ⟨a,b,rfl,ha⟩:=List.eq_append_cons_of_mem hx
  have hi:=index_hit 10 a b ha
  have hc:cut (a++10::b) [10]=(a,b,true):=by
   unfold cut
   rw [hi,if_pos (by omega),show ((a.length:Int)).toNat=a.length from rfl]
   simp
  rw [hc,splb_hit 10 a [] b (fun c hc e=>ha (e ▸ hc)),lnP_two (splb_ne 10 b []),List.nil_append]
  exact ⟨rfl,by simp;omega⟩
 ·have hi:=index_miss 10 l hx
  have hc:cut l [10]=(l,[],false):=by
   unfold cut
   rw [hi,if_neg (by decide)]
  rw [hc,splb_acc 10 l [] (fun c hc e=>hx (e ▸ hc)),List.nil_append]
  refine ⟨?_,List.length_pos_iff.2 h⟩
  show (if l=[] then [] else [(l,false)])=_
  rw [if_neg h]
  rfl
noncomputable def plogN:List (List UInt8 × Bool)→List Fct→List Fct × Nat × Int
 | [],acc=>(acc,0,0)
 | (x,e)::r,acc=>match prsF x with
  | none=>([],acc.length+1,6)
  | some f=>if e then plogN r (acc++[f]) else ([],acc.length+1,6)
theorem plogN_P:∀ (ls:List (List UInt8)) (acc:List Fct),plogN (lnP ls) acc=plogF ls acc
 | [],acc=>rfl
 | [x],acc=>by
  rw [plog_one]
  show plogN (if x=[] then [] else [(x,false)]) acc=_
  split
  ·rfl
  ·rw [plogN]
   cases prsF x<;>rfl
 | x::y::r,acc=>by
  show plogN ((x,true)::lnP (y::r)) acc=_
  rw [plogN]
  cases hp:prsF x with
  | none=>rw [plog_none hp]
  | some f=>rw [plog_some hp];exact plogN_P (y::r) _
theorem plogN_pre:∀ (fs:List Fct) (rest:List (List UInt8 × Bool)) (acc:List Fct),(∀ f∈fs,f.Ok)→plogN (fs.map (fun f=>(f.txt,true))++rest) acc=plogN rest (acc++fs)
 | [],rest,acc,_=>by simp
 | f::fs,rest,acc,h=>by
  rw [List.map_cons,List.cons_append,plogN,prsF_txt (h f (by simp))]
  show (if true=true then _ else _)=_
  rw [if_pos rfl,plogN_pre fs rest (acc++[f]) (fun g hg=>h g (List.mem_cons_of_mem _ hg))]
  simp
theorem plog_all {l:List UInt8}{fs:List Fct}(h:∀ f∈fs,f.Ok)(e:lnF l=fs.map (fun f=>(f.txt,true))):plogF (splb 10 [] l) []=(fs,0,0):=by
 rw [← plogN_P]
 show plogN (lnF l) []=_
 have:=plogN_pre fs [] [] h
 rw [List.append_nil] at this
 rw [e,this]
 rfl
theorem plog_bad {l:List UInt8}{fs:List Fct}{x:List UInt8}{b:Bool}{rest:List (List UInt8 × Bool)}(h:∀ f∈fs,f.Ok)(e:lnF l=fs.map (fun f=>(f.txt,true))++(x,b)::rest)(hb:prsF x=none∨b=false):plogF (splb 10 [] l) []=([],fs.length+1,6):=by
 rw [← plogN_P]
 show plogN (lnF l) []=_
 rw [e,plogN_pre fs _ [] h,plogN,List.nil_append]
 rcases hb with hb | rfl
 ·rw [hb]
 ·cases prsF x<;>rfl
end Go.Proofs.YtnjmndofcpnmeaaGreatDoor
