/- Pa20. -/
import Derived.Test.YtnjmndofcpnmeaaGreatDoorPa19
import Derived.Test.YtnjmndofcpnmeaaGreatDoorPa1
import Derived.Test.YtnjmndofcpnmeaaGreatDoorPa4
import Derived.Test.YtnjmndofcpnmeaaGreatDoorPa5
namespace Go.Proofs.YtnjmndofcpnmeaaGreatDoor
open Go Go.RowKit Go.Shelf
set_option linter.unusedVariables false
end Go.Proofs.YtnjmndofcpnmeaaGreatDoor
namespace Go.Proofs.YtnjmndofcpnmeaaGreatDoor
open Go Go.RowKit
set_option linter.unusedVariables false
theorem cell_addj (w:World)(a:Addr)(n j:Nat)(hj:0<j):w.cell? ⟨(a.add n).block,(a.add n).off+j,none⟩=w.cell? (a.add (n+j)):=by
 rw [← add_of_add]
 conv=>rhs;unfold Addr.add
 rw [if_neg (by omega)]
 rfl
theorem FS.at_ {w:World}{A:Option Addr}{n c:Nat}{xs:List FV}(h:FS w (.slice A n c) xs)(k:Nat)(hk:k<xs.length):xs[k].In w∧∃ ad,A=some ad∧w.cell? (ad.add (k*12))=some (.int .i64 xs[k].t)∧w.cell? ⟨(ad.add (k*12)).block,(ad.add (k*12)).off+1,none⟩=some (.int .i64 xs[k].mi)∧w.cell? ⟨(ad.add (k*12)).block,(ad.add (k*12)).off+2,none⟩=some (.int .i64 xs[k].kd)∧w.cell? ⟨(ad.add (k*12)).block,(ad.add (k*12)).off+3,none⟩=some (.int .i64 xs[k].fk)∧w.cell? ⟨(ad.add (k*12)).block,(ad.add (k*12)).off+4,none⟩=some (.slice xs[k].FA xs[k].fb.length xs[k].fc)∧w.cell? ⟨(ad.add (k*12)).block,(ad.add (k*12)).off+5,none⟩=some (.slice xs[k].CA xs[k].cp.length xs[k].cc)∧w.cell? ⟨(ad.add (k*12)).block,(ad.add (k*12)).off+6,none⟩=some (.string xs[k].cr)∧w.cell? ⟨(ad.add (k*12)).block,(ad.add (k*12)).off+7,none⟩=some (.slice xs[k].SA xs[k].sp.length xs[k].sc)∧w.cell? ⟨(ad.add (k*12)).block,(ad.add (k*12)).off+8,none⟩=some (.string xs[k].sr)∧w.cell? ⟨(ad.add (k*12)).block,(ad.add (k*12)).off+9,none⟩=some (.int .i64 xs[k].co)∧w.cell? ⟨(ad.add (k*12)).block,(ad.add (k*12)).off+10,none⟩=some (.int .i64 xs[k].pr)∧w.cell? ⟨(ad.add (k*12)).block,(ad.add (k*12)).off+11,none⟩=some (.int .u32 (xs[k].fl.toNat:Int)):=by
 obtain ⟨A',c',he,_,_,h4⟩:=h
 injection he with e1 e2 e3
 subst e1
 obtain ⟨k1,ad,rfl,k3⟩:=h4 k hk
 refine ⟨k1,ad,rfl,?_,?_,?_,?_,?_,?_,?_,?_,?_,?_,?_,?_⟩
 ·exact k3 0 _ rfl
 ·rw [cell_addj w ad (k*12) 1 (by decide)];exact k3 1 _ rfl
 ·rw [cell_addj w ad (k*12) 2 (by decide)];exact k3 2 _ rfl
 ·rw [cell_addj w ad (k*12) 3 (by decide)];exact k3 3 _ rfl
 ·rw [cell_addj w ad (k*12) 4 (by decide)];exact k3 4 _ rfl
 ·rw [cell_addj w ad (k*12) 5 (by decide)];exact k3 5 _ rfl
 ·rw [cell_addj w ad (k*12) 6 (by decide)];exact k3 6 _ rfl
 ·rw [cell_addj w ad (k*12) 7 (by decide)];exact k3 7 _ rfl
 ·rw [cell_addj w ad (k*12) 8 (by decide)];exact k3 8 _ rfl
 ·rw [cell_addj w ad (k*12) 9 (by decide)];exact k3 9 _ rfl
 ·rw [cell_addj w ad (k*12) 10 (by decide)];exact k3 10 _ rfl
 ·rw [cell_addj w ad (k*12) 11 (by decide)];exact k3 11 _ rfl
theorem FS.shape {w:World}{v:Value}{xs:List FV}(h:FS w v xs):∃ A c,v=.slice A xs.length c∧xs.length≤c∧c≤maxLen:=let ⟨A,c,h1,h2,h3,_⟩:=h;⟨A,c,h1,h2,h3⟩
def logR (fs:List Fct)(b:Bool):Value:=.tuple #[.string ⟨(bif b then logT fs else []).toArray⟩,.int .i64 (bif b then 0 else 2)]
theorem log_len (fs:List Fct)(h:∀ f∈fs,f.Ok):(logT fs).length≤1201*fs.length:=by
 induction fs with
 | nil=>exact Nat.zero_le _
 | cons f fs ih=>
  have h1:=ih (fun g hg=>h g (List.mem_cons_of_mem _ hg))
  have h2:=txt_len (h f (by simp))
  rw [logT_cons,List.length_append,List.length_cons,List.length_cons]
  omega
end Go.Proofs.YtnjmndofcpnmeaaGreatDoor
namespace Go.Proofs.YtnjmndofcpnmeaaGreatDoor
open Go Go.RowKit Go.WideShapes Go.ChangeShapes Go.ChangeAt Go.Deep
set_option linter.unusedVariables false
theorem i64_of_wf {a:Int}(h:(Lit.int .i64 a).wf=true):i64B a:=by
 simp only [Lit.wf,IntKind.min,IntKind.max,IntKind.signed,IntKind.bits,Bool.and_eq_true] at h
 unfold i64B
 simp at h
 omega
theorem u32_of_wf {a:Int}(h:(Lit.int .u32 a).wf=true):0≤a∧a≤4294967295:=by
 simp only [Lit.wf,IntKind.min,IntKind.max,IntKind.signed,IntKind.bits,Bool.and_eq_true] at h
 simp at h
 omega
theorem rs_of_field {H:Type} {enc:TypeId × Value→H} {P:Program} {ts te:TypeId} (hts:P.underlying ts=some (.slice te)) (hte:P.underlying te=some .string) (hce:P.cellsOf te=1) {W:World} {v:Value} {n:Nat} {y:DataW H × List MemPlace}
  (hf:DataW.trod enc P W 0 (fun _=>true) true n ts [v]=some y):∃ (A:Option Addr) (c:Nat) (ps:List ByteArray),v=.slice A ps.length c∧RS W (.slice A ps.length c) (sv ps):=by
 rcases Go.Deep.open_strs hts hte hce hf with ⟨hcs,_⟩ | ⟨a,len,cap,m,Sx,hcs,_,hl,hm,hmm,_,hcell⟩
 ·simp only [List.cons.injEq,and_true] at hcs
  subst hcs
  exact ⟨none,0,[],rfl,RS.nil W⟩
 ·simp only [List.cons.injEq,and_true] at hcs
  subst hcs
  simp only [if_true] at hmm
  have hlen:((List.range len).map Sx).length=len:=by simp
  refine ⟨some a,cap,(List.range len).map Sx,by rw [hlen],?_⟩
  rw [hlen]
  refine ⟨some a,cap,by rw [sv_length,hlen],by rw [sv_length,hlen];exact hl,hm,fun hp=>⟨a,rfl,?_,fun j u hu=>?_⟩⟩
  ·rw [sv_length,hlen] at hp
   have:=World.block_lt_of_cell? W (a.add 0) (hcell 0 (by omega)).1
   rwa [block_of_add] at this
  ·have hj:j<len:=by
    have:=(List.getElem?_eq_some_iff.1 hu).1
    rwa [sv_length,hlen] at this
   rw [(hcell j (by omega)).1]
   rw [sv_get _ j (by rw [hlen];exact hj)] at hu
   rw [← hu]
   simp
theorem cells_int:Tryz.prog.cellsOf 3=1:=by kernel_rfl
theorem cells_kind:Tryz.prog.cellsOf 31=1:=by kernel_rfl
theorem cells_adr:Tryz.prog.cellsOf 34=2:=by kernel_rfl
theorem cells_prin:Tryz.prog.cellsOf 37=2:=by kernel_rfl
theorem cells_flags:Tryz.prog.cellsOf 39=1:=by kernel_rfl
theorem cells_fact:Tryz.prog.cellsOf 41=12:=by kernel_rfl
theorem cells_bs:Tryz.prog.cellsOf 32=1:=by kernel_rfl
theorem cells_ss:Tryz.prog.cellsOf 35=1:=by kernel_rfl
theorem cells_str:Tryz.prog.cellsOf 9=1:=by kernel_rfl
section
variable {H:Type} {enc:TypeId × Value→H} {W:World} {n:Nat}
theorem adr_of_cs {a b:Value}{x:DataW H × List MemPlace}(h:DataW.trod enc Tryz.prog W 0 (fun _=>true) true n 34 [a,b]=some x):∃ (k:Int) (A:Option Addr) (c:Nat) (l:List UInt8),a=.int .i64 k∧b=.slice A l.length c∧BS W (.slice A l.length c) l∧i64B k:=by
 obtain ⟨xs,m,_,_,hl,hlen,hf⟩:=DataW.trod_struct Tryz.underlying34 h
 match xs,hlen with
 | [y0,y1],_=>
  have k0:DataW.trod enc Tryz.prog W 0 (fun _=>true) true m 3 (([a,b].drop 0).take (Tryz.prog.cellsOf 3))=some y0:=hf 0 _ rfl
  have k1:DataW.trod enc Tryz.prog W 0 (fun _=>true) true m 32 (([a,b].drop 1).take (Tryz.prog.cellsOf 32))=some y1:=hf 1 _ rfl
  rw [cells_int] at k0
  rw [cells_bs] at k1
  obtain ⟨k,e0,_,w0⟩:=DataW.trod_int Tryz.underlying3 (show DataW.trod enc Tryz.prog W 0 (fun _=>true) true m 3 [a]=some y0 from k0)
  obtain ⟨A,c,l,e1,hl⟩:=bs_of_field Tryz.underlying32 Tryz.underlying5 (by kernel_rfl) (show DataW.trod enc Tryz.prog W 0 (fun _=>true) true m 32 [b]=some y1 from k1)
  simp only [List.cons.injEq,and_true] at e0
  exact ⟨k,A,c,l,e0,e1,hl,i64_of_wf w0⟩
theorem prin_of_cs {a b:Value}{x:DataW H × List MemPlace}(h:DataW.trod enc Tryz.prog W 0 (fun _=>true) true n 37 [a,b]=some x):∃ (A:Option Addr) (c:Nat) (ps:List ByteArray) (r:ByteArray),a=.slice A ps.length c∧b=.string r∧RS W (.slice A ps.length c) (sv ps):=by
 obtain ⟨xs,m,_,_,hl,hlen,hf⟩:=DataW.trod_struct Tryz.underlying37 h
 match xs,hlen with
 | [y0,y1],_=>
  have k0:DataW.trod enc Tryz.prog W 0 (fun _=>true) true m 35 (([a,b].drop 0).take (Tryz.prog.cellsOf 35))=some y0:=hf 0 _ rfl
  have k1:DataW.trod enc Tryz.prog W 0 (fun _=>true) true m 9 (([a,b].drop 1).take (Tryz.prog.cellsOf 9))=some y1:=hf 1 _ rfl
  rw [cells_ss] at k0
  rw [cells_str] at k1
  obtain ⟨A,c,ps,e0,hr⟩:=rs_of_field Tryz.underlying35 Tryz.underlying9 (by kernel_rfl) (show DataW.trod enc Tryz.prog W 0 (fun _=>true) true m 35 [a]=some y0 from k0)
  obtain ⟨s,e1,_,_⟩:=DataW.trod_string Tryz.underlying9 (show DataW.trod enc Tryz.prog W 0 (fun _=>true) true m 9 [b]=some y1 from k1)
  simp only [List.cons.injEq,and_true] at e1
  exact ⟨A,c,ps,s,e0,e1,hr⟩
set_option maxRecDepth 100000 in
theorem fact_of_cs {cs:List Value}{x:DataW H × List MemPlace}(h:DataW.trod enc Tryz.prog W 0 (fun _=>true) true n 41 cs=some x):∃ f:FV,cs=f.cs∧f.In W∧f.Wf:=by
 obtain ⟨xs,m,_,_,hl,hlen,hf⟩:=DataW.trod_struct Tryz.underlying41 h
 rw [cells_fact] at hl
 match cs,hl,hf with
 | [c0,c1,c2,c3,c4,c5,c6,c7,c8,c9,c10,c11],_,hf=>
  match xs,hlen,hf with
  | [y0,y1,y2,y3,y4,y5,y6,y7,y8],_,hf=>
   have k0:DataW.trod enc Tryz.prog W 0 (fun _=>true) true m 3 (([c0,c1,c2,c3,c4,c5,c6,c7,c8,c9,c10,c11].drop 0).take (Tryz.prog.cellsOf 3))=some y0:=hf 0 _ rfl
   have k1:DataW.trod enc Tryz.prog W 0 (fun _=>true) true m 3 (([c0,c1,c2,c3,c4,c5,c6,c7,c8,c9,c10,c11].drop 1).take (Tryz.prog.cellsOf 3))=some y1:=hf 1 _ rfl
   have k2:DataW.trod enc Tryz.prog W 0 (fun _=>true) true m 31 (([c0,c1,c2,c3,c4,c5,c6,c7,c8,c9,c10,c11].drop 2).take (Tryz.prog.cellsOf 31))=some y2:=hf 2 _ rfl
   have k3:DataW.trod enc Tryz.prog W 0 (fun _=>true) true m 34 (([c0,c1,c2,c3,c4,c5,c6,c7,c8,c9,c10,c11].drop 3).take (Tryz.prog.cellsOf 34))=some y3:=hf 3 _ rfl
   have k4:DataW.trod enc Tryz.prog W 0 (fun _=>true) true m 37 (([c0,c1,c2,c3,c4,c5,c6,c7,c8,c9,c10,c11].drop 5).take (Tryz.prog.cellsOf 37))=some y4:=hf 4 _ rfl
   have k5:DataW.trod enc Tryz.prog W 0 (fun _=>true) true m 37 (([c0,c1,c2,c3,c4,c5,c6,c7,c8,c9,c10,c11].drop 7).take (Tryz.prog.cellsOf 37))=some y5:=hf 5 _ rfl
   have k6:DataW.trod enc Tryz.prog W 0 (fun _=>true) true m 3 (([c0,c1,c2,c3,c4,c5,c6,c7,c8,c9,c10,c11].drop 9).take (Tryz.prog.cellsOf 3))=some y6:=hf 6 _ rfl
   have k7:DataW.trod enc Tryz.prog W 0 (fun _=>true) true m 3 (([c0,c1,c2,c3,c4,c5,c6,c7,c8,c9,c10,c11].drop 10).take (Tryz.prog.cellsOf 3))=some y7:=hf 7 _ rfl
   have k8:DataW.trod enc Tryz.prog W 0 (fun _=>true) true m 39 (([c0,c1,c2,c3,c4,c5,c6,c7,c8,c9,c10,c11].drop 11).take (Tryz.prog.cellsOf 39))=some y8:=hf 8 _ rfl
   rw [cells_int] at k0 k1 k6 k7
   rw [cells_kind] at k2
   rw [cells_adr] at k3
   rw [cells_prin] at k4 k5
   rw [cells_flags] at k8
   obtain ⟨t,e0,_,w0⟩:=DataW.trod_int Tryz.underlying3 (show DataW.trod enc Tryz.prog W 0 (fun _=>true) true m 3 [c0]=some y0 from k0)
   obtain ⟨mi,e1,_,w1⟩:=DataW.trod_int Tryz.underlying3 (show DataW.trod enc Tryz.prog W 0 (fun _=>true) true m 3 [c1]=some y1 from k1)
   obtain ⟨kd,e2,_,w2⟩:=DataW.trod_int Tryz.underlying31 (show DataW.trod enc Tryz.prog W 0 (fun _=>true) true m 31 [c2]=some y2 from k2)
   obtain ⟨fk,FA,fc,fb,e3,e4,h3,w3⟩:=adr_of_cs (show DataW.trod enc Tryz.prog W 0 (fun _=>true) true m 34 [c3,c4]=some y3 from k3)
   obtain ⟨CA,cc,cp,cr,e5,e6,h4⟩:=prin_of_cs (show DataW.trod enc Tryz.prog W 0 (fun _=>true) true m 37 [c5,c6]=some y4 from k4)
   obtain ⟨SA,sc,sp,sr,e7,e8,h5⟩:=prin_of_cs (show DataW.trod enc Tryz.prog W 0 (fun _=>true) true m 37 [c7,c8]=some y5 from k5)
   obtain ⟨co,e9,_,w6⟩:=DataW.trod_int Tryz.underlying3 (show DataW.trod enc Tryz.prog W 0 (fun _=>true) true m 3 [c9]=some y6 from k6)
   obtain ⟨pr,e10,_,w7⟩:=DataW.trod_int Tryz.underlying3 (show DataW.trod enc Tryz.prog W 0 (fun _=>true) true m 3 [c10]=some y7 from k7)
   obtain ⟨fl,e11,_,w8⟩:=DataW.trod_int Tryz.underlying39 (show DataW.trod enc Tryz.prog W 0 (fun _=>true) true m 39 [c11]=some y8 from k8)
   obtain ⟨F,rfl⟩:=u32_of fl (u32_of_wf w8).1 (u32_of_wf w8).2
   simp only [List.cons.injEq,and_true] at e0 e1 e2 e9 e10 e11
   subst e0;subst e1;subst e2;subst e3;subst e4;subst e5;subst e6;subst e7;subst e8;subst e9;subst e10;subst e11
   exact ⟨⟨t,mi,kd,fk,FA,fb,fc,CA,cp,cc,cr,SA,sp,sc,sr,co,pr,F⟩,rfl,⟨h3,h4,h5⟩,⟨i64_of_wf w0,i64_of_wf w1,i64_of_wf w2,w3,i64_of_wf w6,i64_of_wf w7⟩⟩
end
set_option maxRecDepth 100000 in
theorem facts_of_trod {H:Type} {enc:TypeId × Value→H} {r:Reach} {base:Nat} {W:World} {v:Value} {d:DataW H} {qs:List MemPlace}
  (hv:Value.okWide Tryz.prog W r base 22 v) (h:DataW.Trod enc Tryz.prog W 0 (fun _=>true) true 22 v d qs):∃ (A:Option Addr) (c:Nat) (xs:List FV),v=.slice A xs.length c∧FS W (.slice A xs.length c) xs∧∀ f∈xs,f.Wf:=by
 obtain ⟨a0,len,cap,rfl⟩:=okWide_slice Tryz.underlying22 hv
 obtain ⟨fuel,hf⟩:=h
 rcases open_slice Tryz.underlying22 hf with ⟨hcs,_⟩ | ⟨a,len',cap',m,n,D,Pl,hcs,_,hl,hm,hmm,_,hrow⟩
 ·simp only [Value.cells,List.cons.injEq,and_true,Value.slice.injEq] at hcs
  obtain ⟨rfl,rfl,rfl⟩:=hcs
  exact ⟨none,0,[],rfl,FS.nil W,fun f h=>by cases h⟩
 ·simp only [Value.cells,List.cons.injEq,and_true,Value.slice.injEq] at hcs
  obtain ⟨rfl,rfl,rfl⟩:=hcs
  simp only [if_true] at hmm
  have key:∀ i,i<len→∃ f:FV,f.In W∧f.Wf∧∀ j u,f.cs[j]? = some u→W.cell? (a.add (i*12+j))=some u:=by
   intro i hi'
   obtain ⟨cs',hc,ht⟩:=hrow i (by omega)
   obtain ⟨f,e,h1,h2⟩:=fact_of_cs ht
   rw [cells_fact] at hc
   obtain ⟨_,hcl,hat⟩:=World.cells?_some hc
   refine ⟨f,h1,h2,fun j u hu=>?_⟩
   have hj:j<12:=by
    have:=(List.getElem?_eq_some_iff.1 hu).1
    exact this
   rw [← Go.Deep.add_add,hat j hj,e,hu]
  have key2:∃ g:Nat→FV,∀ i,i<len→(g i).In W∧(g i).Wf∧∀ j u,(g i).cs[j]? = some u→W.cell? (a.add (i*12+j))=some u:=
   ⟨fun i=>if hi':i<len then Classical.choose (key i hi') else fv0,fun i hi'=>by
    have:=Classical.choose_spec (key i hi')
    simpa only [dif_pos hi'] using this⟩
  obtain ⟨g,hg⟩:=key2
  have hlen:((List.range len).map g).length=len:=by simp
  refine ⟨some a,cap,(List.range len).map g,by rw [hlen],⟨some a,cap,rfl,by rw [hlen];exact hl,hm,fun i hi'=>?_⟩,fun f hf=>?_⟩
  ·have hi2:i<len:=by rwa [hlen] at hi'
   have e:((List.range len).map g)[i]=g i:=by simp
   rw [e]
   exact ⟨(hg i hi2).1,a,rfl,(hg i hi2).2.2⟩
  ·obtain ⟨i,hi,rfl⟩:=List.mem_map.1 hf
   exact (hg i (List.mem_range.1 hi)).2.1
end Go.Proofs.YtnjmndofcpnmeaaGreatDoor
namespace Go.Proofs.YtnjmndofcpnmeaaGreatDoor
open Go Go.Lib
set_option linter.unusedVariables false
theorem nodup_le {α:Type} [DecidableEq α]:∀ {a b:List α},a.Nodup→(∀ x∈a,x∈b)→a.length≤b.length
 | [],b,_,_=>Nat.zero_le _
 | x::a,b,hd,hs=>by
  rw [List.nodup_cons] at hd
  have hx:=hs x (by simp)
  have h1:∀ y∈a,y∈b.erase x:=fun y hy=>by
   rw [List.mem_erase_of_ne (fun (e:y=x)=>hd.1 (by rw [← e];exact hy))]
   exact hs y (List.mem_cons_of_mem _ hy)
  have h2:=nodup_le hd.2 h1
  rw [List.length_erase_of_mem hx] at h2
  have h3:=List.length_pos_of_mem hx
  rw [List.length_cons]
  omega
theorem nodup_filt {l:List Nat}(p:Nat→Bool)(h:l.Nodup):(l.filter p).Nodup:=List.Pairwise.filter p h
theorem nodup_mapK {κ:Type}{l:List Nat}{K:Nat→κ}(h:l.Nodup)(hk:∀ i∈l,∀ j∈l,K i=K j→i=j):(l.map K).Nodup:=by
 induction l with
 | nil=>exact List.nodup_nil
 | cons x l ih=>
  rw [List.nodup_cons] at h
  rw [List.map_cons,List.nodup_cons]
  refine ⟨fun hm=>?_,ih h.2 (fun i hi j hj=>hk i (List.mem_cons_of_mem _ hi) j (List.mem_cons_of_mem _ hj))⟩
  obtain ⟨y,hy,e⟩:=List.mem_map.1 hm
  have:=hk y (List.mem_cons_of_mem _ hy) x (by simp) e
  exact h.1 (this ▸ hy)
section
variable {κ:Type} [DecidableEq κ]
def fstK (n:Nat)(P:Nat→Bool)(K:Nat→κ):List Nat:=(List.range n).filter fun i=>P i&&(List.range i).all fun j=>!(P j&&decide (K j=K i))
theorem fstK_mem {n:Nat}{P:Nat→Bool}{K:Nat→κ}{i:Nat}:i∈fstK n P K ↔ i<n∧P i=true∧∀ j,j<i→P j=true→K j≠K i:=by
 unfold fstK
 rw [List.mem_filter,List.mem_range,Bool.and_eq_true,List.all_eq_true]
 constructor
 ·rintro ⟨h1,h2,h3⟩
  refine ⟨h1,h2,fun j hj hp e=>?_⟩
  have:=h3 j (List.mem_range.2 hj)
  rw [hp,decide_eq_true e] at this
  exact absurd this (by decide)
 ·rintro ⟨h1,h2,h3⟩
  refine ⟨h1,h2,fun j hj=>?_⟩
  have:=h3 j (List.mem_range.1 hj)
  cases hp:P j with
  | false=>rfl
  | true=>rw [decide_eq_false (this hp)];rfl
theorem fstK_ex {n:Nat}{P:Nat→Bool}{K:Nat→κ}:∀ (i:Nat),i<n→P i=true→∃ j∈fstK n P K,K j=K i∧j≤i:=by
 intro i
 induction i using Nat.strongRecOn with
 | _ i ih=>
  intro hi hp
  by_cases h:∃ j,j<i∧P j=true∧K j=K i
  ·obtain ⟨j,hj,hpj,hk⟩:=h
   obtain ⟨m,hm,hmk,hle⟩:=ih j hj (by omega) hpj
   exact ⟨m,hm,hmk.trans hk,by omega⟩
  ·exact ⟨i,fstK_mem.2 ⟨hi,hp,fun j hj hpj e=>h ⟨j,hj,hpj,e⟩⟩,rfl,Nat.le_refl _⟩
theorem fstK_one {n:Nat}{P:Nat→Bool}{K:Nat→κ}{i j:Nat}(hi:i∈fstK n P K)(hj:j∈fstK n P K)(e:K i=K j):i=j:=by
 obtain ⟨_,pi,fi⟩:=fstK_mem.1 hi
 obtain ⟨_,pj,fj⟩:=fstK_mem.1 hj
 rcases Nat.lt_trichotomy i j with h | h | h
 ·exact absurd e (fj i h pi)
 ·exact h
 ·exact absurd e.symm (fi j h pj)
theorem fstK_nodup {n:Nat}{P:Nat→Bool}{K:Nat→κ}:(fstK n P K).Nodup:=nodup_filt _ List.nodup_range
theorem fstK_succ {n:Nat}{P:Nat→Bool}{K:Nat→κ}:fstK (n+1) P K=if P n=true∧∀ j∈fstK n P K,K j≠K n then fstK n P K++[n] else fstK n P K:=by
 unfold fstK
 rw [List.range_succ,List.filter_append]
 by_cases h:n∈fstK (n+1) P K
 ·obtain ⟨_,h2,h3⟩:=fstK_mem.1 h
  have hc:∀ j∈fstK n P K,K j≠K n:=fun j hj=>h3 j (fstK_mem.1 hj).1 (fstK_mem.1 hj).2.1
  unfold fstK at hc
  rw [if_pos ⟨h2,hc⟩]
  ·congr 1
   have:(P n&&(List.range n).all fun j=>!(P j&&decide (K j=K n)))=true:=(List.mem_filter.1 h).2
   rw [List.filter_cons,if_pos this,List.filter_nil]
 ·rw [if_neg]
  ·have:¬ (P n&&(List.range n).all fun j=>!(P j&&decide (K j=K n)))=true:=fun e=>h (List.mem_filter.2 ⟨List.mem_range.2 (Nat.lt_succ_self n),e⟩)
   rw [List.filter_cons,if_neg this,List.filter_nil,List.append_nil]
  ·rintro ⟨h2,h3⟩
   refine h (fstK_mem.2 ⟨Nat.lt_succ_self n,h2,fun j hj hp e=>?_⟩)
   obtain ⟨m,hm,hk,_⟩:=fstK_ex (K:=K) j hj hp
   exact h3 m hm (hk.trans e)
end
def failB (f:Fct):Bool:=decide (f.kd=10)&&decide (f.co=24) && !noneN f.cp f.cr
inductive Who where
 | from (k:Int) (b:List UInt8)
 | client (p:List (List UInt8)) (r:List UInt8)
 deriving DecidableEq
def who (ad:Bool)(f:Fct):Who:=if ad then .from f.fk f.fb else .client f.cp f.cr
def dftF:Fct:=⟨0,0,0,0,[],[],[],[],[],0,0,0#32⟩
def atF (l:List Fct)(i:Nat):Fct:=l[i]?.getD dftF
def winF (l:List Fct)(w:Int)(ad:Bool)(i:Nat):List Nat:=(List.range (i+1)).filter fun j=>failB (atF l j)&&decide (who ad (atF l j)=who ad (atF l i))&&decide ((atF l i).t-w≤(atF l j).t)
def cntF (l:List Fct)(w:Int)(ad:Bool)(i:Nat):Nat:=if ad then (fstK (i+1) (fun j=>(winF l w ad i).contains j) (fun j=>who false (atF l j))).length else (winF l w ad i).length
def hitF (l:List Fct)(w lim:Int)(ad:Bool)(i:Nat):Bool:=failB (atF l i)&&decide (lim≤(cntF l w ad i:Int))
def almF (l:List Fct)(w lim:Int)(ad:Bool):List Nat:=fstK l.length (hitF l w lim ad) (fun i=>who ad (atF l i))
end Go.Proofs.YtnjmndofcpnmeaaGreatDoor
namespace Go.Proofs.YtnjmndofcpnmeaaGreatDoor
open Go Go.Lib
set_option linter.unusedVariables false
theorem filt_succ (n:Nat)(Q:Nat→Bool):(List.range (n+1)).filter Q=(List.range n).filter Q++(if Q n then [n] else []):=by
 rw [List.range_succ,List.filter_append]
 congr 1
 cases h:Q n
 ·rw [List.filter_cons,h];rfl
 ·rw [List.filter_cons,h];rfl
theorem filt_take {Q:Nat→Bool}:∀ (n p i:Nat),((List.range n).filter Q)[p]? = some i→((List.range n).filter Q).take (p+1)=(List.range (i+1)).filter Q
 | 0,p,i,h=>by simp at h
 | n+1,p,i,h=>by
  rw [filt_succ] at h ⊢
  by_cases hp:p<((List.range n).filter Q).length
  ·rw [List.getElem?_append_left hp] at h
   rw [List.take_append_of_le_length (by omega)]
   exact filt_take n p i h
  ·rw [List.getElem?_append_right (by omega)] at h
   cases hq:Q n with
   | false=>rw [hq] at h;simp at h
   | true=>
    rw [hq,if_pos rfl] at h
    obtain ⟨h1,h2⟩:p-((List.range n).filter Q).length=0∧n=i:=by
     cases hx:p-((List.range n).filter Q).length with
     | zero=>rw [hx] at h;exact ⟨rfl,by simpa using h⟩
     | succ m=>rw [hx] at h;simp at h
    subst h2
    rw [if_pos rfl,List.take_of_length_le (by rw [List.length_append,List.length_singleton];omega),filt_succ,hq,if_pos rfl]
theorem filt_drop {α:Type} {R:α→Bool}:∀ (h:List α) (low:Nat),low≤h.length→(∀ q (hq:q<h.length),q<low→R h[q]=false)→(∀ q (hq:q<h.length),low≤q→R h[q]=true)→h.filter R=h.drop low
 | [],low,_,_,_=>by simp
 | x::h,0,_,_,k=>by
  have h0:=k 0 (by simp) (by omega)
  rw [List.drop_zero,List.filter_cons,show R x=true from h0,if_pos rfl]
  have:=filt_drop h 0 (by omega) (fun q hq hl=>absurd hl (by omega)) (fun q hq _=>k (q+1) (by simpa using hq) (by omega))
  rw [this,List.drop_zero]
 | x::h,low+1,hle,m,k=>by
  have h0:=m 0 (by simp) (by omega)
  rw [List.drop_succ_cons,List.filter_cons,show R x=false from h0,if_neg (by simp)]
  exact filt_drop h low (by simpa using hle) (fun q hq hl=>m (q+1) (by simpa using hq) (by omega)) (fun q hq hl=>k (q+1) (by simpa using hq) (by omega))
def grpF (l:List Fct)(ad:Bool)(x:Who):List Nat:=(List.range l.length).filter fun j=>failB (atF l j)&&decide (who ad (atF l j)=x)
theorem grp_mem {l:List Fct}{ad:Bool}{x:Who}{i:Nat}:i∈grpF l ad x ↔ i<l.length∧failB (atF l i)=true∧who ad (atF l i)=x:=by
 unfold grpF
 rw [List.mem_filter,List.mem_range,Bool.and_eq_true,decide_eq_true_eq]
def ordT (l:List Fct):Prop:=∀ i j,i≤j→j<l.length→(atF l i).t≤(atF l j).t
theorem grp_sorted {l:List Fct}{ad:Bool}{x:Who}:(grpF l ad x).Pairwise (· < ·):=List.Pairwise.filter _ List.pairwise_lt_range
theorem win_slice {l:List Fct} (ho:ordT l) {w:Int} {ad:Bool} {x:Who} {p low i:Nat} (hp:(grpF l ad x)[p]? = some i) (hlow:low≤p+1)
  (h1:∀ q j,q<low→(grpF l ad x)[q]? = some j→(atF l j).t<(atF l i).t-w)
  (h2:∀ j,(grpF l ad x)[low]? = some j→low≤p→(atF l i).t-w≤(atF l j).t):winF l w ad i=((grpF l ad x).take (p+1)).drop low:=by
 have hi:=grp_mem.1 (List.mem_of_getElem? hp)
 have hpl:p<(grpF l ad x).length:=(List.getElem?_eq_some_iff.1 hp).1
 have ht:=filt_take (Q:=fun j=>failB (atF l j)&&decide (who ad (atF l j)=x)) l.length p i hp
 have hw:winF l w ad i=((grpF l ad x).take (p+1)).filter fun j=>decide ((atF l i).t-w≤(atF l j).t):=by
  unfold winF
  rw [show (grpF l ad x).take (p+1)=(List.range (i+1)).filter (fun j=>failB (atF l j)&&decide (who ad (atF l j)=x)) from ht,List.filter_filter,hi.2.2]
  congr 1
  funext j
  rw [Bool.and_comm]
 rw [hw]
 have hlen:((grpF l ad x).take (p+1)).length=p+1:=by rw [List.length_take];omega
 refine filt_drop _ low (by omega) (fun q hq hl=>?_) (fun q hq hl=>?_)
 ·rw [decide_eq_false_iff_not]
  have:=h1 q (((grpF l ad x).take (p+1))[q]) hl (by rw [List.getElem_take];exact List.getElem?_eq_getElem _)
  omega
 ·rw [decide_eq_true_eq]
  have hlp:low≤p:=by omega
  have h3:=h2 ((grpF l ad x)[low]'(by omega)) (List.getElem?_eq_getElem _) hlp
  have h4:(grpF l ad x)[low]'(by omega)≤(grpF l ad x)[q]'(by omega):=by
   rcases Nat.lt_or_eq_of_le hl with h | rfl
   ·exact Nat.le_of_lt (List.pairwise_iff_getElem.1 grp_sorted low q (by omega) (by omega) h)
   ·exact Nat.le_refl _
  have h5:=ho _ _ h4 (grp_mem.1 (List.getElem_mem (by omega:q<(grpF l ad x).length))).1
  rw [List.getElem_take]
  omega
theorem hit_fail {l:List Fct}{w lim:Int}{ad:Bool}{i:Nat}(h:hitF l w lim ad i=true):failB (atF l i)=true:=by
 unfold hitF at h
 rw [Bool.and_eq_true] at h
 exact h.1
theorem alm_lt {l:List Fct}{w lim:Int}{ad:Bool}{i:Nat}(h:i∈almF l w lim ad):i<l.length:=(fstK_mem.1 h).1
theorem find_alm {l:List Fct}{w lim:Int}{ad:Bool}{x:Who}{i:Nat}:(grpF l ad x).find? (hitF l w lim ad)=some i ↔ i∈almF l w lim ad∧who ad (atF l i)=x:=by
 rw [List.find?_eq_some_iff_getElem]
 constructor
 ·rintro ⟨hh,p,hp,rfl,hb⟩
  have hm:=grp_mem.1 (List.getElem_mem hp)
  refine ⟨fstK_mem.2 ⟨hm.1,hh,fun j hj hhj e=>?_⟩,hm.2.2⟩
  have hjm:j∈grpF l ad x:=grp_mem.2 ⟨by omega,hit_fail hhj,e.trans hm.2.2⟩
  obtain ⟨q,hq,rfl⟩:=List.getElem_of_mem hjm
  have hqp:q<p:=by
   rcases Nat.lt_trichotomy q p with h | h | h
   ·exact h
   ·subst h;omega
   ·have:=List.pairwise_iff_getElem.1 (grp_sorted (l:=l) (ad:=ad) (x:=x)) p q hp hq h
    omega
  have:=hb q hqp
  rw [hhj] at this
  exact absurd this (by decide)
 ·rintro ⟨hm,rfl⟩
  obtain ⟨h1,h2,h3⟩:=fstK_mem.1 hm
  have hmem:i∈grpF l ad (who ad (atF l i)):=grp_mem.2 ⟨h1,hit_fail h2,rfl⟩
  obtain ⟨p,hp,hpi⟩:=List.getElem_of_mem hmem
  refine ⟨h2,p,hp,hpi,fun q hq=>?_⟩
  have hql:q<(grpF l ad (who ad (atF l i))).length:=by omega
  have hlt:=List.pairwise_iff_getElem.1 (grp_sorted (l:=l) (ad:=ad) (x:=who ad (atF l i))) q p hql hp hq
  rw [hpi] at hlt
  cases hh:hitF l w lim ad ((grpF l ad (who ad (atF l i)))[q]) with
  | false=>rfl
  | true=>exact absurd (grp_mem.1 (List.getElem_mem hql)).2.2 (h3 _ hlt hh)
theorem rise_eq:∀ {a b:List Nat},a.Pairwise (· < ·)→b.Pairwise (· < ·)→(∀ x,x∈a ↔ x∈b)→a=b
 | [],[],_,_,_=>rfl
 | [],y::b,_,_,h=>absurd ((h y).2 (by simp)) (by simp)
 | x::a,[],_,_,h=>absurd ((h x).1 (by simp)) (by simp)
 | x::a,y::b,ha,hb,h=>by
  rw [List.pairwise_cons] at ha hb
  have hxy:x=y:=by
   rcases List.mem_cons.1 ((h x).1 (by simp)) with e | e
   ·exact e
   ·rcases List.mem_cons.1 ((h y).2 (by simp)) with e' | e'
    ·exact e'.symm
    ·have h1:=hb.1 x e
     have h2:=ha.1 y e'
     omega
  subst hxy
  have:a=b:=rise_eq ha.2 hb.2 fun z=>by
   constructor
   ·intro hz
    rcases List.mem_cons.1 ((h z).1 (List.mem_cons_of_mem _ hz)) with e | e
    ·have:=ha.1 z hz;omega
    ·exact e
   ·intro hz
    rcases List.mem_cons.1 ((h z).2 (List.mem_cons_of_mem _ hz)) with e | e
    ·have:=hb.1 z hz;omega
    ·exact e
  rw [this]
theorem alm_sorted {l:List Fct}{w lim:Int}{ad:Bool}:(almF l w lim ad).Pairwise (· < ·):=List.Pairwise.filter _ List.pairwise_lt_range
theorem alms_of {l:List Fct}{w lim:Int}{ad:Bool}{f:List Nat}(hs:f.Pairwise (· < ·))(h:∀ i,i∈f ↔ ∃ x,(grpF l ad x).find? (hitF l w lim ad)=some i):f=almF l w lim ad:=
 rise_eq hs alm_sorted fun i=>by
  rw [h]
  constructor
  ·rintro ⟨x,hx⟩;exact (find_alm.1 hx).1
  ·intro hi;exact ⟨_,find_alm.2 ⟨hi,rfl⟩⟩
theorem alm_succ {l:List Fct}{w lim:Int}{ad:Bool}{n:Nat}:fstK (n+1) (hitF l w lim ad) (fun i=>who ad (atF l i))=if hitF l w lim ad n=true∧∀ j∈fstK n (hitF l w lim ad) (fun i=>who ad (atF l i)),who ad (atF l j)≠who ad (atF l n) then fstK n (hitF l w lim ad) (fun i=>who ad (atF l i))++[n] else fstK n (hitF l w lim ad) (fun i=>who ad (atF l i)):=fstK_succ
theorem mem_eq_len {α:Type} [DecidableEq α]{a b:List α}(ha:a.Nodup)(hb:b.Nodup)(h:∀ x,x∈a ↔ x∈b):a.length=b.length:=
 Nat.le_antisymm (nodup_le ha fun x hx=>(h x).1 hx) (nodup_le hb fun x hx=>(h x).2 hx)
theorem cnt_any {l:List Fct}{w:Int}{i:Nat}{ks:List Who}(hd:ks.Nodup)(h:∀ x,x∈ks ↔ ∃ j∈winF l w true i,who false (atF l j)=x):cntF l w true i=ks.length:=by
 unfold cntF
 rw [if_pos rfl]
 have h1:((fstK (i+1) (fun j=>(winF l w true i).contains j) (fun j=>who false (atF l j))).map (fun j=>who false (atF l j))).Nodup:=nodup_mapK fstK_nodup fun a ha b hb=>fstK_one ha hb
 have:=mem_eq_len h1 hd fun x=>by
  rw [h]
  constructor
  ·intro hx
   obtain ⟨j,hj,e⟩:=List.mem_map.1 hx
   have:=(fstK_mem.1 hj).2.1
   rw [List.contains_iff_mem] at this
   exact ⟨j,this,e⟩
  ·rintro ⟨j,hj,rfl⟩
   have hji:j<i+1:=by
    unfold winF at hj
    exact List.mem_range.1 (List.mem_filter.1 hj).1
   obtain ⟨m,hm,e,_⟩:=fstK_ex (n:=i+1) (P:=fun j=>(winF l w true i).contains j) (K:=fun j=>who false (atF l j)) j hji (by rw [List.contains_iff_mem];exact hj)
   exact List.mem_map.2 ⟨m,hm,e⟩
 rw [← this,List.length_map]
theorem cnt_win {l:List Fct}{w:Int}{i:Nat}:cntF l w false i=(winF l w false i).length:=by unfold cntF;rw [if_neg (by decide)]
def addK {α:Type} [DecidableEq α](ks:List α)(x:α):List α:=if x∈ks then ks else ks++[x]
theorem addK_mem {α:Type} [DecidableEq α]{ks:List α}{x y:α}:y∈addK ks x ↔ y∈ks∨y=x:=by
 unfold addK
 split
 ·next h=>exact ⟨.inl,fun k=>k.elim id fun e=>e ▸ h⟩
 ·simp
theorem addK_nodup {α:Type} [DecidableEq α]{ks:List α}{x:α}(h:ks.Nodup):(addK ks x).Nodup:=by
 unfold addK
 split
 ·exact h
 ·next hx=>
  rw [List.nodup_append]
  refine ⟨h,by simp,fun a ha b hb=>?_⟩
  rw [List.mem_singleton] at hb
  subst hb
  exact fun e=>hx (e ▸ ha)
def codF (l:List Fct)(c:Int):Nat:=(l.filter fun f=>decide (f.co=c)).length
def keyP:List (List UInt8)→List UInt8
 | []=>[]
 | p::r=>32::(itoa (p.length:Int)++32::(p++keyP r))
def keyN (p:List (List UInt8))(r:List UInt8):List UInt8:=itoa (p.length:Int)++(keyP p++32::r)
def keyA (k:Int)(b:List UInt8):List UInt8:=itoa k++32::b
theorem keyP_snoc:∀ (ls:List (List UInt8)) (p:List UInt8),keyP (ls++[p])=keyP ls++(32::(itoa (p.length:Int)++32::p))
 | [],p=>by simp [keyP]
 | q::r,p=>by rw [List.cons_append,keyP,keyP_snoc r p,keyP];simp
theorem itoa_no32 (x:Int):(32:UInt8) ∉ itoa x:=by
 unfold itoa
 split
 ·intro h
  rcases List.mem_cons.1 h with h | h
  ·exact absurd h (by decide)
  ·exact dec_no _ _ (by decide) h
 ·exact dec_no _ _ (by decide)
theorem dec_no45 (n:Nat):(45:UInt8) ∉ decDigits n:=dec_no _ _ (by decide)
theorem itoa_injZ {x y:Int}(e:itoa x=itoa y):x=y:=by
 unfold itoa at e
 split at e
 ·split at e
  ·injection e with _ e
   have:=dec_inj e
   omega
  ·exact absurd (e ▸ List.mem_cons_self) (dec_no45 _)
 ·split at e
  ·exact absurd (e ▸ List.mem_cons_self) (dec_no45 _)
  ·have:=dec_inj e
   omega
theorem keyA_inj {k k':Int}{b b':List UInt8}(e:keyA k b=keyA k' b'):k=k'∧b=b':=by
 obtain ⟨e1,e2⟩:=app_sep (itoa_no32 k) (itoa_no32 k') e
 exact ⟨itoa_injZ e1,e2⟩
theorem keyP_inj:∀ {p q:List (List UInt8)} {a b:List UInt8},p.length=q.length→keyP p++a=keyP q++b→p=q∧a=b
 | [],[],a,b,_,e=>⟨rfl,e⟩
 | [],_::_,a,b,h,_=>by simp at h
 | _::_,[],a,b,h,_=>by simp at h
 | x::p,y::q,a,b,h,e=>by
  rw [keyP,keyP] at e
  simp only [List.cons_append,List.append_assoc] at e
  injection e with _ e
  obtain ⟨e1,e2⟩:=app_sep (itoa_no32 _) (itoa_no32 _) e
  have hl:x.length=y.length:=by have:=itoa_injZ e1;omega
  obtain ⟨e3,e4⟩:=List.append_inj e2 hl
  obtain ⟨e5,e6⟩:=keyP_inj (by simpa using h) e4
  exact ⟨by rw [e3,e5],e6⟩
theorem keyN_inj {p q:List (List UInt8)}{r s:List UInt8}(e:keyN p r=keyN q s):p=q∧r=s:=by
 unfold keyN at e
 have hs:∀ (p:List (List UInt8)) (r:List UInt8),∃ t,keyP p++32::r=32::t:=fun p r=>by
  cases p with
  | nil=>exact ⟨r,rfl⟩
  | cons x p=>exact ⟨_,by rw [keyP];rfl⟩
 obtain ⟨t,ht⟩:=hs p r
 obtain ⟨u,hu⟩:=hs q s
 have e':=e
 rw [ht,hu] at e'
 obtain ⟨e1,e2⟩:=app_sep (itoa_no32 _) (itoa_no32 _) e'
 have hl:p.length=q.length:=by have:=itoa_injZ e1;omega
 have e3:keyP p++32::r=keyP q++32::s:=by rw [ht,hu,e2]
 obtain ⟨e4,e5⟩:=keyP_inj hl e3
 injection e5 with _ e5
 exact ⟨e4,e5⟩
end Go.Proofs.YtnjmndofcpnmeaaGreatDoor
