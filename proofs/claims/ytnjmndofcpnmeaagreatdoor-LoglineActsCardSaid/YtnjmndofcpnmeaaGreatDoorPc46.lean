/- Pc46. -/
import Derived.Test.YtnjmndofcpnmeaaGreatDoorPc0
import Derived.Test.YtnjmndofcpnmeaaGreatDoorPc16
import Derived.Test.YtnjmndofcpnmeaaGreatDoorPc21
import Derived.Test.YtnjmndofcpnmeaaGreatDoorPc2
import Derived.Test.YtnjmndofcpnmeaaGreatDoorPc42
import Derived.ArgAppend
import Derived.Deep.Upon
import Derived.Test.YtnjmndofcpnmeaaGreatDoorPc30
import Derived.Test.YtnjmndofcpnmeaaGreatDoorPc8
namespace Go.Proofs.YtnjmndofcpnmeaaGreatDoor
open Go Go.RowKit
set_option linter.unusedVariables false
theorem adrinfo:(Tryz.prog.info? 34).map (fun i=>(i.zero,i.size,i.bytes))=some (some (.agg #[.int .i64 0,.slice none 0 0]),2,32):=by kernel_rfl
def hasA (xs:List (Int × List UInt8))(k:Int)(b:List UInt8):Bool:=xs.any fun x=>x.1==k&&x.2==b
theorem hasA_snoc (x:Int × List UInt8)(xs:List (Int × List UInt8))(k:Int)(b:List UInt8):hasA (xs++[x]) k b=(hasA xs k b||(x.1==k&&x.2==b)):=by simp [hasA]
theorem dat_zero':∀ x∈(Value.agg #[.int .i64 0,.slice none 0 0]).cells.toList,∀ n,x≠.int .u8 n:=by
 intro x hx n
 have:x=.int .i64 0∨x=.slice none 0 0:=by simpa [Value.cells] using hx
 rcases this with rfl | rfl<;>simp
set_option maxRecDepth 100000 in
set_option maxHeartbeats 1000000 in
theorem RAContains_at (A:Option Addr) (c:Nat) (xs:List (Int × List UInt8)) (k0:Int) (b0:List UInt8) (B0:Option Addr) (d0:Nat) (w:World) (hD:DS w (.slice A xs.length c) xs) (hb:BS w (.slice B0 b0.length d0) b0) (hn:xs.length≤1000):
  Calls Tryz.prog 78 #[.slice A xs.length c,adv k0 B0 b0.length d0] w fun e w'=>e=.returned (.bool (hasA xs k0 b0))∧Ext w w':=by
 have h0:=AB.new w k0 B0 b0.length d0
 have x0:=(Ext.refl w).alloc (.cells #[.int .i64 k0,.slice B0 b0.length d0] 34)
 obtain ⟨W1,e1⟩:∃ W,w.alloc (.cells #[.int .i64 k0,.slice B0 b0.length d0] 34)=W:=⟨_,rfl⟩
 rw [e1] at h0 x0
 obtain ⟨A',c',he,hc1,hc2,hcell⟩:=hD
 injection he with e1' e2 e3
 subst e1';subst e3
 unfold maxLen at hc2
 have HC:=Lib.hid hcell;have H0:=Lib.hid h0;have HX:=Lib.hid x0;have HBB:=Lib.hid hb
 clear hcell e2 h0 x0 hb
 obtain ⟨n,hn'⟩:∃ n,xs.length=n:=⟨_,rfl⟩
 rw [hn'] at hc1 hn ⊢
 have HN:=Lib.hid hn'
 clear hn'
 unfold adv
 go_enter Tryz.func78,Tryz.ntmps78
 go_wp2_with fail
 go_loopw [5] (fun i wr=>∃ k:Nat,i=.int .i64 (k:Int)∧k≤n∧Hid (hasA (xs.take k) k0 b0=false)∧Hid (Ext W1 wr)) (fun i _=>n-(intOf i).toNat)
 case atStart=>exact ⟨0,rfl,by omega,Lib.hid rfl,Lib.hid (Ext.refl _)⟩
 case round=>
  obtain ⟨k,rfl,hk,HF,HW⟩:=hrel
  by_cases hlt:k<n
  ·have hlx:k<xs.length:=by rw [HN.out];exact hlt
   obtain ⟨ad,B,d,rfl,hc0,hc3,hbk⟩:=HC.out k hlx
   have hc3':w.cell? ⟨(ad.add (k*2)).block,(ad.add (k*2)).off+1,none⟩=some (.slice B xs[k].2.length d):=by rw [cell_add1,add_of_add];exact hc3
   have hwr:=HX.out.trans HW.out
   have HC0:=Lib.hid (hwr.cell hc0);have HC3:=Lib.hid (hwr.cell hc3')
   have HB:=Lib.hid (H0.out.ext HW.out)
   have HEQ:=Lib.hid (fun W (hx:Ext wr W)=>RAEqual_at xs[k].1 k0 xs[k].2 b0 B B0 d d0 W (hbk.ext (hwr.trans hx)) (HBB.out.ext (hwr.trans hx)))
   have HTK:=Lib.hid (show hasA (xs.take (k+1)) k0 b0=(xs[k].1==k0&&xs[k].2==b0) by rw [List.take_succ_eq_append_getElem hlx,hasA_snoc,HF.out,Bool.false_or])
   have HYS:=Lib.hid (show (xs[k].1==k0&&xs[k].2==b0)=true→hasA xs k0 b0=true from fun h=>List.any_eq_true.2 ⟨xs[k],List.getElem_mem hlx,h⟩)
   unfold adv at HEQ
   generalize xs[k].1=kk at *
   generalize xs[k].2=bb at *
   obtain ⟨q1,hq1⟩:∃ q,(kk==k0)=q:=⟨_,rfl⟩
   obtain ⟨q2,hq2⟩:∃ q,(bb==b0)=q:=⟨_,rfl⟩
   rw [hq1,hq2] at HEQ HTK HYS
   clear hc0 hc3 hc3' hbk hwr hlx hq1 hq2
   go_upto_region 4 with fail
   refine wp_region_ext (fun i v' w'=>match i with | 5=>v'=.bool (q1&&q2) | _=>False) (by kernel_rfl) (by kernel_rfl) ?_
   refine wpE_op rfl rfl (fun w' hw' K' hK'=>?_)
   have hE:=hw'.1
   go_step
   refine hK' _ ⟨_,rfl⟩ ?_
   clear hK' K' hE hw' w'
   refine wpE_op rfl rfl (fun w' hw' K' hK'=>?_)
   have hE:=hw'.1
   go_step
   refine hK' _ ⟨_,rfl⟩ ?_
   clear hK' K' hE hw' w'
   refine wpE_op rfl rfl (fun w' hw' K' hK'=>?_)
   have hE:=hw'.1
   go_step
   refine hK' _ ⟨_,rfl⟩ ?_
   clear hK' K' hE hw' w'
   refine wpE_op rfl rfl (fun w' hw' K' hK'=>?_)
   have hE:=hw'.1
   have u0:=((Ext.drew _).trans hE).cell HC0.out
   have u1:=((Ext.drew _).trans hE).cell HC3.out
   go_step
   refine hK' _ ⟨_,rfl⟩ ?_
   clear hK' K' u0 u1 hE hw' w'
   refine wpE_op rfl rfl (fun w' hw' K' hK'=>?_)
   have hE:=hw'.1
   obtain ⟨u0,u1⟩:=(HB.out.ext ((Ext.drew wr).trans hE)).cells
   go_step
   refine hK' _ ⟨_,rfl⟩ ?_
   clear hK' K' u0 u1 hE hw' w'
   refine wpE_call 17 rfl (by simp) rfl (fun w' hw' K' hK'=>?_) ?_
   ·have hE:=hw'.1
    go_step
    refine (HEQ.out _ ((Ext.drew _).trans hE)).mono ?_
    rintro _ w2 ⟨rfl,hx⟩
    exact hK' _ _ ⟨_,rfl,rfl⟩ hx
   rintro _ w17x _ rfl
   simp only [Act.put,sT1,sT2,sT3]
   refine wpE_nil (fun W hW=>?_)
   have HXW:=Lib.hid ((HW.out.trans (Ext.drew _)).trans hW.1)
   clear hW
   obtain ⟨q,hq⟩:∃ q,(q1&&q2)=q:=⟨_,rfl⟩
   rw [hq] at HTK HYS
   simp only [hq]
   clear hq
   cases q with
   | true=>
    go_wp2_with fail
    go_ret
    rw [HYS.out (by first | exact rfl | trivial)]
    exact ⟨rfl,HX.out.trans HXW.out⟩
   | false=>
    go_wp2_with fail
    go_roundw
    case rel=>exact ⟨k+1,by go_num,by omega,HTK,HXW⟩
    case measure=>simp [intOf];omega
  ·obtain rfl:k=n:=by omega
   have HF2:=Lib.hid (show hasA xs k0 b0=false by have h:=HF.out;rwa [List.take_of_length_le (by rw [HN.out];exact Nat.le_refl _)] at h)
   clear hlt
   go_wp2_with fail
   go_ret
   rw [HF2.out]
   exact ⟨rfl,HX.out.trans HW.out⟩
def actK (l:List Fct)(i k:Nat):List Nat:=(List.range k).filter fun j=>!decide ((atF l j).kd=0)&&decide (who false (atF l j)=who false (atF l i))
theorem actK_no {l:List Fct}{i k:Nat}(h:(atF l k).kd=0∨who false (atF l k)≠who false (atF l i)):actK l i (k+1)=actK l i k:=by
 unfold actK
 rw [filt_succ,if_neg,List.append_nil]
 rw [Bool.and_eq_true,Bool.not_eq_true',decide_eq_false_iff_not,decide_eq_true_eq]
 rintro ⟨h1,h2⟩
 rcases h with h | h
 ·exact h1 h
 ·exact h h2
theorem actK_yes {l:List Fct}{i k:Nat}(h:(atF l k).kd≠0)(h2:who false (atF l k)=who false (atF l i)):actK l i (k+1)=actK l i k++[k]:=by
 unfold actK
 rw [filt_succ,if_pos]
 rw [Bool.and_eq_true,Bool.not_eq_true',decide_eq_false_iff_not,decide_eq_true_eq]
 exact ⟨h,h2⟩
theorem want_same {f g:Fct}(h:wantB f=true)(e:who false g=who false f):wantB g = !decide (g.kd=0):=by
 unfold wantB at h ⊢
 rw [Bool.and_eq_true] at h
 unfold who at e
 rw [if_neg (by decide),if_neg (by decide)] at e
 injection e with e1 e2
 rw [e1,e2,h.2,Bool.and_true]
theorem actK_all {l:List Fct}{i:Nat}(h:wantB (atF l i)=true):actK l i l.length=grpA l (who false (atF l i)):=by
 unfold actK grpA
 refine List.filter_congr fun j _=>?_
 by_cases e:who false (atF l j)=who false (atF l i)
 ·rw [want_same h e]
 ·rw [decide_eq_false e,Bool.and_false,Bool.and_false]
theorem actK_mem {l:List Fct}{i k j:Nat}:j∈actK l i k ↔ j<k∧(atF l j).kd≠0∧who false (atF l j)=who false (atF l i):=by
 unfold actK
 rw [List.mem_filter,List.mem_range,Bool.and_eq_true,Bool.not_eq_true',decide_eq_false_iff_not,decide_eq_true_eq]
def whoX (x:Int × List UInt8):Who:=.from x.1 x.2
theorem whoX_in (az:List (Int × List UInt8))(k:Int)(b:List UInt8):whoX (k,b)∈az.map whoX ↔ hasA az k b=true:=by
 unfold hasA
 rw [List.any_eq_true,List.mem_map]
 constructor
 ·rintro ⟨x,hx,e⟩
  injection e with e1 e2
  exact ⟨x,hx,by rw [e1,e2];simp⟩
 ·rintro ⟨x,hx,e⟩
  rw [Bool.and_eq_true,beq_iff_eq,beq_iff_eq] at e
  exact ⟨x,hx,by unfold whoX;rw [e.1,e.2]⟩
structure RAI (l:List Fct) (i k:Nat) (rq su pl fi la:Int) (b:Bool) (az:List (Int × List UInt8)):Prop where
 rq:rq=((actK l i k).length:Int)
 su:su=(sufN l (actK l i k):Int)
 pl:pl=(plnN l (actK l i k):Int)
 f:fi=match (actK l i k).head? with | none=>0 | some j=>(atF l j).t
 lt:la=match (actK l i k).getLast? with | none=>0 | some j=>(atF l j).t
 fr:b=(actK l i k).all fun j=>decide (i≤j)
 az:az.map whoX=(actK l i k).foldl (fun ks j=>addK ks (who true (atF l j))) []
theorem RAI.start (l:List Fct)(i:Nat):RAI l i 0 0 0 0 0 0 true []:=⟨rfl,rfl,rfl,rfl,rfl,rfl,rfl⟩
theorem RAI.skip {l:List Fct}{i k:Nat}{rq su pl fi la:Int}{b:Bool}{az:List (Int × List UInt8)}(h:RAI l i k rq su pl fi la b az)(hn:(atF l k).kd=0∨who false (atF l k)≠who false (atF l i)):RAI l i (k+1) rq su pl fi la b az:=by
 have e:=actK_no (l:=l) hn
 exact ⟨by rw [e];exact h.rq,by rw [e];exact h.su,by rw [e];exact h.pl,by rw [e];exact h.f,by rw [e];exact h.lt,by rw [e];exact h.fr,by rw [e];exact h.az⟩
theorem RAI.step {l:List Fct} {i k:Nat} {rq su pl fi la:Int} {b:Bool} {az:List (Int × List UInt8)} (h:RAI l i k rq su pl fi la b az) (h1:(atF l k).kd≠0) (h2:who false (atF l k)=who false (atF l i)):
  RAI l i (k+1) (rq+1) (su+if sucB (atF l k) then 1 else 0) (pl+if plnB (atF l k) then 1 else 0) (if rq=0 then (atF l k).t else fi) (atF l k).t (b&&decide (i≤k)) (if hasA az (atF l k).fk (atF l k).fb then az else az++[((atF l k).fk,(atF l k).fb)]):=by
 have e:=actK_yes (l:=l) h1 h2
 refine ⟨?_,?_,?_,?_,?_,?_,?_⟩
 ·rw [e,List.length_append,h.rq];rfl
 ·rw [e];unfold sufN;rw [filt_snoc,h.su];rfl
 ·rw [e];unfold plnN;rw [filt_snoc,h.pl];rfl
 ·rw [e,h.rq,h.f]
  cases hh:actK l i k with
  | nil=>rfl
  | cons a t=>rw [if_neg (by rw [List.length_cons];omega)];rfl
 ·rw [e,List.getLast?_concat]
 ·rw [e,List.all_append,h.fr];simp
 ·rw [e,List.foldl_append,List.foldl_cons,List.foldl_nil,← h.az]
  unfold addK
  have hw:who true (atF l k)=whoX ((atF l k).fk,(atF l k).fb):=rfl
  rw [hw]
  by_cases hm:hasA az (atF l k).fk (atF l k).fb=true
  ·rw [if_pos hm,if_pos ((whoX_in _ _ _).2 hm)]
  ·rw [if_neg hm,if_neg (fun h'=>hm ((whoX_in _ _ _).1 h')),List.map_append];rfl
theorem RAI.yes {l:List Fct}{i:Nat}{rq su pl fi la:Int}{az:List (Int × List UInt8)}(h:RAI l i l.length rq su pl fi la true az)(hw:wantB (atF l i)=true)(hi:i<l.length):∀ j,j<i→wantB (atF l j)=true→who false (atF l j)≠who false (atF l i):=fun j hj hwj e=>by
 have h1:=List.all_eq_true.1 h.fr.symm j (actK_mem.2 ⟨by omega,want_kd hwj,e⟩)
 rw [decide_eq_true_eq] at h1
 omega
theorem RAI.no {l:List Fct}{i:Nat}{rq su pl fi la:Int}{az:List (Int × List UInt8)}(h:RAI l i l.length rq su pl fi la false az)(hw:wantB (atF l i)=true):∃ j,j<i∧wantB (atF l j)=true∧who false (atF l j)=who false (atF l i):=by
 obtain ⟨j,hj,e⟩:=List.all_eq_false.1 h.fr.symm
 rw [decide_eq_true_eq] at e
 obtain ⟨_,h2,h3⟩:=actK_mem.1 hj
 exact ⟨j,by omega,by rw [want_same hw h3,decide_eq_false h2];rfl,h3⟩
theorem RAI.fin {l:List Fct} {i:Nat} {rq su pl fi la:Int} {az:List (Int × List UInt8)} (h:RAI l i l.length rq su pl fi la true az) (hw:wantB (atF l i)=true) (hi:i<l.length) (CA:Option Addr) (cp:List ByteArray) (cc:Nat) (cr:ByteArray) (h1:dat cp=(atF l i).cp) (h2:cr.data.toList=(atF l i).cr):
  VV.Is ⟨CA,cp,cc,cr,rq,su,pl,(az.length:Int),fi,la⟩ (actF l i):=by
 have e:=actK_all hw
 have hhd:(grpA l (who false (atF l i))).head? = some i:=by
  obtain ⟨x,hx⟩:=grpA_head.2 (fstK_mem.2 ⟨hi,hw,fun j hj hwj=>h.yes hw hi j hj hwj⟩)
  rw [(grpA_mem.1 (List.mem_of_mem_head? hx)).2.2]
  exact hx
 refine ⟨h1,h2,by rw [h.rq,e];rfl,by rw [h.su,e];rfl,by rw [h.pl,e];rfl,?_,?_,?_⟩
 ·show (az.length:Int)=((actF l i).adr:Int)
  rw [← List.length_map whoX,h.az,e];rfl
 ·show fi=(actF l i).fst
  rw [h.f,e,hhd];rfl
 ·show la=(actF l i).lst
  rw [h.lt,e]
  unfold actF
  cases hl:(grpA l (who false (atF l i))).getLast? with
  | none=>
   rw [List.getLast?_eq_none_iff] at hl
   rw [hl] at hhd;cases hhd
  | some j=>rfl
theorem rds_own {α:Type}{E:Ek α}{e:TypeId}{w:World}{B:Nat}{v:Value}{xs:List α}(h:w.ownsRow B e E.k v xs.length (E.all xs)):RDS E w v xs:=by
 rcases h.2 with ⟨rfl,h0⟩ | ⟨g,cap,cur,rfl,hb,hg,hnc,hcm,_⟩
 ·rw [List.length_eq_zero_iff.1 h0];exact RDS.nil w
 ·refine ⟨some ⟨g,0,none⟩,cap,rfl,hnc,hcm,fun i hi=>⟨_,rfl,fun j u hu=>?_⟩⟩
  have hj:j<E.k:=by rw [← E.len xs[i]];exact (List.getElem?_eq_some_iff.1 hu).1
  exact h.cells rfl _ _ (by rw [E.all_get xs i j hi hj];exact hu)
theorem rds_all {α:Type}{E:Ek α}{w:World}{ad:Addr}{c:Nat}{xs:List α}(h:RDS E w (.slice (some ad) xs.length c) xs):∀ j u,(E.all xs)[j]? = some u→w.cell? (ad.add j)=some u:=fun j u hu=>by
 obtain ⟨A,c',he,_,_,h3⟩:=h
 injection he with e1 _ _
 have hj:j<(E.all xs).length:=(List.getElem?_eq_some_iff.1 hu).1
 rw [E.all_len] at hj
 have hd:j / E.k<xs.length:=Nat.div_lt_of_lt_mul (by rw [Nat.mul_comm];exact hj)
 have hm:j % E.k<E.k:=Nat.mod_lt _ E.kp
 obtain ⟨ad',k1,k2⟩:=h3 (j / E.k) hd
 have k1:some ad=some ad':=e1.trans k1
 injection k1 with k1
 subst k1
 have e:=Nat.div_add_mod j E.k
 rw [Nat.mul_comm] at e
 have:=E.all_get xs (j / E.k) (j % E.k) hd hm
 rw [e] at this
 rw [this] at hu
 have:=k2 _ _ hu
 rwa [e] at this
theorem run_app_rds (w:World) (t ty e:TypeId) (i:TypeInfo) (z:Value) (bytes:Nat) (ht:Tryz.prog.underlying t=some (.slice e)) (hi:Tryz.prog.info? e=some i) (hz:i.zero=some z) (hsize:i.size=EV.k) (hby:i.bytes=bytes) (hzs:z.cells.size=EV.k)
  (A X:Option Addr) (d:Nat) (xs ys:List VV) (hX:ys≠[]→∃ a,X=some a) (h1:RDS EV w (.slice A xs.length xs.length) xs) (h2:RDS EV w (.slice X ys.length d) ys) (hne:ys≠[]) (hb:(xs.length+ys.length)*bytes≤140737488355328) (hb0:0<bytes):
  ∃ g c w',(Builtin.append_ #[t,t] ty #[.slice A xs.length xs.length,.slice X ys.length d]).run Tryz.prog w=.ok (.slice (some ⟨g,0,none⟩) (xs++ys).length c) w'∧RDS EV w' (.slice (some ⟨g,0,none⟩) (xs++ys).length c) (xs++ys)∧Ext w w':=by
 obtain ⟨a,rfl⟩:=hX hne
 have hy0:0<ys.length:=List.length_pos_iff.2 hne
 have h63:xs.length+ys.length≤maxLen:=by
  have:xs.length+ys.length≤(xs.length+ys.length)*bytes:=Nat.le_mul_of_pos_right _ hb0
  unfold maxLen;omega
 have hone:∀ u∈EV.all ys,u.oneCell'=true:=by
  intro u hu
  unfold Ek.all at hu
  obtain ⟨y,_,hu⟩:=List.mem_flatMap.1 hu
  exact EV.one y u hu
 have key:∃ v' w',(Builtin.append_ #[t,t] ty #[.slice A xs.length xs.length,.slice (some a) ys.length d]).run Tryz.prog w=.ok v' w'∧w'.ownsRow w.heap.size e EV.k v' (xs.length+ys.length) (EV.all xs++EV.all ys)∧w.grownBy w' none:=by
  cases A with
  | some b=>exact run_append_arg_grows (P:=Tryz.prog) w t ty e i z EV.k bytes ht hi hz hsize hby hzs EV.kp b xs.length xs.length (EV.all xs) (EV.all_len xs) (rds_all h1) a ys.length d (EV.all ys) (EV.all_len ys) (rds_all h2) (by omega) h63 hb
  | none=>
   have hx:xs=[]:=by
    obtain ⟨A',c',he,_,_,h3⟩:=h1
    have e1:=(Value.slice.inj he).1
    rcases Nat.eq_zero_or_pos xs.length with h0 | h0
    ·exact List.length_eq_zero_iff.1 h0
    ·obtain ⟨ad',k1,_⟩:=h3 0 h0
     rw [← e1] at k1
     cases k1
   subst hx
   obtain ⟨v',w',hrun,g1,g2,_,g3⟩:=run_append_own_at (P:=Tryz.prog) w w.heap.size t ty e i z EV.k bytes ht hi hz hsize hby hzs EV.kp (.slice none 0 0) 0 [] (World.ownsRow_nil _ _ _ _) a ys.length d (EV.all ys) (EV.all_len ys) (rds_all h2) hone (by simpa using h63) (by simpa using hb) (Nat.le_refl _)
   exact ⟨v',w',hrun,by simpa [Ek.all] using g1,g2⟩
 obtain ⟨v',w',hrun,hown,hg⟩:=key
 have hal:EV.all xs++EV.all ys=EV.all (xs++ys):=by unfold Ek.all;rw [List.flatMap_append]
 rw [hal,← List.length_append] at hown
 rcases hown.2 with ⟨_,h0⟩ | ⟨g,cap,cur,rfl,_⟩
 ·rw [List.length_append] at h0;omega
 ·exact ⟨g,cap,w',hrun,rds_own hown,grown_of_ext hg⟩
theorem ordB_lt (a b:List UInt8):decide (ordB a b<0)=Op.bytesLess a b:=by
 unfold ordB
 cases Op.bytesLess a b with
 | true=>rfl
 | false=>
  rw [if_neg (by decide)]
  split<;>rfl
theorem ordB_ne {a b:List UInt8}(h:(a==b)=false):ordB a b≠0:=by
 unfold ordB
 split
 ·decide
 ·rw [if_neg (by rw [h];decide)]
  decide
theorem ordB_self (a:List UInt8):ordB a a=0:=ordB_zero.2 rfl
set_option maxRecDepth 100000 in
set_option maxHeartbeats 2000000 in
theorem RBefore_at (A:Option Addr) (c:Nat) (ps:List ByteArray) (r:ByteArray) (B:Option Addr) (d:Nat) (qs:List ByteArray) (t:ByteArray) (hn:ps.length≤1000) (hm:qs.length≤1000) (w:World) (hR:RS w (.slice A ps.length c) (sv ps)) (hQ:RS w (.slice B qs.length d) (sv qs)):
  Calls Tryz.prog 79 #[.agg #[.slice A ps.length c,.string r],.agg #[.slice B qs.length d,.string t]] w fun e w'=>e=.returned (.bool (decide (cmpN (dat ps) r.data.toList (dat qs) t.data.toList<0)))∧Ext w w':=by
 obtain ⟨X,hX⟩:∃ X,decide (cmpN (dat ps) r.data.toList (dat qs) t.data.toList<0)=X:=⟨_,rfl⟩
 rw [hX]
 unfold cmpN at hX
 have HX:=Lib.hid hX;clear hX
 have hT:=heap_alloc_new w (.cells #[.slice A ps.length c,.string r] 37)
 have hU:=heap_alloc_new (w.alloc (.cells #[.slice A ps.length c,.string r] 37)) (.cells #[.slice B qs.length d,.string t] 37)
 rw [World.size_alloc] at hU
 have x1:=(Ext.refl w).alloc (.cells #[.slice A ps.length c,.string r] 37)
 have x2:=(Ext.refl (w.alloc (.cells #[.slice A ps.length c,.string r] 37))).alloc (.cells #[.slice B qs.length d,.string t] 37)
 have hT2:=x2.heap hT
 have hx:=x1.trans x2
 obtain ⟨wb,hwb⟩:∃ wb,(w.alloc (.cells #[.slice A ps.length c,.string r] 37)).alloc (.cells #[.slice B qs.length d,.string t] 37)=wb:=⟨_,rfl⟩
 rw [hwb] at hT2 hU hx
 have HT:Hid (PB wb w.heap.size (.slice A ps.length c) r):=Lib.hid hT2
 have HU:Hid (PB wb (w.heap.size+1) (.slice B qs.length d) t):=Lib.hid hU
 have HXB:=Lib.hid hx;have HR:=Lib.hid hR;have HQ:=Lib.hid hQ
 obtain ⟨q0,q1⟩:=HT.out.cells
 obtain ⟨q2,q3⟩:=HU.out.cells
 clear hT hT2 hU hx x1 x2 hR hQ
 cases hrt:(r.data.toList==t.data.toList) with
 | false=>
  have e0:(r.toList==t.toList)=false:=by rw [ByteArray.toList_eq,ByteArray.toList_eq];exact hrt
  obtain ⟨b,hb⟩:∃ b,Op.bytesLess r.data.toList t.data.toList=b:=⟨_,rfl⟩
  have e1:Op.bytesLess r.toList t.toList=b:=by rw [ByteArray.toList_eq,ByteArray.toList_eq];exact hb
  have HY:=Lib.hid (show b=X by rw [← HX.out,if_pos (ordB_ne hrt),ordB_lt,hb])
  clear hrt hb
  go_enter Tryz.func79,Tryz.ntmps79
  go_wp2_with fail
  go_ret
  refine ⟨?_,HXB.out⟩
  rw [← HY.out];rfl
 | true=>
  have e0:(r.toList==t.toList)=true:=by rw [ByteArray.toList_eq,ByteArray.toList_eq];exact hrt
  have HY:=Lib.hid (show decide (cmpL ((dat ps).drop 0) ((dat qs).drop 0)<0)=X by
   have h:=HX.out
   rw [beq_iff_eq] at hrt
   rwa [hrt,if_neg (by rw [ordB_self];decide)] at h)
  clear hrt
  go_enter Tryz.func79,Tryz.ntmps79
  go_wp2_with fail
  clear q0 q1 q2 q3 e0
  go_loopw [5] (fun i wr=>∃ k:Nat,k≤ps.length∧k≤qs.length∧i=.int .i64 k∧Hid (decide (cmpL ((dat ps).drop k) ((dat qs).drop k)<0)=X)∧Hid (Ext wb wr)) (fun i _=>ps.length-(intOf i).toNat)
  case atStart=>exact ⟨0,Nat.zero_le _,Nat.zero_le _,rfl,HY,Lib.hid (Ext.refl _)⟩
  case round=>
   obtain ⟨k,hk1,hk2,rfl,HC,HE⟩:=hrel
   obtain ⟨q0,q1⟩:=(HT.out.ext HE.out).cells
   obtain ⟨q2,q3⟩:=(HU.out.ext HE.out).cells
   by_cases h12:k<ps.length∧k<qs.length
   ·obtain ⟨h1,h2⟩:=h12
    have hi1:(k:Int)<(ps.length:Int):=by omega
    have hi2:(k:Int)<(qs.length:Int):=by omega
    obtain ⟨A',c',he,e1,e2,e3⟩:=HR.out.ext (HXB.out.trans HE.out)
    obtain ⟨B',d',he',e1',e2',e3'⟩:=HQ.out.ext (HXB.out.trans HE.out)
    rw [sv_length] at e1 e3 he
    rw [sv_length] at e1' e3' he'
    injection he with z1 _ z3
    injection he' with z1' _ z3'
    subst z1;subst z3;subst z1';subst z3'
    obtain ⟨ad,rfl,_,hcell⟩:=e3 (by omega)
    obtain ⟨bd,rfl,_,hcell'⟩:=e3' (by omega)
    have g1:=hcell k _ (sv_get ps k h1)
    have g2:=hcell' k _ (sv_get qs k h2)
    have HG1:=Lib.hid g1;have HG2:=Lib.hid g2
    have HD:=Lib.hid (show decide ((if ordB ps[k].data.toList qs[k].data.toList≠0 then ordB ps[k].data.toList qs[k].data.toList else cmpL ((dat ps).drop (k+1)) ((dat qs).drop (k+1)))<0)=X by
     rw [← HC.out,cmpL_drop (k:=k) (la:=dat ps) (lb:=dat qs) (by rw [dat_length];exact h1) (by rw [dat_length];exact h2)]
     simp [dat])
    generalize ps[k]=p at g1 HD HG1
    generalize qs[k]=q at g2 HD HG2
    clear hcell hcell' e1 e2 e3 e1' e2' e3'
    have g1':wr.drew.cell? (ad.add k)=some (.string p):=g1
    have g2':wr.drew.cell? (bd.add k)=some (.string q):=g2
    obtain ⟨u0,u1⟩:=((HT.out.ext HE.out).ext (Ext.drew wr)).cells
    obtain ⟨u2,u3⟩:=((HU.out.ext HE.out).ext (Ext.drew wr)).cells
    cases hpq:(p.data.toList==q.data.toList) with
    | true=>
     have e0:(p.toList==q.toList)=true:=by rw [ByteArray.toList_eq,ByteArray.toList_eq];exact hpq
     have HD2:=Lib.hid (show decide (cmpL ((dat ps).drop (k+1)) ((dat qs).drop (k+1))<0)=X by
      have h:=HD.out
      rw [beq_iff_eq] at hpq
      rwa [hpq,if_neg (by rw [ordB_self];decide)] at h)
     clear hpq
     go_wp2_with fail
     refine still_all (by kernel_rfl) (by kernel_rfl) ?_
     repeat still_step
     refine wpStill_nil ?_
     go_wp2_with fail
     go_roundw
     case rel=>exact ⟨k+1,by omega,by omega,by go_num,HD2,Lib.hid (HE.out.trans (Ext.drew wr))⟩
     case measure=>simp [intOf];omega
    | false=>
     have e0:(p.toList==q.toList)=false:=by rw [ByteArray.toList_eq,ByteArray.toList_eq];exact hpq
     obtain ⟨b,hb⟩:∃ b,Op.bytesLess p.data.toList q.data.toList=b:=⟨_,rfl⟩
     have e1:Op.bytesLess p.toList q.toList=b:=by rw [ByteArray.toList_eq,ByteArray.toList_eq];exact hb
     have HD2:=Lib.hid (show b=X by have h:=HD.out;rwa [if_pos (ordB_ne hpq),ordB_lt,hb] at h)
     clear hpq hb
     go_wp2_with fail
     refine still_all (by kernel_rfl) (by kernel_rfl) ?_
     repeat still_step
     refine wpStill_nil ?_
     have g1'':wr.drew.drew.cell? (ad.add k)=some (.string p):=g1
     have g2'':wr.drew.drew.cell? (bd.add k)=some (.string q):=g2
     obtain ⟨v0,v1⟩:=(((HT.out.ext HE.out).ext (Ext.drew wr)).ext (Ext.drew wr.drew)).cells
     obtain ⟨v2,v3⟩:=(((HU.out.ext HE.out).ext (Ext.drew wr)).ext (Ext.drew wr.drew)).cells
     go_wp2_with fail
     refine still_all (by kernel_rfl) (by kernel_rfl) ?_
     repeat still_step
     refine wpStill_nil ?_
     go_wp2_with fail
     go_ret
     refine ⟨?_,((HXB.out.trans HE.out).trans (Ext.drew wr)).trans (Ext.drew wr.drew)⟩
     rw [← HD2.out];rfl
   ·have HF:=Lib.hid (show decide (ps.length<qs.length)=X by
     have h:=HC.out
     rw [cmpL_end (by rw [dat_length];exact hk1) (by rw [dat_length];exact hk2) (by rw [dat_length,dat_length];exact h12),dat_length,dat_length] at h
     rw [← h]
     by_cases h3:ps.length<qs.length
     ·rw [if_pos h3,decide_eq_true h3];rfl
     ·rw [if_neg h3,decide_eq_false h3];split<;>rfl)
    by_cases h1:k<ps.length
    ·have hkq:k=qs.length:=by omega
     subst hkq
     clear h12
     have h3:decide (ps.length<qs.length)=false:=decide_eq_false (by omega)
     have h4:¬ ((ps.length:Int)<(qs.length:Int)):=by omega
     go_wp2_with fail
     go_ret
     refine ⟨?_,HXB.out.trans HE.out⟩
     rw [← HF.out,h3];rfl
    ·have hkp:k=ps.length:=by omega
     subst hkp
     clear h12
     by_cases h3:ps.length<qs.length
     ·have h4:((ps.length:Int)<(qs.length:Int)):=by omega
      go_wp2_with fail
      go_ret
      refine ⟨?_,HXB.out.trans HE.out⟩
      rw [← HF.out,decide_eq_true h3];rfl
     ·have h4:¬ ((ps.length:Int)<(qs.length:Int)):=by omega
      go_wp2_with fail
      go_ret
      refine ⟨?_,HXB.out.trans HE.out⟩
      rw [← HF.out,decide_eq_false h3];rfl
end Go.Proofs.YtnjmndofcpnmeaaGreatDoor
