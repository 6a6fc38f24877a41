/- Pa51. -/
import Derived.Test.YtnjmndofcpnmeaaGreatDoorPa0
import Derived.Test.YtnjmndofcpnmeaaGreatDoorPa44
import Derived.Test.YtnjmndofcpnmeaaGreatDoorPa45
import Derived.Test.YtnjmndofcpnmeaaGreatDoorPa50
import Derived.Test.YtnjmndofcpnmeaaGreatDoorPa38
namespace Go.Proofs.YtnjmndofcpnmeaaGreatDoor
open Go Go.RowKit
set_option linter.unusedVariables false
noncomputable def alE (l:List Fct)(win lim:Int)(ad:Bool):List Alm:=open Classical in if argB l win lim then (almF l win lim ad).map (almO l win ad) else []
noncomputable def erE (l:List Fct)(win lim:Int):Int:=open Classical in if argB l win lim then 0 else 2
def ALE (l:List Fct)(win lim:Int)(ad:Bool)(B:Nat)(Q:List MV→World→Prop)(e:Ending)(w':World):Prop:=∃ (ms:List MV) (A:Option Addr) (c:Nat),e=.returned (.tuple #[.slice A ms.length c,.int .i64 (erE l win lim)])∧ROW EM 50 w' B (.slice A ms.length c) ms∧ms.map MV.alm=alE l win lim ad∧Q ms w'
theorem ALM.ale {l:List Fct}{win lim:Int}{ad:Bool}{w w':World}{e:Ending}(h:ALM l win lim ad w e w'):ALE l win lim ad w.heap.size (fun _ _=>True) e w':=by
 classical
 unfold ALE erE alE
 rcases h with ⟨hn,rfl⟩ | ⟨ha,v,ms,rfl,hr,hm⟩
 ·rw [if_neg hn,if_neg hn]
  exact ⟨[],none,0,rfl,ROW.nil _ _ _,rfl,trivial⟩
 ·rw [if_pos ha,if_pos ha]
  obtain ⟨A,c,rfl⟩:=hr.shape
  exact ⟨ms,A,c,rfl,hr,hm,trivial⟩
theorem ALF.ale {l:List Fct}{win lim:Int}{w w':World}{e:Ending}(h:ALF l win lim w e w'):ALE l win lim true w.heap.size (fun ms W=>ADF W w.heap.size ms) e w':=by
 classical
 unfold ALE erE alE
 rcases h with ⟨hn,rfl⟩ | ⟨ha,v,ms,rfl,hr,hm,hf⟩
 ·rw [if_neg hn,if_neg hn]
  exact ⟨[],none,0,rfl,ROW.nil _ _ _,rfl,ADF.nil _ _⟩
 ·rw [if_pos ha,if_pos ha]
  obtain ⟨A,c,rfl⟩:=hr.shape
  exact ⟨ms,A,c,rfl,hr,hm,hf⟩
theorem ALO.ale {l:List Fct}{win lim:Int}{ad:Bool}{B:Nat}{w w':World}{e:Ending}(h:ALO l win lim ad B w e w'):ALE l win lim ad w.heap.size (fun ms _=>∀ m∈ms,m.cp.length≤1000∧(m.fb≠[]→∀ ad',m.FA=some ad'→ad'.block<B)) e w':=by
 classical
 unfold ALE erE alE
 rcases h with ⟨hn,rfl⟩ | ⟨ha,v,ms,rfl,hr,hm,hf⟩
 ·rw [if_neg hn,if_neg hn]
  exact ⟨[],none,0,rfl,ROW.nil _ _ _,rfl,fun m hm=>(by cases hm)⟩
 ·rw [if_pos ha,if_pos ha]
  obtain ⟨A,c,rfl⟩:=hr.shape
  exact ⟨ms,A,c,rfl,hr,hm,hf⟩
theorem RS.old {w w' W:World}{A:Option Addr}{n c:Nat}{xs:List Value}(h:RS w' (.slice A n c) xs)(hA:xs≠[]→∀ ad,A=some ad→ad.block<w.heap.size)(hx:Ext w w')(hX:Ext w W):RS W (.slice A n c) xs:=by
 obtain ⟨A',c',he,h1,h2,h3⟩:=h
 refine ⟨A',c',he,h1,h2,fun h0=>?_⟩
 obtain ⟨ad,hA',hb,hc⟩:=h3 h0
 injection he with e1 _ _
 have hbl:=hA (fun e=>by rw [e] at h0;exact absurd h0 (Nat.lt_irrefl 0)) ad (by rw [e1];exact hA')
 refine ⟨ad,hA',Nat.lt_of_lt_of_le hbl hX.size,fun j u hu=>?_⟩
 have hk:(ad.add j).block<w.heap.size:=by rw [block_of_add];exact hbl
 rw [World.cell?_of_block (hX.block _ hk),← World.cell?_of_block (hx.block _ hk)]
 exact hc j u hu
theorem F7.far {W:World}{p:Addr}{m:MV}(h:F7 W p m){g k:Nat}(hne:p.block≠g)(v:Value):F7 (W.setCell ⟨g,k,none⟩ v) p m:=by
 have e:(W.setCell ⟨g,k,none⟩ v).heap[p.block]? = W.heap[p.block]?:=Below.heap_setCell _ _ _ _ hne
 obtain ⟨y0,y1,y2,y3,y4,y5,y6⟩:=h.cells
 have key:∀ (o:Nat) (u:Value),W.cell? ⟨p.block,o,none⟩=some u→(W.setCell ⟨g,k,none⟩ v).cell? ⟨p.block,o,none⟩=some u:=fun o u hu=>(World.cell?_of_block (a:=⟨p.block,o,none⟩) e).trans hu
 exact ⟨(World.cell?_of_block e).trans y0,key _ _ y1,key _ _ y2,key _ _ y3,key _ _ y4,key _ _ y5,key _ _ y6⟩
structure AIN (w W:World) (ms ds:List MV) (Ab Ad:Option Addr) (i:Nat):Prop where
 ex:Ext w W
 cb:∀ j (h:j<ms.length),∃ ad,Ab=some ad∧F7 W (ad.add (j*7)) ms[j]
 cd:∀ j (h:j<ds.length),∃ ad,Ad=some ad∧F7 W (ad.add (j*7)) ds[j]
 ob:∀ j (h:j<ms.length),i≤j→OB 5 W w.heap.size (ownA ms[j]) ms[j].fb
theorem AIN.ext {w W W':World}{ms ds:List MV}{Ab Ad:Option Addr}{i:Nat}(h:AIN w W ms ds Ab Ad i)(hx:Ext W W'):AIN w W' ms ds Ab Ad i:=
 ⟨h.ex.trans hx,fun j hj=>let ⟨ad,e,k⟩:=h.cb j hj;⟨ad,e,k.ext hx⟩,fun j hj=>let ⟨ad,e,k⟩:=h.cd j hj;⟨ad,e,k.ext hx⟩,fun j hj hi=>(h.ob j hj hi).ext hx⟩
theorem AIN.succ {w W:World}{ms ds:List MV}{Ab Ad:Option Addr}{i:Nat}(h:AIN w W ms ds Ab Ad i):AIN w W ms ds Ab Ad (i+1):=⟨h.ex,h.cb,h.cd,fun j hj hi=>h.ob j hj (by omega)⟩
theorem AIN.put {w W:World}{ms ds:List MV}{Ab Ad:Option Addr}{i g k:Nat}(h:AIN w W ms ds Ab Ad i)(hg:w.heap.size≤g)(hb:∀ ad,Ab=some ad→ad.block≠g)(hd:∀ ad,Ad=some ad→ad.block≠g)(ho:∀ j (hj:j<ms.length),i≤j→(ownA ms[j]).ownBlock≠some g)(v:Value):AIN w (W.setCell ⟨g,k,none⟩ v) ms ds Ab Ad i:=by
 refine ⟨h.ex.setCell (p:=⟨g,k,none⟩) hg v,fun j hj=>?_,fun j hj=>?_,fun j hj hi=>?_⟩
 ·obtain ⟨ad,e,f⟩:=h.cb j hj
  exact ⟨ad,e,f.far (by rw [block_of_add];exact hb ad e) v⟩
 ·obtain ⟨ad,e,f⟩:=h.cd j hj
  exact ⟨ad,e,f.far (by rw [block_of_add];exact hd ad e) v⟩
 ·exact (h.ob j hj hi).kept8 (grown_set (grown_refl W (some g)) k v) (.inr (ho j hj hi))
def NEB (ms:List MV)(Ab Ad:Option Addr):Prop:=∀ m∈ms,∀ g,(ownA m).ownBlock=some g→(∀ ad,Ab=some ad→ad.block≠g)∧(∀ ad,Ad=some ad→ad.block≠g)
theorem neb_of {w2 w3 w5:World}{B:Nat}{ms ds:List MV}{Ab Ad:Option Addr}{nb nd cb cd:Nat}(hb:ROW EM 50 w2 B (.slice Ab nb cb) ms)(hf:ADF w2 B ms)(hx:Ext w2 w3)(hd:ROW EM 50 w5 w3.heap.size (.slice Ad nd cd) ds):NEB ms Ab Ad:=fun m hm g hg=>by
 refine ⟨fun ad e e2=>?_,fun ad e e2=>?_⟩
 ·rcases own_ne hb (hf.1 m hm) with h | h
  ·rw [h] at hg;cases hg
  ·refine h ?_
   rw [hg,e]
   show some g=some ad.block
   rw [e2]
 ·have h1:=(World.ownsRow.lt (hf.1 m hm) g hg).2
  have h2:=(hd.lt g (by rw [e];show some ad.block=some g;rw [e2])).1
  have h3:=hx.size
  omega
theorem alE_cp {l:List Fct}{win lim:Int}{ms:List MV}(h:ms.map MV.alm=alE l win lim true):∀ m∈ms,m.cp=[]:=fun m hm=>by
 classical
 have h1:m.alm∈alE l win lim true:=h ▸ List.mem_map.2 ⟨m,hm,rfl⟩
 unfold alE at h1
 split at h1
 ·obtain ⟨i,_,e⟩:=List.mem_map.1 h1
  have h2:=congrArg (fun a:Alm=>a.cp.length) e
  unfold almO MV.alm at h2
  rw [if_pos rfl] at h2
  dsimp only at h2
  rw [dat_length] at h2
  exact List.eq_nil_of_length_eq_zero h2.symm
 ·cases h1
theorem alE_cl {xs:List FV}{win lim:Int}{ms:List MV}(hz:∀ f∈xs,f.Sz)(h:ms.map MV.alm=alE (xs.map FV.fct) win lim false):∀ m∈ms,m.cp.length≤1000:=fun m hm=>by
 classical
 have h1:m.alm∈alE (xs.map FV.fct) win lim false:=h ▸ List.mem_map.2 ⟨m,hm,rfl⟩
 unfold alE at h1
 split at h1
 ·obtain ⟨i,hi,e⟩:=List.mem_map.1 h1
  have hil:=alm_lt hi
  rw [List.length_map] at hil
  have h2:=congrArg (fun a:Alm=>a.cp.length) e
  dsimp only [MV.alm] at h2
  rw [dat_length] at h2
  rw [← h2]
  unfold almO
  rw [if_neg (by decide),atF_xs hil]
  show (dat (xs[i]'hil).cp).length≤1000
  rw [dat_length]
  exact (hz _ (List.getElem_mem hil)).cp
 ·cases h1
theorem same_at {ms ds:List MV}(h:ms.map MV.alm=ds.map MV.alm)(k:Nat)(h1:k<ms.length)(h2:k<ds.length):sameA ms[k] ds[k]=true:=sameA_alm (by
 have e:=congrArg (fun l:List Alm=>l[k]?) h
 rw [List.getElem?_map,List.getElem?_map,List.getElem?_eq_getElem h1,List.getElem?_eq_getElem h2] at e
 simpa using e)
theorem OB.rowB {e:TypeId}{w:World}{B:Nat}{A:Option Addr}{c:Nat}{l:List UInt8}(h:OB e w B (.slice A l.length c) l)(hl:0<l.length):∃ g cur,A=some ⟨g,0,none⟩∧B≤g∧RW w g e cur∧∀ j (hj:j<l.length),cur[j]? = some (.int .u8 (l[j].toNat:Int)):=by
 rcases h.2 with ⟨h0,h1⟩ | ⟨g,cap,cur,hv,hB,hh,hn,hm,hs,hx⟩
 ·omega
 ·injection hv with e1 _ _
  refine ⟨g,cur,e1,hB,hh,fun j hj=>?_⟩
  have h1:(bv l)[j]? = some (.int .u8 (l[j].toNat:Int)):=bv_get l j hj
  rw [← hx,List.getElem?_take_of_lt (by omega)] at h1
  rw [← h1]
  simp
attribute [local irreducible] wpE
set_option maxRecDepth 100000 in
set_option maxHeartbeats 4000000 in
theorem lawLgAl (A:Option Addr) (c:Nat) (xs:List FV) (win lim:Int) (w:World) (hF:FS w (.slice A xs.length c) xs) (hwf:∀ f∈xs,f.Wf) (hw:i64B win) (hl:i64B lim) (hE:EnvA w):
  Calls Tryz.prog 8 #[.slice A xs.length c,.int .i64 win,.int .i64 lim] w fun e w'=>e=.returned (.bool true)∧Ext w w':=by
 have HFW:=Lib.hid (Few_at A c xs w hF)
 have HF:=Lib.hid hF;have HE:=Lib.hid hE;have HWF:=Lib.hid (show ∀ f∈xs,i64B f.fk from fun f hf=>(hwf f hf).fk);have HLB:=Lib.hid hl
 obtain ⟨fb,hfb⟩:∃ b,fewB xs=b:=⟨_,rfl⟩
 rw [hfb] at HFW
 obtain ⟨n,hn'⟩:∃ n,xs.length=n:=⟨_,rfl⟩
 have HN:=Lib.hid hn'
 rw [hn'] at HF HFW ⊢
 clear hF hE hwf hn' hw hl
 cases fb with
 | false=>
  clear hfb
  go_enter Tryz.func8,Tryz.ntmps8
  go_wp2_with fail
  refine HFW.out.mono ?_
  rintro _ w1 ⟨rfl,hx1⟩
  have HX1:=Lib.hid hx1
  clear hx1
  go_wp2_with fail
  refine (LKnown_at _ (HE.out.ext HX1.out)).mono ?_
  rintro _ wk ⟨rfl,hxk⟩
  have HXK:=Lib.hid (HX1.out.trans hxk)
  clear hxk
  go_wp2_with fail
  go_ret
  exact ⟨rfl,HXK.out⟩
 | true=>
 have HSZ:=Lib.hid (fewB_yes hfb).1
 have hn40:n≤40:=by have:=(fewB_yes hfb).2;rw [HN.out] at this;exact this
 clear hfb
 have HNL:=Lib.hid (show xs.length≤1000 by have:=HN.out;omega)
 have HFX:=Lib.hid (fun W (hx:Ext w W)=>(HN.out ▸ HF.out:FS w (.slice A xs.length c) xs).ext hx)
 have HB0:=Lib.hid (show ∀ x∈xs,(x.cp≠[]→∀ ad',x.CA=some ad'→ad'.block<w.heap.size)∧(x.fb≠[]→∀ ad',x.FA=some ad'→ad'.block<w.heap.size) from fun x hx=>by
  obtain ⟨k,hk,rfl⟩:=List.getElem_of_mem hx
  have hq:=(HFX.out w (Ext.refl w)).f12 k hk
  refine ⟨fun hne ad' hA=>(RS.lt hq.1.cp (sv_ne hne) hA).1,fun hne ad' hA=>?_⟩
  have h:=hq.1.fb
  rw [hA] at h
  exact h.blockLt hne _ rfl)
 have HLG:=Lib.hid (fun W (hx:Ext w W)=>RLog_at A c xs W (HFX.out W hx) HNL.out HSZ.out)
 have HCL:=Lib.hid (fun W (hx:Ext w W)=>(Clients_at A c xs win lim W (HFX.out W hx) HNL.out HSZ.out (HE.out.ext hx) HLB.out).mono fun e w' (h:_∧_)=>(⟨h.1.ale,h.2⟩:ALE (xs.map FV.fct) win lim false W.heap.size (fun _ _=>True) e w'∧Ext W w'))
 have HAD:=Lib.hid (fun W (hx:Ext w W)=>(Addresses2_at A c xs win lim W (HFX.out W hx) HNL.out HSZ.out HWF.out (HE.out.ext hx) HLB.out).mono fun e w' (h:_∧_)=>(⟨h.1.ale,h.2⟩:ALE (xs.map FV.fct) win lim true W.heap.size (fun ms V=>ADF V W.heap.size ms) e w'∧Ext W w'))
 have HRC:=Lib.hid (fun W (hx:Ext w W)=>(RAlarmsP_at A c xs win lim W (HFX.out W hx) HNL.out HSZ.out w.heap.size hx.size HB0.out).mono fun e w' (h:_∧_)=>(⟨h.1.ale,h.2⟩:ALE (xs.map FV.fct) win lim false W.heap.size (fun ms _=>∀ m∈ms,m.cp.length≤1000∧(m.fb≠[]→∀ ad',m.FA=some ad'→ad'.block<w.heap.size)) e w'∧Ext W w'))
 have HRA:=Lib.hid (fun W (hx:Ext w W)=>(RAlarmsA_at A c xs win lim W (HFX.out W hx) HNL.out HSZ.out w.heap.size hx.size HB0.out).mono fun e w' (h:_∧_)=>(⟨h.1.ale,h.2⟩:ALE (xs.map FV.fct) win lim true W.heap.size (fun ms _=>∀ m∈ms,m.cp.length≤1000∧(m.fb≠[]→∀ ad',m.FA=some ad'→ad'.block<w.heap.size)) e w'∧Ext W w'))
 unfold logR at HLG
 obtain ⟨ok,hok⟩:∃ b,(xs.all fun x=>x.fct.ok)=b:=⟨_,rfl⟩
 rw [hok] at HLG
 obtain ⟨TL,hTL⟩:∃ T:ByteArray,(⟨(bif ok then logT (xs.map FV.fct) else []).toArray⟩:ByteArray)=T:=⟨_,rfl⟩
 obtain ⟨ev,hev⟩:∃ ev:Int,(bif ok then 0 else 2)=ev:=⟨_,rfl⟩
 rw [hTL,hev,HN.out] at HLG
 rw [HN.out] at HCL HAD HRC HRA
 clear hTL hok hev
 have HS0:=Lib.hid (Nat.le_refl w.heap.size)
 go_enter Tryz.func8,Tryz.ntmps8
 go_wp2_with fail
 refine HFW.out.mono ?_
 rintro _ w1 ⟨rfl,hx1⟩
 have HX1:=Lib.hid hx1
 clear hx1 HFW
 go_wp2_with fail
 refine (HLG.out _ HX1.out).mono ?_
 rintro _ w2 ⟨rfl,hx2⟩
 have HX2:=Lib.hid (HX1.out.trans hx2)
 clear hx2 HX1
 go_wp2_with fail
 refine (HCL.out _ HX2.out).mono ?_
 rintro _ w3 ⟨⟨ma,A3,c3,rfl,hr3,hm3,_⟩,hx3⟩
 have HX3:=Lib.hid (HX2.out.trans hx3);have HR3:=Lib.hid hr3;have HM3:=Lib.hid hm3
 clear hx3 hr3 hm3 HX2 HCL
 go_wp2_with fail
 refine (HAD.out _ HX3.out).mono ?_
 rintro _ w4 ⟨⟨mb,A4,c4,rfl,hr4,hm4,hf4⟩,hx4⟩
 have HX4:=Lib.hid (HX3.out.trans hx4);have HR4:=Lib.hid hr4;have HM4:=Lib.hid hm4;have HF4:=Lib.hid hf4;have HRA3:=Lib.hid (HR3.out.ext hx4);have HX34:=Lib.hid HX3.out
 clear hx4 hr4 hm4 hf4 HAD
 go_wp2_with fail
 refine (HRC.out _ HX4.out).mono ?_
 rintro _ w5 ⟨⟨mc,A5,c5,rfl,hr5,hm5,hf5⟩,hx5⟩
 have HX5:=Lib.hid (HX4.out.trans hx5);have HR5:=Lib.hid hr5;have HM5:=Lib.hid hm5;have HF5:=Lib.hid hf5;have HRA5:=Lib.hid (HRA3.out.ext hx5);have HX45:=Lib.hid hx5
 clear hx5 hr5 hm5 hf5 HRC
 go_wp2_with fail
 refine (HRA.out _ HX5.out).mono ?_
 rintro _ w6 ⟨⟨md,A6,c6,rfl,hr6,hm6,hf6⟩,hx6⟩
 have HX6:=Lib.hid (HX5.out.trans hx6);have HR6:=Lib.hid hr6;have HM6:=Lib.hid hm6;have HF6:=Lib.hid hf6
 have HAA:=Lib.hid (HRA5.out.ext hx6);have HCC:=Lib.hid (HR5.out.ext hx6);have HBB:=Lib.hid (HR4.out.ext (HX45.out.trans hx6));have HBF:=Lib.hid (HF4.out.ext (HX45.out.trans hx6))
 have HNE:=Lib.hid (neb_of HR4.out HF4.out HX45.out hr6)
 have HAC:=Lib.hid (HM3.out.trans HM5.out.symm);have HBD:=Lib.hid (HM4.out.trans hm6.symm)
 have HLA:=Lib.hid (alE_cl HSZ.out HM3.out);have HLC:=Lib.hid (alE_cl HSZ.out HM5.out);have HPB:=Lib.hid (alE_cp HM4.out);have HPD:=Lib.hid (alE_cp hm6)
 have hla:mc.length=ma.length:=by have:=congrArg List.length HAC.out;rw [List.length_map,List.length_map] at this;exact this.symm
 have hlb:md.length=mb.length:=by have:=congrArg List.length HBD.out;rw [List.length_map,List.length_map] at this;exact this.symm
 obtain ⟨na,hna⟩:∃ k,ma.length=k:=⟨_,rfl⟩
 obtain ⟨nb,hnb⟩:∃ k,mb.length=k:=⟨_,rfl⟩
 have HNA:=Lib.hid hna;have HNB:=Lib.hid hnb;have HNC:=Lib.hid (hla.trans hna);have HND:=Lib.hid (hlb.trans hnb)
 have hzA:na≤9223372036854775807∧nb≤9223372036854775807:=by
  obtain ⟨_,c1,e1,g1,g2⟩:=HAA.out.cells
  obtain ⟨_,c2,e2,g3,g4⟩:=HBB.out.cells
  unfold maxLen at g2 g4
  omega
 have hzA1:=hzA.1;have hzA2:=hzA.2
 rw [hla,hlb,hna,hnb]
 rw [hla.trans hna] at HCC
 rw [hlb.trans hnb] at HR6
 rw [hna] at HAA
 rw [hnb] at HBB
 have HAI:=Lib.hid (show AIN w w6 mb md A4 A6 0 from ⟨HX6.out,fun j hj=>(HBB.out.f7 j hj).2,fun j hj=>(HR6.out.f7 j hj).2,fun j hj _=>OB.mono (HBF.out.1 _ (List.getElem_mem hj)) HX34.out.size⟩)
 have HXW6:=Lib.hid HX6.out
 have HDI:=Lib.hid (fun W (hX:Ext w W) (j:Nat) (hj:j<md.length)=>(show md[j].In W from by
  have h:=(HR6.out.f7 j hj).1
  have hm:=List.getElem_mem hj
  refine ⟨RS.old h.cp (fun hne=>absurd (by rw [HPD.out _ hm];rfl) hne) HXW6.out hX,RS.old h.fb (fun hne ad e=>(HF6.out _ hm).2 (fun e0=>hne (by rw [e0];rfl)) ad e) HXW6.out hX⟩))
 have HBC:=Lib.hid (fun W (hX:Ext w W) (j:Nat) (hj:j<mb.length)=>(show RS W (.slice mb[j].CA mb[j].cp.length mb[j].cc) (sv mb[j].cp) from by
  have h:=(HBB.out.f7 j hj).1
  exact RS.old h.cp (fun hne=>absurd (by rw [HPB.out _ (List.getElem_mem hj)];rfl) hne) HXW6.out hX))
 have HPW:=Lib.hid HBF.out.2
 clear hx6 hr6 hm6 hf6 hla hlb hna hnb hzA
 have hee:(erE (xs.map FV.fct) win lim != erE (xs.map FV.fct) win lim)=false:=by simp
 have hna:((na:Int) != (na:Int))=false:=by simp
 have hnb:((nb:Int) != (nb:Int))=false:=by simp
 have hTT:(TL.toList==TL.toList)=true:=beq_self_eq_true _
 generalize erE (xs.map FV.fct) win lim=er at *
 go_wp2_with fail
 clear hee hna hnb
 go_loopw [17] (fun i wr=>∃ k:Nat,k≤na∧i=.int .i64 k∧Hid (Ext w6 wr)) (fun i _=>na-(intOf i).toNat)
 case atStart=>exact ⟨0,Nat.zero_le _,rfl,Lib.hid (Ext.refl w6)⟩
 case round=>
  obtain ⟨k,hk,rfl,HX⟩:=hrel
  obtain ⟨wo,rfl⟩:∃ wo:World,wo=wr:=⟨_,rfl⟩
  by_cases hlt:k<na
  ·have hka:k<ma.length:=by rw [HNA.out];exact hlt
   have hkc:k<mc.length:=by rw [HNC.out];exact hlt
   obtain ⟨hin5,a5,rfl,h5⟩:=(HAA.out.ext HX.out).f7 k hka
   obtain ⟨hin0,a0,rfl,h0⟩:=(HCC.out.ext HX.out).f7 k hkc
   have hsm:=same_at HAC.out k hka hkc
   have hz1:=HLA.out _ (List.getElem_mem hka)
   have hz0:=HLC.out _ (List.getElem_mem hkc)
   generalize ma[k]=q at *
   generalize mc[k]=p at *
   have HSM:=Lib.hid (fun W (hW:Ext wo W)=>(show Calls Tryz.prog 17 #[.agg #[.slice q.CA q.cp.length q.cc,.string q.cr,.int .i64 q.fk,.slice q.FA q.fb.length q.fc,.int .i64 q.n,.int .i64 q.b,.int .i64 q.t],.agg #[.slice p.CA p.cp.length p.cc,.string p.cr,.int .i64 p.fk,.slice p.FA p.fb.length p.fc,.int .i64 p.n,.int .i64 p.b,.int .i64 p.t]] W fun e w'=>e=.returned (.bool true)∧Ext W w' from by
    have k:=SameA_at q p W (hin5.ext hW) (hin0.ext hW) hz1 hz0
    rw [hsm] at k
    exact k))
   have HQ:=Lib.hid h5;have HP:=Lib.hid h0
   clear hin5 hin0 hsm hz1 hz0 h5 h0 hka hkc
   go_upto_region 13 with fail
   refine wp_region_ext (fun i v' w'=>match i with | 8=>v'=.bool true | _=>False) (by kernel_rfl) (by kernel_rfl) ?_
   refine wpE_op rfl rfl (fun w' hw' K' hK'=>?_)
   have hE:=hw'.1
   go_step
   refine hK' _ ⟨_,rfl⟩ ?_
   clear hK' K' hE hw' w'
   refine wpE_op rfl rfl (fun w' hw' K' hK'=>?_)
   have hE:=hw'.1
   go_step
   refine hK' _ ⟨_,rfl⟩ ?_
   clear hK' K' hE hw' w'
   refine wpE_op rfl rfl (fun w' hw' K' hK'=>?_)
   have hE:=hw'.1
   go_step
   refine hK' _ ⟨_,rfl⟩ ?_
   clear hK' K' hE hw' w'
   refine wpE_op rfl rfl (fun w' hw' K' hK'=>?_)
   have hE:=hw'.1
   obtain ⟨y0,y1,y2,y3,y4,y5,y6⟩:=(HQ.out.ext ((Ext.drew wo).trans hE)).cells
   go_step
   refine hK' _ ⟨_,rfl⟩ ?_
   clear hK' K' y0 y1 y2 y3 y4 y5 y6 hE hw' w'
   refine wpE_op rfl rfl (fun w' hw' K' hK'=>?_)
   have hE:=hw'.1
   go_step
   refine hK' _ ⟨_,rfl⟩ ?_
   clear hK' K' hE hw' w'
   refine wpE_op rfl rfl (fun w' hw' K' hK'=>?_)
   have hE:=hw'.1
   go_step
   refine hK' _ ⟨_,rfl⟩ ?_
   clear hK' K' hE hw' w'
   refine wpE_op rfl rfl (fun w' hw' K' hK'=>?_)
   have hE:=hw'.1
   go_step
   refine hK' _ ⟨_,rfl⟩ ?_
   clear hK' K' hE hw' w'
   refine wpE_op rfl rfl (fun w' hw' K' hK'=>?_)
   have hE:=hw'.1
   obtain ⟨z0,z1,z2,z3,z4,z5,z6⟩:=(HP.out.ext ((Ext.drew wo).trans hE)).cells
   go_step
   refine hK' _ ⟨_,rfl⟩ ?_
   clear hK' K' z0 z1 z2 z3 z4 z5 z6 hE hw' w'
   refine wpE_call 95 rfl (by simp) rfl (fun w' hw' K' hK'=>?_) ?_
   ·have hE:=hw'.1
    go_step
    refine (HSM.out w' ((Ext.drew _).trans hE)).mono ?_
    rintro _ w2 ⟨rfl,hx⟩
    exact hK' _ _ ⟨_,rfl,rfl⟩ hx
   rintro _ w6 _ rfl
   simp only [Act.put,sT1,sT2,sT3]
   refine wpE_op rfl rfl (fun w' hw' K' hK'=>?_)
   have hE:=hw'.1
   go_step
   refine hK' _ ⟨_,rfl⟩ ?_
   clear hK' K' hE hw' w'
   refine wpE_nil (fun W hW=>?_)
   have HXW:=Lib.hid (HX.out.trans ((Ext.drew wo).trans hW.1))
   clear hW
   go_wp2_with fail
   go_roundw
   case rel=>exact ⟨k+1,by omega,by go_num,HXW⟩
   case measure=>simp [intOf];omega
  ·have HAJ:=Lib.hid (HAI.out.ext HX.out)
   clear HAI
   go_wp2_with fail
   go_loopw [18,19] (fun i _ wr=>∃ k:Nat,k≤nb∧i=.int .i64 k∧Hid (AIN w wr mb md A4 A6 k)) (fun i _ _=>nb-(intOf i).toNat)
   case atStart=>exact ⟨0,Nat.zero_le _,rfl,HAJ⟩
   case round=>
    obtain ⟨i,hi,rfl,HI⟩:=hrel
    obtain ⟨wi,rfl⟩:∃ wi:World,wi=wr:=⟨_,rfl⟩
    by_cases hil:i<nb
    ·have hib:i<mb.length:=by rw [HNB.out];exact hil
     have hid:i<md.length:=by rw [HND.out];exact hil
     obtain ⟨a4,hA4,h4⟩:=HI.out.cb i hib
     obtain ⟨a6,hA6,h6⟩:=HI.out.cd i hid
     have hob:=HI.out.ob i hib (Nat.le_refl _)
     have hsm:=same_at HBD.out i hib hid
     have hz1:mb[i].cp.length≤1000:=by rw [HPB.out _ (List.getElem_mem hib)];exact Nat.zero_le _
     have hz0:md[i].cp.length≤1000:=by rw [HPD.out _ (List.getElem_mem hid)];exact Nat.zero_le _
     have hinq:mb[i].In wi:=⟨HBC.out wi HI.out.ex i hib,hob.bs⟩
     have hinp:md[i].In wi:=HDI.out wi HI.out.ex i hid
     have HNG:=Lib.hid (fun g (hg:(ownA mb[i]).ownBlock=some g)=>HNE.out _ (List.getElem_mem hib) g hg)
     have HPWI:=Lib.hid (fun g (hg:(ownA mb[i]).ownBlock=some g) (j:Nat) (hj:j<mb.length) (hij:i+1≤j)=>List.pairwise_iff_getElem.1 HPW.out i j hib hj (by omega) g hg)
     have HCB:=Lib.hid (fun W (h:AIN w W mb md A4 A6 (i+1))=>h.cb i hib)
     generalize mb[i]=q at *
     generalize md[i]=p at *
     have HSM:=Lib.hid (fun W (hW:Ext wi W)=>(show Calls Tryz.prog 17 #[.agg #[.slice q.CA q.cp.length q.cc,.string q.cr,.int .i64 q.fk,.slice q.FA q.fb.length q.fc,.int .i64 q.n,.int .i64 q.b,.int .i64 q.t],.agg #[.slice p.CA p.cp.length p.cc,.string p.cr,.int .i64 p.fk,.slice p.FA p.fb.length p.fc,.int .i64 p.n,.int .i64 p.b,.int .i64 p.t]] W fun e w'=>e=.returned (.bool true)∧Ext W w' from by
      have k:=SameA_at q p W (hinq.ext hW) (hinp.ext hW) hz1 hz0
      rw [hsm] at k
      exact k))
     have HQ:=Lib.hid h4;have HP:=Lib.hid h6;have HOB:=Lib.hid hob
     subst hA4
     subst hA6
     clear hinq hinp hsm hz1 hz0 h4 h6 hob hib hid
     go_upto_region 18 with fail
     refine wp_region_ext (fun i v' w'=>match i with | 8=>v'=.bool true | _=>False) (by kernel_rfl) (by kernel_rfl) ?_
     refine wpE_op rfl rfl (fun w' hw' K' hK'=>?_)
     have hE:=hw'.1
     go_step
     refine hK' _ ⟨_,rfl⟩ ?_
     clear hK' K' hE hw' w'
     refine wpE_op rfl rfl (fun w' hw' K' hK'=>?_)
     have hE:=hw'.1
     go_step
     refine hK' _ ⟨_,rfl⟩ ?_
     clear hK' K' hE hw' w'
     refine wpE_op rfl rfl (fun w' hw' K' hK'=>?_)
     have hE:=hw'.1
     go_step
     refine hK' _ ⟨_,rfl⟩ ?_
     clear hK' K' hE hw' w'
     refine wpE_op rfl rfl (fun w' hw' K' hK'=>?_)
     have hE:=hw'.1
     obtain ⟨y0,y1,y2,y3,y4,y5,y6⟩:=(HQ.out.ext ((Ext.drew wi).trans hE)).cells
     go_step
     refine hK' _ ⟨_,rfl⟩ ?_
     clear hK' K' y0 y1 y2 y3 y4 y5 y6 hE hw' w'
     refine wpE_op rfl rfl (fun w' hw' K' hK'=>?_)
     have hE:=hw'.1
     go_step
     refine hK' _ ⟨_,rfl⟩ ?_
     clear hK' K' hE hw' w'
     refine wpE_op rfl rfl (fun w' hw' K' hK'=>?_)
     have hE:=hw'.1
     go_step
     refine hK' _ ⟨_,rfl⟩ ?_
     clear hK' K' hE hw' w'
     refine wpE_op rfl rfl (fun w' hw' K' hK'=>?_)
     have hE:=hw'.1
     go_step
     refine hK' _ ⟨_,rfl⟩ ?_
     clear hK' K' hE hw' w'
     refine wpE_op rfl rfl (fun w' hw' K' hK'=>?_)
     have hE:=hw'.1
     obtain ⟨z0,z1,z2,z3,z4,z5,z6⟩:=(HP.out.ext ((Ext.drew wi).trans hE)).cells
     go_step
     refine hK' _ ⟨_,rfl⟩ ?_
     clear hK' K' z0 z1 z2 z3 z4 z5 z6 hE hw' w'
     refine wpE_call 111 rfl (by simp) rfl (fun w' hw' K' hK'=>?_) ?_
     ·have hE:=hw'.1
      go_step
      refine (HSM.out w' ((Ext.drew _).trans hE)).mono ?_
      rintro _ w2 ⟨rfl,hx⟩
      exact hK' _ _ ⟨_,rfl,rfl⟩ hx
     rintro _ w6 _ rfl
     simp only [Act.put,sT1,sT2,sT3]
     refine wpE_op rfl rfl (fun w' hw' K' hK'=>?_)
     have hE:=hw'.1
     go_step
     refine hK' _ ⟨_,rfl⟩ ?_
     clear hK' K' hE hw' w'
     refine wpE_nil (fun W hW=>?_)
     have hxW:=(Ext.drew wi).trans hW.1
     have HIW:=Lib.hid (HI.out.succ.ext hxW)
     have HOW:=Lib.hid (HOB.out.ext hxW)
     have HZ0:=Lib.hid (show q.fb.length=0∨∃ g cur,q.FA=some ⟨g,0,none⟩∧w.heap.size≤g∧RW W g 5 cur∧∀ j (hj:j<q.fb.length),cur[j]? = some (.int .u8 (q.fb[j].toNat:Int)) from by
      rcases Nat.eq_zero_or_pos q.fb.length with h | h
      ·exact .inl h
      ·exact .inr (HOW.out.rowB h))
     clear hW hxW HI HSM HQ HP HOB
     rcases HZ0.out with hq0 | ⟨g,cur,hFA,hg,hrw,hcur⟩
     ·have hcb:=HCB.out W HIW.out
      obtain ⟨a7,e7,h7⟩:=hcb
      injection e7 with e7
      subst e7
      obtain ⟨y0,y1,y2,y3,y4,y5,y6⟩:=h7.cells
      rw [hq0] at y3
      have HQ0:=Lib.hid hq0
      clear h7 hq0
      go_wp2_with fail
      go_loopw [19] (fun v wr=>v=.int .i64 0∧Hid (AIN w wr mb md (some a4) (some a6) (i+1))) (fun v _=>1)
      case atStart=>exact ⟨rfl,HIW⟩
      case round=>
       obtain ⟨rfl,HIK⟩:=hrel
       obtain ⟨wk,rfl⟩:∃ wk:World,wk=wr:=⟨_,rfl⟩
       obtain ⟨a7,e7,h7⟩:=HCB.out wk HIK.out
       injection e7 with e7
       subst e7
       obtain ⟨z0,z1,z2,z3,z4,z5,z6⟩:=h7.cells
       rw [HQ0.out] at z3
       clear h7
       go_wp2_with fail
       go_roundw
       case rel=>exact ⟨i+1,by omega,by go_num,HIK⟩
       case measure=>simp [intOf];omega
     ·have HFA:=Lib.hid hFA;have HG:=Lib.hid hg;have HRW:=Lib.hid hrw;have HCU:=Lib.hid hcur
      have HOWN:=Lib.hid (show (ownA q).ownBlock=some g by unfold ownA;rw [hFA];rfl)
      have hql:q.fb.length≤9223372036854775807:=by
       obtain ⟨_,_,_,h1,h2,_⟩:=HOW.out.bs.open_
       unfold maxLen at h2
       omega
      obtain ⟨nq,hnq⟩:∃ nq,q.fb.length=nq:=⟨_,rfl⟩
      have HNQ:=Lib.hid hnq
      clear hg hrw hcur
      obtain ⟨a7,e7,h7⟩:=HCB.out W HIW.out
      injection e7 with e7
      subst e7
      obtain ⟨y0,y1,y2,y3,y4,y5,y6⟩:=h7.cells
      rw [hFA,hnq] at y3
      rw [hnq] at hql
      clear h7 hFA hnq
      go_wp2_with fail
      go_loopw [19] (fun v wr=>∃ (k:Nat) (cu:Array Value),k≤nq∧v=.int .i64 k∧Hid (AIN w wr mb md (some a4) (some a6) (i+1))∧Hid (RW wr g 5 cu)∧Hid (∀ j,k≤j→cu[j]? = cur[j]?)) (fun v _=>nq-(intOf v).toNat)
      case atStart=>exact ⟨0,cur,Nat.zero_le _,rfl,HIW,HRW,Lib.hid (fun _ _=>rfl)⟩
      case round=>
       obtain ⟨k,cu,hk,rfl,HIK,HRK,HCK⟩:=hrel
       obtain ⟨wk,rfl⟩:∃ wk:World,wk=wr:=⟨_,rfl⟩
       obtain ⟨a7,e7,h7⟩:=HCB.out wk HIK.out
       injection e7 with e7
       subst e7
       obtain ⟨z0,z1,z2,z3,z4,z5,z6⟩:=h7.cells
       rw [HFA.out,HNQ.out] at z3
       clear h7
       by_cases hkl:k<nq
       ·have hkq:k<q.fb.length:=by rw [HNQ.out];exact hkl
        have hck:wk.cell? ⟨g,k,none⟩=some (.int .u8 (q.fb[k].toNat:Int)):=by
         rw [cell_of_row _ _ _ _ _ (0,0) HRK.out,HCK.out k (Nat.le_refl _),HCU.out k hkq]
        have hfk:wk.frozen? ⟨g,k,none⟩=false:=RW.soft HRK.out k
        generalize q.fb[k]=by_ at *
        have hby:(by_.toNat:Int)<256:=by have:=by_.toNat_lt;omega
        clear hkq
        go_wp2_with fail
        go_roundw
        case rel=>exact ⟨k+1,_,by omega,by go_num,Lib.hid (HIK.out.put HG.out (HNG.out g HOWN.out).1 (HNG.out g HOWN.out).2 (fun j hj hij=>HPWI.out g HOWN.out j hj hij) _),Lib.hid (RW.set HRK.out k _),Lib.hid (fun j hj=>by rw [Array.getElem?_setIfInBounds_ne (by omega)];exact HCK.out j (by omega))⟩
        case measure=>simp [intOf];omega
       ·have hkn:¬ ((k:Int)<(nq:Int)):=by omega
        go_wp2_with fail
        go_roundw
        case rel=>exact ⟨i+1,by omega,by go_num,HIK⟩
        case measure=>simp [intOf];omega
    ·have HX7:=Lib.hid HI.out.ex
     go_wp2_with fail
     refine (HLG.out _ HX7.out).mono ?_
     rintro _ w8 ⟨rfl,hx8⟩
     have HX8:=Lib.hid (HX7.out.trans hx8)
     clear hx8
     go_wp2_with fail
     refine (LKnown_at _ (HE.out.ext HX8.out)).mono ?_
     rintro _ wk ⟨rfl,hxk⟩
     have HXK:=Lib.hid (HX8.out.trans hxk)
     clear hxk
     go_wp2_with fail
     go_ret
     exact ⟨rfl,HXK.out⟩
end Go.Proofs.YtnjmndofcpnmeaaGreatDoor
