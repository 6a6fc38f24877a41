/- Pa43. -/
import Derived.Test.YtnjmndofcpnmeaaGreatDoorPa0
import Derived.Test.YtnjmndofcpnmeaaGreatDoorPa42
import Derived.Test.YtnjmndofcpnmeaaGreatDoorPa20
namespace Go.Proofs.YtnjmndofcpnmeaaGreatDoor
open Go Go.RowKit
set_option linter.unusedVariables false
structure F7 (w:World) (p:Addr) (m:MV):Prop where
 cells:w.cell? p=some (.slice m.CA m.cp.length m.cc)∧w.cell? ⟨p.block,p.off+1,none⟩=some (.string m.cr)∧w.cell? ⟨p.block,p.off+2,none⟩=some (.int .i64 m.fk)∧w.cell? ⟨p.block,p.off+3,none⟩=some (.slice m.FA m.fb.length m.fc)∧w.cell? ⟨p.block,p.off+4,none⟩=some (.int .i64 m.n)∧w.cell? ⟨p.block,p.off+5,none⟩=some (.int .i64 m.b)∧w.cell? ⟨p.block,p.off+6,none⟩=some (.int .i64 m.t)
theorem F7.ext {w w':World}{p:Addr}{m:MV}(h:F7 w p m)(hx:Ext w w'):F7 w' p m:=by
 obtain ⟨y0,y1,y2,y3,y4,y5,y6⟩:=h.cells
 exact ⟨hx.cell y0,hx.cell y1,hx.cell y2,hx.cell y3,hx.cell y4,hx.cell y5,hx.cell y6⟩
theorem ROW.f7 {w:World}{B:Nat}{A:Option Addr}{n c:Nat}{ms:List MV}(h:ROW EM 50 w B (.slice A n c) ms)(k:Nat)(hk:k<ms.length):ms[k].In w∧∃ ad,A=some ad∧F7 w (ad.add (k*7)) ms[k]:=by
 obtain ⟨A',c',e1,_,_,h4⟩:=h.cells
 injection e1 with e1 _ _
 subst e1
 obtain ⟨hin,ad,hA,hc⟩:=h4 k hk
 refine ⟨hin,ad,hA,⟨hc 0 _ rfl,?_,?_,?_,?_,?_,?_⟩⟩
 all_goals rw [cell_addj w ad (k*7) _ (by decide)]
 ·exact hc 1 _ rfl
 ·exact hc 2 _ rfl
 ·exact hc 3 _ rfl
 ·exact hc 4 _ rfl
 ·exact hc 5 _ rfl
 ·exact hc 6 _ rfl
def whoM (ad:Bool)(m:MV):Who:=if ad then .from m.fk m.fb else .client (dat m.cp) m.cr.data.toList
theorem whoM_alm {l:List Fct}{win:Int}{ad:Bool}{m:MV}{i:Nat}(h:m.alm=almO l win ad i):whoM ad m=who ad (atF l i):=by
 unfold MV.alm almO at h
 unfold whoM who
 cases ad
 ·rw [if_neg (by decide)] at h ⊢
  rw [if_neg (by decide)]
  injection h with h1 h2
  rw [h1,h2]
 ·rw [if_pos rfl] at h ⊢
  rw [if_pos rfl]
  injection h with _ _ h1 h2
  rw [h1,h2]
theorem any_js {l:List Fct}{win:Int}{ad:Bool}{ms:List MV}{js:List Nat}(h:ms.map MV.alm=js.map (almO l win ad))(x:Who):((ms.any fun m=>decide (whoM ad m=x))=true) ↔ ∃ j∈js,who ad (atF l j)=x:=by
 rw [List.any_eq_true]
 constructor
 ·rintro ⟨m,hm,e⟩
  rw [decide_eq_true_eq] at e
  have h1:m.alm∈js.map (almO l win ad):=h ▸ List.mem_map.2 ⟨m,hm,rfl⟩
  obtain ⟨j,hj,e1⟩:=List.mem_map.1 h1
  exact ⟨j,hj,by rw [← whoM_alm e1.symm];exact e⟩
 ·rintro ⟨j,hj,e⟩
  have h1:almO l win ad j∈ms.map MV.alm:=h ▸ List.mem_map.2 ⟨j,hj,rfl⟩
  obtain ⟨m,hm,e1⟩:=List.mem_map.1 h1
  exact ⟨m,hm,by rw [decide_eq_true_eq,whoM_alm e1];exact e⟩
theorem who_MA (m:MV)(f:FV):(m.fk==f.fk&&m.fb==f.fb)=decide (whoM true m=who true f.fct):=by
 show _=decide (Who.from m.fk m.fb=Who.from f.fk f.fb)
 rw [Bool.eq_iff_iff,Bool.and_eq_true,beq_iff_eq,beq_iff_eq,decide_eq_true_eq]
 exact ⟨fun h=>by rw [h.1,h.2],fun h=>by injection h with h1 h2;exact ⟨h1,h2⟩⟩
theorem who_MP (q:MV)(f:FV):sameP q.cp q.cr f.cp f.cr=decide (whoM false q=who false f.fct):=by
 rw [sameP_eq]
 show _=decide (Who.client (dat q.cp) q.cr.data.toList=Who.client (dat f.cp) f.cr.data.toList)
 rw [← Bool.decide_and]
 exact decide_eq_decide.2 ⟨fun h=>by rw [h.1,h.2],fun h=>by injection h with h1 h2;exact ⟨h1,h2⟩⟩
def ALO (l:List Fct)(win lim:Int)(ad:Bool)(B:Nat)(w:World)(e:Ending)(w':World):Prop:=
 (¬ argB l win lim∧e=.returned (.tuple #[.slice none 0 0,.int .i64 2])) ∨
 (argB l win lim∧∃ v ms,e=.returned (.tuple #[v,.int .i64 0])∧ROW EM 50 w' w.heap.size v ms∧ms.map MV.alm=(almF l win lim ad).map (almO l win ad)∧∀ m∈ms,m.cp.length≤1000∧(m.fb≠[]→∀ ad',m.FA=some ad'→ad'.block<B))
theorem alm_n {l:List Fct}{win:Int}{ad:Bool}{m:MV}{i:Nat}(h:m.alm=almO l win ad i):m.n=(cntF l win ad i:Int):=by
 have:=congrArg Alm.n h
 unfold almO at this
 cases ad<;>exact this
theorem fstH_no {l:List Fct}{win lim:Int}{ad:Bool}{k:Nat}(h:hitF l win lim ad k=false∨∃ j∈fstK k (hitF l win lim ad) (fun i=>who ad (atF l i)),who ad (atF l j)=who ad (atF l k)):fstK (k+1) (hitF l win lim ad) (fun i=>who ad (atF l i))=fstK k (hitF l win lim ad) (fun i=>who ad (atF l i)):=by
 rw [alm_succ,if_neg]
 rintro ⟨h1,h2⟩
 rcases h with h | ⟨j,hj,e⟩
 ·rw [h] at h1;cases h1
 ·exact h2 j hj e
theorem fstH_yes {l:List Fct}{win lim:Int}{ad:Bool}{k:Nat}(h:hitF l win lim ad k=true)(h2:¬ ∃ j∈fstK k (hitF l win lim ad) (fun i=>who ad (atF l i)),who ad (atF l j)=who ad (atF l k)):fstK (k+1) (hitF l win lim ad) (fun i=>who ad (atF l i))=fstK k (hitF l win lim ad) (fun i=>who ad (atF l i))++[k]:=by
 rw [alm_succ,if_pos ⟨h,fun j hj e=>h2 ⟨j,hj,e⟩⟩]
set_option maxRecDepth 100000 in
set_option maxHeartbeats 8000000 in
theorem RCountP_at (A:Option Addr) (c:Nat) (xs:List FV) (a:Nat) (win:Int) (w:World) (hF:FS w (.slice A xs.length c) xs) (hn:xs.length≤1000) (hz:∀ x∈xs,x.Sz) (ht:∀ f∈xs,0≤f.t∧f.t≤1099511627776) (ha:a<xs.length) (hfa:failB (atF (xs.map FV.fct) a)=true) (hw0:0≤win) (hw1:win≤1099511627776) (B:Nat) (hB:∀ x∈xs,(x.cp≠[]→∀ ad',x.CA=some ad'→ad'.block<B)∧(x.fb≠[]→∀ ad',x.FA=some ad'→ad'.block<B)):
  Calls Tryz.prog 97 #[.slice A xs.length c,.int .i64 (a:Int),.int .i64 win,.bool false] w fun e w'=>CNP (xs.map FV.fct) win false a B e w'∧Ext w w':=by
 obtain ⟨i0,hi,iz0,iz1,iz2⟩:=prn_info
 have HZ:=Lib.hid hz;have HT:=Lib.hid ht
 have HAG:=Lib.hid (atF_map ha)
 obtain ⟨hing,ad,rfl,hqg⟩:=hF.f12 a ha
 have hgm:=List.getElem_mem ha
 obtain ⟨g,hg⟩:∃ g,xs[a]=g:=⟨_,rfl⟩
 rw [hg] at hing hqg HAG hgm
 have HBG:=Lib.hid (hB g hgm);have HSG:=Lib.hid (hz g hgm);have HTG:=Lib.hid (ht g hgm)
 have HF:=Lib.hid hF;have HING:=Lib.hid hing;have HG0:=Lib.hid hqg;have HFA0:=Lib.hid hfa;have HW0:=Lib.hid hw0
 have hgt:=(ht g hgm).1;have hgt2:=(ht g hgm).2
 obtain ⟨n,hn'⟩:∃ n,xs.length=n:=⟨_,rfl⟩
 have HN:=Lib.hid hn'
 rw [hn'] at hn ha ⊢ HF
 have z0:RW (w.alloc (.cells #[.slice none 0 0,.string ⟨#[]⟩,.int .i64 0,.slice none 0 0,.int .i64 0,.int .i64 0,.int .i64 0] 50)) w.heap.size 50 #[.slice none 0 0,.string ⟨#[]⟩,.int .i64 0,.slice none 0 0,.int .i64 0,.int .i64 0,.int .i64 0]:=heap_alloc_new w _
 have x0:=(Ext.refl w).alloc (.cells #[.slice none 0 0,.string ⟨#[]⟩,.int .i64 0,.slice none 0 0,.int .i64 0,.int .i64 0,.int .i64 0] 50)
 obtain ⟨W0,e0⟩:∃ W,w.alloc (.cells #[.slice none 0 0,.string ⟨#[]⟩,.int .i64 0,.slice none 0 0,.int .i64 0,.int .i64 0,.int .i64 0] 50)=W:=⟨_,rfl⟩
 have s0:W0.heap.size=w.heap.size+1:=by rw [← e0,World.size_alloc]
 rw [e0] at z0 x0
 have z1:RW (W0.alloc (.cells #[.slice none 0 0,.string ⟨#[]⟩,.int .i64 0,.slice none 0 0,.int .i64 0,.int .i64 0,.int .i64 0] 50)) W0.heap.size 50 #[.slice none 0 0,.string ⟨#[]⟩,.int .i64 0,.slice none 0 0,.int .i64 0,.int .i64 0,.int .i64 0]:=heap_alloc_new W0 _
 have x1:=(Ext.refl W0).alloc (.cells #[.slice none 0 0,.string ⟨#[]⟩,.int .i64 0,.slice none 0 0,.int .i64 0,.int .i64 0,.int .i64 0] 50)
 obtain ⟨W1,e1⟩:∃ W,W0.alloc (.cells #[.slice none 0 0,.string ⟨#[]⟩,.int .i64 0,.slice none 0 0,.int .i64 0,.int .i64 0,.int .i64 0] 50)=W:=⟨_,rfl⟩
 rw [e1] at z1 x1
 rw [s0] at z1
 have HZ0:=Lib.hid (RW.ext z0 x1);have HZ1:=Lib.hid z1;have HX1:=Lib.hid (x0.trans x1)
 obtain ⟨u0,u1,u2,u3,u4,u5,u6,u7,u8,u9,u10,u11⟩:=(F12.ext hqg x0).cells
 have hsub:wrap64 (g.t-win)=g.t-win:=IntWalk.wrap64_in _ (by omega)
 clear hF hz ht hing hqg hfa hn' hg hgm hB z0 x0 z1 x1
 go_enter Tryz.func97,Tryz.ntmps97
 go_upto_region 2 with (first | (refine wpList_store_var W1 rfl (.tmp 9) (.tmp 19) 50 rfl (w.heap.size+1) 50 #[.slice none 0 0,.string ⟨#[]⟩,.int .i64 0,.slice none 0 0,.int .i64 0,.int .i64 0,.int .i64 0] #[.slice none 0 0,.string ⟨#[]⟩,.int .i64 0,.slice none 0 0,.int .i64 0,.int .i64 (-1),.int .i64 g.t] rfl rfl (Tryz.sizeOf50 W1) HZ1.out rfl (one8 rfl) ?_;intro WC b3 hg3) | fail)
 have HI0:=Lib.hid (show CNI w WC (-1) g.t (.slice none 0 0) [] from ⟨(hg3.block w.heap.size (Array.getElem?_eq_some_iff.1 HZ0.out).1 (fun e=>by injection e with e;omega)).trans HZ0.out,b3,ROW.nil _ _ _,fun p hp=>(by cases hp),fun p hp=>(by cases hp),HX1.out.grown hg3 (fun j hj=>by cases hj;exact Nat.le_succ _)⟩)
 clear e0 e1 s0 b3 hg3 u0 u1 u2 u3 u4 u5 u6 u7 u8 u9 u10 u11
 go_wp2_with fail
 go_loopw [10,11,12,13] (fun cl i _ _ wr=>∃ (k:Nat) (cs:List PV) (CA:Option Addr) (cc:Nat),k≤a+1∧i=.int .i64 k∧cl=.slice CA cs.length cc∧Hid (CNI w wr (firT (xs.map FV.fct) (winTo (xs.map FV.fct) win false a k)) g.t (.slice CA cs.length cc) cs)∧Hid (CLS (xs.map FV.fct) false (winTo (xs.map FV.fct) win false a k) (cs.map PV.pr))) (fun _ i _ _ _=>a+1-(intOf i).toNat)
 case atStart=>exact ⟨0,[],none,0,Nat.zero_le _,rfl,rfl,HI0,Lib.hid (CLS.nil _ _)⟩
 case round=>
  obtain ⟨k,cs,CA,cc,hk,rfl,rfl,HI,HCL⟩:=hrel
  obtain ⟨wo,rfl⟩:∃ wo:World,wo=wr:=⟨_,rfl⟩
  have HCLE:=Lib.hid (show cs.length≤1000 by have h1:=HCL.out.le;have h2:=winTo_len (xs.map FV.fct) win false a k;rw [List.length_map] at h1;omega)
  by_cases hlt:k≤a
  ·have hkn:k<n:=by omega
   have hkx:k<xs.length:=by rw [HN.out];exact hkn
   obtain ⟨hin,ad',hadr,hq⟩:=HF.out.f12 k hkx
   injection hadr with hadr
   subst hadr
   have hsz:=HZ.out xs[k] (List.getElem_mem hkx)
   have HAK:=Lib.hid (atF_map hkx)
   have HTF:=Lib.hid (HT.out xs[k] (List.getElem_mem hkx))
   obtain ⟨f,hf⟩:∃ f,xs[k]=f:=⟨_,rfl⟩
   rw [hf] at hin hsz HAK hq HTF
   have HBF:=Lib.hid (show f.cp≠[]→∀ ad',f.CA=some ad'→ad'.block<w.heap.size from fun hne ad' hA=>(RS.lt hin.cp (sv_ne hne) hA).1)
   have HF12:=Lib.hid hq;have HINF:=Lib.hid hin;have HSF:=Lib.hid hsz
   have HQ:=Lib.hid (hq.ext HI.out.ex)
   have HG:=Lib.hid (HG0.out.ext HI.out.ex)
   have HFA:=Lib.hid (fun W (hW:Ext wo W)=>RFailure_at f W (HINF.out.ext (HI.out.ex.trans hW)))
   have HAL:=Lib.hid (fun W (hW:Ext wo W)=>AlikeP_at f g W (HINF.out.ext (HI.out.ex.trans hW)) (HING.out.ext (HI.out.ex.trans hW)) HSF.out.cp HSG.out.cp)
   unfold FV.val at HFA HAL
   obtain ⟨pb,hpb⟩:∃ b,failB f.fct=b:=⟨_,rfl⟩
   obtain ⟨lb,hlb⟩:∃ b,decide (who false f.fct=who false g.fct)=b:=⟨_,rfl⟩
   have HPB:=Lib.hid (show failB (atF (xs.map FV.fct) k)=pb by rw [HAK.out,hpb])
   have HLB:=Lib.hid (show decide (who false (atF (xs.map FV.fct) k)=who false (atF (xs.map FV.fct) a))=lb by rw [HAK.out,HAG.out,hlb])
   rw [hpb] at HFA
   rw [hlb] at HAL
   clear hin hsz hf hq hpb hlb hkx
   have HKT:=Lib.hid (show k<n∧a<n from ⟨hkn,ha⟩)
   have HSUB:=Lib.hid hsub
   obtain ⟨q1,hq1⟩:∃ q1:Bool,(!pb)=q1:=⟨_,rfl⟩
   have Hq1:=Lib.hid hq1;clear hq1
   obtain ⟨c2,hc2⟩:∃ c2:Bool,(!q1)=c2:=⟨_,rfl⟩
   have Hc2:=Lib.hid hc2;clear hc2
   obtain ⟨q3,hq3⟩:∃ q3:Bool,(!lb)=q3:=⟨_,rfl⟩
   have Hq3:=Lib.hid hq3;clear hq3
   obtain ⟨p4,hp4⟩:∃ p4:Bool,(q1||q3)=p4:=⟨_,rfl⟩
   have Hp4:=Lib.hid hp4;clear hp4
   obtain ⟨c5,hc5⟩:∃ c5:Bool,(!p4)=c5:=⟨_,rfl⟩
   have Hc5:=Lib.hid hc5;clear hc5
   obtain ⟨q6,hq6⟩:∃ q6:Bool,(decide (f.t<g.t-win))=q6:=⟨_,rfl⟩
   have Hq6:=Lib.hid hq6;clear hq6
   obtain ⟨p7,hp7⟩:∃ p7:Bool,(p4||q6)=p7:=⟨_,rfl⟩
   have Hp7:=Lib.hid hp7;clear hp7
   have HLS:=Lib.hid (show (!pb || !lb||decide (f.t<g.t-win))=p7 by
    have h:=Hp7.out;subst h
    have h:=Hq6.out;subst h
    have h:=Hc5.out;subst h
    have h:=Hp4.out;subst h
    have h:=Hq3.out;subst h
    have h:=Hc2.out;subst h
    have h:=Hq1.out;subst h
    rfl)
   go_upto_region 6 with fail
   refine wp_region_ext (fun i v' w'=>match i with | 4=>v'=.bool pb | 16=>v'=.bool lb | _=>False) (by kernel_rfl) (by kernel_rfl) ?_
   refine wpE_val (.slice (some ad) n c) rfl rfl (fun w' hw' K' hK'=>?_) ?_
   ·have hE:=hw'.1
    go_step
    exact hK'
   simp only [Act.put,sT1,sT2,sT3]
   refine wpE_val (.int .i64 (k:Int)) rfl rfl (fun w' hw' K' hK'=>?_) ?_
   ·have hE:=hw'.1
    go_step
    exact hK'
   simp only [Act.put,sT1,sT2,sT3]
   refine wpE_val (.pointer (some (ad.add (k*12)))) rfl rfl (fun w' hw' K' hK'=>?_) ?_
   ·have hE:=hw'.1
    have hkn:=HKT.out.1
    go_step
    exact hK'
   simp only [Act.put,sT1,sT2,sT3]
   refine wpE_val (.agg #[.int .i64 f.t,.int .i64 f.mi,.int .i64 f.kd,.int .i64 f.fk,.slice f.FA f.fb.length f.fc,.slice f.CA f.cp.length f.cc,.string f.cr,.slice f.SA f.sp.length f.sc,.string f.sr,.int .i64 f.co,.int .i64 f.pr,.int .u32 (f.fl.toNat:Int)]) rfl rfl (fun w' hw' K' hK'=>?_) ?_
   ·have hE:=hw'.1
    obtain ⟨u0,u1,u2,u3,u4,u5,u6,u7,u8,u9,u10,u11⟩:=(HQ.out.ext ((Ext.drew wo).trans hE)).cells
    go_step
    exact hK'
   simp only [Act.put,sT1,sT2,sT3]
   refine wpE_symcall 29 rfl (by simp) true (.bool pb) (rfl) (fun _ _ h=>h) (fun hc w' hw' K' hK'=>?_) ?_
   ·have hE:=hw'.1
    try simp only [cond_true]
    go_step
    refine (HFA.out w' ((Ext.drew _).trans hE)).mono ?_
    rintro _ w2 ⟨rfl,hx⟩
    exact hK' _ _ rfl hx
   simp only [cond_true,Act.put,sT1,sT2,sT3]
   refine wpE_val (.bool q1) rfl rfl (fun w' hw' K' hK'=>?_) ?_
   ·have hE:=hw'.1
    have hq:=Hq1.out
    subst hq
    go_step
    exact hK'
   simp only [Act.put,sT1,sT2,sT3]
   refine wpE_val (.bool q1) rfl rfl (fun w' hw' K' hK'=>?_) ?_
   ·have hE:=hw'.1
    go_step
    exact hK'
   simp only [Act.put,sT1,sT2,sT3]
   refine wpE_sym c2 (.slice (some ad) n c) (by rw [← Hc2.out];cases q1<;>kernel_rfl) rfl (fun hc w' hw' K' hK'=>?_) ?_
   ·have hE:=hw'.1
    subst hc
    try simp only [cond_true]
    go_step
    exact hK'
   simp only [Act.put,sT1,sT2,sT3]
   refine wpE_sym c2 (.int .i64 (k:Int)) (by rw [← Hc2.out];cases q1<;>kernel_rfl) rfl (fun hc w' hw' K' hK'=>?_) ?_
   ·have hE:=hw'.1
    subst hc
    try simp only [cond_true]
    go_step
    exact hK'
   simp only [Act.put,sT1,sT2,sT3]
   refine wpE_sym c2 (.pointer (some (ad.add (k*12)))) (by rw [← Hc2.out];cases q1<;>kernel_rfl) rfl (fun hc w' hw' K' hK'=>?_) ?_
   ·have hE:=hw'.1
    subst hc
    try simp only [cond_true]
    have hkn:=HKT.out.1
    go_step
    exact hK'
   simp only [Act.put,sT1,sT2,sT3]
   refine wpE_sym c2 (.agg #[.int .i64 f.t,.int .i64 f.mi,.int .i64 f.kd,.int .i64 f.fk,.slice f.FA f.fb.length f.fc,.slice f.CA f.cp.length f.cc,.string f.cr,.slice f.SA f.sp.length f.sc,.string f.sr,.int .i64 f.co,.int .i64 f.pr,.int .u32 (f.fl.toNat:Int)]) (by rw [← Hc2.out];cases q1<;>kernel_rfl) rfl (fun hc w' hw' K' hK'=>?_) ?_
   ·have hE:=hw'.1
    subst hc
    try simp only [cond_true]
    obtain ⟨u0,u1,u2,u3,u4,u5,u6,u7,u8,u9,u10,u11⟩:=(HQ.out.ext ((Ext.drew wo).trans hE)).cells
    go_step
    exact hK'
   simp only [Act.put,sT1,sT2,sT3]
   refine wpE_sym c2 (.slice (some ad) n c) (by rw [← Hc2.out];cases q1<;>kernel_rfl) rfl (fun hc w' hw' K' hK'=>?_) ?_
   ·have hE:=hw'.1
    subst hc
    try simp only [cond_true]
    go_step
    exact hK'
   simp only [Act.put,sT1,sT2,sT3]
   refine wpE_sym c2 (.int .i64 (a:Int)) (by rw [← Hc2.out];cases q1<;>kernel_rfl) rfl (fun hc w' hw' K' hK'=>?_) ?_
   ·have hE:=hw'.1
    subst hc
    try simp only [cond_true]
    go_step
    exact hK'
   simp only [Act.put,sT1,sT2,sT3]
   refine wpE_sym c2 (.pointer (some (ad.add (a*12)))) (by rw [← Hc2.out];cases q1<;>kernel_rfl) rfl (fun hc w' hw' K' hK'=>?_) ?_
   ·have hE:=hw'.1
    subst hc
    try simp only [cond_true]
    have han:=HKT.out.2
    go_step
    exact hK'
   simp only [Act.put,sT1,sT2,sT3]
   refine wpE_sym c2 (.agg #[.int .i64 g.t,.int .i64 g.mi,.int .i64 g.kd,.int .i64 g.fk,.slice g.FA g.fb.length g.fc,.slice g.CA g.cp.length g.cc,.string g.cr,.slice g.SA g.sp.length g.sc,.string g.sr,.int .i64 g.co,.int .i64 g.pr,.int .u32 (g.fl.toNat:Int)]) (by rw [← Hc2.out];cases q1<;>kernel_rfl) rfl (fun hc w' hw' K' hK'=>?_) ?_
   ·have hE:=hw'.1
    subst hc
    try simp only [cond_true]
    obtain ⟨u0,u1,u2,u3,u4,u5,u6,u7,u8,u9,u10,u11⟩:=(HG.out.ext ((Ext.drew wo).trans hE)).cells
    go_step
    exact hK'
   simp only [Act.put,sT1,sT2,sT3]
   refine wpE_sym c2 (.bool false) (by rw [← Hc2.out];cases q1<;>kernel_rfl) rfl (fun hc w' hw' K' hK'=>?_) ?_
   ·have hE:=hw'.1
    subst hc
    try simp only [cond_true]
    go_step
    exact hK'
   simp only [Act.put,sT1,sT2,sT3]
   refine wpE_symcall 41 rfl (by simp) c2 (.bool lb) (by rw [← Hc2.out];cases q1<;>kernel_rfl) (fun _ _ h=>h) (fun hc w' hw' K' hK'=>?_) ?_
   ·have hE:=hw'.1
    subst hc
    try simp only [cond_true]
    go_step
    refine (HAL.out w' ((Ext.drew _).trans hE)).mono ?_
    rintro _ w2 ⟨rfl,hx⟩
    exact hK' _ _ rfl hx
   simp only [Act.put,sT1,sT2,sT3]
   refine wpE_sym c2 (.bool q3) (by rw [← Hc2.out];cases q1<;>kernel_rfl) rfl (fun hc w' hw' K' hK'=>?_) ?_
   ·have hE:=hw'.1
    subst hc
    try simp only [cond_true]
    have hq:=Hq3.out
    subst hq
    go_step
    exact hK'
   simp only [Act.put,sT1,sT2,sT3]
   refine wpE_val (.bool p4) rfl rfl (fun w' hw' K' hK'=>?_) ?_
   ·have hE:=hw'.1
    have hp:=Hp4.out
    subst hp
    have hg:=Hc2.out
    subst hg
    cases q1
    ·go_step
     exact hK'
    ·go_step
     exact hK'
   simp only [Act.put,sT1,sT2,sT3]
   refine wpE_val (.bool p4) rfl rfl (fun w' hw' K' hK'=>?_) ?_
   ·have hE:=hw'.1
    go_step
    exact hK'
   simp only [Act.put,sT1,sT2,sT3]
   refine wpE_sym c5 (.slice (some ad) n c) (by rw [← Hc5.out];cases p4<;>kernel_rfl) rfl (fun hc w' hw' K' hK'=>?_) ?_
   ·have hE:=hw'.1
    subst hc
    try simp only [cond_true]
    go_step
    exact hK'
   simp only [Act.put,sT1,sT2,sT3]
   refine wpE_sym c5 (.int .i64 (k:Int)) (by rw [← Hc5.out];cases p4<;>kernel_rfl) rfl (fun hc w' hw' K' hK'=>?_) ?_
   ·have hE:=hw'.1
    subst hc
    try simp only [cond_true]
    go_step
    exact hK'
   simp only [Act.put,sT1,sT2,sT3]
   refine wpE_sym c5 (.pointer (some (ad.add (k*12)))) (by rw [← Hc5.out];cases p4<;>kernel_rfl) rfl (fun hc w' hw' K' hK'=>?_) ?_
   ·have hE:=hw'.1
    subst hc
    try simp only [cond_true]
    have hkn:=HKT.out.1
    go_step
    exact hK'
   simp only [Act.put,sT1,sT2,sT3]
   refine wpE_sym c5 (.pointer (some (ad.add (k*12)))) (by rw [← Hc5.out];cases p4<;>kernel_rfl) rfl (fun hc w' hw' K' hK'=>?_) ?_
   ·have hE:=hw'.1
    subst hc
    try simp only [cond_true]
    go_step
    exact hK'
   simp only [Act.put,sT1,sT2,sT3]
   refine wpE_sym c5 (.int .i64 f.t) (by rw [← Hc5.out];cases p4<;>kernel_rfl) rfl (fun hc w' hw' K' hK'=>?_) ?_
   ·have hE:=hw'.1
    subst hc
    try simp only [cond_true]
    obtain ⟨u0,u1,u2,u3,u4,u5,u6,u7,u8,u9,u10,u11⟩:=(HQ.out.ext ((Ext.drew wo).trans hE)).cells
    go_step
    exact hK'
   simp only [Act.put,sT1,sT2,sT3]
   refine wpE_sym c5 (.slice (some ad) n c) (by rw [← Hc5.out];cases p4<;>kernel_rfl) rfl (fun hc w' hw' K' hK'=>?_) ?_
   ·have hE:=hw'.1
    subst hc
    try simp only [cond_true]
    go_step
    exact hK'
   simp only [Act.put,sT1,sT2,sT3]
   refine wpE_sym c5 (.int .i64 (a:Int)) (by rw [← Hc5.out];cases p4<;>kernel_rfl) rfl (fun hc w' hw' K' hK'=>?_) ?_
   ·have hE:=hw'.1
    subst hc
    try simp only [cond_true]
    go_step
    exact hK'
   simp only [Act.put,sT1,sT2,sT3]
   refine wpE_sym c5 (.pointer (some (ad.add (a*12)))) (by rw [← Hc5.out];cases p4<;>kernel_rfl) rfl (fun hc w' hw' K' hK'=>?_) ?_
   ·have hE:=hw'.1
    subst hc
    try simp only [cond_true]
    have han:=HKT.out.2
    go_step
    exact hK'
   simp only [Act.put,sT1,sT2,sT3]
   refine wpE_sym c5 (.pointer (some (ad.add (a*12)))) (by rw [← Hc5.out];cases p4<;>kernel_rfl) rfl (fun hc w' hw' K' hK'=>?_) ?_
   ·have hE:=hw'.1
    subst hc
    try simp only [cond_true]
    go_step
    exact hK'
   simp only [Act.put,sT1,sT2,sT3]
   refine wpE_sym c5 (.int .i64 g.t) (by rw [← Hc5.out];cases p4<;>kernel_rfl) rfl (fun hc w' hw' K' hK'=>?_) ?_
   ·have hE:=hw'.1
    subst hc
    try simp only [cond_true]
    obtain ⟨u0,u1,u2,u3,u4,u5,u6,u7,u8,u9,u10,u11⟩:=(HG.out.ext ((Ext.drew wo).trans hE)).cells
    go_step
    exact hK'
   simp only [Act.put,sT1,sT2,sT3]
   refine wpE_sym c5 (.int .i64 win) (by rw [← Hc5.out];cases p4<;>kernel_rfl) rfl (fun hc w' hw' K' hK'=>?_) ?_
   ·have hE:=hw'.1
    subst hc
    try simp only [cond_true]
    go_step
    exact hK'
   simp only [Act.put,sT1,sT2,sT3]
   refine wpE_sym c5 (.int .i64 (g.t-win)) (by rw [← Hc5.out];cases p4<;>kernel_rfl) rfl (fun hc w' hw' K' hK'=>?_) ?_
   ·have hE:=hw'.1
    subst hc
    try simp only [cond_true]
    have hsub:=HSUB.out
    go_step
    exact hK'
   simp only [Act.put,sT1,sT2,sT3]
   refine wpE_sym c5 (.bool q6) (by rw [← Hc5.out];cases p4<;>kernel_rfl) rfl (fun hc w' hw' K' hK'=>?_) ?_
   ·have hE:=hw'.1
    subst hc
    try simp only [cond_true]
    have hq:=Hq6.out
    subst hq
    go_step
    exact hK'
   simp only [Act.put,sT1,sT2,sT3]
   refine wpE_val (.bool p7) rfl rfl (fun w' hw' K' hK'=>?_) ?_
   ·have hE:=hw'.1
    have hp:=Hp7.out
    subst hp
    have hg:=Hc5.out
    subst hg
    cases p4
    ·go_step
     exact hK'
    ·go_step
     exact hK'
   simp only [Act.put,sT1,sT2,sT3]
   refine wpE_nil (fun W hW=>?_)
   have HXW:=Lib.hid ((Ext.drew wo).trans hW.1)
   clear hW
   cases p7 with
   | true=>
    have HWN:=Lib.hid (winTo_no (l:=(xs.map FV.fct)) (w:=win) (ad:=false) (a:=a) (i:=k) (by
     have h:=HLS.out
     rw [Bool.or_eq_true,Bool.or_eq_true,Bool.not_eq_true',Bool.not_eq_true',decide_eq_true_eq] at h
     rw [HPB.out,HLB.out,HAK.out,HAG.out]
     rcases h with (h | h) | h
     ·exact .inl h
     ·exact .inr (.inl h)
     ·exact .inr (.inr h)))
    go_wp2_with fail
    go_roundw
    case rel=>exact ⟨k+1,cs,CA,cc,by omega,by go_num,rfl,Lib.hid (by rw [HWN.out];exact HI.out.ext HXW.out),Lib.hid (by rw [HWN.out];exact HCL.out)⟩
    case measure=>simp [intOf];omega
   | false=>
      have HCO:=Lib.hid (show (pb=true∧lb=true)∧g.t-win≤f.t from by
       have h:=HLS.out
       rw [Bool.or_eq_false_iff,Bool.or_eq_false_iff,decide_eq_false_iff_not] at h
       refine ⟨⟨by cases pb<;>simp_all,by cases lb<;>simp_all⟩,by omega⟩)
      have HWN:=Lib.hid (winTo_yes (l:=(xs.map FV.fct)) (w:=win) (ad:=false) (a:=a) (i:=k) (HPB.out.trans HCO.out.1.1) (HLB.out.trans HCO.out.1.2) (by rw [HAK.out,HAG.out];exact HCO.out.2))
      have HFN:=Lib.hid (show firT (xs.map FV.fct) (winTo (xs.map FV.fct) win false a (k+1))=if winTo (xs.map FV.fct) win false a k=[] then f.t else firT (xs.map FV.fct) (winTo (xs.map FV.fct) win false a k) by rw [HWN.out,firT_snoc,HAK.out];rfl)
      have HFP:=Lib.hid (show winTo (xs.map FV.fct) win false a k≠[]→0≤firT (xs.map FV.fct) (winTo (xs.map FV.fct) win false a k) from fun h=>firT_pos h fun j hj=>by
       have h1:=winTo_lt hj
       have hjx:j<xs.length:=by rw [HN.out];omega
       rw [atF_map hjx]
       exact (HT.out _ (List.getElem_mem hjx)).1)
      have HIW:=Lib.hid (HI.out.ext HXW.out)
      obtain ⟨fk,hfk⟩:∃ fk,firT (xs.map FV.fct) (winTo (xs.map FV.fct) win false a k)=fk:=⟨_,rfl⟩
      rw [hfk] at HIW
      have HFK:=Lib.hid hfk
      have c5:W.cell? ⟨w.heap.size+1,5,none⟩=some (.int .i64 fk):=(rw7 HIW.out.r1).1.2.2.2.2.2.1
      have g5:W.frozen? ⟨w.heap.size+1,5,none⟩=false:=(rw7 HIW.out.r1).2.2.2.2.2.2.1
      clear hfk
      go_upto_if 61 with fail
      go_cut [] (fun wc=>Hid (CNI w wc (firT (xs.map FV.fct) (winTo (xs.map FV.fct) win false a (k+1))) g.t (.slice CA cs.length cc) cs))
      case first=>
       obtain ⟨u0,u1,u2,u3,u4,u5,u6,u7,u8,u9,u10,u11⟩:=(HQ.out.ext HXW.out).cells
       by_cases hwe:winTo (xs.map FV.fct) win false a k=[]
       ·have HFE:=Lib.hid (show firT (xs.map FV.fct) (winTo (xs.map FV.fct) win false a (k+1))=f.t by rw [HFN.out,if_pos hwe])
        have hf1:fk<0:=by
         have h:=HFK.out
         rw [hwe] at h
         have h2:(-1:Int)=fk:=h
         omega
        have q2:decide (fk<0)=true:=decide_eq_true hf1
        clear hwe
        go_wp2_with fail
        go_meet
        case rel=>exact Lib.hid (by rw [HFE.out];exact HIW.out.setF f.t)
       ·have HFE:=Lib.hid (show firT (xs.map FV.fct) (winTo (xs.map FV.fct) win false a (k+1))=fk by rw [HFN.out,if_neg hwe,HFK.out])
        have hfp:=HFP.out hwe
        rw [HFK.out] at hfp
        have q2:decide (fk<0)=false:=by rw [decide_eq_false_iff_not];omega
        clear hwe
        go_wp2_with fail
        go_meet
        case rel=>exact Lib.hid (by rw [HFE.out];exact HIW.out)
      case rest=>
      obtain ⟨W2,rfl⟩:∃ wo:World,wo=wc:=⟨_,rfl⟩
      have HI2:=hcut
      clear HI HIW HXW hcut HQ HG HFA HAL c5 g5
      have HCN:=Lib.hid (HCL.out.any k f.pv.pr)
      go_wp2_with fail
      go_loopw [12,13] (fun kn i wr=>i=.int .i64 0∧kn=.bool false∧Hid (Ext W2 wr)) (fun _ i _=>1)
      case atStart=>exact ⟨rfl,rfl,Lib.hid (Ext.refl W2)⟩
      case round=>
       obtain ⟨rfl,rfl,HXJ⟩:=hrel
       obtain ⟨wj,rfl⟩:∃ wo:World,wo=wr:=⟨_,rfl⟩
       have HIJ:=Lib.hid (HI2.out.ext HXJ.out)
       by_cases hc0:(0:Int)<(cs.length:Int)
       ·have q3:decide ((0:Int)<(cs.length:Int))=true:=decide_eq_true hc0
        have hb4:RW (wj.alloc (.cells #[.slice f.CA f.cp.length f.cc,.string f.cr] 37)) wj.heap.size 37 #[.slice f.CA f.cp.length f.cc,.string f.cr]:=heap_alloc_new wj _
        have hx4:=(Ext.refl wj).alloc (.cells #[.slice f.CA f.cp.length f.cc,.string f.cr] 37)
        obtain ⟨W4,e4⟩:∃ W,wj.alloc (.cells #[.slice f.CA f.cp.length f.cc,.string f.cr] 37)=W:=⟨_,rfl⟩
        rw [e4] at hb4 hx4
        obtain ⟨u0,u1,u2,u3,u4,u5,u6,u7,u8,u9,u10,u11⟩:=(HF12.out.ext HIJ.out.ex).cells
        have HI4:=Lib.hid (HIJ.out.ext hx4)
        have HB4:=Lib.hid (PV.news (p:=f.pv) hb4)
        have HYS:=Lib.hid (show ∀ y∈[f.pv],EP.In W4 y∧∀ b,(Value.slice CA cs.length cc).ownBlock=some b→¬ EP.Blk y b from fun y hy=>by
         rw [List.mem_singleton] at hy
         subst hy
         refine ⟨HINF.out.cp.ext HI4.out.ex,fun b hb hB=>?_⟩
         obtain ⟨hne,ad',hA,e⟩:=hB
         have h1:=HBF.out hne ad' hA
         have h2:=(HI4.out.ro.lt b hb).1
         omega)
        have HBY:=Lib.hid (show (cs.length + [f.pv].length)*40≤140737488355328 by have:=HCLE.out;simp;omega)
        have HBS:=Lib.hid (show w.heap.size+2≤W4.heap.size from HI4.out.sz)
        clear hb4 hx4
        go_wp2_with (at_builtin;refine wpList_append_row (E:=EP) W4 rfl (.tmp 92) (.tmp 98) 189 rfl (w.heap.size+2) 37 i0 prnZ 40 Tryz.underlying189 hi iz0 iz1 iz2 rfl prn_zn _ cs rfl HI4.out.ro ⟨wj.heap.size,0,none⟩ 1 [f.pv] rfl (by show 0<1;decide) HB4.out HYS.out HBY.out (by decide) HBS.out ?_;intro v8 w8 hown8 hg8 ho8;have HI8:=Lib.hid (HI4.out.app hown8 hg8 HBF.out HSF.out.cp);obtain ⟨A8,c8,rfl⟩:=hown8.shape;clear hown8 hg8 ho8)
        go_roundw
        case rel=>exact ⟨k+1,cs++[f.pv],A8,c8,by omega,by go_num,by rw [List.length_append];rfl,HI8,Lib.hid (by rw [HWN.out,List.map_append];exact HCN.out)⟩
        case measure=>simp [intOf];omega
       ·have q3:decide ((0:Int)<(cs.length:Int))=false:=decide_eq_false hc0
        have hb4:RW (wj.alloc (.cells #[.slice f.CA f.cp.length f.cc,.string f.cr] 37)) wj.heap.size 37 #[.slice f.CA f.cp.length f.cc,.string f.cr]:=heap_alloc_new wj _
        have hx4:=(Ext.refl wj).alloc (.cells #[.slice f.CA f.cp.length f.cc,.string f.cr] 37)
        obtain ⟨W4,e4⟩:∃ W,wj.alloc (.cells #[.slice f.CA f.cp.length f.cc,.string f.cr] 37)=W:=⟨_,rfl⟩
        rw [e4] at hb4 hx4
        obtain ⟨u0,u1,u2,u3,u4,u5,u6,u7,u8,u9,u10,u11⟩:=(HF12.out.ext HIJ.out.ex).cells
        have HI4:=Lib.hid (HIJ.out.ext hx4)
        have HB4:=Lib.hid (PV.news (p:=f.pv) hb4)
        have HYS:=Lib.hid (show ∀ y∈[f.pv],EP.In W4 y∧∀ b,(Value.slice CA cs.length cc).ownBlock=some b→¬ EP.Blk y b from fun y hy=>by
         rw [List.mem_singleton] at hy
         subst hy
         refine ⟨HINF.out.cp.ext HI4.out.ex,fun b hb hB=>?_⟩
         obtain ⟨hne,ad',hA,e⟩:=hB
         have h1:=HBF.out hne ad' hA
         have h2:=(HI4.out.ro.lt b hb).1
         omega)
        have HBY:=Lib.hid (show (cs.length + [f.pv].length)*40≤140737488355328 by have:=HCLE.out;simp;omega)
        have HBS:=Lib.hid (show w.heap.size+2≤W4.heap.size from HI4.out.sz)
        clear hb4 hx4
        go_wp2_with (at_builtin;refine wpList_append_row (E:=EP) W4 rfl (.tmp 92) (.tmp 98) 189 rfl (w.heap.size+2) 37 i0 prnZ 40 Tryz.underlying189 hi iz0 iz1 iz2 rfl prn_zn _ cs rfl HI4.out.ro ⟨wj.heap.size,0,none⟩ 1 [f.pv] rfl (by show 0<1;decide) HB4.out HYS.out HBY.out (by decide) HBS.out ?_;intro v8 w8 hown8 hg8 ho8;have HI8:=Lib.hid (HI4.out.app hown8 hg8 HBF.out HSF.out.cp);obtain ⟨A8,c8,rfl⟩:=hown8.shape;clear hown8 hg8 ho8)
        go_roundw
        case rel=>exact ⟨k+1,cs++[f.pv],A8,c8,by omega,by go_num,by rw [List.length_append];rfl,HI8,Lib.hid (by rw [HWN.out,List.map_append];exact HCN.out)⟩
        case measure=>simp [intOf];omega
  ·obtain rfl:k=a+1:=by omega
   have HCNT:=Lib.hid (show ((cs.length:Nat):Int)=(cntF (xs.map FV.fct) win false a:Int) by
    have h:=CLS.len (show CLS (xs.map FV.fct) false (winF (xs.map FV.fct) win false a) (cs.map PV.pr) from HCL.out)
    rw [List.length_map] at h
    rw [h])
   have HBEG:=Lib.hid (show firT (xs.map FV.fct) (winTo (xs.map FV.fct) win false a (a+1))=begF (xs.map FV.fct) win false a from firT_beg (List.ne_nil_of_mem (win_self HW0.out HFA0.out)))
   generalize firT (xs.map FV.fct) (winTo (xs.map FV.fct) win false a (a+1))=fi at *
   obtain ⟨⟨c0,c1,c2,c3,c4,c5,c6⟩,⟨g0,g1,g2,g3,g4,g5,g6⟩⟩:=rw7 HI.out.r1
   have b4:=HI.out.r1.set 4 (.int .i64 (cs.length:Int))
   have x4:Ext w (wo.setCell ⟨w.heap.size+1,4,none⟩ (.int .i64 (cs.length:Int))):=HI.out.ex.setCell (p:=⟨w.heap.size+1,4,none⟩) (Nat.le_succ _) _
   have z4:=heap_set_ne (a:=⟨w.heap.size+1,4,none⟩) (x:=.int .i64 (cs.length:Int)) HI.out.r0 (show w.heap.size≠w.heap.size+1 by omega)
   obtain ⟨W4,e4⟩:∃ W,wo.setCell ⟨w.heap.size+1,4,none⟩ (.int .i64 (cs.length:Int))=W:=⟨_,rfl⟩
   rw [e4] at b4 x4 z4
   change RW W4 (w.heap.size+1) 50 #[.slice none 0 0,.string ⟨#[]⟩,.int .i64 0,.slice none 0 0,.int .i64 (cs.length:Int),.int .i64 fi,.int .i64 g.t] at b4
   obtain ⟨u0,u1,u2,u3,u4,u5,u6,u7,u8,u9,u10,u11⟩:=(HG0.out.ext x4).cells
   obtain ⟨⟨k0,k1,k2,k3,k4,k5,k6⟩,⟨l0,l1,l2,l3,l4,l5,l6⟩⟩:=rw7 b4
   have b5:=(b4.set 0 (.slice g.CA g.cp.length g.cc)).set 1 (.string g.cr)
   have x5:Ext w ((W4.setCell ⟨w.heap.size+1,0,none⟩ (.slice g.CA g.cp.length g.cc)).setCell ⟨w.heap.size+1,1,none⟩ (.string g.cr)):=(x4.setCell (p:=⟨w.heap.size+1,0,none⟩) (Nat.le_succ _) _).setCell (p:=⟨w.heap.size+1,1,none⟩) (Nat.le_succ _) _
   have z5:=heap_set_ne (a:=⟨w.heap.size+1,1,none⟩) (x:=(.string g.cr)) (heap_set_ne (a:=⟨w.heap.size+1,0,none⟩) (x:=(.slice g.CA g.cp.length g.cc)) z4 (show w.heap.size≠w.heap.size+1 by omega)) (show w.heap.size≠w.heap.size+1 by omega)
   obtain ⟨W5,e5⟩:∃ W,(W4.setCell ⟨w.heap.size+1,0,none⟩ (.slice g.CA g.cp.length g.cc)).setCell ⟨w.heap.size+1,1,none⟩ (.string g.cr)=W:=⟨_,rfl⟩
   rw [e5] at b5 x5 z5
   change RW W5 (w.heap.size+1) 50 #[.slice g.CA g.cp.length g.cc,.string g.cr,.int .i64 0,.slice none 0 0,.int .i64 (cs.length:Int),.int .i64 fi,.int .i64 g.t] at b5
   obtain ⟨⟨m0,m1,m2,m3,m4,m5,m6⟩,_⟩:=rw7 b5
   have HX5:=Lib.hid x5;have HZ5:=Lib.hid (show RW W5 w.heap.size 50 #[.slice none 0 0,.string ⟨#[]⟩,.int .i64 0,.slice none 0 0,.int .i64 0,.int .i64 0,.int .i64 0] from z5)
   clear b4 x4 z4 b5 x5 z5
   go_wp2_with (first | (refine wpList_store_var _ rfl (.tmp 8) (.tmp 116) 50 rfl w.heap.size 50 #[.slice none 0 0,.string ⟨#[]⟩,.int .i64 0,.slice none 0 0,.int .i64 0,.int .i64 0,.int .i64 0] #[.slice g.CA g.cp.length g.cc,.string g.cr,.int .i64 0,.slice none 0 0,.int .i64 (cs.length:Int),.int .i64 fi,.int .i64 g.t] rfl rfl (Tryz.sizeOf50 _) HZ5.out rfl (one8 rfl) ?_;intro W9 b9 hg9;obtain ⟨⟨d0,d1,d2,d3,d4,d5,d6⟩,_⟩:=rw7 (show RW W9 w.heap.size 50 #[.slice g.CA g.cp.length g.cc,.string g.cr,.int .i64 0,.slice none 0 0,.int .i64 (cs.length:Int),.int .i64 fi,.int .i64 g.t] from b9)) | fail)
   refine bodyPost_ret (v:=.agg #[.slice g.CA g.cp.length g.cc,.string g.cr,.int .i64 0,.slice none 0 0,.int .i64 (cs.length:Int),.int .i64 fi,.int .i64 g.t]) (by simp [results,Tryz.results97,go_sem,d0,d1,d2,d3,d4,d5,d6];try rfl) rfl ?_
   have hx9:Ext w W9:=HX5.out.grown hg9 (fun j hj=>by cases hj;exact Nat.le_refl _)
   refine ⟨⟨⟨g.CA,g.cp,g.cc,g.cr,0,none,[],0,(cs.length:Int),fi,g.t⟩,rfl,⟨HING.out.cp.ext hx9,BS.nil _⟩,?_,HBG.out.1,HSG.out.cp,fun h=>absurd rfl h⟩,hx9⟩
   unfold almO
   rw [if_neg (by decide),HAG.out,← HCNT.out,← HBEG.out]
   rfl
end Go.Proofs.YtnjmndofcpnmeaaGreatDoor
