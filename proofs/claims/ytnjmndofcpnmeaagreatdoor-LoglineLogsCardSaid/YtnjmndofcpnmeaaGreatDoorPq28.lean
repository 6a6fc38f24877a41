/- Pq28. -/
import Derived.Test.YtnjmndofcpnmeaaGreatDoorPq0
import Derived.Test.YtnjmndofcpnmeaaGreatDoorPq27
import Derived.Test.YtnjmndofcpnmeaaGreatDoorPq3
import Derived.Maps.OwnSet
import Derived.Test.YtnjmndofcpnmeaaGreatDoorPq26
import Derived.Deep.DeepCutAuto
namespace Go.Proofs.YtnjmndofcpnmeaaGreatDoor
open Go Go.RowKit Go.Maps
set_option linter.unusedVariables false
def cntK (js:List Nat)(K:Nat→List UInt8)(s:List UInt8):Nat:=(js.filter fun j=>decide (K j=s)).length
theorem cntK_snoc (js:List Nat)(j:Nat)(K:Nat→List UInt8)(s:List UInt8):cntK (js++[j]) K s=cntK js K s+if K j=s then 1 else 0:=by
 unfold cntK
 rw [List.filter_append,List.length_append,List.filter_cons]
 by_cases h:K j=s<;>simp [h]
theorem cntK_cons (js:List Nat)(j:Nat)(K:Nat→List UInt8)(s:List UInt8):cntK (j::js) K s=cntK js K s+if K j=s then 1 else 0:=by
 unfold cntK
 rw [List.filter_cons]
 by_cases h:K j=s<;>simp [h]
theorem cntK_pos {js:List Nat}{K:Nat→List UInt8}{s:List UInt8}:0<cntK js K s ↔ ∃ j∈js,K j=s:=by
 unfold cntK
 rw [List.length_pos_iff_exists_mem]
 exact ⟨fun ⟨j,h⟩=>⟨j,(List.mem_filter.1 h).1,of_decide_eq_true (List.mem_filter.1 h).2⟩,fun ⟨j,h,e⟩=>⟨j,List.mem_filter.2 ⟨h,decide_eq_true e⟩⟩⟩
theorem cntK_le (js:List Nat)(K:Nat→List UInt8)(s:List UInt8):cntK js K s≤js.length:=List.length_filter_le _ _
structure TD (D:DataW Unit) (js:List Nat) (K:Nat→List UInt8):Prop where
 map:IsMap D
 strs:∀ kl,Maps.has D kl=true→∃ s,kl=.string s
 has:∀ s,Maps.has D (.string s)=true ↔ 0<cntK js K s
 at_:∀ s,D.atKey (.string s) (.lit (.int .i64 0))=.lit (.int .i64 (cntK js K s:Int))
theorem litS_ne {s t:List UInt8}(h:s≠t):(Lit.string s)≠.string t:=fun e=>h (by injection e)
theorem TD.start (K:Nat→List UInt8):TD (.map []) [] K:=⟨isMap_empty,fun kl h=>(by simp [Maps.has] at h),fun s=>by simp [Maps.has,cntK],fun s=>by simp [cntK,DataW.atKey]⟩
theorem TD.put {D:DataW Unit}{js js':List Nat}{K:Nat→List UInt8}{s:List UInt8}{c:Nat}(h:TD D js K)(hc:0<c)(h1:cntK js' K s=c)(h2:∀ t,t≠s→cntK js' K t=cntK js K t):TD (D.put (.string s) (.lit (.int .i64 (c:Int)))) js' K:=by
 refine ⟨h.map.put _ _,fun kl hk=>?_,fun t=>?_,fun t=>?_⟩
 ·by_cases e:kl=.string s
  ·exact ⟨s,e⟩
  ·rw [has_put_other e] at hk
   exact h.strs kl hk
 ·by_cases e:t=s
  ·subst e
   rw [has_put_same h.map (by trivial),h1]
   simp [hc]
  ·rw [has_put_other (litS_ne e),h2 t e]
   exact h.has t
 ·by_cases e:t=s
  ·subst e
   rw [atKey_put_same h.map (by trivial),h1]
  ·rw [atKey_put_other (litS_ne e),h2 t e]
   exact h.at_ t
theorem TD.add {D:DataW Unit}{js:List Nat}{K:Nat→List UInt8}(h:TD D js K)(j:Nat):TD (D.put (.string (K j)) (.lit (.int .i64 ((cntK js K (K j)+1:Nat):Int)))) (js++[j]) K:=
 h.put (by omega) (by rw [cntK_snoc,if_pos rfl]) (fun t ht=>by rw [cntK_snoc,if_neg (fun e=>ht e.symm)];omega)
theorem TD.sub {D:DataW Unit}{js:List Nat}{K:Nat→List UInt8}{j:Nat}(h:TD D (j::js) K)(hc:0<cntK js K (K j)):TD (D.put (.string (K j)) (.lit (.int .i64 (cntK js K (K j):Int)))) js K:=
 h.put hc rfl (fun t ht=>by rw [cntK_cons,if_neg (fun e=>ht e.symm)];omega)
theorem TD.drop {D:DataW Unit}{js:List Nat}{K:Nat→List UInt8}{j:Nat}(h:TD D (j::js) K)(hc:cntK js K (K j)=0)(d:DataW Unit):TD ((D.put (.string (K j)) d).del (.string (K j))) js K:=by
 have e2:∀ t,t≠K j→cntK (j::js) K t=cntK js K t:=fun t ht=>by rw [cntK_cons,if_neg (fun e=>ht e.symm)];omega
 refine ⟨(h.map.put _ _).del _,fun kl hk=>?_,fun t=>?_,fun t=>?_⟩
 ·by_cases e:kl=.string (K j)
  ·exact ⟨_,e⟩
  ·rw [has_del_other e,has_put_other e] at hk
   exact h.strs kl hk
 ·by_cases e:t=K j
  ·subst e
   rw [has_del_same,hc]
   simp
  ·rw [has_del_other (litS_ne e),has_put_other (litS_ne e),← e2 t e]
   exact h.has t
 ·by_cases e:t=K j
  ·subst e
   rw [atKey_del_same,hc]
   rfl
  ·rw [atKey_del_other (litS_ne e),atKey_put_other (litS_ne e),← e2 t e]
   exact h.at_ t
theorem TD.size {D:DataW Unit}{js:List Nat}{K:Nat→List UInt8}(h:TD D js K)(he:∃ es,D=.map es∧es.Pairwise (fun p q=>p.1≠q.1)∧∀ p∈es,WideAt.IsKeyLit p.1){ks:List (List UInt8)}(hn:ks.Nodup)(hk:∀ s,s∈ks ↔ ∃ j∈js,K j=s):Maps.size D=ks.length:=by
 classical
 obtain ⟨es,rfl,h1,h2⟩:=he
 have a1:(es.map Prod.fst).Nodup:=List.pairwise_map.2 h1
 have a2:(ks.map Lit.string).Nodup:=List.pairwise_map.2 (hn.imp fun hab=>litS_ne hab)
 have:=mem_eq_len a1 a2 fun kl=>by
  constructor
  ·intro hm
   obtain ⟨p,hp,rfl⟩:=List.mem_map.1 hm
   have hh:Maps.has (.map es) p.1=true:=List.any_eq_true.2 ⟨p,hp,WideAt.sameKey_self (h2 p hp)⟩
   obtain ⟨s,hs⟩:=h.strs _ hh
   rw [hs] at hh ⊢
   exact List.mem_map.2 ⟨s,(hk s).2 (cntK_pos.1 ((h.has s).1 hh)),rfl⟩
  ·intro hm
   obtain ⟨s,hs,rfl⟩:=List.mem_map.1 hm
   obtain ⟨p,hp,e⟩:=List.any_eq_true.1 ((h.has s).2 (cntK_pos.2 ((hk s).1 hs)))
   exact List.mem_map.2 ⟨p,hp,WideAt.sameKey_eq e⟩
 rw [List.length_map,List.length_map] at this
 exact this
theorem fold_addK {α:Type} [DecidableEq α] (K:Nat→α):∀ (js:List Nat) (ks:List α),ks.Nodup→(js.foldl (fun ks j=>addK ks (K j)) ks).Nodup∧∀ x,x∈js.foldl (fun ks j=>addK ks (K j)) ks ↔ x∈ks∨∃ j∈js,K j=x
 | [],ks,h=>⟨h,fun x=>by simp⟩
 | j::js,ks,h=>by
  obtain ⟨h1,h2⟩:=fold_addK K js (addK ks (K j)) (addK_nodup h)
  refine ⟨h1,fun x=>?_⟩
  rw [List.foldl_cons,h2,addK_mem]
  constructor
  ·rintro ((h | h) | ⟨i,hi,e⟩)
   ·exact .inl h
   ·exact .inr ⟨j,by simp,h.symm⟩
   ·exact .inr ⟨i,List.mem_cons_of_mem _ hi,e⟩
  ·rintro (h | ⟨i,hi,e⟩)
   ·exact .inl (.inl h)
   ·rcases List.mem_cons.1 hi with rfl | hi
    ·exact .inl (.inr e.symm)
    ·exact .inr ⟨i,hi,e⟩
def difK (js:List Nat)(K:Nat→List UInt8):Nat:=(js.foldl (fun ks j=>addK ks (K j)) []).length
theorem difK_any {js:List Nat}{K:Nat→List UInt8}{ks:List (List UInt8)}(hn:ks.Nodup)(hk:∀ s,s∈ks ↔ ∃ j∈js,K j=s):difK js K=ks.length:=by
 obtain ⟨h1,h2⟩:=fold_addK K js [] List.nodup_nil
 exact mem_eq_len h1 hn fun x=>by rw [h2,hk];simp
theorem difK_le (js:List Nat)(K:Nat→List UInt8):difK js K≤js.length:=by
 obtain ⟨h1,h2⟩:=fold_addK K js [] List.nodup_nil
 have:=nodup_le h1 (b:=js.map K) fun x hx=>by
  rcases (h2 x).1 hx with h | ⟨j,hj,rfl⟩
  ·simp at h
  ·exact List.mem_map.2 ⟨j,hj,rfl⟩
 simpa [difK] using this
theorem cnt_dif {l:List Fct}{w:Int}{i:Nat}{js:List Nat}(hj:js=winF l w true i):cntF l w true i=difK js (fun j=>keyF false (atF l j)):=by
 obtain ⟨h1,h2⟩:=fold_addK (fun j=>who false (atF l j)) js [] List.nodup_nil
 rw [cnt_any h1 (fun x=>by rw [h2,hj];simp)]
 obtain ⟨g1,g2⟩:=fold_addK (fun j=>keyF false (atF l j)) js [] List.nodup_nil
 let kw:Who→List UInt8:=fun x=>match x with | .client p r=>keyN p r | .from k b=>keyA k b
 have hkw:∀ j,kw (who false (atF l j))=keyF false (atF l j):=fun j=>rfl
 have hn:((js.foldl (fun ks j=>addK ks (who false (atF l j))) []).map kw).Nodup:=by
  refine List.pairwise_map.2 (h1.imp_of_mem fun {a b} ha hb hab e=>?_)
  rcases (h2 a).1 ha with h | ⟨ja,_,ea⟩
  ·simp at h
  rcases (h2 b).1 hb with h | ⟨jb,_,eb⟩
  ·simp at h
  rw [← ea,← eb,hkw,hkw] at e
  exact hab (ea ▸ eb ▸ keyF_inj.1 e)
 rw [difK_any hn (fun s=>by
  rw [List.mem_map]
  constructor
  ·rintro ⟨x,hx,rfl⟩
   rcases (h2 x).1 hx with h | ⟨j,hj,rfl⟩
   ·simp at h
   ·exact ⟨j,hj,(hkw j).symm⟩
  ·rintro ⟨j,hj,rfl⟩
   exact ⟨_,(h2 _).2 (.inr ⟨j,hj,rfl⟩),hkw j⟩),List.length_map]
def TBox (w:World)(b:Nat)(n:Int)(m:Nat):Prop:=w.heap[b]? = some (.cells #[.int .i64 n,.map (some m)] 174 (0,0))
theorem TBox.cells {w:World}{b m:Nat}{n:Int}(h:TBox w b n m):w.cell? ⟨b,0,none⟩=some (.int .i64 n)∧w.cell? ⟨b,1,none⟩=some (.map (some m))∧w.frozen? ⟨b,0,none⟩=false:=by
 unfold TBox at h
 refine ⟨?_,?_,frozen_of_row w b _ _ _ h⟩<;>(rw [cell_of_row _ _ _ _ _ (0,0) h];rfl)
theorem TBox.ext {w w':World}{b m:Nat}{n:Int}(h:TBox w b n m)(hx:Ext w w'):TBox w' b n m:=hx.heap h
theorem TBox.set {w:World}{b m:Nat}{n:Int}(h:TBox w b n m)(x:Int):TBox (w.setCell ⟨b,0,none⟩ (.int .i64 x)) b x m:=(show RW w b 174 #[.int .i64 n,.map (some m)] from h).set 0 (.int .i64 x)
def TMap (w:World)(m:Nat)(D:DataW Unit):Prop:=w.ownsMap Tryz.prog 9 (plainElem Tryz.prog 3) m (Maps.size D) D
theorem TMap.ext {w w':World}{m:Nat}{D:DataW Unit}(h:TMap w m D)(hx:Ext w w'):TMap w' m D:=World.ownsMap.kept h (hx.but none) (by simp)
theorem TMap.of {w:World}{m n:Nat}{D:DataW Unit}(h:w.ownsMap Tryz.prog 9 (plainElem Tryz.prog 3) m n D):TMap w m D:=by
 obtain ⟨es,clock,hb,F,_,rfl⟩:=h
 exact ⟨es,clock,hb,F,by simp [Maps.size,length_sorted],rfl⟩
structure TAL (w:World) (B b m:Nat) (D:DataW Unit) (js:List Nat) (K:Nat→List UInt8):Prop where
 box:TBox w b js.length m
 map:TMap w m D
 td:TD D js K
 bm:B≤m
 bb:B≤b
 ne:m≠b
theorem TAL.ext {w w':World}{B b m:Nat}{D:DataW Unit}{js:List Nat}{K:Nat→List UInt8}(h:TAL w B b m D js K)(hx:Ext w w'):TAL w' B b m D js K:=⟨h.box.ext hx,h.map.ext hx,h.td,h.bm,h.bb,h.ne⟩
theorem TAL.size {w:World}{B b m:Nat}{D:DataW Unit}{js:List Nat}{K:Nat→List UInt8}(h:TAL w B b m D js K):Maps.size D=difK js K:=by
 obtain ⟨h1,h2⟩:=fold_addK K js [] List.nodup_nil
 exact h.td.size (World.ownsMap.entries h.map lawStr) h1 fun x=>by rw [h2];simp
theorem TAL.le {w:World}{B b m:Nat}{D:DataW Unit}{js:List Nat}{K:Nat→List UInt8}(h:TAL w B b m D js K):Maps.size D≤js.length:=by
 rw [h.size]
 exact difK_le js K
theorem key_len {cp:List ByteArray}{cr:ByteArray}(h1:cp.length≤1000)(h2:∀ p∈cp,p.size≤1000)(h3:cr.size≤1000):(keyN (dat cp) cr.data.toList).length≤2000000:=by
 have h4:=keyP_len (dat cp) (fun l hl=>by
  unfold dat at hl
  obtain ⟨p,hp,rfl⟩:=List.mem_map.1 hl
  rw [size_list]
  exact h2 p hp)
 have h5:=itoa_len20 (cp.length:Int) (by omega) (by omega)
 rw [dat_length] at h4
 unfold keyN
 rw [dat_length,List.length_append,List.length_append,List.length_cons]
 have h6:cr.data.toList.length≤1000:=by rw [size_list];exact h3
 omega
theorem zeroInt (w:World):(zeroValue 3).run Tryz.prog w=.ok (.int .i64 0) w:=by kernel_rfl
set_option maxRecDepth 100000 in
theorem failures_at (w:World) (B b m:Nat) (D:DataW Unit) (js:List Nat) (K:Nat→List UInt8) (h:TAL w B b m D js K):
  Calls Tryz.prog 64 #[.pointer (some ⟨b,0,none⟩)] w fun e w'=>e=.returned (.int .i64 (js.length:Int))∧Ext w w':=by
 obtain ⟨c0,c1,_⟩:=h.box.cells
 clear h
 go_enter Tryz.func64,Tryz.ntmps64
 go_wp2_with fail
 go_ret
 exact ⟨rfl,Ext.refl w⟩
theorem TBox.lt {w:World}{b m:Nat}{n:Int}(h:TBox w b n m):b<w.heap.size:=(Array.getElem?_eq_some_iff.1 h).1
theorem heap_set_ne {W:World}{a:Addr}{x:Value}{i:Nat}{ob:Obj}(h:W.heap[i]? = some ob)(hne:i≠a.block):(W.setCell a x).heap[i]? = some ob:=by rw [RowKit.Below.heap_setCell _ _ _ _ hne];exact h
set_option maxRecDepth 100000 in
set_option maxHeartbeats 1000000 in
theorem add_at (f:FV) (w0 w:World) (hx:Ext w0 w) (hM:f.In w0) (hz:f.Sz) (hp:Pow w0) (b m:Nat) (D:DataW Unit) (js:List Nat) (K:Nat→List UInt8) (j:Nat) (h:TAL w w0.heap.size b m D js K) (hn:js.length≤1000) (hj:K j=keyN f.fct.cp f.fct.cr):
  Calls Tryz.prog 166 #[.pointer (some ⟨b,0,none⟩),f.val] w fun e w'=>e=.returned (.tuple #[])∧(∃ D',TAL w' w0.heap.size b m D' (js++[j]) K)∧Ext w0 w':=by
 obtain ⟨t,mi,kd,fk,FA,fb,fc,CA,cp,cc,cr,SA,sp,sc,sr,co,pr,fl⟩:=f
 have hb0:=FBx.new w ⟨t,mi,kd,fk,FA,fb,fc,CA,cp,cc,cr,SA,sp,sc,sr,co,pr,fl⟩
 have hx0:=(Ext.refl w).alloc (.cells #[.int .i64 t,.int .i64 mi,.int .i64 kd,.int .i64 fk,.slice FA fb.length fc,.slice CA cp.length cc,.string cr,.slice SA sp.length sc,.string sr,.int .i64 co,.int .i64 pr,.int .u32 (fl.toNat:Int)] 41)
 dsimp only [FV.val,FV.fct] at hb0 ⊢
 obtain ⟨W1,e1⟩:∃ W,w.alloc (.cells #[.int .i64 t,.int .i64 mi,.int .i64 kd,.int .i64 fk,.slice FA fb.length fc,.slice CA cp.length cc,.string cr,.slice SA sp.length sc,.string sr,.int .i64 co,.int .i64 pr,.int .u32 (fl.toNat:Int)] 41)=W:=⟨_,rfl⟩
 rw [e1] at hb0 hx0
 have HB:=Lib.hid hb0;have HX:=Lib.hid hx0
 have hl:(js.length:Int)≤1000:=by omega
 have hbl:=h.box.lt
 have hbox:=h.box.ext hx0
 obtain ⟨c0,c1,f0⟩:=hbox.cells
 obtain ⟨W2,e2⟩:∃ W,W1.setCell ⟨b,0,none⟩ (.int .i64 ((js.length:Int)+1))=W:=⟨_,rfl⟩
 have ht:=hbox.set ((js.length:Int)+1)
 have hb2:FBx (W1.setCell ⟨b,0,none⟩ (.int .i64 ((js.length:Int)+1))) w.heap.size ⟨t,mi,kd,fk,FA,fb,fc,CA,cp,cc,cr,SA,sp,sc,sr,co,pr,fl⟩:=heap_set_ne hb0 (show w.heap.size≠b by omega)
 have hm2:=World.ownsMap.setCell (h.map.ext hx0) (a:=⟨b,0,none⟩) h.ne (.int .i64 ((js.length:Int)+1))
 have hx2:=(hx.trans hx0).setCell (p:=⟨b,0,none⟩) h.bb (.int .i64 ((js.length:Int)+1))
 rw [e2] at ht hb2 hm2 hx2
 have HT:=Lib.hid ht;have HB2:=Lib.hid hb2;have HM2:=Lib.hid hm2;have HX2:=Lib.hid hx2
 have HK:=Lib.hid (fun W (hw:Ext W2 W)=>keyClient_at ⟨t,mi,kd,fk,FA,fb,fc,CA,cp,cc,cr,SA,sp,sc,sr,co,pr,fl⟩ W (hM.ext (hx2.trans hw)) hz (hp.ext (hx2.trans hw)))
 have HTD:=Lib.hid (h.td.add j)
 have HAT:=Lib.hid (h.td.at_ (K j))
 have HCL:=Lib.hid (cntK_le js K (K j))
 have HSL:=Lib.hid h.le
 have HBM:=Lib.hid h.bm;have HBB:=Lib.hid h.bb;have HNE:=Lib.hid h.ne
 dsimp only [FV.val,FV.fct] at HK hj
 have HKL:=Lib.hid (show (K j).length≤2000000 by rw [hj];exact key_len hz.cp hz.cps hz.cr)
 rw [← hj] at HK
 generalize K j=KY at *
 generalize cntK js K KY=cn at *
 obtain ⟨n,hn'⟩:∃ n,js.length=n:=⟨_,rfl⟩
 rw [hn'] at c0 hl hn e2 HT
 have HN:=Lib.hid hn'
 clear hn' h hb0 hx0 hM hz hp hx hbox ht hb2 hm2 hx2 hbl hj
 go_enter Tryz.func166,Tryz.ntmps166
 go_upto_region 2 with fail
 refine wp_region_ext_tail 6 (fun i v' w'=>match i with | 5=>v'=.string ⟨(KY).toArray⟩ | _=>False) (by kernel_rfl) (by kernel_rfl) ?_
 refine wpE_val (.pointer (some ⟨b,0,none⟩)) rfl rfl (fun w' hw' K' hK'=>?_) ?_
 ·go_step
  exact hK'
 simp only [Act.put,sT1,sT2,sT3]
 refine wpE_nil' rfl _ rfl ⟨b,0,none⟩ rfl ?_
 simp only [Act.put,sT1,sT2,sT3]
 refine wpE_val (.pointer (some ⟨b,1,none⟩)) rfl rfl (fun w' hw' K' hK'=>?_) ?_
 ·go_step
  exact hK'
 simp only [Act.put,sT1,sT2,sT3]
 refine wpE_val (.map (some m)) rfl rfl (fun w' hw' K' hK'=>?_) ?_
 ·have hE:=hw'.1
  obtain ⟨d0,d1,_⟩:=(HT.out.ext ((Ext.drew W2).trans hE)).cells
  go_step
  exact hK'
 simp only [Act.put,sT1,sT2,sT3]
 refine wpE_val (.agg #[.int .i64 t,.int .i64 mi,.int .i64 kd,.int .i64 fk,.slice FA fb.length fc,.slice CA cp.length cc,.string cr,.slice SA sp.length sc,.string sr,.int .i64 co,.int .i64 pr,.int .u32 (fl.toNat:Int)]) rfl rfl (fun w' hw' K' hK'=>?_) ?_
 ·have hE:=hw'.1
  obtain ⟨u0,u1,u2,u3,u4,u5,u6,u7,u8,u9,u10,u11⟩:=(HB2.out.ext ((Ext.drew W2).trans hE)).cells
  go_step
  exact hK'
 simp only [Act.put,sT1,sT2,sT3]
 refine wpE_symcall 16 rfl (by simp) true (.string ⟨(KY).toArray⟩) (rfl) (fun _ _ h=>h) (fun hc w' hw' K' hK'=>?_) ?_
 ·have hE:=hw'.1
  try simp only [cond_true]
  go_step
  refine (HK.out w' ((Ext.drew _).trans hE)).mono ?_
  rintro _ w2 ⟨rfl,hx⟩
  exact hK' _ _ rfl hx
 simp only [cond_true,Act.put,sT1,sT2,sT3]
 refine wpE_nil (fun W hW=>?_)
 have hx:=(Ext.drew W2).trans hW.1
 have hown:=TMap.ext HM2.out hx
 have HTW:=Lib.hid (HT.out.ext hx)
 have HXW:=Lib.hid (HX2.out.trans hx)
 have hkey:=keyLit KY (by have:=HKL.out;unfold maxLen;omega)
 have hsl:Maps.size D<maxLen:=by have:=HSL.out;have:=HN.out;unfold maxLen;omega
 have hcn:(cn:Int)≤1000:=by have:=HCL.out;have:=HN.out;omega
 unfold TMap at hown
 clear hW hx
 dsimp only [List.drop]
 go_wp2_with (first
  | (at_lookup;refine wpList_lookup_own_int _ rfl _ _ 172 rfl 9 3 .i64 lawStr Tryz.underlying172 Tryz.underlying3 (zeroInt _) m _ D rfl hown _ _ rfl hkey ?_;intro cv hat hwc;obtain rfl:cv=(cn:Int):=(by rw [HAT.out] at hat;injection hat with hat;injection hat with _ hat;exact hat.symm))
  | (at_mapUpdate;refine wpList_mapUpdate_own _ rfl _ _ _ 172 rfl 9 3 lawStr Tryz.underlying172 _ m _ D rfl hown hsl _ _ _ rfl rfl hkey _ [] (plainElem_int Tryz.underlying3 (WalkArith.wf_i64 (by omega))) ?_;intro w1 hown1 hgrow1)
  | fail)
 go_end0
 have HBX:=hgrow1.block b (TBox.lt HTW.out) (fun e=>HNE.out (by injection e with e;exact e.symm))
 refine ⟨rfl,⟨_,⟨?_,TMap.of hown1,?_,HBM.out,HBB.out,HNE.out⟩⟩,RowKit.Below.grown HXW.out hgrow1 HXW.out.size (fun j hj=>by cases hj;exact HBM.out)⟩
 ·rw [List.length_append,HN.out]
  exact HBX.trans HTW.out
 ·exact HTD.out
theorem TBox.kept {W W':World}{b m:Nat}{n:Int}(h:TBox W b n m)(hg:W.grownBy W' (some m))(hne:m≠b):TBox W' b n m:=(hg.block b (TBox.lt h) (fun e=>hne (by injection e with e;exact e.symm))).trans h
theorem rem_end {w0 W W':World} {b m n:Nat} {D':DataW Unit} {js:List Nat} {K:Nat→List UInt8} (hT:TBox W b js.length m) (hX:Ext w0 W) (hg:W.grownBy W' (some m)) (hm:W'.ownsMap Tryz.prog 9 (plainElem Tryz.prog 3) m n D') (ht:TD D' js K) (h1:w0.heap.size≤m) (h2:w0.heap.size≤b) (h3:m≠b):
  (∃ D',TAL W' w0.heap.size b m D' js K)∧Ext w0 W':=
 ⟨⟨D',⟨(hg.block b (TBox.lt hT) (fun e=>h3 (by injection e with e;exact e.symm))).trans hT,TMap.of hm,ht,h1,h2,h3⟩⟩,RowKit.Below.grown hX hg hX.size (fun j hj=>by cases hj;exact h1)⟩
set_option maxRecDepth 100000 in
set_option maxHeartbeats 1000000 in
theorem remove_at (f:FV) (w0 w:World) (hx:Ext w0 w) (hM:f.In w0) (hz:f.Sz) (hp:Pow w0) (b m:Nat) (D:DataW Unit) (js:List Nat) (K:Nat→List UInt8) (j:Nat) (h:TAL w w0.heap.size b m D (j::js) K) (hn:js.length≤1000) (hj:K j=keyN f.fct.cp f.fct.cr):
  Calls Tryz.prog 167 #[.pointer (some ⟨b,0,none⟩),f.val] w fun e w'=>e=.returned (.tuple #[])∧(∃ D',TAL w' w0.heap.size b m D' js K)∧Ext w0 w':=by
 obtain ⟨t,mi,kd,fk,FA,fb,fc,CA,cp,cc,cr,SA,sp,sc,sr,co,pr,fl⟩:=f
 have hb0:=FBx.new w ⟨t,mi,kd,fk,FA,fb,fc,CA,cp,cc,cr,SA,sp,sc,sr,co,pr,fl⟩
 have hx0:=(Ext.refl w).alloc (.cells #[.int .i64 t,.int .i64 mi,.int .i64 kd,.int .i64 fk,.slice FA fb.length fc,.slice CA cp.length cc,.string cr,.slice SA sp.length sc,.string sr,.int .i64 co,.int .i64 pr,.int .u32 (fl.toNat:Int)] 41)
 dsimp only [FV.val,FV.fct] at hb0 ⊢
 obtain ⟨W1,e1⟩:∃ W,w.alloc (.cells #[.int .i64 t,.int .i64 mi,.int .i64 kd,.int .i64 fk,.slice FA fb.length fc,.slice CA cp.length cc,.string cr,.slice SA sp.length sc,.string sr,.int .i64 co,.int .i64 pr,.int .u32 (fl.toNat:Int)] 41)=W:=⟨_,rfl⟩
 rw [e1] at hb0 hx0
 have HB:=Lib.hid hb0;have HX:=Lib.hid hx0
 have hl:(js.length:Int)≤1000:=by omega
 obtain ⟨u0,u1,u2,u3,u4,u5,u6,u7,u8,u9,u10,u11⟩:=HB.out.cells
 have HK:=Lib.hid (keyClient_at ⟨t,mi,kd,fk,FA,fb,fc,CA,cp,cc,cr,SA,sp,sc,sr,co,pr,fl⟩ W1 (hM.ext (hx.trans hx0)) hz (hp.ext (hx.trans hx0)))
 have HTD:=Lib.hid h.td
 have HAT:=Lib.hid (h.td.at_ (K j))
 have HCC:=Lib.hid (cntK_cons js j K (K j))
 have HCL:=Lib.hid (cntK_le js K (K j))
 have HSL:=Lib.hid (show Maps.size D≤1001 by have:=h.le;rw [List.length_cons] at this;omega)
 have HBM:=Lib.hid h.bm;have HBB:=Lib.hid h.bb;have HNE:=Lib.hid h.ne
 have HTB:=Lib.hid (show TBox w b ((js.length:Int)+1) m by have:=h.box;rw [List.length_cons] at this;exact this)
 have HMW:=Lib.hid h.map
 have HXW:=Lib.hid (hx.trans hx0)
 have HX0:=Lib.hid hx0
 dsimp only [FV.val,FV.fct] at HK hj
 have HKL:=Lib.hid (show (K j).length≤2000000 by rw [hj];exact key_len hz.cp hz.cps hz.cr)
 have HSUB:=Lib.hid (fun hc=>h.td.sub (j:=j) hc)
 have HDRP:=Lib.hid (fun hc d=>h.td.drop (j:=j) hc d)
 rw [← hj] at HK
 generalize hky:K j=KY at *
 rw [if_pos rfl] at HCC
 obtain ⟨n,hn'⟩:∃ n,js.length=n:=⟨_,rfl⟩
 have HN:=Lib.hid hn'
 clear h hb0 hx0 hM hz hp hx hj
 rw [hn'] at hl hn HTB
 clear hn'
 go_enter Tryz.func167,Tryz.ntmps167
 go_wp2_with fail
 refine HK.out.mono ?_
 rintro _ w2 ⟨rfl,hx2⟩
 have hx02:=HX0.out.trans hx2
 have HX2:=Lib.hid (HXW.out.trans hx2)
 have hbox:=HTB.out.ext hx02
 obtain ⟨c0,c1,f0⟩:=hbox.cells
 obtain ⟨W2,e2⟩:∃ W,w2.setCell ⟨b,0,none⟩ (.int .i64 (n:Int))=W:=⟨_,rfl⟩
 have ht:=hbox.set (n:Int)
 have hm2:=World.ownsMap.setCell (HMW.out.ext hx02) (a:=⟨b,0,none⟩) HNE.out (.int .i64 (n:Int))
 have hx3:=HX2.out.setCell (p:=⟨b,0,none⟩) HBB.out (.int .i64 (n:Int))
 rw [e2] at ht hm2 hx3
 have HT:=Lib.hid ht;have HX3:=Lib.hid hx3
 obtain ⟨d0,d1,_⟩:=ht.cells
 have hkey:=keyLit KY (by have:=HKL.out;unfold maxLen;omega)
 have hsl:Maps.size D<maxLen:=by have:=HSL.out;unfold maxLen;omega
 have e3:(n:Int)+1-1=n:=by omega
 obtain ⟨cn,hcn⟩:∃ cn,cntK js K KY=cn:=⟨_,rfl⟩
 have HCN:=Lib.hid hcn
 have hcl:(cn:Int)≤1000:=by have h1:=HCL.out;have h2:=HN.out;rw [hcn] at h1;omega
 have hat0:D.atKey (.string KY) (.lit (.int .i64 0))=.lit (.int .i64 ((cn:Int)+1)):=by rw [HAT.out,HCC.out,hcn];rfl
 have HAT0:=Lib.hid hat0
 have tok1:True:=trivial
 have HMP:=Lib.hid HTD.out.map
 clear hx2 hbox ht hx02 hx3 hcn hat0 u0 u1 u2 u3 u4 u5 u6 u7 u8 u9 u10 u11
 have hown:=hm2
 unfold TMap at hown
 go_upto_region 4 with (first
  | (at_lookup;refine wpList_lookup_own_int _ rfl _ _ 172 rfl 9 3 .i64 lawStr Tryz.underlying172 Tryz.underlying3 (zeroInt _) m _ D rfl hown _ _ rfl hkey ?_;intro cv hat hwc;obtain rfl:cv=(cn:Int)+1:=(by rw [HAT0.out] at hat;injection hat with hat;injection hat with _ hat;exact hat.symm))
  | (at_mapUpdate;refine wpList_mapUpdate_own _ rfl _ _ _ 172 rfl 9 3 lawStr Tryz.underlying172 _ m _ D rfl hown hsl _ _ _ rfl rfl hkey _ [] (plainElem_int Tryz.underlying3 (WalkArith.wf_i64 (by omega))) ?_;intro w3 hown1 hgrow1)
  | fail)
 have HT3:=Lib.hid (TBox.kept HT.out hgrow1 HNE.out)
 have HX3':=Lib.hid (show Ext w0 w3 from RowKit.Below.grown HX3.out hgrow1 HX3.out.size (fun j hj=>by cases hj;exact HBM.out))
 have HAT1:=Lib.hid (show (D.put (Lit.string KY) (DataW.lit (Lit.int IntKind.i64 (cn:Int)))).atKey (.string KY) (.lit (.int .i64 0))=.lit (.int .i64 (cn:Int)) from atKey_put_same HMP.out (by trivial) _ _)
 have HG:=Lib.hid hgrow1
 clear d0 d1 c0 c1 f0 hown hgrow1 hm2 hsl hat hwc
 obtain ⟨d0,d1,_⟩:=HT3.out.cells
 rcases Nat.eq_zero_or_pos cn with h0 | h0
 ·have HD:=Lib.hid (HDRP.out (HCN.out.trans h0) (DataW.lit (Lit.int IntKind.i64 (cn:Int))))
  have hq:((cn:Int)==0)=true:=by rw [h0];rfl
  clear h0
  go_wp2_with (first
   | (at_lookup;refine wpList_lookup_own_int _ rfl _ _ 172 rfl 9 3 .i64 lawStr Tryz.underlying172 Tryz.underlying3 (zeroInt _) m _ _ rfl hown1 _ _ rfl hkey ?_;intro cv hat hwc;obtain rfl:cv=(cn:Int):=(by rw [HAT1.out] at hat;injection hat with hat;injection hat with _ hat;exact hat.symm))
   | (at_delete;refine wpList_delete_own _ rfl _ _ 172 9 rfl 3 lawStr Tryz.underlying172 _ m _ _ rfl hown1 _ _ rfl hkey ?_;intro w4 hown4 hturn4)
   | fail)
  go_end0
  exact ⟨rfl,rem_end (by rw [HN.out];exact HT3.out) HX3'.out hturn4.grown hown4 HD.out HBM.out HBB.out HNE.out⟩
 ·have HD:=Lib.hid (HSUB.out (by rw [HCN.out];exact h0))
  rw [HCN.out] at HD
  have hq:((cn:Int)==0)=false:=by rw [beq_eq_false_iff_ne];omega
  clear h0
  go_wp2_with (first
   | (at_lookup;refine wpList_lookup_own_int _ rfl _ _ 172 rfl 9 3 .i64 lawStr Tryz.underlying172 Tryz.underlying3 (zeroInt _) m _ _ rfl hown1 _ _ rfl hkey ?_;intro cv hat hwc;obtain rfl:cv=(cn:Int):=(by rw [HAT1.out] at hat;injection hat with hat;injection hat with _ hat;exact hat.symm))
   | fail)
  go_end0
  exact ⟨rfl,⟨⟨_,⟨by rw [HN.out];exact HT3.out,TMap.of hown1,HD.out,HBM.out,HBB.out,HNE.out⟩⟩,HX3'.out⟩⟩
end Go.Proofs.YtnjmndofcpnmeaaGreatDoor
namespace Go.Proofs.YtnjmndofcpnmeaaGreatDoor
open Go Go.RowKit
set_option linter.unusedVariables false
theorem prnR_esc {p:List (List UInt8)}{q:List UInt8}{c d:UInt8}{r:List UInt8}(h:c.toNat=92):prnR p q (c::d::r)=prnR p (q++[d]) r:=by rw [prnR,if_pos h]
theorem prnR_sl {p:List (List UInt8)}{q:List UInt8}{c:UInt8}{r:List UInt8}(h:c.toNat=47):prnR p q (c::r)=prnR (p++[q]) [] r:=by
 cases r with
 | nil=>simp [prnR,h]
 | cons d r=>rw [prnR,if_neg (by omega),if_pos h]
theorem prnR_at {p:List (List UInt8)}{q:List UInt8}{c:UInt8}{r:List UInt8}(h:c.toNat=64):prnR p q (c::r)=(p++[q],r):=by
 cases r with
 | nil=>simp [prnR,h]
 | cons d r=>rw [prnR,if_neg (by omega),if_neg (by omega),if_pos h]
theorem prnR_one {p:List (List UInt8)}{q:List UInt8}{c:UInt8}{r:List UInt8}(h1:c.toNat=92→r=[])(h2:c.toNat≠47)(h3:c.toNat≠64):prnR p q (c::r)=prnR p (q++[c]) r:=by
 cases r with
 | nil=>simp [prnR,h2,h3]
 | cons d r=>rw [prnR,if_neg (fun h=>by cases h1 h),if_neg h2,if_neg h3]
theorem slice_one (s:ByteArray)(k:Nat)(h:k<s.size):∀ W':World,(Instr.slice 9 (.string s) (some (.int .i64 (k:Int))) (some (.int .i64 ((k:Int)+1))) none).run Tryz.prog W'=.ok (.string (s.extract k (k+1))) W':=fun W'=>by
 rw [run_slice_string_if W' _ _ _ _ _ _ Tryz.underlying9,if_pos (by omega),if_pos (by omega),show ((k:Int)).toNat=k by omega,show ((k:Int)+1).toNat=k+1 by omega]
structure PRI (w W:World) (v:Value) (r:ByteArray) (ps:List ByteArray):Prop where
 r0:RW W w.heap.size 37 #[.slice none 0 0,.string ⟨#[]⟩]
 rp:RW W (w.heap.size+1) 37 #[v,.string r]
 ro:ROW ES 9 W (w.heap.size+2) v ps
 ex:Ext w W
theorem PRI.ext {w W W':World}{v:Value}{r:ByteArray}{ps:List ByteArray}(h:PRI w W v r ps)(hx:Ext W W'):PRI w W' v r ps:=⟨h.r0.ext hx,h.rp.ext hx,h.ro.ext hx,h.ex.trans hx⟩
theorem PRI.sz {w W:World}{v:Value}{r:ByteArray}{ps:List ByteArray}(h:PRI w W v r ps):w.heap.size+2≤W.heap.size:=(Array.getElem?_eq_some_iff.1 h.rp).1
theorem PRI.cells {w W:World}{v:Value}{r:ByteArray}{ps:List ByteArray}(h:PRI w W v r ps):(W.cell? ⟨w.heap.size+1,0,none⟩=some v∧W.cell? ⟨w.heap.size+1,1,none⟩=some (.string r))∧W.frozen? ⟨w.heap.size+1,0,none⟩=false∧W.frozen? ⟨w.heap.size+1,1,none⟩=false:=⟨rwp h.rp,h.rp.soft 0,h.rp.soft 1⟩
theorem PRI.boxed {w W:World}{v:Value}{r:ByteArray}{ps:List ByteArray}(h:PRI w W v r ps)(o:Nat)(u:Value):ROW ES 9 (W.setCell ⟨w.heap.size+1,o,none⟩ u) (w.heap.size+2) v ps:=
 h.ro.keep (grown_set (grown_refl W (some (w.heap.size+1))) o u) (fun b hb=>by
  injection hb with hb
  subst hb
  refine ⟨fun hv=>by have:=(h.ro.lt _ hv).1;omega,NoU8.of h.rp fun x hx n e=>?_,fun x hx hB=>hB⟩
  subst e
  obtain ⟨A,c,rfl⟩:=h.ro.shape
  simp at hx)
theorem PRI.setR {w W:World}{v:Value}{r:ByteArray}{ps:List ByteArray}(h:PRI w W v r ps)(r':ByteArray):PRI w (W.setCell ⟨w.heap.size+1,1,none⟩ (.string r')) v r' ps:=
 ⟨heap_set_ne h.r0 (show w.heap.size≠w.heap.size+1 by omega),h.rp.set 1 (.string r'),h.boxed 1 _,h.ex.setCell (p:=⟨w.heap.size+1,1,none⟩) (Nat.le_succ _) _⟩
theorem PRI.app {w W W8:World}{v v8:Value}{r:ByteArray}{ps qs:List ByteArray}(h:PRI w W v r ps)(ho:ROW ES 9 W8 (w.heap.size+2) v8 (ps++qs))(hg:W.grownBy W8 v.ownBlock):RW W8 (w.heap.size+1) 37 #[v,.string r]∧PRI w (W8.setCell ⟨w.heap.size+1,0,none⟩ v8) v8 r (ps++qs):=by
 have hne:∀ k,k<w.heap.size+2→some k≠v.ownBlock:=fun k hk e=>by have:=(h.ro.lt k e.symm).1;omega
 have hp:RW W8 (w.heap.size+1) 37 #[v,.string r]:=(hg.block (w.heap.size+1) (Array.getElem?_eq_some_iff.1 h.rp).1 (hne _ (by omega))).trans h.rp
 have h0:RW W8 w.heap.size 37 #[.slice none 0 0,.string ⟨#[]⟩]:=(hg.block w.heap.size (Array.getElem?_eq_some_iff.1 h.r0).1 (hne _ (by omega))).trans h.r0
 have hx:Ext w W8:=h.ex.grown hg (fun k hk=>by have:=(h.ro.lt k hk).1;omega)
 refine ⟨hp,heap_set_ne h0 (show w.heap.size≠w.heap.size+1 by omega),hp.set 0 v8,?_,hx.setCell (p:=⟨w.heap.size+1,0,none⟩) (Nat.le_succ _) _⟩
 refine ho.keep (grown_set (grown_refl W8 (some (w.heap.size+1))) 0 v8) (fun b hb=>?_)
 injection hb with hb
 subst hb
 refine ⟨fun hv=>by have:=(ho.lt _ hv).1;omega,NoU8.of hp fun x hx n e=>?_,fun x hx hB=>hB⟩
 subst e
 obtain ⟨A,c,rfl⟩:=h.ro.shape
 simp at hx
def STB (w:World)(A:Option Addr):Prop:=∀ ad,A=some ad→∃ cs,w.heap[ad.block]? = some (.cells cs 9 (0,0))
theorem STB.ext {w w':World}{A:Option Addr}(h:STB w A)(hx:Ext w w'):STB w' A:=fun ad hA=>let ⟨cs,e⟩:=h ad hA;⟨cs,hx.heap e⟩
theorem STB.none (w:World):STB w none:=fun ad h=>by cases h
def PRR (l:List UInt8)(w:World)(e:Ending)(w':World):Prop:=∃ (A:Option Addr) (c:Nat) (ps:List ByteArray) (r:ByteArray),e=.returned (.agg #[.slice A ps.length c,.string r])∧RS w' (.slice A ps.length c) (sv ps)∧(dat ps,r.data.toList)=prnW l∧ps.length≤l.length∧r.size≤l.length∧(∀ p∈ps,p.size≤l.length)∧STB w' A
set_option maxRecDepth 100000 in
set_option maxHeartbeats 2000000 in
theorem RPrinc_at (s:ByteArray) (hs:s.size≤3000) (w:World):
  Calls Tryz.prog 92 #[.string s] w fun e w'=>PRR s.data.toList w e w'∧Ext w w':=by
 obtain ⟨i0,hi,iz0,iz1,iz2⟩:=info_parts sinfo1
 have z0:=heap_alloc_new w (.cells #[.slice none 0 0,.string ⟨#[]⟩] 37)
 have x0:=(Ext.refl w).alloc (.cells #[.slice none 0 0,.string ⟨#[]⟩] 37)
 have z1:=heap_alloc_new (w.alloc (.cells #[.slice none 0 0,.string ⟨#[]⟩] 37)) (.cells #[.slice none 0 0,.string ⟨#[]⟩] 37)
 have x1:=(Ext.refl (w.alloc (.cells #[.slice none 0 0,.string ⟨#[]⟩] 37))).alloc (.cells #[.slice none 0 0,.string ⟨#[]⟩] 37)
 rw [World.size_alloc] at z1
 have HI0:Hid (PRI w ((w.alloc (.cells #[.slice none 0 0,.string ⟨#[]⟩] 37)).alloc (.cells #[.slice none 0 0,.string ⟨#[]⟩] 37)) (.slice none 0 0) ⟨#[]⟩ []):=Lib.hid ⟨x1.heap z0,z1,ROW.nil _ _ _,x0.trans x1⟩
 clear z0 x0 z1 x1
 by_cases hd:s.data.toList=[45]
 ·have hdash:(s.toList==[45])=true:=by rw [ByteArray.toList_eq,hd];rfl
  have HF:=Lib.hid (show (dat ([]:List ByteArray),(⟨#[]⟩:ByteArray).data.toList)=prnW s.data.toList by rw [hd];rfl)
  obtain ⟨⟨c0,c1⟩,f0,f1⟩:=HI0.out.cells
  have HXE:=Lib.hid HI0.out.ex
  clear hd
  go_enter Tryz.func92,Tryz.ntmps92
  go_wp2_with (first | (refine wpList_store_var _ rfl (.tmp 2) (.tmp 9) 37 rfl w.heap.size 37 #[.slice none 0 0,.string ⟨#[]⟩] #[.slice none 0 0,.string ⟨#[]⟩] rfl rfl (Tryz.sizeOf37 _) HI0.out.r0 rfl (fun v hv=>by simp at hv;rcases hv with rfl | rfl<;>rfl) ?_;intro W9 b9 hg9;obtain ⟨d0,d1⟩:=rwp (show RW W9 w.heap.size 37 #[.slice none 0 0,.string ⟨#[]⟩] from b9)) | fail)
  refine bodyPost_ret (v:=.agg #[.slice none 0 0,.string ⟨#[]⟩]) (by simp [results,Tryz.results92,go_sem,d0,d1];try rfl) rfl ?_
  have hx9:Ext w W9:=HXE.out.grown hg9 (fun j hj=>by cases hj;exact Nat.le_refl _)
  exact ⟨⟨none,0,[],⟨#[]⟩,rfl,RS.nil _,HF.out,Nat.zero_le _,Nat.zero_le _,fun p hp=>(by cases hp),STB.none _⟩,hx9⟩
 ·have hdash:(s.toList==[45])=false:=by rw [ByteArray.toList_eq,beq_eq_false_iff_ne];exact hd
  have HPW:=Lib.hid (show prnW s.data.toList=prnR [] [] s.data.toList by unfold prnW;rw [if_neg hd])
  clear hd
  go_enter Tryz.func92,Tryz.ntmps92
  go_wp2_with fail
  clear hdash
  go_loopw [4,5,6,23,35,56] (fun q a i _ _ _ wr=>∃ (k:Nat) (pt r:ByteArray) (ps:List ByteArray) (v:Value),k≤s.size∧i=.int .i64 k∧q=.string pt∧Hid (PRI w wr v r ps)∧Hid (pt.size≤k∧r.size≤k∧ps.length≤k∧∀ p∈ps,p.size≤k)∧((a=.int .i64 (-1)∧Hid (r=⟨#[]⟩∧prnR [] [] s.data.toList=prnR (dat ps) pt.data.toList (s.data.toList.drop k)))∨∃ n:Nat,a=.int .i64 (n:Int)∧Hid (prnR [] [] s.data.toList=(dat ps,r.data.toList++s.data.toList.drop k)))) (fun _ _ i _ _ _ _=>s.size-(intOf i).toNat)
  case atStart=>exact ⟨0,⟨#[]⟩,⟨#[]⟩,[],_,Nat.zero_le _,rfl,rfl,HI0,Lib.hid ⟨Nat.le_refl _,Nat.le_refl _,Nat.le_refl _,fun p hp=>by cases hp⟩,.inl ⟨rfl,Lib.hid ⟨rfl,rfl⟩⟩⟩
  case round=>
   obtain ⟨k,pt,r,ps,v,hk,rfl,rfl,HI,HZ,hst⟩:=hrel
   obtain ⟨⟨c0,c1⟩,f0,f1⟩:=HI.out.cells
   have hptz:pt.size≤3000:=by have:=HZ.out.1;omega
   have hrz:r.size≤3000:=by have:=HZ.out.2.1;omega
   by_cases hlt:k<s.size
   ·have HD:=Lib.hid (drop_byte s k hlt)
    rcases hst with ⟨rfl,HA⟩ | ⟨n,rfl,HA⟩
    ·by_cases h47:s[k].toNat=47
     ·have e47:((s[k].toNat:Int)==47)=true:=by rw [h47];rfl
      have e64:((s[k].toNat:Int)==64)=false:=by rw [h47];rfl
      have e92:((s[k].toNat:Int)==92)=false:=by rw [h47];rfl
      have HST:=Lib.hid (show prnR [] [] s.data.toList=prnR (dat (ps++[pt])) [] (s.data.toList.drop (k+1)) by rw [HA.out.2,HD.out,prnR_sl h47];unfold dat;simp)
      clear h47
      have hx1:=(Ext.refl wr).alloc (.cells #[.string pt] 9)
      have HR1:=Lib.hid (HI.out.ro.ext hx1)
      have HB1:=Lib.hid (show ((ps.length+1)*16:Nat)≤140737488355328 by have:=HZ.out.2.2.1;omega)
      have HS1:=Lib.hid (show w.heap.size+2≤(wr.alloc (.cells #[.string pt] 9)).heap.size from Nat.le_trans HI.out.sz hx1.size)
      have HNW:=Lib.hid (show ∀ j u,(ES.all [pt])[j]? = some u→(wr.alloc (.cells #[.string pt] 9)).cell? ((⟨wr.heap.size,0,none⟩:Addr).add j)=some u from fun j u hu=>by
       rw [add0,cell_of_row _ _ j _ _ (0,0) (heap_alloc_new wr _)]
       rw [ES.all_eq] at hu
       simpa [sv] using hu)
      have HI1:=Lib.hid (HI.out.ext hx1)
      have g0:=hx1.cell c0
      clear hx1
      go_wp2_with (at_builtin;refine wpList_append_row (E:=ES) _ rfl (.tmp 68) (.tmp 70) 35 rfl (w.heap.size+2) 9 i0 (.string ⟨#[]⟩) 16 Tryz.underlying35 hi iz0 iz1 iz2 rfl (fun x hx n e=>by subst e;simp [Value.cells] at hx) _ ps rfl HR1.out ⟨wr.heap.size,0,none⟩ 1 [pt] rfl (by show 0<1;decide) HNW.out (fun y hy=>⟨trivial,fun b _=>id⟩) HB1.out (by decide) HS1.out ?_;intro v8 w8 hown8 hg8 ho8;obtain ⟨A8,q8,rfl⟩:=hown8.shape;have hP:=HI1.out.app hown8 hg8;obtain ⟨n8,hn8⟩:∃ n,(ps++[pt]).length=n:=⟨_,rfl⟩;rw [hn8] at hP ⊢;obtain ⟨c8,d8⟩:=rwp hP.1;have k8:=hP.1.soft 0;have HP2:=Lib.hid hP.2;clear hP hown8 hg8 ho8)
      go_roundw
      case rel=>exact ⟨k+1,⟨#[]⟩,r,ps++[pt],.slice A8 n8 q8,by omega,by go_num,rfl,HP2,Lib.hid ⟨Nat.zero_le _,by have:=HZ.out.2.1;omega,by rw [List.length_append,List.length_singleton];have:=HZ.out.2.2.1;omega,fun p hp=>by rcases List.mem_append.1 hp with hp | hp;exact Nat.le_succ_of_le (HZ.out.2.2.2 p hp);rw [List.mem_singleton] at hp;subst hp;exact Nat.le_succ_of_le HZ.out.1⟩,.inl ⟨rfl,Lib.hid ⟨HA.out.1,HST.out⟩⟩⟩
      case measure=>simp [intOf];omega
     ·have e47:((s[k].toNat:Int)==47)=false:=by rw [beq_eq_false_iff_ne];omega
      by_cases h64:s[k].toNat=64
      ·have e64:((s[k].toNat:Int)==64)=true:=by rw [h64];rfl
       have e92:((s[k].toNat:Int)==92)=false:=by rw [h64];rfl
       have HST:=Lib.hid (show prnR [] [] s.data.toList=(dat (ps++[pt]),s.data.toList.drop (k+1)) by rw [HA.out.2,HD.out,prnR_at h64];unfold dat;simp)
       clear h47 h64
       have hx1:=(Ext.refl wr).alloc (.cells #[.string pt] 9)
       have HR1:=Lib.hid (HI.out.ro.ext hx1)
       have HB1:=Lib.hid (show ((ps.length+1)*16:Nat)≤140737488355328 by have:=HZ.out.2.2.1;omega)
       have HS1:=Lib.hid (show w.heap.size+2≤(wr.alloc (.cells #[.string pt] 9)).heap.size from Nat.le_trans HI.out.sz hx1.size)
       have HNW:=Lib.hid (show ∀ j u,(ES.all [pt])[j]? = some u→(wr.alloc (.cells #[.string pt] 9)).cell? ((⟨wr.heap.size,0,none⟩:Addr).add j)=some u from fun j u hu=>by
        rw [add0,cell_of_row _ _ j _ _ (0,0) (heap_alloc_new wr _)]
        rw [ES.all_eq] at hu
        simpa [sv] using hu)
       have HI1:=Lib.hid (HI.out.ext hx1)
       have g0:=hx1.cell c0
       clear hx1
       go_wp2_with (at_builtin;refine wpList_append_row (E:=ES) _ rfl (.tmp 68) (.tmp 70) 35 rfl (w.heap.size+2) 9 i0 (.string ⟨#[]⟩) 16 Tryz.underlying35 hi iz0 iz1 iz2 rfl (fun x hx n e=>by subst e;simp [Value.cells] at hx) _ ps rfl HR1.out ⟨wr.heap.size,0,none⟩ 1 [pt] rfl (by show 0<1;decide) HNW.out (fun y hy=>⟨trivial,fun b _=>id⟩) HB1.out (by decide) HS1.out ?_;intro v8 w8 hown8 hg8 ho8;obtain ⟨A8,q8,rfl⟩:=hown8.shape;have hP:=HI1.out.app hown8 hg8;obtain ⟨n8,hn8⟩:∃ n,(ps++[pt]).length=n:=⟨_,rfl⟩;rw [hn8] at hP ⊢;obtain ⟨c8,d8⟩:=rwp hP.1;have k8:=hP.1.soft 0;have HP2:=Lib.hid hP.2;clear hP hown8 hg8 ho8)
       go_roundw
       case rel=>exact ⟨k+1,⟨#[]⟩,r,ps++[pt],.slice A8 n8 q8,by omega,by go_num,rfl,HP2,Lib.hid ⟨Nat.zero_le _,by have:=HZ.out.2.1;omega,by rw [List.length_append,List.length_singleton];have:=HZ.out.2.2.1;omega,fun p hp=>by rcases List.mem_append.1 hp with hp | hp;exact Nat.le_succ_of_le (HZ.out.2.2.2 p hp);rw [List.mem_singleton] at hp;subst hp;exact Nat.le_succ_of_le HZ.out.1⟩,.inr ⟨k,rfl,Lib.hid (by rw [HST.out,HA.out.1];rfl)⟩⟩
       case measure=>simp [intOf];omega
      ·have e64:((s[k].toNat:Int)==64)=false:=by rw [beq_eq_false_iff_ne];omega
       by_cases h92:s[k].toNat=92∧k+1<s.size
       ·have e92:((s[k].toNat:Int)==92)=true:=by rw [h92.1];rfl
        have hk1:(k:Int)+1<(s.size:Int):=by have:=h92.2;omega
        have HST:=Lib.hid (show prnR [] [] s.data.toList=prnR (dat ps) (pt++s.extract (k+1) (k+1+1)).data.toList (s.data.toList.drop (k+1+1)) by rw [HA.out.2,HD.out,drop_byte s (k+1) h92.2,prnR_esc h92.1,ba_cat,ext_one s (k+1) h92.2])
        have hz1:(s.extract (k+1) (k+1+1)).size≤1:=by rw [ByteArray.size_extract];omega
        have hsl:=slice_one s (k+1) h92.2
        have H92:=Lib.hid h92.2
        have hc1:((k+1:Nat):Int)=(k:Int)+1:=by omega
        rw [hc1] at hsl
        clear h47 h64 h92 hc1
        generalize s.extract (k+1) (k+1+1)=y at *
        go_wp2_with fail
        go_roundw
        case rel=>exact ⟨k+1+1,pt++y,r,ps,v,by have:=H92.out;omega,by go_num,rfl,HI,Lib.hid ⟨by rw [ByteArray.size_append];have:=HZ.out.1;omega,by have:=HZ.out.2.1;omega,by have:=HZ.out.2.2.1;omega,fun p hp=>by have:=HZ.out.2.2.2 p hp;omega⟩,.inl ⟨rfl,Lib.hid ⟨HA.out.1,HST.out⟩⟩⟩
        case measure=>simp [intOf];omega
       ·have HST:=Lib.hid (show prnR [] [] s.data.toList=prnR (dat ps) (pt++s.extract k (k+1)).data.toList (s.data.toList.drop (k+1)) by
         rw [HA.out.2,HD.out,prnR_one (fun h=>List.drop_eq_nil_of_le (by rw [size_list];have:¬ k+1<s.size:=fun h2=>h92 ⟨h,h2⟩;omega)) h47 h64,ba_cat,ext_one s k hlt])
        have hz1:(s.extract k (k+1)).size≤1:=by rw [ByteArray.size_extract];omega
        have hsl:=slice_one s k hlt
        by_cases hb:s[k].toNat=92
        ·have e92:((s[k].toNat:Int)==92)=true:=by rw [hb];rfl
         have hk1:(s.size:Int)≤(k:Int)+1:=by have:¬ k+1<s.size:=fun h2=>h92 ⟨hb,h2⟩;omega
         clear h47 h64 h92 hb
         generalize s.extract k (k+1)=y at *
         go_wp2_with fail
         go_roundw
         case rel=>exact ⟨k+1,pt++y,r,ps,v,by omega,by go_num,rfl,HI,Lib.hid ⟨by rw [ByteArray.size_append];have:=HZ.out.1;omega,by have:=HZ.out.2.1;omega,by have:=HZ.out.2.2.1;omega,fun p hp=>by have:=HZ.out.2.2.2 p hp;omega⟩,.inl ⟨rfl,Lib.hid ⟨HA.out.1,HST.out⟩⟩⟩
         case measure=>simp [intOf];omega
        ·have e92:((s[k].toNat:Int)==92)=false:=by rw [beq_eq_false_iff_ne];omega
         clear h47 h64 h92 hb
         generalize s.extract k (k+1)=y at *
         go_wp2_with fail
         go_roundw
         case rel=>exact ⟨k+1,pt++y,r,ps,v,by omega,by go_num,rfl,HI,Lib.hid ⟨by rw [ByteArray.size_append];have:=HZ.out.1;omega,by have:=HZ.out.2.1;omega,by have:=HZ.out.2.2.1;omega,fun p hp=>by have:=HZ.out.2.2.2 p hp;omega⟩,.inl ⟨rfl,Lib.hid ⟨HA.out.1,HST.out⟩⟩⟩
         case measure=>simp [intOf];omega
    ·have HST:=Lib.hid (show prnR [] [] s.data.toList=(dat ps,(r++s.extract k (k+1)).data.toList++s.data.toList.drop (k+1)) by rw [HA.out,HD.out,ba_cat,ext_one s k hlt];simp)
     have hz1:(s.extract k (k+1)).size≤1:=by rw [ByteArray.size_extract];omega
     have hsl:=slice_one s k hlt
     have HI2:=Lib.hid (HI.out.setR (r++s.extract k (k+1)))
     generalize s.extract k (k+1)=y at *
     go_upto_region 10 with fail
     go_region
     go_wp2_with fail
     go_roundw
     case rel=>exact ⟨k+1,pt,_,ps,v,by omega,by go_num,rfl,Lib.hid (HI2.out.ext (Ext.drew _)),Lib.hid ⟨by have:=HZ.out.1;omega,by rw [ByteArray.size_append];have:=HZ.out.2.1;omega,by have:=HZ.out.2.2.1;omega,fun p hp=>by have:=HZ.out.2.2.2 p hp;omega⟩,.inr ⟨n,rfl,HST⟩⟩
     case measure=>simp [intOf];omega
   ·obtain rfl:k=s.size:=by omega
    have HF:=Lib.hid (show (dat ps,r.data.toList)=prnW s.data.toList by
     rw [HPW.out]
     rcases hst with ⟨_,HA⟩ | ⟨n,_,HA⟩
     ·rw [HA.out.2,HA.out.1,drop_end s s.size (Nat.lt_irrefl _)]
      simp [prnR]
     ·rw [HA.out,drop_end s s.size (Nat.lt_irrefl _),List.append_nil])
    obtain ⟨A,c,rfl⟩:=HI.out.ro.shape
    have HRS:=Lib.hid HI.out.ro.rs
    have HSB:=Lib.hid (show STB wr A from fun ad hA=>by
     subst hA
     rcases HI.out.ro.2.1.2 with ⟨h0,_⟩ | ⟨g,cap,cur,hv,_,hg,_⟩
     ·cases h0
     ·injection hv with e1 _ _
      injection e1 with e1
      subst e1
      exact ⟨cur,hg⟩)
    have HLT:=Lib.hid (fun (ad:Addr) (hA:A=some ad)=>(HI.out.ro.lt ad.block (by subst hA;rfl)).1)
    have HXE:=Lib.hid HI.out.ex
    clear hst
    go_wp2_with (first | (refine wpList_store_var _ rfl (.tmp 2) (.tmp 78) 37 rfl w.heap.size 37 #[.slice none 0 0,.string ⟨#[]⟩] #[.slice A ps.length c,.string r] rfl rfl (Tryz.sizeOf37 _) HI.out.r0 rfl (fun v hv=>by simp at hv;rcases hv with rfl | rfl<;>rfl) ?_;intro W9 b9 hg9;obtain ⟨d0,d1⟩:=rwp (show RW W9 w.heap.size 37 #[.slice A ps.length c,.string r] from b9)) | fail)
    refine bodyPost_ret (v:=.agg #[.slice A ps.length c,.string r]) (by simp [results,Tryz.results92,go_sem,d0,d1];try rfl) rfl ?_
    have hx9:Ext w W9:=HXE.out.grown hg9 (fun j hj=>by cases hj;exact Nat.le_refl _)
    refine ⟨⟨A,c,ps,r,rfl,?_,HF.out,by rw [size_list];exact HZ.out.2.2.1,by rw [size_list];exact HZ.out.2.1,fun p hp=>(by rw [size_list];exact HZ.out.2.2.2 p hp),?_⟩,hx9⟩
    ·exact HRS.out.far (fun ad hA=>by have:=HLT.out ad hA;omega) hg9
    ·intro ad hA
     obtain ⟨cs,e⟩:=HSB.out ad hA
     exact ⟨cs,(hg9.block ad.block (Array.getElem?_eq_some_iff.1 e).1 (fun e2=>by have:=HLT.out ad hA;injection e2 with e2;omega)).trans e⟩
end Go.Proofs.YtnjmndofcpnmeaaGreatDoor
