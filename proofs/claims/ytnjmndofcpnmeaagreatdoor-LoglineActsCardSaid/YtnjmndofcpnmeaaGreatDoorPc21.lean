/- Pc21. -/
import Derived.Test.YtnjmndofcpnmeaaGreatDoorPc20
import Derived.Test.YtnjmndofcpnmeaaGreatDoorPc3
import Derived.Maps.OwnSet
import Derived.Test.YtnjmndofcpnmeaaGreatDoorPc19
import Derived.Test.YtnjmndofcpnmeaaGreatDoorPc9
import Derived.Test.YtnjmndofcpnmeaaGreatDoorPc1
import Derived.Test.YtnjmndofcpnmeaaGreatDoorPc0
import Derived.Deep.QuietTactic
import Derived.BigQuiet
import Derived.KernelRfl
import Derived.Test.YtnjmndofcpnmeaaGreatDoorPc15
import Derived.Test.YtnjmndofcpnmeaaGreatDoorPc13
import Derived.Lib.SlBytesConst
namespace Go.Proofs.YtnjmndofcpnmeaaGreatDoor
open Go Go.RowKit Go.Maps
set_option linter.unusedVariables false
def cntK (js:List Nat)(K:Nat→List UInt8)(s:List UInt8):Nat:=(js.filter fun j=>decide (K j=s)).length
theorem cntK_snoc (js:List Nat)(j:Nat)(K:Nat→List UInt8)(s:List UInt8):cntK (js++[j]) K s=cntK js K s+if K j=s then 1 else 0:=by
 unfold cntK
 rw [List.filter_append,List.length_append,List.filter_cons]
 by_cases h:K j=s<;>simp [h]
theorem cntK_cons (js:List Nat)(j:Nat)(K:Nat→List UInt8)(s:List UInt8):cntK (j::js) K s=cntK js K s+if K j=s then 1 else 0:=by
 unfold cntK
 rw [List.filter_cons]
 by_cases h:K j=s<;>simp [h]
theorem cntK_pos {js:List Nat}{K:Nat→List UInt8}{s:List UInt8}:0<cntK js K s ↔ ∃ j∈js,K j=s:=by
 unfold cntK
 rw [List.length_pos_iff_exists_mem]
 exact ⟨fun ⟨j,h⟩=>⟨j,(List.mem_filter.1 h).1,of_decide_eq_true (List.mem_filter.1 h).2⟩,fun ⟨j,h,e⟩=>⟨j,List.mem_filter.2 ⟨h,decide_eq_true e⟩⟩⟩
theorem cntK_le (js:List Nat)(K:Nat→List UInt8)(s:List UInt8):cntK js K s≤js.length:=List.length_filter_le _ _
structure TD (D:DataW Unit) (js:List Nat) (K:Nat→List UInt8):Prop where
 map:IsMap D
 strs:∀ kl,Maps.has D kl=true→∃ s,kl=.string s
 has:∀ s,Maps.has D (.string s)=true ↔ 0<cntK js K s
 at_:∀ s,D.atKey (.string s) (.lit (.int .i64 0))=.lit (.int .i64 (cntK js K s:Int))
theorem litS_ne {s t:List UInt8}(h:s≠t):(Lit.string s)≠.string t:=fun e=>h (by injection e)
theorem TD.start (K:Nat→List UInt8):TD (.map []) [] K:=⟨isMap_empty,fun kl h=>(by simp [Maps.has] at h),fun s=>by simp [Maps.has,cntK],fun s=>by simp [cntK,DataW.atKey]⟩
theorem TD.put {D:DataW Unit}{js js':List Nat}{K:Nat→List UInt8}{s:List UInt8}{c:Nat}(h:TD D js K)(hc:0<c)(h1:cntK js' K s=c)(h2:∀ t,t≠s→cntK js' K t=cntK js K t):TD (D.put (.string s) (.lit (.int .i64 (c:Int)))) js' K:=by
 refine ⟨h.map.put _ _,fun kl hk=>?_,fun t=>?_,fun t=>?_⟩
 ·by_cases e:kl=.string s
  ·exact ⟨s,e⟩
  ·rw [has_put_other e] at hk
   exact h.strs kl hk
 ·by_cases e:t=s
  ·subst e
   rw [has_put_same h.map (by trivial),h1]
   simp [hc]
  ·rw [has_put_other (litS_ne e),h2 t e]
   exact h.has t
 ·by_cases e:t=s
  ·subst e
   rw [atKey_put_same h.map (by trivial),h1]
  ·rw [atKey_put_other (litS_ne e),h2 t e]
   exact h.at_ t
theorem TD.add {D:DataW Unit}{js:List Nat}{K:Nat→List UInt8}(h:TD D js K)(j:Nat):TD (D.put (.string (K j)) (.lit (.int .i64 ((cntK js K (K j)+1:Nat):Int)))) (js++[j]) K:=
 h.put (by omega) (by rw [cntK_snoc,if_pos rfl]) (fun t ht=>by rw [cntK_snoc,if_neg (fun e=>ht e.symm)];omega)
theorem TD.sub {D:DataW Unit}{js:List Nat}{K:Nat→List UInt8}{j:Nat}(h:TD D (j::js) K)(hc:0<cntK js K (K j)):TD (D.put (.string (K j)) (.lit (.int .i64 (cntK js K (K j):Int)))) js K:=
 h.put hc rfl (fun t ht=>by rw [cntK_cons,if_neg (fun e=>ht e.symm)];omega)
theorem TD.drop {D:DataW Unit}{js:List Nat}{K:Nat→List UInt8}{j:Nat}(h:TD D (j::js) K)(hc:cntK js K (K j)=0)(d:DataW Unit):TD ((D.put (.string (K j)) d).del (.string (K j))) js K:=by
 have e2:∀ t,t≠K j→cntK (j::js) K t=cntK js K t:=fun t ht=>by rw [cntK_cons,if_neg (fun e=>ht e.symm)];omega
 refine ⟨(h.map.put _ _).del _,fun kl hk=>?_,fun t=>?_,fun t=>?_⟩
 ·by_cases e:kl=.string (K j)
  ·exact ⟨_,e⟩
  ·rw [has_del_other e,has_put_other e] at hk
   exact h.strs kl hk
 ·by_cases e:t=K j
  ·subst e
   rw [has_del_same,hc]
   simp
  ·rw [has_del_other (litS_ne e),has_put_other (litS_ne e),← e2 t e]
   exact h.has t
 ·by_cases e:t=K j
  ·subst e
   rw [atKey_del_same,hc]
   rfl
  ·rw [atKey_del_other (litS_ne e),atKey_put_other (litS_ne e),← e2 t e]
   exact h.at_ t
theorem TD.size {D:DataW Unit}{js:List Nat}{K:Nat→List UInt8}(h:TD D js K)(he:∃ es,D=.map es∧es.Pairwise (fun p q=>p.1≠q.1)∧∀ p∈es,WideAt.IsKeyLit p.1){ks:List (List UInt8)}(hn:ks.Nodup)(hk:∀ s,s∈ks ↔ ∃ j∈js,K j=s):Maps.size D=ks.length:=by
 classical
 obtain ⟨es,rfl,h1,h2⟩:=he
 have a1:(es.map Prod.fst).Nodup:=List.pairwise_map.2 h1
 have a2:(ks.map Lit.string).Nodup:=List.pairwise_map.2 (hn.imp fun hab=>litS_ne hab)
 have:=mem_eq_len a1 a2 fun kl=>by
  constructor
  ·intro hm
   obtain ⟨p,hp,rfl⟩:=List.mem_map.1 hm
   have hh:Maps.has (.map es) p.1=true:=List.any_eq_true.2 ⟨p,hp,WideAt.sameKey_self (h2 p hp)⟩
   obtain ⟨s,hs⟩:=h.strs _ hh
   rw [hs] at hh ⊢
   exact List.mem_map.2 ⟨s,(hk s).2 (cntK_pos.1 ((h.has s).1 hh)),rfl⟩
  ·intro hm
   obtain ⟨s,hs,rfl⟩:=List.mem_map.1 hm
   obtain ⟨p,hp,e⟩:=List.any_eq_true.1 ((h.has s).2 (cntK_pos.2 ((hk s).1 hs)))
   exact List.mem_map.2 ⟨p,hp,WideAt.sameKey_eq e⟩
 rw [List.length_map,List.length_map] at this
 exact this
theorem fold_addK {α:Type} [DecidableEq α] (K:Nat→α):∀ (js:List Nat) (ks:List α),ks.Nodup→(js.foldl (fun ks j=>addK ks (K j)) ks).Nodup∧∀ x,x∈js.foldl (fun ks j=>addK ks (K j)) ks ↔ x∈ks∨∃ j∈js,K j=x
 | [],ks,h=>⟨h,fun x=>by simp⟩
 | j::js,ks,h=>by
  obtain ⟨h1,h2⟩:=fold_addK K js (addK ks (K j)) (addK_nodup h)
  refine ⟨h1,fun x=>?_⟩
  rw [List.foldl_cons,h2,addK_mem]
  constructor
  ·rintro ((h | h) | ⟨i,hi,e⟩)
   ·exact .inl h
   ·exact .inr ⟨j,by simp,h.symm⟩
   ·exact .inr ⟨i,List.mem_cons_of_mem _ hi,e⟩
  ·rintro (h | ⟨i,hi,e⟩)
   ·exact .inl (.inl h)
   ·rcases List.mem_cons.1 hi with rfl | hi
    ·exact .inl (.inr e.symm)
    ·exact .inr ⟨i,hi,e⟩
def difK (js:List Nat)(K:Nat→List UInt8):Nat:=(js.foldl (fun ks j=>addK ks (K j)) []).length
theorem difK_any {js:List Nat}{K:Nat→List UInt8}{ks:List (List UInt8)}(hn:ks.Nodup)(hk:∀ s,s∈ks ↔ ∃ j∈js,K j=s):difK js K=ks.length:=by
 obtain ⟨h1,h2⟩:=fold_addK K js [] List.nodup_nil
 exact mem_eq_len h1 hn fun x=>by rw [h2,hk];simp
theorem difK_le (js:List Nat)(K:Nat→List UInt8):difK js K≤js.length:=by
 obtain ⟨h1,h2⟩:=fold_addK K js [] List.nodup_nil
 have:=nodup_le h1 (b:=js.map K) fun x hx=>by
  rcases (h2 x).1 hx with h | ⟨j,hj,rfl⟩
  ·simp at h
  ·exact List.mem_map.2 ⟨j,hj,rfl⟩
 simpa [difK] using this
theorem cnt_dif {l:List Fct}{w:Int}{i:Nat}{js:List Nat}(hj:js=winF l w true i):cntF l w true i=difK js (fun j=>keyF false (atF l j)):=by
 obtain ⟨h1,h2⟩:=fold_addK (fun j=>who false (atF l j)) js [] List.nodup_nil
 rw [cnt_any h1 (fun x=>by rw [h2,hj];simp)]
 obtain ⟨g1,g2⟩:=fold_addK (fun j=>keyF false (atF l j)) js [] List.nodup_nil
 let kw:Who→List UInt8:=fun x=>match x with | .client p r=>keyN p r | .from k b=>keyA k b
 have hkw:∀ j,kw (who false (atF l j))=keyF false (atF l j):=fun j=>rfl
 have hn:((js.foldl (fun ks j=>addK ks (who false (atF l j))) []).map kw).Nodup:=by
  refine List.pairwise_map.2 (h1.imp_of_mem fun {a b} ha hb hab e=>?_)
  rcases (h2 a).1 ha with h | ⟨ja,_,ea⟩
  ·simp at h
  rcases (h2 b).1 hb with h | ⟨jb,_,eb⟩
  ·simp at h
  rw [← ea,← eb,hkw,hkw] at e
  exact hab (ea ▸ eb ▸ keyF_inj.1 e)
 rw [difK_any hn (fun s=>by
  rw [List.mem_map]
  constructor
  ·rintro ⟨x,hx,rfl⟩
   rcases (h2 x).1 hx with h | ⟨j,hj,rfl⟩
   ·simp at h
   ·exact ⟨j,hj,(hkw j).symm⟩
  ·rintro ⟨j,hj,rfl⟩
   exact ⟨_,(h2 _).2 (.inr ⟨j,hj,rfl⟩),hkw j⟩),List.length_map]
def TBox (w:World)(b:Nat)(n:Int)(m:Nat):Prop:=w.heap[b]? = some (.cells #[.int .i64 n,.map (some m)] 174 (0,0))
theorem TBox.cells {w:World}{b m:Nat}{n:Int}(h:TBox w b n m):w.cell? ⟨b,0,none⟩=some (.int .i64 n)∧w.cell? ⟨b,1,none⟩=some (.map (some m))∧w.frozen? ⟨b,0,none⟩=false:=by
 unfold TBox at h
 refine ⟨?_,?_,frozen_of_row w b _ _ _ h⟩<;>(rw [cell_of_row _ _ _ _ _ (0,0) h];rfl)
theorem TBox.ext {w w':World}{b m:Nat}{n:Int}(h:TBox w b n m)(hx:Ext w w'):TBox w' b n m:=hx.heap h
theorem TBox.set {w:World}{b m:Nat}{n:Int}(h:TBox w b n m)(x:Int):TBox (w.setCell ⟨b,0,none⟩ (.int .i64 x)) b x m:=(show RW w b 174 #[.int .i64 n,.map (some m)] from h).set 0 (.int .i64 x)
def TMap (w:World)(m:Nat)(D:DataW Unit):Prop:=w.ownsMap Tryz.prog 9 (plainElem Tryz.prog 3) m (Maps.size D) D
theorem TMap.ext {w w':World}{m:Nat}{D:DataW Unit}(h:TMap w m D)(hx:Ext w w'):TMap w' m D:=World.ownsMap.kept h (hx.but none) (by simp)
theorem TMap.of {w:World}{m n:Nat}{D:DataW Unit}(h:w.ownsMap Tryz.prog 9 (plainElem Tryz.prog 3) m n D):TMap w m D:=by
 obtain ⟨es,clock,hb,F,_,rfl⟩:=h
 exact ⟨es,clock,hb,F,by simp [Maps.size,length_sorted],rfl⟩
structure TAL (w:World) (B b m:Nat) (D:DataW Unit) (js:List Nat) (K:Nat→List UInt8):Prop where
 box:TBox w b js.length m
 map:TMap w m D
 td:TD D js K
 bm:B≤m
 bb:B≤b
 ne:m≠b
theorem TAL.ext {w w':World}{B b m:Nat}{D:DataW Unit}{js:List Nat}{K:Nat→List UInt8}(h:TAL w B b m D js K)(hx:Ext w w'):TAL w' B b m D js K:=⟨h.box.ext hx,h.map.ext hx,h.td,h.bm,h.bb,h.ne⟩
theorem TAL.size {w:World}{B b m:Nat}{D:DataW Unit}{js:List Nat}{K:Nat→List UInt8}(h:TAL w B b m D js K):Maps.size D=difK js K:=by
 obtain ⟨h1,h2⟩:=fold_addK K js [] List.nodup_nil
 exact h.td.size (World.ownsMap.entries h.map lawStr) h1 fun x=>by rw [h2];simp
theorem TAL.le {w:World}{B b m:Nat}{D:DataW Unit}{js:List Nat}{K:Nat→List UInt8}(h:TAL w B b m D js K):Maps.size D≤js.length:=by
 rw [h.size]
 exact difK_le js K
theorem key_len {cp:List ByteArray}{cr:ByteArray}(h1:cp.length≤1000)(h2:∀ p∈cp,p.size≤1000)(h3:cr.size≤1000):(keyN (dat cp) cr.data.toList).length≤2000000:=by
 have h4:=keyP_len (dat cp) (fun l hl=>by
  unfold dat at hl
  obtain ⟨p,hp,rfl⟩:=List.mem_map.1 hl
  rw [size_list]
  exact h2 p hp)
 have h5:=itoa_len20 (cp.length:Int) (by omega) (by omega)
 rw [dat_length] at h4
 unfold keyN
 rw [dat_length,List.length_append,List.length_append,List.length_cons]
 have h6:cr.data.toList.length≤1000:=by rw [size_list];exact h3
 omega
theorem zeroInt (w:World):(zeroValue 3).run Tryz.prog w=.ok (.int .i64 0) w:=by kernel_rfl
set_option maxRecDepth 100000 in
theorem failures_at (w:World) (B b m:Nat) (D:DataW Unit) (js:List Nat) (K:Nat→List UInt8) (h:TAL w B b m D js K):
  Calls Tryz.prog 64 #[.pointer (some ⟨b,0,none⟩)] w fun e w'=>e=.returned (.int .i64 (js.length:Int))∧Ext w w':=by
 obtain ⟨c0,c1,_⟩:=h.box.cells
 clear h
 go_enter Tryz.func64,Tryz.ntmps64
 go_wp2_with fail
 go_ret
 exact ⟨rfl,Ext.refl w⟩
theorem TBox.lt {w:World}{b m:Nat}{n:Int}(h:TBox w b n m):b<w.heap.size:=(Array.getElem?_eq_some_iff.1 h).1
theorem heap_set_ne {W:World}{a:Addr}{x:Value}{i:Nat}{ob:Obj}(h:W.heap[i]? = some ob)(hne:i≠a.block):(W.setCell a x).heap[i]? = some ob:=by rw [RowKit.Below.heap_setCell _ _ _ _ hne];exact h
set_option maxRecDepth 100000 in
set_option maxHeartbeats 1000000 in
theorem add_at (f:FV) (w0 w:World) (hx:Ext w0 w) (hM:f.In w0) (hz:f.Sz) (hp:Pow w0) (b m:Nat) (D:DataW Unit) (js:List Nat) (K:Nat→List UInt8) (j:Nat) (h:TAL w w0.heap.size b m D js K) (hn:js.length≤1000) (hj:K j=keyN f.fct.cp f.fct.cr):
  Calls Tryz.prog 166 #[.pointer (some ⟨b,0,none⟩),f.val] w fun e w'=>e=.returned (.tuple #[])∧(∃ D',TAL w' w0.heap.size b m D' (js++[j]) K)∧Ext w0 w':=by
 obtain ⟨t,mi,kd,fk,FA,fb,fc,CA,cp,cc,cr,SA,sp,sc,sr,co,pr,fl⟩:=f
 have hb0:=FBx.new w ⟨t,mi,kd,fk,FA,fb,fc,CA,cp,cc,cr,SA,sp,sc,sr,co,pr,fl⟩
 have hx0:=(Ext.refl w).alloc (.cells #[.int .i64 t,.int .i64 mi,.int .i64 kd,.int .i64 fk,.slice FA fb.length fc,.slice CA cp.length cc,.string cr,.slice SA sp.length sc,.string sr,.int .i64 co,.int .i64 pr,.int .u32 (fl.toNat:Int)] 41)
 dsimp only [FV.val,FV.fct] at hb0 ⊢
 obtain ⟨W1,e1⟩:∃ W,w.alloc (.cells #[.int .i64 t,.int .i64 mi,.int .i64 kd,.int .i64 fk,.slice FA fb.length fc,.slice CA cp.length cc,.string cr,.slice SA sp.length sc,.string sr,.int .i64 co,.int .i64 pr,.int .u32 (fl.toNat:Int)] 41)=W:=⟨_,rfl⟩
 rw [e1] at hb0 hx0
 have HB:=Lib.hid hb0;have HX:=Lib.hid hx0
 have hl:(js.length:Int)≤1000:=by omega
 have hbl:=h.box.lt
 have hbox:=h.box.ext hx0
 obtain ⟨c0,c1,f0⟩:=hbox.cells
 obtain ⟨W2,e2⟩:∃ W,W1.setCell ⟨b,0,none⟩ (.int .i64 ((js.length:Int)+1))=W:=⟨_,rfl⟩
 have ht:=hbox.set ((js.length:Int)+1)
 have hb2:FBx (W1.setCell ⟨b,0,none⟩ (.int .i64 ((js.length:Int)+1))) w.heap.size ⟨t,mi,kd,fk,FA,fb,fc,CA,cp,cc,cr,SA,sp,sc,sr,co,pr,fl⟩:=heap_set_ne hb0 (show w.heap.size≠b by omega)
 have hm2:=World.ownsMap.setCell (h.map.ext hx0) (a:=⟨b,0,none⟩) h.ne (.int .i64 ((js.length:Int)+1))
 have hx2:=(hx.trans hx0).setCell (p:=⟨b,0,none⟩) h.bb (.int .i64 ((js.length:Int)+1))
 rw [e2] at ht hb2 hm2 hx2
 have HT:=Lib.hid ht;have HB2:=Lib.hid hb2;have HM2:=Lib.hid hm2;have HX2:=Lib.hid hx2
 have HK:=Lib.hid (fun W (hw:Ext W2 W)=>keyClient_at ⟨t,mi,kd,fk,FA,fb,fc,CA,cp,cc,cr,SA,sp,sc,sr,co,pr,fl⟩ W (hM.ext (hx2.trans hw)) hz (hp.ext (hx2.trans hw)))
 have HTD:=Lib.hid (h.td.add j)
 have HAT:=Lib.hid (h.td.at_ (K j))
 have HCL:=Lib.hid (cntK_le js K (K j))
 have HSL:=Lib.hid h.le
 have HBM:=Lib.hid h.bm;have HBB:=Lib.hid h.bb;have HNE:=Lib.hid h.ne
 dsimp only [FV.val,FV.fct] at HK hj
 have HKL:=Lib.hid (show (K j).length≤2000000 by rw [hj];exact key_len hz.cp hz.cps hz.cr)
 rw [← hj] at HK
 generalize K j=KY at *
 generalize cntK js K KY=cn at *
 obtain ⟨n,hn'⟩:∃ n,js.length=n:=⟨_,rfl⟩
 rw [hn'] at c0 hl hn e2 HT
 have HN:=Lib.hid hn'
 clear hn' h hb0 hx0 hM hz hp hx hbox ht hb2 hm2 hx2 hbl hj
 go_enter Tryz.func166,Tryz.ntmps166
 go_upto_region 2 with fail
 refine wp_region_ext_tail 6 (fun i v' w'=>match i with | 5=>v'=.string ⟨(KY).toArray⟩ | _=>False) (by kernel_rfl) (by kernel_rfl) ?_
 refine wpE_val (.pointer (some ⟨b,0,none⟩)) rfl rfl (fun w' hw' K' hK'=>?_) ?_
 ·go_step
  exact hK'
 simp only [Act.put,sT1,sT2,sT3]
 refine wpE_nil' rfl _ rfl ⟨b,0,none⟩ rfl ?_
 simp only [Act.put,sT1,sT2,sT3]
 refine wpE_val (.pointer (some ⟨b,1,none⟩)) rfl rfl (fun w' hw' K' hK'=>?_) ?_
 ·go_step
  exact hK'
 simp only [Act.put,sT1,sT2,sT3]
 refine wpE_val (.map (some m)) rfl rfl (fun w' hw' K' hK'=>?_) ?_
 ·have hE:=hw'.1
  obtain ⟨d0,d1,_⟩:=(HT.out.ext ((Ext.drew W2).trans hE)).cells
  go_step
  exact hK'
 simp only [Act.put,sT1,sT2,sT3]
 refine wpE_val (.agg #[.int .i64 t,.int .i64 mi,.int .i64 kd,.int .i64 fk,.slice FA fb.length fc,.slice CA cp.length cc,.string cr,.slice SA sp.length sc,.string sr,.int .i64 co,.int .i64 pr,.int .u32 (fl.toNat:Int)]) rfl rfl (fun w' hw' K' hK'=>?_) ?_
 ·have hE:=hw'.1
  obtain ⟨u0,u1,u2,u3,u4,u5,u6,u7,u8,u9,u10,u11⟩:=(HB2.out.ext ((Ext.drew W2).trans hE)).cells
  go_step
  exact hK'
 simp only [Act.put,sT1,sT2,sT3]
 refine wpE_symcall 16 rfl (by simp) true (.string ⟨(KY).toArray⟩) (rfl) (fun _ _ h=>h) (fun hc w' hw' K' hK'=>?_) ?_
 ·have hE:=hw'.1
  try simp only [cond_true]
  go_step
  refine (HK.out w' ((Ext.drew _).trans hE)).mono ?_
  rintro _ w2 ⟨rfl,hx⟩
  exact hK' _ _ rfl hx
 simp only [cond_true,Act.put,sT1,sT2,sT3]
 refine wpE_nil (fun W hW=>?_)
 have hx:=(Ext.drew W2).trans hW.1
 have hown:=TMap.ext HM2.out hx
 have HTW:=Lib.hid (HT.out.ext hx)
 have HXW:=Lib.hid (HX2.out.trans hx)
 have hkey:=keyLit KY (by have:=HKL.out;unfold maxLen;omega)
 have hsl:Maps.size D<maxLen:=by have:=HSL.out;have:=HN.out;unfold maxLen;omega
 have hcn:(cn:Int)≤1000:=by have:=HCL.out;have:=HN.out;omega
 unfold TMap at hown
 clear hW hx
 dsimp only [List.drop]
 go_wp2_with (first
  | (at_lookup;refine wpList_lookup_own_int _ rfl _ _ 172 rfl 9 3 .i64 lawStr Tryz.underlying172 Tryz.underlying3 (zeroInt _) m _ D rfl hown _ _ rfl hkey ?_;intro cv hat hwc;obtain rfl:cv=(cn:Int):=(by rw [HAT.out] at hat;injection hat with hat;injection hat with _ hat;exact hat.symm))
  | (at_mapUpdate;refine wpList_mapUpdate_own _ rfl _ _ _ 172 rfl 9 3 lawStr Tryz.underlying172 _ m _ D rfl hown hsl _ _ _ rfl rfl hkey _ [] (plainElem_int Tryz.underlying3 (WalkArith.wf_i64 (by omega))) ?_;intro w1 hown1 hgrow1)
  | fail)
 go_end0
 have HBX:=hgrow1.block b (TBox.lt HTW.out) (fun e=>HNE.out (by injection e with e;exact e.symm))
 refine ⟨rfl,⟨_,⟨?_,TMap.of hown1,?_,HBM.out,HBB.out,HNE.out⟩⟩,RowKit.Below.grown HXW.out hgrow1 HXW.out.size (fun j hj=>by cases hj;exact HBM.out)⟩
 ·rw [List.length_append,HN.out]
  exact HBX.trans HTW.out
 ·exact HTD.out
theorem TBox.kept {W W':World}{b m:Nat}{n:Int}(h:TBox W b n m)(hg:W.grownBy W' (some m))(hne:m≠b):TBox W' b n m:=(hg.block b (TBox.lt h) (fun e=>hne (by injection e with e;exact e.symm))).trans h
theorem rem_end {w0 W W':World} {b m n:Nat} {D':DataW Unit} {js:List Nat} {K:Nat→List UInt8} (hT:TBox W b js.length m) (hX:Ext w0 W) (hg:W.grownBy W' (some m)) (hm:W'.ownsMap Tryz.prog 9 (plainElem Tryz.prog 3) m n D') (ht:TD D' js K) (h1:w0.heap.size≤m) (h2:w0.heap.size≤b) (h3:m≠b):
  (∃ D',TAL W' w0.heap.size b m D' js K)∧Ext w0 W':=
 ⟨⟨D',⟨(hg.block b (TBox.lt hT) (fun e=>h3 (by injection e with e;exact e.symm))).trans hT,TMap.of hm,ht,h1,h2,h3⟩⟩,RowKit.Below.grown hX hg hX.size (fun j hj=>by cases hj;exact h1)⟩
set_option maxRecDepth 100000 in
set_option maxHeartbeats 1000000 in
theorem remove_at (f:FV) (w0 w:World) (hx:Ext w0 w) (hM:f.In w0) (hz:f.Sz) (hp:Pow w0) (b m:Nat) (D:DataW Unit) (js:List Nat) (K:Nat→List UInt8) (j:Nat) (h:TAL w w0.heap.size b m D (j::js) K) (hn:js.length≤1000) (hj:K j=keyN f.fct.cp f.fct.cr):
  Calls Tryz.prog 167 #[.pointer (some ⟨b,0,none⟩),f.val] w fun e w'=>e=.returned (.tuple #[])∧(∃ D',TAL w' w0.heap.size b m D' js K)∧Ext w0 w':=by
 obtain ⟨t,mi,kd,fk,FA,fb,fc,CA,cp,cc,cr,SA,sp,sc,sr,co,pr,fl⟩:=f
 have hb0:=FBx.new w ⟨t,mi,kd,fk,FA,fb,fc,CA,cp,cc,cr,SA,sp,sc,sr,co,pr,fl⟩
 have hx0:=(Ext.refl w).alloc (.cells #[.int .i64 t,.int .i64 mi,.int .i64 kd,.int .i64 fk,.slice FA fb.length fc,.slice CA cp.length cc,.string cr,.slice SA sp.length sc,.string sr,.int .i64 co,.int .i64 pr,.int .u32 (fl.toNat:Int)] 41)
 dsimp only [FV.val,FV.fct] at hb0 ⊢
 obtain ⟨W1,e1⟩:∃ W,w.alloc (.cells #[.int .i64 t,.int .i64 mi,.int .i64 kd,.int .i64 fk,.slice FA fb.length fc,.slice CA cp.length cc,.string cr,.slice SA sp.length sc,.string sr,.int .i64 co,.int .i64 pr,.int .u32 (fl.toNat:Int)] 41)=W:=⟨_,rfl⟩
 rw [e1] at hb0 hx0
 have HB:=Lib.hid hb0;have HX:=Lib.hid hx0
 have hl:(js.length:Int)≤1000:=by omega
 obtain ⟨u0,u1,u2,u3,u4,u5,u6,u7,u8,u9,u10,u11⟩:=HB.out.cells
 have HK:=Lib.hid (keyClient_at ⟨t,mi,kd,fk,FA,fb,fc,CA,cp,cc,cr,SA,sp,sc,sr,co,pr,fl⟩ W1 (hM.ext (hx.trans hx0)) hz (hp.ext (hx.trans hx0)))
 have HTD:=Lib.hid h.td
 have HAT:=Lib.hid (h.td.at_ (K j))
 have HCC:=Lib.hid (cntK_cons js j K (K j))
 have HCL:=Lib.hid (cntK_le js K (K j))
 have HSL:=Lib.hid (show Maps.size D≤1001 by have:=h.le;rw [List.length_cons] at this;omega)
 have HBM:=Lib.hid h.bm;have HBB:=Lib.hid h.bb;have HNE:=Lib.hid h.ne
 have HTB:=Lib.hid (show TBox w b ((js.length:Int)+1) m by have:=h.box;rw [List.length_cons] at this;exact this)
 have HMW:=Lib.hid h.map
 have HXW:=Lib.hid (hx.trans hx0)
 have HX0:=Lib.hid hx0
 dsimp only [FV.val,FV.fct] at HK hj
 have HKL:=Lib.hid (show (K j).length≤2000000 by rw [hj];exact key_len hz.cp hz.cps hz.cr)
 have HSUB:=Lib.hid (fun hc=>h.td.sub (j:=j) hc)
 have HDRP:=Lib.hid (fun hc d=>h.td.drop (j:=j) hc d)
 rw [← hj] at HK
 generalize hky:K j=KY at *
 rw [if_pos rfl] at HCC
 obtain ⟨n,hn'⟩:∃ n,js.length=n:=⟨_,rfl⟩
 have HN:=Lib.hid hn'
 clear h hb0 hx0 hM hz hp hx hj
 rw [hn'] at hl hn HTB
 clear hn'
 go_enter Tryz.func167,Tryz.ntmps167
 go_wp2_with fail
 refine HK.out.mono ?_
 rintro _ w2 ⟨rfl,hx2⟩
 have hx02:=HX0.out.trans hx2
 have HX2:=Lib.hid (HXW.out.trans hx2)
 have hbox:=HTB.out.ext hx02
 obtain ⟨c0,c1,f0⟩:=hbox.cells
 obtain ⟨W2,e2⟩:∃ W,w2.setCell ⟨b,0,none⟩ (.int .i64 (n:Int))=W:=⟨_,rfl⟩
 have ht:=hbox.set (n:Int)
 have hm2:=World.ownsMap.setCell (HMW.out.ext hx02) (a:=⟨b,0,none⟩) HNE.out (.int .i64 (n:Int))
 have hx3:=HX2.out.setCell (p:=⟨b,0,none⟩) HBB.out (.int .i64 (n:Int))
 rw [e2] at ht hm2 hx3
 have HT:=Lib.hid ht;have HX3:=Lib.hid hx3
 obtain ⟨d0,d1,_⟩:=ht.cells
 have hkey:=keyLit KY (by have:=HKL.out;unfold maxLen;omega)
 have hsl:Maps.size D<maxLen:=by have:=HSL.out;unfold maxLen;omega
 have e3:(n:Int)+1-1=n:=by omega
 obtain ⟨cn,hcn⟩:∃ cn,cntK js K KY=cn:=⟨_,rfl⟩
 have HCN:=Lib.hid hcn
 have hcl:(cn:Int)≤1000:=by have h1:=HCL.out;have h2:=HN.out;rw [hcn] at h1;omega
 have hat0:D.atKey (.string KY) (.lit (.int .i64 0))=.lit (.int .i64 ((cn:Int)+1)):=by rw [HAT.out,HCC.out,hcn];rfl
 have HAT0:=Lib.hid hat0
 have tok1:True:=trivial
 have HMP:=Lib.hid HTD.out.map
 clear hx2 hbox ht hx02 hx3 hcn hat0 u0 u1 u2 u3 u4 u5 u6 u7 u8 u9 u10 u11
 have hown:=hm2
 unfold TMap at hown
 go_upto_region 4 with (first
  | (at_lookup;refine wpList_lookup_own_int _ rfl _ _ 172 rfl 9 3 .i64 lawStr Tryz.underlying172 Tryz.underlying3 (zeroInt _) m _ D rfl hown _ _ rfl hkey ?_;intro cv hat hwc;obtain rfl:cv=(cn:Int)+1:=(by rw [HAT0.out] at hat;injection hat with hat;injection hat with _ hat;exact hat.symm))
  | (at_mapUpdate;refine wpList_mapUpdate_own _ rfl _ _ _ 172 rfl 9 3 lawStr Tryz.underlying172 _ m _ D rfl hown hsl _ _ _ rfl rfl hkey _ [] (plainElem_int Tryz.underlying3 (WalkArith.wf_i64 (by omega))) ?_;intro w3 hown1 hgrow1)
  | fail)
 have HT3:=Lib.hid (TBox.kept HT.out hgrow1 HNE.out)
 have HX3':=Lib.hid (show Ext w0 w3 from RowKit.Below.grown HX3.out hgrow1 HX3.out.size (fun j hj=>by cases hj;exact HBM.out))
 have HAT1:=Lib.hid (show (D.put (Lit.string KY) (DataW.lit (Lit.int IntKind.i64 (cn:Int)))).atKey (.string KY) (.lit (.int .i64 0))=.lit (.int .i64 (cn:Int)) from atKey_put_same HMP.out (by trivial) _ _)
 have HG:=Lib.hid hgrow1
 clear d0 d1 c0 c1 f0 hown hgrow1 hm2 hsl hat hwc
 obtain ⟨d0,d1,_⟩:=HT3.out.cells
 rcases Nat.eq_zero_or_pos cn with h0 | h0
 ·have HD:=Lib.hid (HDRP.out (HCN.out.trans h0) (DataW.lit (Lit.int IntKind.i64 (cn:Int))))
  have hq:((cn:Int)==0)=true:=by rw [h0];rfl
  clear h0
  go_wp2_with (first
   | (at_lookup;refine wpList_lookup_own_int _ rfl _ _ 172 rfl 9 3 .i64 lawStr Tryz.underlying172 Tryz.underlying3 (zeroInt _) m _ _ rfl hown1 _ _ rfl hkey ?_;intro cv hat hwc;obtain rfl:cv=(cn:Int):=(by rw [HAT1.out] at hat;injection hat with hat;injection hat with _ hat;exact hat.symm))
   | (at_delete;refine wpList_delete_own _ rfl _ _ 172 9 rfl 3 lawStr Tryz.underlying172 _ m _ _ rfl hown1 _ _ rfl hkey ?_;intro w4 hown4 hturn4)
   | fail)
  go_end0
  exact ⟨rfl,rem_end (by rw [HN.out];exact HT3.out) HX3'.out hturn4.grown hown4 HD.out HBM.out HBB.out HNE.out⟩
 ·have HD:=Lib.hid (HSUB.out (by rw [HCN.out];exact h0))
  rw [HCN.out] at HD
  have hq:((cn:Int)==0)=false:=by rw [beq_eq_false_iff_ne];omega
  clear h0
  go_wp2_with (first
   | (at_lookup;refine wpList_lookup_own_int _ rfl _ _ 172 rfl 9 3 .i64 lawStr Tryz.underlying172 Tryz.underlying3 (zeroInt _) m _ _ rfl hown1 _ _ rfl hkey ?_;intro cv hat hwc;obtain rfl:cv=(cn:Int):=(by rw [HAT1.out] at hat;injection hat with hat;injection hat with _ hat;exact hat.symm))
   | fail)
  go_end0
  exact ⟨rfl,⟨⟨_,⟨by rw [HN.out];exact HT3.out,TMap.of hown1,HD.out,HBM.out,HBB.out,HNE.out⟩⟩,HX3'.out⟩⟩
end Go.Proofs.YtnjmndofcpnmeaaGreatDoor
namespace Go.Proofs.YtnjmndofcpnmeaaGreatDoor
open Go Go.Lib
set_option linter.unusedVariables false
def backB (a b:Fct):Bool:=decide (b.t<a.t)||(decide (b.t=a.t)&&decide (b.mi<a.mi))
def ordTo (l:List Fct)(k:Nat):Prop:=∀ i,i<k→(atF l i).ok=true∧(0<i→backB (atF l (i-1)) (atF l i)=false)
theorem ordTo_zero (l:List Fct):ordTo l 0:=fun i hi=>absurd hi (Nat.not_lt_zero i)
theorem ordTo_succ {l:List Fct}{k:Nat}(h:ordTo l k)(h1:(atF l k).ok=true)(h2:0<k→backB (atF l (k-1)) (atF l k)=false):ordTo l (k+1):=fun i hi=>by
 rcases Nat.lt_succ_iff_lt_or_eq.1 hi with h' | rfl
 ·exact h i h'
 ·exact ⟨h1,h2⟩
theorem atF_get {l:List Fct}{i:Nat}(h:i<l.length):atF l i=l[i]:=by unfold atF;rw [List.getElem?_eq_getElem h];rfl
theorem ordTo_ok {l:List Fct}(h:ordTo l l.length):∀ f∈l,f.Ok:=fun f hf=>by
 obtain ⟨i,hi,rfl⟩:=List.getElem_of_mem hf
 rw [← atF_get hi]
 exact (Fct.ok_iff _).1 (h i hi).1
theorem ordTo_T {l:List Fct}(h:ordTo l l.length):ordT l:=by
 intro i j hij hj
 induction j with
 | zero=>
  obtain rfl:i=0:=by omega
  exact Int.le_refl _
 | succ j ih=>
  rcases Nat.lt_or_eq_of_le hij with h' | rfl
  ·have h1:=ih (by omega) (by omega)
   have h2:=(h (j+1) hj).2 (by omega)
   rw [Nat.add_sub_cancel] at h2
   unfold backB at h2
   rw [Bool.or_eq_false_iff,decide_eq_false_iff_not] at h2
   omega
  ·exact Int.le_refl _
def argB (l:List Fct)(w lim:Int):Prop:=0≤w∧w≤1099511627776∧1≤lim∧ordTo l l.length
def begF (l:List Fct)(w:Int)(ad:Bool)(i:Nat):Int:=(atF l ((winF l w ad i).head?.getD i)).t
def LOW (l:List Fct)(g:List Nat)(win:Int)(low p:Nat):Prop:=∀ q j p' i,q<low→g[q]? = some j→p≤p'→g[p']? = some i→(atF l j).t<(atF l i).t-win
theorem LOW.zero (l:List Fct)(g:List Nat)(win:Int)(p:Nat):LOW l g win 0 p:=fun q j p' i hq=>absurd hq (Nat.not_lt_zero q)
theorem LOW.mono {l:List Fct}{g:List Nat}{win:Int}{low p p':Nat}(h:LOW l g win low p)(hp:p≤p'):LOW l g win low p':=fun q j r i hq hj hr hi=>h q j r i hq hj (Nat.le_trans hp hr) hi
theorem LOW.step {l:List Fct}(ho:ordT l){ad:Bool}{x:Who}{win:Int}{low p j i:Nat}(h:LOW l (grpF l ad x) win low p)(hj:(grpF l ad x)[low]? = some j)(hi:(grpF l ad x)[p]? = some i)(hlt:(atF l j).t<(atF l i).t-win):LOW l (grpF l ad x) win (low+1) p:=by
 intro q j' p' i' hq hj' hp' hi'
 rcases Nat.lt_succ_iff_lt_or_eq.1 hq with h1 | rfl
 ·exact h q j' p' i' h1 hj' hp' hi'
 ·obtain rfl:j'=j:=by rw [hj] at hj';injection hj' with e;exact e.symm
  have hl':=(List.getElem?_eq_some_iff.1 hi').1
  have hl:=(List.getElem?_eq_some_iff.1 hi).1
  have hle:i≤i':=by
   rcases Nat.lt_or_eq_of_le hp' with h2 | rfl
   ·have:=List.pairwise_iff_getElem.1 (grp_sorted (l:=l) (ad:=ad) (x:=x)) p p' hl hl' h2
    rw [List.getElem?_eq_getElem hl] at hi
    rw [List.getElem?_eq_getElem hl'] at hi'
    injection hi with hi;injection hi' with hi'
    omega
   ·rw [hi] at hi';injection hi' with e;omega
  have:=ho i i' hle (grp_mem.1 (List.mem_of_getElem? hi')).1
  omega
theorem winIs {l:List Fct} (ho:ordT l) {win:Int} {ad:Bool} {x:Who} {p low i j:Nat} (h:LOW l (grpF l ad x) win low p) (hi:(grpF l ad x)[p]? = some i) (hlow:low≤p) (hj:(grpF l ad x)[low]? = some j) (hge:¬ (atF l j).t<(atF l i).t-win):
  winF l win ad i=((grpF l ad x).take (p+1)).drop low:=
 win_slice ho hi (by omega) (fun q j' hq hj'=>h q j' p i hq hj' (Nat.le_refl _) hi) (fun j' hj' _=>by
  rw [hj] at hj'
  injection hj' with e
  subst e
  omega)
def NOH (l:List Fct)(g:List Nat)(win lim:Int)(ad:Bool)(p:Nat):Prop:=∀ q i,q<p→g[q]? = some i→hitF l win lim ad i=false
theorem NOH.zero (l:List Fct)(g:List Nat)(win lim:Int)(ad:Bool):NOH l g win lim ad 0:=fun q i hq=>absurd hq (Nat.not_lt_zero q)
theorem NOH.step {l:List Fct}{g:List Nat}{win lim:Int}{ad:Bool}{p i:Nat}(h:NOH l g win lim ad p)(hi:g[p]? = some i)(hh:hitF l win lim ad i=false):NOH l g win lim ad (p+1):=by
 intro q i' hq hi'
 rcases Nat.lt_succ_iff_lt_or_eq.1 hq with h1 | rfl
 ·exact h q i' h1 hi'
 ·rw [hi] at hi';injection hi' with e;rw [← e];exact hh
theorem NOH.found {l:List Fct}{g:List Nat}{win lim:Int}{ad:Bool}{p i:Nat}(h:NOH l g win lim ad p)(hi:g[p]? = some i)(hh:hitF l win lim ad i=true):g.find? (hitF l win lim ad)=some i:=by
 have hl:=(List.getElem?_eq_some_iff.1 hi).1
 rw [List.find?_eq_some_iff_getElem]
 refine ⟨hh,p,hl,(List.getElem?_eq_some_iff.1 hi).2,fun q hq=>?_⟩
 rw [h q _ hq (List.getElem?_eq_getElem (by omega))]
 rfl
theorem NOH.none {l:List Fct}{g:List Nat}{win lim:Int}{ad:Bool}(h:NOH l g win lim ad g.length):g.find? (hitF l win lim ad)=none:=by
 rw [List.find?_eq_none]
 intro i hi
 obtain ⟨q,hq,rfl⟩:=List.getElem_of_mem hi
 rw [h q _ hq (List.getElem?_eq_getElem hq)]
 simp
theorem hit_iff {l:List Fct}{win lim:Int}{ad:Bool}{x:Who}{i:Nat}(hi:i∈grpF l ad x):hitF l win lim ad i=decide (lim≤(cntF l win ad i:Int)):=by
 unfold hitF
 rw [(grp_mem.1 hi).2.1,Bool.true_and]
theorem take_snoc {g:List Nat}{p i:Nat}(h:g[p]? = some i):g.take (p+1)=g.take p++[i]:=by rw [List.take_add_one,h];rfl
theorem drop_cons {g:List Nat}{low j:Nat}(h:g[low]? = some j):g.drop low=j::g.drop (low+1):=by
 obtain ⟨hl,rfl⟩:=List.getElem?_eq_some_iff.1 h
 exact List.drop_eq_getElem_cons hl
theorem win_snoc {g:List Nat}{p low i:Nat}(h:g[p]? = some i)(hl:low≤p):(g.take (p+1)).drop low=(g.take p).drop low++[i]:=by
 have hp:=(List.getElem?_eq_some_iff.1 h).1
 rw [take_snoc h,List.drop_append_of_le_length (by rw [List.length_take];omega)]
theorem win_cons {g:List Nat}{p low j:Nat}(h:g[low]? = some j)(hl:low≤p):(g.take (p+1)).drop low=j::(g.take (p+1)).drop (low+1):=
 drop_cons (by rw [List.getElem?_take_of_lt (by omega)];exact h)
theorem beg_of {l:List Fct}{win:Int}{ad:Bool}{i p low j:Nat}{g:List Nat}(hw:winF l win ad i=(g.take (p+1)).drop low)(h:g[low]? = some j)(hl:low≤p):begF l win ad i=(atF l j).t:=by
 unfold begF
 rw [hw,win_cons h hl]
 rfl
end Go.Proofs.YtnjmndofcpnmeaaGreatDoor
namespace Go.Proofs.YtnjmndofcpnmeaaGreatDoor
open Go Go.RowKit
set_option linter.unusedVariables false
def nb (l:List UInt8)(i:Nat):Bool:=(l.getD (i / 8) 0).toNat.testBit (7-i % 8)
end Go.Proofs.YtnjmndofcpnmeaaGreatDoor
namespace Go.Proofs.YtnjmndofcpnmeaaGreatDoor
open Go.Lib
theorem d0:decDigits 0=[48]:=by rw [dec_lo _ (by decide)];rfl
theorem d1:decDigits 1=[49]:=by rw [dec_lo _ (by decide)];rfl
theorem d10:decDigits 10=[49,48]:=by rw [dec_hi _ (by decide),show 10 / 10=1 from rfl,d1];rfl
theorem x0:hexD 0=[48]:=by rw [hexD_lo (by decide)];rfl
theorem x1:hexD 1=[49]:=by rw [hexD_lo (by decide)];rfl
def one:List UInt8:=[0,0,0,0,0,0,0,0,0,0,0,0,0,0,0,1]
theorem t1:txtA 2 [10,0,0,1]=[49,48,46,48,46,48,46,49]:=by
 show txt4 _=_
 rw [txt4_eq]
 show decDigits 10++46::(decDigits 0++46::(decDigits 0++46::decDigits 1))=_
 rw [d10,d0,d1];rfl
theorem t10:txtA 2 [10,0,1,0]=[49,48,46,48,46,49,46,48]:=by
 show txt4 _=_
 rw [txt4_eq]
 show decDigits 10++46::(decDigits 0++46::(decDigits 1++46::decDigits 0))=_
 rw [d10,d0,d1];rfl
theorem ta:txtA 20 [97]=[104,111,115,116,47,97]:=rfl
theorem p1:prsA [49,48,46,48,46,48,46,49]=some (2,[10,0,0,1]):=by rw [← t1];exact prsA_txt (by decide)
theorem p10:prsA [49,48,46,48,46,49,46,48]=some (2,[10,0,1,0]):=by rw [← t10];exact prsA_txt (by decide)
theorem pa:prsA [104,111,115,116,47,97]=some (20,[97]):=by rw [← ta];exact prsA_txt (by decide)
end Go.Proofs.YtnjmndofcpnmeaaGreatDoor
namespace Go.Proofs.YtnjmndofcpnmeaaGreatDoor
open Go Go.RowKit
set_option linter.unusedVariables false
theorem RAEqual_at (k k':Int) (a b:List UInt8) (A B:Option Addr) (c d:Nat) (w:World) (ha:BS w (.slice A a.length c) a) (hb:BS w (.slice B b.length d) b):
  Calls Tryz.prog 37 #[adv k A a.length c,adv k' B b.length d] w fun e w'=>e=.returned (.bool (k==k'&&a==b))∧Ext w w':=by
 have h0:=AB.new w k A a.length c
 have x0:=(Ext.refl w).alloc (.cells #[.int .i64 k,.slice A a.length c] 34)
 obtain ⟨W1,e1⟩:∃ W,w.alloc (.cells #[.int .i64 k,.slice A a.length c] 34)=W:=⟨_,rfl⟩
 rw [e1] at h0 x0
 have h1:=AB.new W1 k' B b.length d
 have x1:=(Ext.refl W1).alloc (.cells #[.int .i64 k',.slice B b.length d] 34)
 obtain ⟨W2,e2⟩:∃ W,W1.alloc (.cells #[.int .i64 k',.slice B b.length d] 34)=W:=⟨_,rfl⟩
 rw [e2] at h1 x1
 obtain ⟨c0,c1⟩:=(h0.ext x1).cells
 obtain ⟨d0,d1⟩:=h1.cells
 have hcv:=run_str (P:=Tryz.prog) W2 32 9 5 (.slice A a.length c) a Tryz.underlying32 Tryz.underlying5 Tryz.underlying9 (ha.ext (x0.trans x1))
 have hcw:=run_str (P:=Tryz.prog) W2 32 9 5 (.slice B b.length d) b Tryz.underlying32 Tryz.underlying5 Tryz.underlying9 (hb.ext (x0.trans x1))
 have HX:=Lib.hid (x0.trans x1)
 clear h0 h1 x0 x1 ha hb
 unfold adv
 by_cases hk:k=k'
 ·have hq:(k==k')=true:=by rw [hk];exact beq_self_eq_true _
  rw [hq,Bool.true_and]
  clear hk
  go_enter Tryz.func37,Tryz.ntmps37
  go_wp2_with fail
  go_ret
  refine ⟨?_,HX.out⟩
  simp
 ·have hq:(k==k')=false:=by rw [beq_eq_false_iff_ne];exact hk
  rw [hq,Bool.false_and]
  clear hk hcv hcw
  go_enter Tryz.func37,Tryz.ntmps37
  go_wp2_with fail
  go_ret
  exact ⟨rfl,HX.out⟩
end Go.Proofs.YtnjmndofcpnmeaaGreatDoor
