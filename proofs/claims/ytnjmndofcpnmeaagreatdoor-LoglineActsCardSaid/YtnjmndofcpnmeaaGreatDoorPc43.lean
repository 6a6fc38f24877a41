/- Pc43. -/
import Derived.Test.YtnjmndofcpnmeaaGreatDoorPc0
import Derived.Test.YtnjmndofcpnmeaaGreatDoorPc42
namespace Go.Proofs.YtnjmndofcpnmeaaGreatDoor
open Go Go.RowKit Go.Maps
set_option linter.unusedVariables false
attribute [local irreducible] wpE
theorem RW.cell0 {w:World}{g:Nat}{t:TypeId}{v:Value}(h:RW w g t #[v]):w.cell? ⟨g,0,none⟩=some v:=by rw [cell_of_row _ _ 0 _ _ (0,0) h];rfl
theorem elem_ivB {w1:World} {base:Nat} {D:DataW Unit} {n:Nat} {P:Nat→Bool} {K:Nat→List UInt8} {s:List UInt8} {v:Value} {y:DataW Unit × List MemPlace} (hD:GD D n P K) (hR:rowElem w1 base 3 .i64 v=some y) (hat:∀ zd,D.atKey (.string s) zd=y.1):
  ∃ A c,v=.slice A (grpK n P K s).length c∧RS w1 (.slice A (grpK n P K s).length c) (iv (grpK n P K s))∧∀ ad,A=some ad→base≤ad.block:=by
 obtain ⟨zs,ho,rfl⟩:=rowElem_inv hR
 have hz:=hD.look s ho (hat .nil)
 have hO:OwI w1 base v (grpK n P K s):=by
  have h1:=ho.1
  rw [hz,zI_len] at h1
  have e:(zI (grpK n P K s)).map (Value.int .i64)=iv (grpK n P K s):=by simp [zI,iv]
  rw [e] at h1
  exact h1
 obtain ⟨A,c,rfl,_⟩:=hO.shape
 exact ⟨A,c,rfl,hO.rs,fun ad hA=>(World.ownsRow.lt hO ad.block (by rw [hA];rfl)).1⟩
def KP (w1 w:World)(b:Nat):Prop:=w1.heap.size≤w.heap.size∧∀ k,k<w1.heap.size→k≠b→w.heap[k]? = w1.heap[k]?
theorem KP.refl (w:World)(b:Nat):KP w w b:=⟨Nat.le_refl _,fun _ _ _=>rfl⟩
theorem KP.ext {w1 w w':World}{b:Nat}(h:KP w1 w b)(hx:Ext w w'):KP w1 w' b:=⟨Nat.le_trans h.1 hx.size,fun k hk hb=>(hx.block k (Nat.lt_of_lt_of_le hk h.1)).trans (h.2 k hk hb)⟩
theorem KP.grown {w1 w w':World}{b:Nat}{r:Option Nat}(h:KP w1 w b)(hg:w.grownBy w' r)(hr:∀ j,r=some j→w1.heap.size≤j∨j=b):KP w1 w' b:=
 ⟨Nat.le_trans h.1 hg.size,fun k hk hb=>(hg.block k (Nat.lt_of_lt_of_le hk h.1) (fun e=>by
  rcases hr k e.symm with h2 | h2
  ·omega
  ·exact hb h2)).trans (h.2 k hk hb)⟩
theorem RS.kp {w1 w:World}{b:Nat}{A:Option Addr}{n c:Nat}{xs:List Value}(h:RS w1 (.slice A n c) xs)(hA:∀ ad,A=some ad→ad.block≠b)(hk:KP w1 w b):RS w (.slice A n c) xs:=by
 obtain ⟨A',c',he,h1,h2,h3⟩:=h
 refine ⟨A',c',he,h1,h2,fun h0=>?_⟩
 obtain ⟨ad,hA',hb,hc⟩:=h3 h0
 injection he with e1 _ _
 have hbl:=hA ad (by rw [e1];exact hA')
 refine ⟨ad,hA',Nat.lt_of_lt_of_le hb hk.1,fun j u hu=>?_⟩
 rw [World.cell?_of_block (w:=w1) (w':=w) (a:=ad.add j) (by rw [block_of_add];exact hk.2 ad.block hb hbl)]
 exact hc j u hu
theorem STB.grown {w w':World}{C:Option Addr}{r:Option Nat}(h:STB w C)(hg:w.grownBy w' r)(hr:∀ ad,C=some ad→some ad.block≠r):STB w' C:=fun ad hC=>by
 obtain ⟨cs,e⟩:=h ad hC
 exact ⟨cs,(hg.block ad.block (Array.getElem?_eq_some_iff.1 e).1 (hr ad hC)).trans e⟩
theorem stb_row {w:World}{B:Nat}{A C:Option Addr}{n c:Nat}{ms:List VV}(h:ROW EV 58 w B (.slice A n c) ms)(hs:STB w C):∀ b,(Value.slice A n c).ownBlock=some b→∀ ad,C=some ad→ad.block≠b:=fun b hb ad hC e=>by
 obtain ⟨cs,hc⟩:=hs ad hC
 rcases h.2.1.2 with ⟨h0,_⟩ | ⟨g,cap,cur,hv,_,hh,_⟩
 ·rw [h0] at hb;cases hb
 ·rw [hv] at hb
  injection hb with hb
  have hb:g=b:=hb
  subst hb
  rw [e,hh] at hc
  injection hc with hc
  injection hc with _ hc _
  exact absurd hc (by decide)
theorem stb_box {w:World}{C:Option Addr}{g:Nat}{v:Value}(hs:STB w C)(hb:RW w g 55 #[v]):∀ ad,C=some ad→ad.block≠g:=fun ad hC e=>by
 obtain ⟨cs,hc⟩:=hs ad hC
 unfold RW at hb
 rw [e,hb] at hc
 injection hc with hc
 injection hc with _ hc _
 exact absurd hc (by decide)
structure ARI (w w1 W:World) (l:List Fct) (v:Value) (ms:List VV) (js:List Nat):Prop where
 bx:RW W w.heap.size 55 #[v]
 ro:ROW EV 58 W w1.heap.size v ms
 st:∀ m∈ms,STB W m.CA
 ai:AIs l ms js
 ex:Ext w W
 kp:KP w1 W w.heap.size
 lt:w.heap.size<w1.heap.size
section
variable {w w1 W W':World} {l:List Fct} {v:Value} {ms:List VV} {js:List Nat}
theorem ARI.ext (h:ARI w w1 W l v ms js)(hx:Ext W W'):ARI w w1 W' l v ms js:=⟨h.bx.ext hx,h.ro.ext hx,fun m hm=>(h.st m hm).ext hx,h.ai,h.ex.trans hx,h.kp.ext hx,h.lt⟩
theorem ARI.off {r:Nat}(h:ARI w w1 W l v ms js)(hg:W.grownBy W' (some r))(hn:NC W r)(hr:w1.heap.size≤r):ARI w w1 W' l v ms js:=by
 have hlt:=h.lt
 refine ⟨(hg.block w.heap.size (Array.getElem?_eq_some_iff.1 h.bx).1 (fun e=>by injection e with e;omega)).trans h.bx,?_,fun m hm=>(h.st m hm).grown hg (fun ad hA e=>stb_nc (h.st m hm) hn ad hA (by injection e)),h.ai,h.ex.grown hg (fun j hj=>by cases hj;omega),h.kp.grown hg (fun j hj=>by cases hj;exact .inl hr),h.lt⟩
 exact h.ro.keep hg (fun b hb=>by
  injection hb with hb
  subst hb
  exact ⟨fun e=>row_ne h.ro hn e.symm,hn.noU8,fun m hm hB=>by
   obtain ⟨_,ad,hA,e⟩:=hB
   exact stb_nc (h.st m hm) hn ad hA e⟩)
theorem ARI.app {W8:World} {v8:Value} {m:VV} {i:Nat} (h:ARI w w1 W l v ms js) (ho:ROW EV 58 W8 w1.heap.size v8 (ms++[m])) (hg:W.grownBy W8 v.ownBlock) (hm:m.Is (actF l i)) (hl:m.cp.length≤1000) (hs:STB W m.CA):
  ARI w w1 (W8.setCell ⟨w.heap.size,0,none⟩ v8) l v8 (ms++[m]) (js++[i]):=by
 have hlt:=h.lt
 have hown:∀ b,v.ownBlock=some b→w1.heap.size≤b:=fun b hb=>(h.ro.lt b hb).1
 have bx8:RW W8 w.heap.size 55 #[v]:=(hg.block w.heap.size (Array.getElem?_eq_some_iff.1 h.bx).1 (fun e=>by have:=hown _ e.symm;omega)).trans h.bx
 obtain ⟨A,c,rfl⟩:=h.ro.shape
 have st8:∀ x∈ms++[m],STB W8 x.CA:=fun x hx=>by
  have k:STB W x.CA:=by
   rcases List.mem_append.1 hx with hx | hx
   ·exact h.st x hx
   ·rw [List.mem_singleton] at hx;subst hx;exact hs
  exact k.grown hg (fun ad hA e=>stb_row h.ro k _ e.symm ad hA rfl)
 have hg9:=grown_set (grown_refl W8 (some w.heap.size)) 0 v8
 refine ⟨bx8.set 0 v8,?_,fun p hp=>(st8 p hp).grown hg9 (fun ad hA e=>stb_box (st8 p hp) bx8 ad hA (by injection e)),h.ai.snoc hm hl,(h.ex.grown hg (fun j hj=>by have:=hown j hj;omega)).setCell (p:=⟨w.heap.size,0,none⟩) (Nat.le_refl _) _,(h.kp.grown hg (fun j hj=>.inl (hown j hj))).grown hg9 (fun j hj=>by cases hj;exact .inr rfl),h.lt⟩
 exact ho.keep hg9 (fun b hb=>by
  injection hb with hb
  subst hb
  exact ⟨fun hv=>by have:=(ho.lt _ hv).1;omega,NoU8.of bx8 (fun x hx n e=>by subst e;simp at hx),fun p hp hB=>by
   obtain ⟨_,ad,hA,e⟩:=hB
   exact stb_box (st8 p hp) bx8 ad hA e⟩)
theorem ARI.bx6 {W8:World}(h:ARI w w1 W l v ms js)(hg:W.grownBy W8 v.ownBlock):RW W8 w.heap.size 55 #[v]:=by
 have hlt:=h.lt
 exact (hg.block w.heap.size (Array.getElem?_eq_some_iff.1 h.bx).1 (fun e=>by have:=(h.ro.lt _ e.symm).1;omega)).trans h.bx
end
def ACS (l:List Fct)(w:World)(e:Ending)(w':World):Prop:=∃ (g:Nat) (A:Option Addr) (c:Nat) (ms:List VV) (js:List Nat),e=.returned (.func (.func 76) #[] #[.pointer (some ⟨g,0,none⟩)])∧RW w' g 55 #[.slice A ms.length c]∧RDS EV w' (.slice A ms.length c) ms∧(∀ m∈ms,m.In w')∧AIs l ms js∧ActL l l.length js∧w.heap.size≤g∧(∀ ad,A=some ad→w.heap.size≤ad.block)∧∀ m∈ms,STB w' m.CA
set_option maxRecDepth 100000 in
set_option maxHeartbeats 2000000 in
theorem Activities_at (A:Option Addr) (c:Nat) (xs:List FV) (w:World) (hF:FS w (.slice A xs.length c) xs) (hn:xs.length≤1000) (hz:∀ f∈xs,f.Sz) (hwf:∀ f∈xs,i64B f.fk) (hp:Pow w):
  Calls Tryz.prog 19 #[.slice A xs.length c] w fun e w'=>ACS (xs.map FV.fct) w e w'∧Ext w w':=by
 have hmf:∀ (fn:Fn) (first cap:Array Value) (w:World),(Instr.makeFunc fn first cap).run Tryz.prog w=.ok (.func fn first cap) w:=fun _ _ _ _=>rfl
 obtain ⟨i0,hi,iz0,iz1,iz2⟩:=act_info
 have hL:(xs.map FV.fct).length=xs.length:=List.length_map ..
 have HLL:=Lib.hid hL
 have zB:RW (w.alloc (.cells #[.slice none 0 0] 55)) w.heap.size 55 #[.slice none 0 0]:=heap_alloc_new w _
 have xB:=(Ext.refl w).alloc (.cells #[.slice none 0 0] 55)
 obtain ⟨WB,eB⟩:∃ W,w.alloc (.cells #[.slice none 0 0] 55)=W:=⟨_,rfl⟩
 have sB:WB.heap.size=w.heap.size+1:=by rw [← eB,World.size_alloc]
 rw [eB] at zB xB
 have HZB:=Lib.hid zB;have HXB:=Lib.hid xB;have HSB:=Lib.hid sB
 have HGR:=Lib.hid (group_at 69 63 wantB (keyF false) A c xs WB (hF.ext xB) hn (enters_of Tryz.func69 (by kernel_rfl) rfl) (enters_of Tryz.func63 (by kernel_rfl) rfl)
  (fun f hf W hM hx=>wanted_at f W hM (hz f hf)) (fun f hf W hM hx=>keyClient_at f W hM (hz f hf) ((hp.ext xB).ext hx)) (fun f hf=>key_len (hz f hf).cp (hz f hf).cps (hz f hf).cr))
 have HAT:=Lib.hid (fun (g:List Nat) (G:Option Addr) (gc:Nat) (x:Who) (i:Nat) (W:World) (hx:Ext w W) (hg:g=grpA (xs.map FV.fct) x) (hi0:g[0]? = some i) (hG:RS W (.slice G g.length gc) (iv g))=>Activity_at A c xs G gc g x i W (hF.ext hx) hn hz hwf (hp.ext hx) hg hi0 hG)
 obtain ⟨_,c',he,hc1,hc2⟩:=hF.shape
 injection he with e1 _ e3
 subst e1;subst e3
 obtain ⟨n,hn'⟩:∃ n,xs.length=n:=⟨_,rfl⟩
 have HN:=Lib.hid hn'
 clear hL hF hz hwf hp zB xB sB
 rw [hn'] at hc1 hn ⊢ HGR HLL HAT
 clear hn'
 go_enter Tryz.func19,Tryz.ntmps19
 go_wp2_with fail
 refine HGR.out.mono ?_
 rintro _ w1 ⟨D,rfl,hgm,hgd,hx1⟩
 have HX1:=Lib.hid (HXB.out.trans hx1);have HGD:=Lib.hid hgd
 have HB1:=Lib.hid (HZB.out.ext hx1)
 have hown:=hgm.owns
 have hbl:=hown.lt
 have HLT:=Lib.hid (show w.heap.size<w1.heap.size by have:=HSB.out;omega)
 clear hx1 hgm hgd
 go_wp2_with (first
  | (at_range;refine wpList_range_own _ rfl _ 124 rfl 9 126 lawStr Tryz.underlying124 _ WB.heap.size n D rfl hown ?_;intro w0 hrg0 hg0 hs0)
  | fail)
 go_frame
 have hx0:Ext w1 w0:=Below.grown (Below.refl _ _) hg0 (Nat.le_refl _) (fun j hj=>by cases hj)
 have HI0:=Lib.hid (show ARI w w1 w0 (xs.map FV.fct) (.slice none 0 0) [] [] from ⟨HB1.out.ext hx0,ROW.nil _ _ _,fun m hm=>(by cases hm),AIs.nil _,HX1.out.trans hx0,(KP.refl _ _).ext hx0,HLT.out⟩)
 generalize hR:rowElem (H:=Unit) w1 (WB.heap.size+1) 3 .i64=R at *
 have HR:=Lib.hid hR
 clear hR hown hg0 hx0
 go_loopw [6] (fun _ wr=>∃ (left:Lit→Bool) (cnt:Nat) (js:List Nat) (ms:List VV) (FA:Option Addr) (fc:Nat),wr.ranges Tryz.prog 9 R WB.heap.size w1.heap.size n D left cnt∧Hid (ARI w w1 wr (xs.map FV.fct) (.slice FA ms.length fc) ms js)∧Hid (COL D left n (fun j=>wantB (atF (xs.map FV.fct) j)) (fun j=>keyF false (atF (xs.map FV.fct) j)) (fun g=>g.head?) js)∧Hid (LFT D left)) (fun _ wr=>wr.rangeLeft WB.heap.size w1.heap.size)
 case atStart=>exact ⟨_,_,[],[],none,0,hrg0,HI0,Lib.hid COL.start,Lib.hid (LFT.start D)⟩
 case round=>
  obtain ⟨left,cnt,js,ms,FA,fc,hrg,HI,HCO,HLF⟩:=hrel
  have HJL:=Lib.hid (show ms.length≤n from by rw [HI.out.ai.1];exact HCO.out.len (fun g i=>head_mem))
  go_wp2_with (first
   | (at_next;refine wpList_next_ranges (α:=ByteArray) (β:=Option Addr × Nat × Nat) _ rfl _ rfl 9 lawStr R Value.string mkS key_shape (by rw [← HR.out];exact elem_shape) WB.heap.size w1.heap.size n _ _ _ rfl hrg ?_ ?_)
   | fail)
  ·intro hc0 hl0
   have HSO:=Lib.hid (sortActs_at ms (by have:=HJL.out;omega) HI.out.ai.2.2 w1.heap.size _ wr HI.out.ro)
   have HIN:=Lib.hid (show ∀ i,i∈js ↔ i∈fstK (xs.map FV.fct).length (fun i=>wantB (atF (xs.map FV.fct) i)) (fun i=>who false (atF (xs.map FV.fct) i)) from fun i=>by
    rw [HCO.out.fin (fun g i=>head_mem) HGD.out hl0 i,← act_ex,HLL.out])
   have hb0:=HI.out.bx.cell0
   clear hrg
   go_wp2_with fail
   refine HSO.out.mono ?_
   rintro _ w3 ⟨rfl,ys,hyp,hys,hrd,hmi,hg3⟩
   obtain ⟨zs,hai,hal⟩:=acts_of HI.out.ai hyp (hys.imp fun h=>Int.not_lt.2 h) HCO.out.1 HIN.out
   have hbx3:RW w3 w.heap.size 55 #[.slice FA ms.length fc]:=(hg3.block w.heap.size (Array.getElem?_eq_some_iff.1 HI.out.bx).1 (fun e=>by have h1:=(HI.out.ro.lt _ e.symm).1;have h2:=HLT.out;omega)).trans HI.out.bx
   have HX3:=Lib.hid (show Ext w w3 from HI.out.ex.grown hg3 (fun j hj=>by have h1:=(HI.out.ro.lt _ hj).1;have h2:=HLT.out;omega))
   have HL2:=Lib.hid (show (ys.map (atV ms)).length=ms.length by rw [List.length_map,hyp.length_eq,List.length_range])
   rw [← HL2.out] at hbx3 hrd
   have HRES:=Lib.hid (show ACS (xs.map FV.fct) w (.returned (.func (.func 76) #[] #[.pointer (some ⟨w.heap.size,0,none⟩)])) w3 from ⟨w.heap.size,FA,fc,ys.map (atV ms),zs,rfl,hbx3,hrd,fun m hm=>by
    obtain ⟨y,hy,rfl⟩:=List.mem_map.1 hm
    have hlt:=List.mem_range.1 (hyp.mem_iff.1 hy)
    rw [atV_get hlt]
    exact hmi _ (List.getElem_mem hlt),hai,hal,Nat.le_refl _,fun ad hA=>by
    have h1:=(HI.out.ro.lt ad.block (by rw [hA];rfl)).1
    have h2:=HLT.out
    omega,fun m hm=>by
    obtain ⟨y,hy,rfl⟩:=List.mem_map.1 hm
    have hlt:=List.mem_range.1 (hyp.mem_iff.1 hy)
    rw [atV_get hlt]
    exact (HI.out.st _ (List.getElem_mem hlt)).grown hg3 (fun ad hA e=>stb_row HI.out.ro (HI.out.st _ (List.getElem_mem hlt)) _ e.symm ad hA rfl)⟩)
   clear hrd hyp hys hmi hg3 hbx3 hai hal hb0
   go_wp2_with fail
   go_ret
   exact ⟨HRES.out,HX3.out⟩
  ·intro x GA0 gn gc0 kl yd yp w2 cnt2 hkey hlk hRv hat hrg2 hlt2 hg2 hs2 hen
   obtain rfl:=key_lit x kl hkey
   rw [← HR.out] at hRv
   obtain ⟨GA,gc,hv,hrs,hgb⟩:=elem_ivB HGD.out hRv hat
   have hne:grpK n (fun j=>wantB (atF (xs.map FV.fct) j)) (fun j=>keyF false (atF (xs.map FV.fct) j)) x.data.toList≠[]:=(HGD.out.has _).1 (HLF.out _ hlk)
   obtain ⟨q,hq⟩:=grpK_whoA (l:=(xs.map FV.fct)) (s:=x.data.toList) (by rw [HLL.out];exact hne)
   rw [HLL.out] at hq
   have HARI:=Lib.hid (HI.out.off hg2 (ranges_nc hrg).1 (Nat.le_refl _))
   have hhit:=fun i=>HCO.out.hit (i:=i) (fun g i=>head_mem) (HLF.out _ hlk) hlk
   have hlf2:=HLF.out.step (.string x.data.toList)
   generalize hg:grpK n (fun j=>wantB (atF (xs.map FV.fct) j)) (fun j=>keyF false (atF (xs.map FV.fct) j)) x.data.toList=g at *
   obtain ⟨i,hgi⟩:∃ i,g.head? = some i:=by
    cases g with
    | nil=>exact absurd rfl hne
    | cons i t=>exact ⟨i,rfl⟩
   have HCO3:=Lib.hid (hhit i hgi)
   have hgi0:g[0]? = some i:=by rw [← List.head?_eq_getElem?];exact hgi
   have hrs2:=RS.kp hrs (fun ad hA=>by have h1:=hgb ad hA;have h2:=HSB.out;omega) HARI.out.kp
   have HAC:=Lib.hid (fun W (hW:Ext w2 W)=>HAT.out g GA gc q i W (HARI.out.ex.trans hW) hq hgi0 (hrs2.ext hW))
   have HLF2:=Lib.hid hlf2
   rw [hv] at hen ⊢
   clear hhit hlf2 hv hrs hrs2 hne hq hRv hat hlk hg hkey hg2 hgb hgi hgi0
   go_upto_region 6 with fail
   refine wp_region_ext_tail 5 (fun k v' w'=>match k with | 3=>∃ m:VV,v'=m.val∧m.In w'∧m.Is (actF (xs.map FV.fct) i)∧m.cp.length≤1000∧STB w' m.CA | 4=>∃ (b:Nat) (m:VV),v'=.slice (some ⟨b,0,none⟩) 1 1∧V8 w' b m∧m.In w'∧m.Is (actF (xs.map FV.fct) i)∧m.cp.length≤1000∧STB w' m.CA | _=>False) (by kernel_rfl) (by kernel_rfl) ?_
   refine wpE_op rfl rfl (fun w' hw' K' hK'=>?_)
   have hE:=hw'.1
   have u0:=(HARI.out.bx.ext ((Ext.drew w2).trans hE)).cell0
   go_step
   refine hK' _ ⟨_,rfl⟩ ?_
   clear hK' K' u0 hE hw' w'
   refine wpE_op rfl rfl (fun w' hw' K' hK'=>?_)
   have hE:=hw'.1
   go_step
   refine hK' _ ⟨_,rfl⟩ ?_
   clear hK' K' hE hw' w'
   refine wpE_op rfl rfl (fun w' hw' K' hK'=>?_)
   have hE:=hw'.1
   go_step
   refine hK' _ ⟨_,rfl⟩ ?_
   clear hK' K' hE hw' w'
   refine wpE_call 18 rfl (by simp) rfl (fun w' hw' K' hK'=>?_) ?_
   ·have hE:=hw'.1
    go_step
    refine (HAC.out w' ((Ext.drew _).trans hE)).mono ?_
    rintro _ w2 ⟨⟨m,rfl,hmi,hms,hml,hst⟩,hx⟩
    exact hK' _ _ ⟨_,rfl,⟨m,rfl,hmi,hms,hml,hst⟩⟩ hx
   rintro _ w18x hE18 ⟨m,rfl,hmi,hms,hml,hst⟩
   simp only [Act.put,sT1,sT2,sT3]
   unfold VV.val
   refine wpE_call 19 rfl (by simp) rfl (fun w' hw' K' hK'=>?_) ?_
   ·have hE:=hw'.1
    have hM18:Ext w18x w':=hw'.2 18 w18x (by simp [adds]) (by decide)
    have hx8:=(Ext.refl w').alloc (.cells #[.slice m.CA m.cp.length m.cc,.string m.cr,.int .i64 m.rq,.int .i64 m.su,.int .i64 m.pl,.int .i64 m.ad,.int .i64 m.f,.int .i64 m.l] 58)
    go_step
    exact hK' _ _ ⟨_,rfl,w'.heap.size,m,rfl,heap_alloc_new w' _,(hmi.ext hM18).ext hx8,hms,hml,(hst.ext hM18).ext hx8⟩ hx8
   clear hmi hms hml hst
   rintro _ w19x hE19 ⟨b,m,rfl,hb8,hmi,hms,hml,hst⟩
   simp only [Act.put,sT1,sT2,sT3]
   refine wpE_nil (fun W hW=>?_)
   have hxW:Ext w2 W:=(Ext.drew w2).trans hW.1
   have hM19:Ext w19x W:=hW.2 19 w19x (by simp [adds])
   have HIW:=Lib.hid (HARI.out.ext hxW)
   have HB8:=Lib.hid (hb8.ext hM19);have HMI:=Lib.hid (hmi.ext hM19);have HST:=Lib.hid (hst.ext hM19);have HMS:=Lib.hid (And.intro hms hml)
   have HYS:=Lib.hid (show ∀ y∈[m],EV.In W y∧∀ b,(Value.slice FA ms.length fc).ownBlock=some b→¬ EV.Blk y b from fun y hy=>by
    rw [List.mem_singleton] at hy
    subst hy
    refine ⟨HMI.out,fun b hb hB=>?_⟩
    obtain ⟨_,ad,hA,e⟩:=hB
    exact stb_row HIW.out.ro HST.out b hb ad hA e)
   have HBY:=Lib.hid (show (ms.length + [m].length)*88≤140737488355328 by have:=HJL.out;simp only [List.length_singleton];omega)
   have HBS:=Lib.hid (show w1.heap.size≤W.heap.size from HIW.out.kp.1)
   have hrgW:=hrg2.kept (hxW.but none) (by simp) (by simp)
   clear hW hM19 hb8 hmi hms hml hst
   simp only [List.drop_succ_cons,List.drop_zero]
   go_wp2_with (at_builtin;refine wpList_append_row (E:=EV) W rfl (.tmp 15) (.tmp 19) 55 rfl w1.heap.size 58 i0 actZ 88 Tryz.underlying55 hi iz0 iz1 iz2 act_zs act_zn _ ms rfl HIW.out.ro ⟨b,0,none⟩ 1 [m] rfl (by show 0<1;decide) HB8.out.news HYS.out HBY.out (by decide) HBS.out ?_;intro v6 w6 hown6 hg6 ho6;have HI6:=Lib.hid (HIW.out.app hown6 hg6 HMS.out.1 HMS.out.2 HST.out);have hc6:=(HIW.out.bx6 hg6).cell0;have hz6:w6.frozen? ⟨w.heap.size,0,none⟩=false:=RW.soft (HIW.out.bx6 hg6) 0;have hrg6:=hrgW.kept hg6 (row_ne HIW.out.ro (ranges_nc hrgW).2) (row_ne HIW.out.ro (ranges_nc hrgW).1);have hrg9:=hrg6.kept (grown_set (grown_refl w6 (some w.heap.size)) 0 v6) (fun e=>by injection e with e;have:=HSB.out;omega) (fun e=>by injection e with e;have:=HLT.out;omega);obtain ⟨A6,c6',rfl⟩:=hown6.shape;clear hown6 hg6 ho6 hrgW hrg6)
   go_roundw
   case rel=>
    rw [show ms.length+1=(ms++[m]).length by rw [List.length_append];rfl]
    exact ⟨_,cnt2,js++[i],ms++[m],A6,c6',hrg9,HI6,HCO3,HLF2⟩
   case measure=>rw [show ms.length+1=(ms++[m]).length by rw [List.length_append];rfl,hrg9.left_eq,hrg.left_eq];exact hlt2
end Go.Proofs.YtnjmndofcpnmeaaGreatDoor
