/- Pq27. -/
import Derived.Test.YtnjmndofcpnmeaaGreatDoorPq0
import Derived.Test.YtnjmndofcpnmeaaGreatDoorPq26
import Derived.Test.YtnjmndofcpnmeaaGreatDoorPq24
import Derived.Maps.GroupsBeside
import Derived.WalkSpells
import Derived.Test.YtnjmndofcpnmeaaGreatDoorPq13
import Derived.Test.YtnjmndofcpnmeaaGreatDoorPq11
import Derived.Test.YtnjmndofcpnmeaaGreatDoorPq19
namespace Go.Proofs.YtnjmndofcpnmeaaGreatDoor
open Go Go.RowKit Go.Maps
open Go.ChangeShapes (lits)
set_option linter.unusedVariables false
theorem lawStr:Keyed Tryz.prog 9:=string_keyed Tryz.underlying9
theorem infoInt:(Tryz.prog.info? 3).map (fun i=>(i.zero,i.size,i.bytes))=some (some (.int .i64 0),1,8):=by kernel_rfl
theorem zeroInts (w:World):(zeroValue 126).run Tryz.prog w=.ok (.slice none 0 0) w:=by kernel_rfl
def GM (w:World)(b n:Nat)(D:DataW Unit):Prop:=w.ownsGroups Tryz.prog 9 (b+1) 3 .i64 b n D
theorem GM.ext {w w':World}{b n:Nat}{D:DataW Unit}(h:GM w b n D)(hx:Ext w w'):GM w' b n D:=by
 unfold GM at h ⊢
 exact h.kept (hx.but none) (by simp) (fun es clock _ x _=>by cases x.val.ownBlock<;>simp)
theorem keyLit (s:List UInt8)(hs:s.length≤maxLen):keyOf Tryz.prog 9 (.string ⟨s.toArray⟩)=some (.string s):=by
 have:=WideMaps.keyOf_string_mk Tryz.underlying9 (s:=⟨s.toArray⟩) (by simpa [ByteArray.size] using hs)
 simpa using this
theorem below_ext {w0 w w':World}(h:Ext w0 w)(k:Below w0.heap.size w w'):Ext w0 w':=Below.trans h k
theorem atF_xs {xs:List FV}{k:Nat}(h:k<xs.length):atF (xs.map FV.fct) k=xs[k].fct:=by
 unfold atF
 rw [List.getElem?_map,List.getElem?_eq_getElem h]
 rfl
set_option maxRecDepth 100000 in
set_option maxHeartbeats 4000000 in
theorem group_at (fW fK:Nat) (pB:Fct→Bool) (kS:Fct→List UInt8) (A:Option Addr) (c:Nat) (xs:List FV) (w:World) (hF:FS w (.slice A xs.length c) xs) (hn:xs.length≤1000)
  (hEW:∀ (args:Array Value) (W:World),(callFunc fW args).run Tryz.prog W=.ok (.enter fW args) W) (hEK:∀ (args:Array Value) (W:World),(callFunc fK args).run Tryz.prog W=.ok (.enter fK args) W)
  (hW:∀ f∈xs,∀ W,f.In W→Ext w W→Calls Tryz.prog fW #[f.val] W fun e w'=>e=.returned (.bool (pB f.fct))∧Ext W w')
  (hK:∀ f∈xs,∀ W,f.In W→Ext w W→Calls Tryz.prog fK #[f.val] W fun e w'=>e=.returned (.string ⟨(kS f.fct).toArray⟩)∧Ext W w')
  (hkl:∀ f∈xs,(kS f.fct).length≤2000000):
  Calls Tryz.prog 71 #[.slice A xs.length c,.func (.func fW) #[] #[],.func (.func fK) #[] #[]] w fun e w'=>
   ∃ D:DataW Unit,e=.returned (.map (some w.heap.size))∧GM w' w.heap.size xs.length D∧GD D xs.length (fun j=>pB (atF (xs.map FV.fct) j)) (fun j=>kS (atF (xs.map FV.fct) j))∧Ext w w':=by
 have hmm:=@run_makeMap Tryz.prog
 obtain ⟨i0,hi,hz0,hz1,hz2⟩:=info_parts infoInt
 have HF:=Lib.hid hF;have HEW:=Lib.hid hEW;have HEK:=Lib.hid hEK;have HWC:=Lib.hid hW;have HKC:=Lib.hid hK;have HKL:=Lib.hid hkl
 obtain ⟨_,c',he,hc1,hc2⟩:=hF.shape
 injection he with e1 _ e3
 subst e1;subst e3
 unfold maxLen at hc2
 obtain ⟨n,hn'⟩:∃ n,xs.length=n:=⟨_,rfl⟩
 have HN:=Lib.hid hn'
 have HM0:=Lib.hid (show GM (w.alloc (.map #[] 0)) w.heap.size 0 (.map []) from World.ownsGroups_made _ _ _ _ _)
 have HX0:=Lib.hid ((Ext.refl w).alloc (.map #[] 0))
 clear hF hEW hEK hW hK hkl
 rw [hn'] at hc1 hn ⊢
 clear hn'
 go_enter Tryz.func71,Tryz.ntmps71
 go_wp2_with fail
 go_loopw [8,9,10,14] (fun _ _ _ i wr=>∃ (k:Nat) (D:DataW Unit),i=.int .i64 (k:Int)∧k≤n∧Hid (GM wr w.heap.size k D)∧Hid (GD D k (fun j=>pB (atF (xs.map FV.fct) j)) (fun j=>kS (atF (xs.map FV.fct) j)))∧Hid (Ext w wr)∧Hid (w.heap.size+1≤wr.heap.size)) (fun _ _ _ i _=>n-(intOf i).toNat)
 case atStart=>exact ⟨0,.map [],rfl,by omega,HM0,Lib.hid (GD.start _ _),HX0,Lib.hid (by simp)⟩
 case round=>
  obtain ⟨k,D,rfl,hk,HM,HD,HX,HS⟩:=hrel
  by_cases hlt:k<n
  ·have hlx:k<xs.length:=by rw [HN.out];exact hlt
   have hF:=HF.out.ext HX.out
   obtain ⟨hin,ad,rfl,u0,u1,u2,u3,u4,u5,u6,u7,u8,u9,u10,u11⟩:=hF.at_ k hlx
   have hatk:=atF_xs hlx
   have HWK:=Lib.hid (HWC.out xs[k] (List.getElem_mem hlx))
   have HKK:=Lib.hid (HKC.out xs[k] (List.getElem_mem hlx))
   have HKL1:=Lib.hid (HKL.out xs[k] (List.getElem_mem hlx))
   have HSKIP:=Lib.hid (show pB xs[k].fct=false→GD D (k+1) (fun j=>pB (atF (xs.map FV.fct) j)) (fun j=>kS (atF (xs.map FV.fct) j)) from fun h=>HD.out.skip (by show pB (atF (xs.map FV.fct) k)=false;rw [hatk];exact h))
   have HLOOK:=Lib.hid (show ∀ (w1:World) (v:Value) (zs:List Int),w1.ownsInts (w.heap.size+1) 3 .i64 v zs→D.atKey (.string (kS xs[k].fct)) .nil=rowDatum .i64 v zs→pB xs[k].fct=true→GD (D.put (.string (kS xs[k].fct)) (.slice (lits .i64 (zs++[(k:Int)])) [])) (k+1) (fun j=>pB (atF (xs.map FV.fct) j)) (fun j=>kS (atF (xs.map FV.fct) j)) from fun w1 v zs ho hat hp=>by
    have h1:=HD.out.look (kS xs[k].fct) ho hat
    rw [show kS xs[k].fct=(fun j=>kS (atF (xs.map FV.fct) j)) k by show _=kS (atF (xs.map FV.fct) k);rw [hatk]]
    exact HD.out.step (by show pB (atF (xs.map FV.fct) k)=true;rw [hatk];exact hp) (by show zs=zI (grpK k _ _ (kS (atF (xs.map FV.fct) k)));rw [hatk];exact h1))
   generalize xs[k]=f at *
   have hbx:=FBx.new wr f
   have hxa:=(Ext.refl wr).alloc (.cells #[.int .i64 f.t,.int .i64 f.mi,.int .i64 f.kd,.int .i64 f.fk,.slice f.FA f.fb.length f.fc,.slice f.CA f.cp.length f.cc,.string f.cr,.slice f.SA f.sp.length f.sc,.string f.sr,.int .i64 f.co,.int .i64 f.pr,.int .u32 (f.fl.toNat:Int)] 41)
   obtain ⟨Wa,ea⟩:∃ Wa,wr.alloc (.cells #[.int .i64 f.t,.int .i64 f.mi,.int .i64 f.kd,.int .i64 f.fk,.slice f.FA f.fb.length f.fc,.slice f.CA f.cp.length f.cc,.string f.cr,.slice f.SA f.sp.length f.sc,.string f.sr,.int .i64 f.co,.int .i64 f.pr,.int .u32 (f.fl.toNat:Int)] 41)=Wa:=⟨_,rfl⟩
   rw [ea] at hbx hxa
   have HBX:=Lib.hid hbx
   obtain ⟨v0,v1,v2,v3,v4,v5,v6,v7,v8,v9,v10,v11⟩:=fv_cells hbx
   have HXA:=Lib.hid (HX.out.trans hxa)
   have HMA:=Lib.hid (HM.out.ext hxa)
   have HINA:=Lib.hid (hin.ext hxa)
   have HCW:=Lib.hid (HWK.out Wa HINA.out HXA.out)
   have HKW:=Lib.hid (fun W2 (hx2:Ext Wa W2)=>HKK.out W2 (HINA.out.ext hx2) (HXA.out.trans hx2))
   unfold FV.val at HCW HKW
   have HSA:=Lib.hid (show w.heap.size+1≤Wa.heap.size from Nat.le_trans HS.out hxa.size)
   clear hbx hxa hin hF hlx hatk HWK HKK
   go_wp2_with fail
   rw [HEW.out]
   refine HCW.out.mono ?_
   rintro _ w2 ⟨rfl,hx2⟩
   have HX2:=Lib.hid (HXA.out.trans hx2)
   have HM2:=Lib.hid (HMA.out.ext hx2)
   have HC2:=Lib.hid (HKW.out w2 hx2)
   have HB2:=Lib.hid (HBX.out.ext hx2)
   have HS2:=Lib.hid (Nat.le_trans HSA.out hx2.size)
   clear hx2 u0 u1 u2 u3 u4 u5 u6 u7 u8 u9 u10 u11 v0 v1 v2 v3 v4 v5 v6 v7 v8 v9 v10 v11
   cases hp:pB f.fct with
   | false=>
    have HD2:=Lib.hid (HSKIP.out hp)
    have HM3:=Lib.hid (show GM w2 w.heap.size (k+1) D by
     obtain ⟨es,cl,h1,h2,h3,h4,h5,h6,h7⟩:=HM2.out
     exact ⟨es,cl,h1,h2,by omega,h4,h5,fun x hx zs ho=>by have:=h6 x hx zs ho;omega,h7⟩)
    clear hp
    go_wp2_with fail
    go_roundw
    case rel=>exact ⟨k+1,D,by go_num,by omega,HM3,HD2,HX2,HS2⟩
    case measure=>simp [intOf];omega
   | true=>
    have HP:=Lib.hid hp
    clear hp
    obtain ⟨v0,v1,v2,v3,v4,v5,v6,v7,v8,v9,v10,v11⟩:=fv_cells HB2.out
    go_wp2_with fail
    rw [HEK.out]
    refine HC2.out.mono ?_
    rintro _ w3 ⟨rfl,hx3⟩
    have hown:GM w3 w.heap.size k D:=HM2.out.ext hx3
    unfold GM at hown
    have hkey:=keyLit (kS f.fct) (by have:=HKL1.out;unfold maxLen;omega)
    have HX3:=Lib.hid (HX2.out.trans hx3)
    have hs3:w.heap.size+1≤w3.heap.size:=Nat.le_trans HS2.out hx3.size
    generalize kS f.fct=ky at *
    clear hx3 v0 v1 v2 v3 v4 v5 v6 v7 v8 v9 v10 v11
    go_wp2_with (first
     | (at_lookup;refine wpList_lookup_groups _ rfl _ _ 124 rfl 9 126 3 .i64 lawStr Tryz.underlying124 (zeroInts _) (w.heap.size+1) w.heap.size k _ rfl hown (by unfold maxLen;omega) _ _ rfl hkey ?_;intro v zs hat hoi hzl hback)
     | (at_builtin;refine wpList_append_own_at _ rfl _ _ 126 rfl (w.heap.size+1) 3 i0 (.int .i64 0) 1 8 Tryz.underlying126 hi hz0 hz1 hz2 rfl (by decide) _ _ _ rfl (hoi.1.alloc _) ⟨w3.heap.size,0,none⟩ 1 1 [.int .i64 k] rfl rfl (cell_one_new _ _ _) (ints_oneCell .i64 [(k:Int)]) (by unfold maxLen;omega) (by omega) (by simp;omega) ?_;intro v' w4 hown' hgrow hnil hloc)
     | (at_mapUpdate;refine wpList_mapUpdate_back _ rfl _ _ _ 124 rfl hback rfl rfl rfl ((World.grownBy_alloc _ _ _).trans hgrow) (hoi.appended hown' (WalkArith.wf_i64 (by omega))) (by simp;omega) (hloc.imp id (fun h=>⟨_,h,by simp⟩)) ?_;intro w5 hown2 hgrow2)
     | fail)
    have hall:=(World.grownBy_alloc w3 _ _).trans hgrow
    have HD5:=Lib.hid (HLOOK.out _ _ _ hoi hat HP.out)
    have hdp:=(hoi.appended hown' (WalkArith.wf_i64 (by omega))).datum_pos (H:=Unit) (by simp)
    have HM5:=Lib.hid (show GM w5 w.heap.size (k+1) (D.put (.string ky) (.slice (lits .i64 (zs++[(k:Int)])) [])) by unfold GM;rw [← hdp];exact hown2)
    have HX5:=Lib.hid (below_ext HX3.out ((Below.refl w.heap.size w3).groups hoi hall hgrow2 HX3.out.size (Nat.le_succ _) (Nat.le_refl _)))
    have HS5:=Lib.hid (Nat.le_trans hs3 (Nat.le_trans hall.size hgrow2.size))
    clear hown hown' hown2 hgrow hgrow2 hnil hloc hall hoi hback hat hkey hdp
    go_roundw
    case rel=>exact ⟨k+1,_,by go_num,by omega,HM5,HD5,HX5,HS5⟩
    case measure=>simp [intOf];omega
  ·obtain rfl:k=n:=by omega
   go_wp2_with fail
   go_ret
   exact ⟨D,rfl,HM.out,HD.out,HX.out⟩
end Go.Proofs.YtnjmndofcpnmeaaGreatDoor
namespace Go.Proofs.YtnjmndofcpnmeaaGreatDoor
open Go Go.RowKit
set_option linter.unusedVariables false
theorem itoa_len20 (x:Int)(h0:-9223372036854775808≤x)(h1:x≤9223372036854775807):(Lib.itoa x).length≤21:=Lib.itoa_length_le x h0 h1
theorem keyP_len:∀ (ls:List (List UInt8)),(∀ l∈ls,l.length≤1000)→(keyP ls).length≤1023*ls.length
 | [],_=>Nat.zero_le _
 | p::r,h=>by
  have h1:=keyP_len r (fun l hl=>h l (List.mem_cons_of_mem _ hl))
  have h2:=h p (by simp)
  have h3:=itoa_len20 (p.length:Int) (by omega) (by omega)
  rw [keyP]
  simp only [List.length_cons,List.length_append]
  omega
theorem ba_list (p:ByteArray):∃ P:List UInt8,p=⟨P.toArray⟩∧p.data.toList=P∧p.size=P.length:=⟨p.data.toList,by cases p;simp,rfl,by rw [Array.length_toList];rfl⟩
set_option maxRecDepth 100000 in
set_option maxHeartbeats 1000000 in
theorem keyName_at (A:Option Addr) (c:Nat) (ps:List ByteArray) (r:ByteArray) (hn:ps.length≤1000) (hps:∀ p∈ps,p.size≤1000) (hr:r.size≤1000) (w:World) (hR:RS w (.slice A ps.length c) (sv ps)) (hp:Pow w):
  Calls Tryz.prog 123 #[.agg #[.slice A ps.length c,.string r]] w fun e w'=>e=.returned (.string ⟨(keyN (dat ps) r.data.toList).toArray⟩)∧Ext w w':=by
 obtain ⟨R,hRr,hRl,hRs⟩:=ba_list r
 rw [hRl]
 rw [hRs] at hr
 subst hRr
 clear hRl hRs
 have hg:=heap_alloc_new w (.cells #[.slice A ps.length c,.string ⟨R.toArray⟩] 37)
 have hx:=(Ext.refl w).alloc (.cells #[.slice A ps.length c,.string ⟨R.toArray⟩] 37)
 obtain ⟨W1,e1⟩:∃ W,w.alloc (.cells #[.slice A ps.length c,.string ⟨R.toArray⟩] 37)=W:=⟨_,rfl⟩
 rw [e1] at hg hx
 obtain ⟨c0,c1⟩:=(show PB W1 w.heap.size _ _ from hg).cells
 have HG:=Lib.hid (show PB W1 w.heap.size (.slice A ps.length c) ⟨R.toArray⟩ from hg);have HX:=Lib.hid hx;have HP:=Lib.hid hp
 obtain ⟨A',c',he,h1,h2,h3⟩:=hR
 rw [sv_length] at he h1 h3
 injection he with e2 _ e3
 subst e2;subst e3
 unfold maxLen at h2
 have HC:=Lib.hid h3
 obtain ⟨n,hn'⟩:∃ n,ps.length=n:=⟨_,rfl⟩
 have HN:=Lib.hid hn'
 have HPS:=Lib.hid hps;have HRS:=Lib.hid hr
 have HIT:=Lib.hid (fun W (hx:Ext W1 W)=>ItoaZ_at (n:Int) (by omega) (by omega) W (hp.ext (HX.out.trans hx)))
 have HKN:=Lib.hid (show keyN (dat ps) R=Lib.itoa (n:Int)++(keyP (dat ps)++32::R) by unfold keyN;rw [dat_length,hn'])
 have hil:=itoa_len20 (n:Int) (by omega) (by omega)
 generalize Lib.itoa (n:Int)=I at *
 generalize keyN (dat ps) R=KN at *
 have hrl':(R.length:Int)≤1000:=by omega
 have hil':(I.length:Int)≤21:=by omega
 rw [hn'] at h1 hn e1 ⊢
 clear hg hx hp h3 hps hr hil
 rw [hn'] at c0
 clear hn'
 go_enter Tryz.func123,Tryz.ntmps123
 go_wp2_with fail
 refine (HIT.out _ (Ext.refl _)).mono ?_
 rintro _ w2 ⟨rfl,hx2⟩
 have HX2:=Lib.hid hx2
 clear hx2 c0 c1
 obtain ⟨c0,c1⟩:=(HG.out.ext HX2.out).cells
 rw [HN.out] at c0
 go_wp2_with fail
 go_loopw [3,5,13] (fun v _ i wr=>∃ k:Nat,i=.int .i64 (k:Int)∧k≤n∧v=.string ⟨(I++keyP (dat (ps.take k))).toArray⟩∧Hid (Ext W1 wr)) (fun _ _ i _=>n-(intOf i).toNat)
 case atStart=>exact ⟨0,rfl,by omega,by simp [dat,keyP],HX2⟩
 case round=>
  obtain ⟨k,rfl,hk,rfl,HXK⟩:=hrel
  by_cases hlt:k<n
  ·have hlx:k<ps.length:=by rw [HN.out];exact hlt
   obtain ⟨ad,rfl,hb,hc⟩:=HC.out (by omega)
   have hck:=(HX.out.trans HXK.out).cell (hc k _ (sv_get ps k hlx))
   have hpk:=HPS.out ps[k] (List.getElem_mem hlx)
   have hkl:=keyP_len (dat (ps.take k)) (fun l hl=>by
    unfold dat at hl
    obtain ⟨p,hp,rfl⟩:=List.mem_map.1 hl
    rw [size_list]
    exact HPS.out p (List.mem_of_mem_take hp))
   rw [dat_length,List.length_take] at hkl
   have HTK:=Lib.hid (show keyP (dat (ps.take (k+1)))=keyP (dat (ps.take k))++(32::(Lib.itoa (ps[k].data.toList.length:Int)++32::ps[k].data.toList)) by
    rw [List.take_succ_eq_append_getElem hlx,show dat (ps.take k++[ps[k]])=dat (ps.take k)++[ps[k].data.toList] by unfold dat;rw [List.map_append];rfl,keyP_snoc])
   obtain ⟨P,hP,hPl,hPs⟩:=ba_list ps[k]
   rw [hPl] at HTK
   rw [hP] at hck
   rw [hPs] at hpk
   generalize keyP (dat (ps.take k))=KP at *
   have hkl':(KP.length:Int)≤1023000:=by
     have:min k ps.length≤1000:=by omega
     omega
   have hPl':(P.length:Int)≤1000:=by omega
   have HIK:=Lib.hid (ItoaZ_at (P.length:Int) (by omega) (by omega) wr (HP.out.ext (HX.out.trans HXK.out)))
   have hjl:=itoa_len20 (P.length:Int) (by omega) (by omega)
   generalize Lib.itoa (P.length:Int)=J at *
   have hjl':(J.length:Int)≤21:=by omega
   have HCN:=Lib.hid hc
   clear hb hc hP hPl hPs hlx hkl hjl hpk
   go_wp2_with fail
   refine HIK.out.mono ?_
   rintro _ w3 ⟨rfl,hx3⟩
   have HX3:=Lib.hid (HXK.out.trans hx3)
   clear hx3 hck
   go_wp2_with fail
   go_roundw
   case rel=>exact ⟨k+1,by go_num,by omega,by rw [HTK.out];simp [ByteArray.mk_append_mk],HX3⟩
   case measure=>simp [intOf];omega
  ·obtain rfl:k=n:=by omega
   have htk:ps.take k=ps:=List.take_of_length_le (by rw [HN.out];exact Nat.le_refl _)
   have hkl:=keyP_len (dat ps) (fun l hl=>by
    unfold dat at hl
    obtain ⟨p,hp,rfl⟩:=List.mem_map.1 hl
    rw [size_list]
    exact HPS.out p hp)
   rw [dat_length,HN.out] at hkl
   rw [htk]
   clear c0 c1
   obtain ⟨c0,c1⟩:=(HG.out.ext HXK.out).cells
   generalize keyP (dat ps)=KP at *
   have hkl':(KP.length:Int)≤1023000:=by omega
   have hkl2:KP.length≤1023000:=by omega
   have hil2:I.length≤21:=by omega
   have hrl2:R.length≤1000:=by omega
   clear hkl hlt htk
   go_wp2_with fail
   have HV:=Lib.hid (show (({ data:=(I++KP).toArray }:ByteArray) ++ { data:=#[32] } ++ { data:=R.toArray })=⟨KN.toArray⟩ by rw [HKN.out,show ({ data:=#[32] }:ByteArray)=⟨[32].toArray⟩ from rfl,ByteArray.mk_append_mk,ByteArray.mk_append_mk];simp)
   go_ret
   exact ⟨by rw [← HV.out];rfl,HX.out.trans HXK.out⟩
set_option maxRecDepth 100000 in
theorem keyClient_at (f:FV) (w:World) (hM:f.In w) (hz:f.Sz) (hp:Pow w):
  Calls Tryz.prog 63 #[f.val] w fun e w'=>e=.returned (.string ⟨(keyN f.fct.cp f.fct.cr).toArray⟩)∧Ext w w':=by
 obtain ⟨t,mi,kd,fk,FA,fb,fc,CA,cp,cc,cr,SA,sp,sc,sr,co,pr,fl⟩:=f
 have hb0:=FBx.new w ⟨t,mi,kd,fk,FA,fb,fc,CA,cp,cc,cr,SA,sp,sc,sr,co,pr,fl⟩
 have hx0:=(Ext.refl w).alloc (.cells #[.int .i64 t,.int .i64 mi,.int .i64 kd,.int .i64 fk,.slice FA fb.length fc,.slice CA cp.length cc,.string cr,.slice SA sp.length sc,.string sr,.int .i64 co,.int .i64 pr,.int .u32 (fl.toNat:Int)] 41)
 dsimp only [FV.val,FV.fct] at hb0 ⊢
 obtain ⟨W1,e1⟩:∃ W,w.alloc (.cells #[.int .i64 t,.int .i64 mi,.int .i64 kd,.int .i64 fk,.slice FA fb.length fc,.slice CA cp.length cc,.string cr,.slice SA sp.length sc,.string sr,.int .i64 co,.int .i64 pr,.int .u32 (fl.toNat:Int)] 41)=W:=⟨_,rfl⟩
 rw [e1] at hb0 hx0
 have HB:=Lib.hid hb0;have HX:=Lib.hid hx0
 have HK:=Lib.hid (keyName_at CA cc cp cr hz.cp hz.cps hz.cr W1 (hM.cp.ext hx0) (hp.ext hx0))
 generalize keyN (dat cp) cr.data.toList=KN at *
 obtain ⟨u0,u1,u2,u3,u4,u5,u6,u7,u8,u9,u10,u11⟩:=HB.out.cells
 clear hb0 hx0 hM hz hp
 go_enter Tryz.func63,Tryz.ntmps63
 go_wp2_with fail
 refine HK.out.mono ?_
 rintro _ w2 ⟨rfl,hx2⟩
 have HX2:=Lib.hid (HX.out.trans hx2)
 clear hx2
 go_wp2_with fail
 go_ret
 exact ⟨rfl,HX2.out⟩
set_option maxRecDepth 100000 in
set_option maxHeartbeats 1000000 in
theorem failure_at (f:FV) (w:World) (hM:f.In w) (hz:f.Sz):
  Calls Tryz.prog 118 #[f.val] w fun e w'=>e=.returned (.bool (failB f.fct))∧Ext w w':=by
 have hfb:failB f.fct=((f.kd==10&&f.co==24) && !noneN f.fct.cp f.fct.cr):=by
  unfold failB
  rw [show decide (f.fct.kd=10)=(f.kd==10) from rfl,show decide (f.fct.co=24)=(f.co==24) from rfl]
 rw [hfb]
 clear hfb
 obtain ⟨t,mi,kd,fk,FA,fb,fc,CA,cp,cc,cr,SA,sp,sc,sr,co,pr,fl⟩:=f
 have hb0:=FBx.new w ⟨t,mi,kd,fk,FA,fb,fc,CA,cp,cc,cr,SA,sp,sc,sr,co,pr,fl⟩
 have hx0:=(Ext.refl w).alloc (.cells #[.int .i64 t,.int .i64 mi,.int .i64 kd,.int .i64 fk,.slice FA fb.length fc,.slice CA cp.length cc,.string cr,.slice SA sp.length sc,.string sr,.int .i64 co,.int .i64 pr,.int .u32 (fl.toNat:Int)] 41)
 dsimp only [FV.val,FV.fct] at hb0 ⊢
 obtain ⟨W1,e1⟩:∃ W,w.alloc (.cells #[.int .i64 t,.int .i64 mi,.int .i64 kd,.int .i64 fk,.slice FA fb.length fc,.slice CA cp.length cc,.string cr,.slice SA sp.length sc,.string sr,.int .i64 co,.int .i64 pr,.int .u32 (fl.toNat:Int)] 41)=W:=⟨_,rfl⟩
 rw [e1] at hb0 hx0
 have HB:=Lib.hid hb0;have HX:=Lib.hid hx0
 have HC0:=Lib.hid (fun W (hx:Ext W1 W)=>noName_at CA cc cp cr hz.cp W (hM.cp.ext (hx0.trans hx)))
 obtain ⟨bc,hbc⟩:∃ q,noneN (dat cp) cr.data.toList=q:=⟨_,rfl⟩
 rw [hbc] at HC0 ⊢
 clear hb0 hx0 hM hz hbc
 obtain ⟨q1,hq1⟩:∃ q1:Bool,(kd==10)=q1:=⟨_,rfl⟩
 have Hq1:=Lib.hid hq1;clear hq1
 obtain ⟨q2,hq2⟩:∃ q2:Bool,(co==24)=q2:=⟨_,rfl⟩
 have Hq2:=Lib.hid hq2;clear hq2
 obtain ⟨p3,hp3⟩:∃ p3:Bool,(q1&&q2)=p3:=⟨_,rfl⟩
 have Hp3:=Lib.hid hp3;clear hp3
 obtain ⟨q4,hq4⟩:∃ q4:Bool,(!bc)=q4:=⟨_,rfl⟩
 have Hq4:=Lib.hid hq4;clear hq4
 obtain ⟨p5,hp5⟩:∃ p5:Bool,(p3&&q4)=p5:=⟨_,rfl⟩
 have Hp5:=Lib.hid hp5;clear hp5
 have HX0:=Lib.hid (Ext.refl W1)
 go_enter Tryz.func118,Tryz.ntmps118
 go_upto_region 1 with fail
 refine wp_region_lit ?_
 refine wpL_val (.pointer (some ⟨w.heap.size,2,none⟩)) rfl (fun K' hK'=>?_) ?_
 ·go_step
  exact hK'
 simp only [Act.put,sT1,sT2,sT3]
 refine wpL_val (.int .i64 kd) rfl (fun K' hK'=>?_) ?_
 ·obtain ⟨u0,u1,u2,u3,u4,u5,u6,u7,u8,u9,u10,u11⟩:=(HB.out.ext HX0.out).cells
  go_step
  exact hK'
 simp only [Act.put,sT1,sT2,sT3]
 refine wpL_val (.bool q1) rfl (fun K' hK'=>?_) ?_
 ·have hq:=Hq1.out
  subst hq
  go_step
  exact hK'
 simp only [Act.put,sT1,sT2,sT3]
 refine wpL_val (.bool q1) rfl (fun K' hK'=>?_) ?_
 ·go_step
  exact hK'
 simp only [Act.put,sT1,sT2,sT3]
 refine wpL_sym q1 (.pointer (some ⟨w.heap.size,9,none⟩)) (by cases q1<;>kernel_rfl) (fun hc K' hK'=>?_) ?_
 ·subst hc
  try simp only [cond_true]
  go_step
  exact hK'
 simp only [Act.put,sT1,sT2,sT3]
 refine wpL_sym q1 (.int .i64 co) (by cases q1<;>kernel_rfl) (fun hc K' hK'=>?_) ?_
 ·subst hc
  try simp only [cond_true]
  obtain ⟨u0,u1,u2,u3,u4,u5,u6,u7,u8,u9,u10,u11⟩:=(HB.out.ext HX0.out).cells
  go_step
  exact hK'
 simp only [Act.put,sT1,sT2,sT3]
 refine wpL_sym q1 (.bool q2) (by cases q1<;>kernel_rfl) (fun hc K' hK'=>?_) ?_
 ·subst hc
  try simp only [cond_true]
  have hq:=Hq2.out
  subst hq
  go_step
  exact hK'
 simp only [Act.put,sT1,sT2,sT3]
 refine wpL_val (.bool p3) rfl (fun K' hK'=>?_) ?_
 ·have hp:=Hp3.out
  subst hp
  cases q1
  ·go_step
   exact hK'
  ·go_step
   exact hK'
 simp only [Act.put,sT1,sT2,sT3]
 refine wpL_val (.bool p3) rfl (fun K' hK'=>?_) ?_
 ·go_step
  exact hK'
 simp only [Act.put,sT1,sT2,sT3]
 refine wpL_sym p3 (.pointer (some ⟨w.heap.size,5,none⟩)) (by cases p3<;>kernel_rfl) (fun hc K' hK'=>?_) ?_
 ·subst hc
  try simp only [cond_true]
  go_step
  exact hK'
 simp only [Act.put,sT1,sT2,sT3]
 refine wpL_sym p3 (.agg #[.slice CA cp.length cc,.string cr]) (by cases p3<;>kernel_rfl) (fun hc K' hK'=>?_) ?_
 ·subst hc
  try simp only [cond_true]
  obtain ⟨u0,u1,u2,u3,u4,u5,u6,u7,u8,u9,u10,u11⟩:=(HB.out.ext HX0.out).cells
  go_step
  exact hK'
 simp only [Act.put,sT1,sT2,sT3]
 refine wpL_symcall p3 (.bool bc) (by cases p3<;>kernel_rfl) (fun hc K' hK'=>?_) (fun wc14 hx=>?_)
 ·subst hc
  try simp only [cond_true]
  go_step
  refine (HC0.out W1 HX0.out).mono ?_
  rintro _ w2 ⟨rfl,hx⟩
  exact hK' _ hx
 have HX14:=Lib.hid (HX0.out.trans hx);clear hx
 simp only [Act.put,sT1,sT2,sT3]
 refine wpL_sym p3 (.bool q4) (by cases p3<;>kernel_rfl) (fun hc K' hK'=>?_) ?_
 ·subst hc
  try simp only [cond_true]
  have hq:=Hq4.out
  subst hq
  go_step
  exact hK'
 simp only [Act.put,sT1,sT2,sT3]
 refine wpL_val (.bool p5) rfl (fun K' hK'=>?_) ?_
 ·have hp:=Hp5.out
  subst hp
  cases p3
  ·go_step
   exact hK'
  ·go_step
   exact hK'
 simp only [Act.put,sT1,sT2,sT3]
 go_wp2_with fail
 go_ret
 refine ⟨?_,HX.out.trans HX14.out⟩
 have h:=Hp5.out;subst h
 have h:=Hq4.out;subst h
 have h:=Hp3.out;subst h
 have h:=Hq2.out;subst h
 have h:=Hq1.out;subst h
 rfl
end Go.Proofs.YtnjmndofcpnmeaaGreatDoor
