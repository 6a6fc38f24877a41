/- Pq32. -/
import Derived.Test.YtnjmndofcpnmeaaGreatDoorPq30
import Derived.Test.YtnjmndofcpnmeaaGreatDoorPq31
namespace Go.Proofs.YtnjmndofcpnmeaaGreatDoor
open Go Go.RowKit
set_option linter.unusedVariables false
theorem rp_ok {l:List UInt8}{k:Int}{b:List UInt8}(hc:rcnd l=some (k,b))(ho:okA k b=true)(ht:txtA k b=l):prsA l=some (k,b):=by
 rw [← rprs_eq];unfold rprs;rw [hc];exact if_pos ⟨ho,ht⟩
theorem rp_no0 {l:List UInt8}(hc:rcnd l=none):prsA l=none:=by rw [← rprs_eq];unfold rprs;rw [hc]
theorem rp_no1 {l:List UInt8}{k:Int}{b:List UInt8}(hc:rcnd l=some (k,b))(ho:okA k b=false):prsA l=none:=by
 rw [← rprs_eq];unfold rprs;rw [hc];exact if_neg (fun h=>by have h1:okA k b=true:=h.1;rw [ho] at h1;cases h1)
theorem rp_no2 {l:List UInt8}{k:Int}{b:List UInt8}(hc:rcnd l=some (k,b))(ht:txtA k b≠l):prsA l=none:=by
 rw [← rprs_eq];unfold rprs;rw [hc];exact if_neg (fun h=>ht h.2)
theorem host_cut (s:ByteArray):(s.data.toList.take 5==[104,111,115,116,47])=hostP.isPrefixOf s.data.toList:=by
 rw [Bool.eq_iff_iff,beq_iff_eq,List.isPrefixOf_iff_prefix,List.prefix_iff_eq_take]
 exact ⟨fun h=>h.symm,fun h=>h.symm⟩
theorem take_run (s:ByteArray)(h:5≤s.size)(W:World):(Instr.slice 9 (.string s) none (some (.int .i64 5)) none).run Tryz.prog W=.ok (.string ⟨(s.data.toList.take 5).toArray⟩) W:=by
 rw [run_slice_string_to_if W 9 s .i64 5 Tryz.underlying9,if_pos (by omega)]
 congr 2
 apply ByteArray.ext
 apply Array.toList_inj.1
 rw [ByteArray.data_extract,Array.toList_extract,List.extract_eq_take_drop]
 rfl
theorem host_len {s:ByteArray}(h:hostP.isPrefixOf s.data.toList=true):5≤s.size:=by
 have:=(List.isPrefixOf_iff_prefix.1 h).length_le
 rwa [Array.length_toList] at this
set_option maxRecDepth 100000 in
set_option maxHeartbeats 2000000 in
theorem RAParseH_at (s:ByteArray) (hs:s.size≤3000) (w:World) (hp:hostP.isPrefixOf s.data.toList=true):
  Calls Tryz.prog 93 #[.string s] w fun e w'=>PAr s.data.toList e w'∧Ext w w':=by
 have hsz:s.data.toList.length=s.size:=by rw [Array.length_toList];rfl
 have h0:=heap_alloc_new w (.cells #[.int .i64 0,.slice none 0 0] 34)
 have h1:=heap_alloc_new (w.alloc (.cells #[.int .i64 0,.slice none 0 0] 34)) (.cells #[.int .i64 0,.slice none 0 0] 34)
 have x1:=(Ext.refl (w.alloc (.cells #[.int .i64 0,.slice none 0 0] 34))).alloc (.cells #[.int .i64 0,.slice none 0 0] 34)
 have x0:=(Ext.refl w).alloc (.cells #[.int .i64 0,.slice none 0 0] 34)
 rw [World.size_alloc] at h1
 obtain ⟨w1,hw1⟩:∃ w1,(w.alloc (.cells #[.int .i64 0,.slice none 0 0] 34)).alloc (.cells #[.int .i64 0,.slice none 0 0] 34)=w1:=⟨_,rfl⟩
 have h01:=x1.heap h0
 have x01:=x0.trans x1
 rw [hw1] at h1 h01 x01
 have HR1:=Lib.hid (show AB w1 w.heap.size 0 none 0 0 from h01);have HB1:=Lib.hid (show AB w1 (w.heap.size+1) 0 none 0 0 from h1);have HX1:=Lib.hid x01;have HS:=Lib.hid hs;have HSZ:=Lib.hid hsz
 clear h0 h1 x0 x1 h01 x01 hs hsz
 have h5:=host_len hp
 have hct:=host_cut s
 have hsl:=take_run s h5
 obtain ⟨M,hM⟩:∃ M,s.data.toList.take 5=M:=⟨_,rfl⟩
 rw [hp] at hct
 rw [hM] at hct hsl
 have HC:=Lib.hid (show rcnd s.data.toList=some (20,s.data.toList.drop 5) by unfold rcnd;rw [hp];rfl)
 obtain ⟨L,hL⟩:∃ L,s.data.toList.drop 5=L:=⟨_,rfl⟩
 rw [hL] at HC
 have hsl2:∀ W:World,(Instr.slice 9 (.string s) (some (.int .i64 5)) none none).run Tryz.prog W=.ok (.string ⟨L.toArray⟩) W:=fun W=>by
  rw [run_slice_string_from_if W 9 s .i64 5 Tryz.underlying9,if_pos (by omega),← hL]
  congr 2
  apply ByteArray.ext
  apply Array.toList_inj.1
  rw [ByteArray.data_extract,Array.toList_extract,List.extract_eq_take_drop]
  simp only
  exact List.take_of_length_le (by rw [List.length_drop,Array.length_toList];show s.size-5≤s.size-5;exact Nat.le_refl _)
 have hLl:L.length≤3000:=by rw [← hL,List.length_drop,HSZ.out];have:=HS.out;omega
 obtain ⟨c,wx,hrun,hbs,hx,hszx⟩:=run_bytes (P:=Tryz.prog) w1 9 32 5 L Tryz.underlying9 Tryz.underlying32 Tryz.underlying5 (by unfold maxLen;omega)
 have HX:=Lib.hid (HX1.out.trans hx);have HB:=Lib.hid (HB1.out.ext hx);have HR0:=Lib.hid (HR1.out.ext hx);have HBS:=Lib.hid hbs
 obtain ⟨b0,b1⟩:=HB.out.cells
 have g0:=HB.out.soft 0;have g1:=HB.out.soft 1
 have h5':(5:Int)≤(s.size:Int):=by omega
 clear hp hL hLl hbs hx hszx h5 hM
 have hab:=AB.set HB.out 20 (some ⟨w1.heap.size,0,none⟩) (L).length c
 have hr0:=HR0.out.far2 (g:=w.heap.size+1) (.int .i64 20) (.slice (some ⟨w1.heap.size,0,none⟩) L.length c) (by omega)
 obtain ⟨c0,c1⟩:=hab.cells
 have hxz:=HX.out.set2 (g:=w.heap.size+1) (by omega) (.int .i64 20) (.slice (some ⟨w1.heap.size,0,none⟩) L.length c)
 have hbz:=HBS.out.set2 (g:=w.heap.size+1) HB.out (.int .i64 20) (.slice (some ⟨w1.heap.size,0,none⟩) L.length c)
 obtain ⟨Z,hZ⟩:∃ Z,(wx.setCell ⟨w.heap.size+1,0,none⟩ (.int .i64 20)).setCell ⟨w.heap.size+1,1,none⟩ (.slice (some ⟨w1.heap.size,0,none⟩) L.length c)=Z:=⟨_,rfl⟩
 rw [hZ] at hab hr0 c0 c1 hxz hbz
 have HAB:=Lib.hid hab;have HR:=Lib.hid hr0;have HXZ:=Lib.hid hxz;have HBZ:=Lib.hid hbz
 clear hab hr0 hxz hbz
 go_enter Tryz.func93,Tryz.ntmps93
 go_upto_region 35 with fail
 have hxv:=RAValid_at 20 L (some ⟨w1.heap.size,0,none⟩) c Z HBZ.out
 cases hok:okA 20 L with
 | false=>
  rw [hok] at hxv
  have HV:=Lib.hid hxv
  have HP:=Lib.hid (rp_no1 HC.out hok)
  unfold adv at HV
  clear hok hxv
  go_wp2_with fail
  refine HV.out.mono ?_
  rintro _ wt ⟨rfl,hxt⟩
  obtain ⟨z0,z1⟩:=(HR.out.ext hxt).cells
  have s0:=(HR.out.ext hxt).soft 0;have s1:=(HR.out.ext hxt).soft 1
  obtain ⟨y0,y1⟩:=((HR.out.ext hxt).set 0 none 0 0).cells
  have HXF:=Lib.hid ((HXZ.out.trans hxt).set2 (g:=w.heap.size) (Nat.le_refl _) (.int .i64 0) (.slice none 0 0))
  have Y0:=Lib.hid y0;have Y1:=Lib.hid y1
  clear y0 y1
  clear hxt c0 c1
  go_wp2_with fail
  have y0:=Y0.out;have y1:=Y1.out
  refine bodyPost_ret (v:=.tuple #[adv 0 none 0 0,.int .i64 6]) (by simp [results,Tryz.results93,go_sem,y0,y1,adv];try rfl) rfl ?_
  exact ⟨.inr ⟨HP.out,rfl⟩,HXF.out⟩
 | true=>
  rw [hok] at hxv
  have HV:=Lib.hid hxv
  have hxt0:=fun W hx=>RAText_at 20 L (some ⟨w1.heap.size,0,none⟩) c W (HBZ.out.ext hx) hok
  obtain ⟨X,hX⟩:∃ X,txtA 20 L=X:=⟨_,rfl⟩
  rw [hX] at hxt0
  have HT:=Lib.hid hxt0
  unfold adv at HV HT
  clear hxv hxt0
  by_cases heq:X=s.data.toList
  ·have q1:(X==s.toList)=true:=by rw [ByteArray.toList_eq,heq];exact beq_self_eq_true _
   have q2:(X != s.toList)=false:=by rw [bne,q1];rfl
   have HP:=Lib.hid (rp_ok HC.out hok (hX.trans heq))
   clear hok hX heq
   go_wp2_with fail
   refine HV.out.mono ?_
   rintro _ wv ⟨rfl,hxv⟩
   have HXV:=Lib.hid hxv
   obtain ⟨d0,d1⟩:=(HAB.out.ext hxv).cells
   clear hxv c0 c1
   go_wp2_with fail
   refine (HT.out _ HXV.out).mono ?_
   rintro _ wt ⟨rfl,hxt⟩
   have hxt2:=HXV.out.trans hxt
   obtain ⟨b0,b1⟩:=(HAB.out.ext hxt2).cells
   obtain ⟨z0,z1⟩:=(HR.out.ext hxt2).cells
   have s0:=(HR.out.ext hxt2).soft 0;have s1:=(HR.out.ext hxt2).soft 1
   obtain ⟨y0,y1⟩:=((HR.out.ext hxt2).set (20) (some ⟨w1.heap.size,0,none⟩) (L).length c).cells
   have HXF:=Lib.hid ((HXZ.out.trans hxt2).set2 (g:=w.heap.size) (Nat.le_refl _) (.int .i64 20) (.slice (some ⟨w1.heap.size,0,none⟩) (L).length c))
   have HBF:=Lib.hid ((HBZ.out.ext hxt2).set2 (HR.out.ext hxt2) (.int .i64 20) (.slice (some ⟨w1.heap.size,0,none⟩) (L).length c))
   have Y0:=Lib.hid y0;have Y1:=Lib.hid y1
   clear hxt hxt2 d0 d1 y0 y1
   go_wp2_with fail
   have y0:=Y0.out;have y1:=Y1.out
   refine bodyPost_ret (v:=.tuple #[adv 20 (some ⟨w1.heap.size,0,none⟩) (L).length c,.int .i64 0]) (by simp [results,Tryz.results93,go_sem,y0,y1,adv];try rfl) rfl ?_
   exact ⟨.inl ⟨_,_,_,_,HP.out,rfl,HBF.out⟩,HXF.out⟩
  ·have q1:(X==s.toList)=false:=by rw [ByteArray.toList_eq,beq_eq_false_iff_ne];exact heq
   have q2:(X != s.toList)=true:=by rw [bne,q1];rfl
   have HP:=Lib.hid (rp_no2 HC.out (fun h=>heq (hX.symm.trans h)))
   clear hok hX heq
   go_wp2_with fail
   refine HV.out.mono ?_
   rintro _ wv ⟨rfl,hxv⟩
   have HXV:=Lib.hid hxv
   obtain ⟨d0,d1⟩:=(HAB.out.ext hxv).cells
   clear hxv c0 c1
   go_wp2_with fail
   refine (HT.out _ HXV.out).mono ?_
   rintro _ wt ⟨rfl,hxt⟩
   have hxt2:=HXV.out.trans hxt
   obtain ⟨z0,z1⟩:=(HR.out.ext hxt2).cells
   have s0:=(HR.out.ext hxt2).soft 0;have s1:=(HR.out.ext hxt2).soft 1
   obtain ⟨y0,y1⟩:=((HR.out.ext hxt2).set 0 none 0 0).cells
   have HXF:=Lib.hid ((HXZ.out.trans hxt2).set2 (g:=w.heap.size) (Nat.le_refl _) (.int .i64 0) (.slice none 0 0))
   have Y0:=Lib.hid y0;have Y1:=Lib.hid y1
   clear y0 y1
   clear hxt hxt2 d0 d1
   go_wp2_with fail
   have y0:=Y0.out;have y1:=Y1.out
   refine bodyPost_ret (v:=.tuple #[adv 0 none 0 0,.int .i64 6]) (by simp [results,Tryz.results93,go_sem,y0,y1,adv];try rfl) rfl ?_
   exact ⟨.inr ⟨HP.out,rfl⟩,HXF.out⟩
end Go.Proofs.YtnjmndofcpnmeaaGreatDoor
