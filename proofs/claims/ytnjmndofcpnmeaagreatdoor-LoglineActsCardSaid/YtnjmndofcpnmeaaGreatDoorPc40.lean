/- Pc40. -/
import Derived.Test.YtnjmndofcpnmeaaGreatDoorPc38
import Derived.Test.YtnjmndofcpnmeaaGreatDoorPc39
import Derived.Test.YtnjmndofcpnmeaaGreatDoorPc29
import Derived.Test.YtnjmndofcpnmeaaGreatDoorPc0
import Derived.Lib.SliceRun
import Derived.Deep.QuietTactic
import Derived.BigQuiet
import Derived.Test.YtnjmndofcpnmeaaGreatDoorPc28
import Derived.Test.YtnjmndofcpnmeaaGreatDoorPc36
import Derived.Test.YtnjmndofcpnmeaaGreatDoorPc3
import Derived.Test.YtnjmndofcpnmeaaGreatDoorPc34
import Derived.Test.YtnjmndofcpnmeaaGreatDoorPc19
namespace Go.Proofs.YtnjmndofcpnmeaaGreatDoor
open Go Go.RowKit Go.Maps
set_option linter.unusedVariables false
theorem fE_ok:fE.ok=true:=by kernel_rfl
theorem fE_txt:fE.txt=[49,48,48,46,48,48,48,48,48,53,32,105,110,105,116,105,97,108,32,117,64,82,32,107,114,98,116,103,116,47,82,64,82,32,49,48,46,48,46,48,46,49,32,48,32,50,32,102,111,114,119,97,114,100,97,98,108,101,44,105,110,105,116,105,97,108]:=by kernel_rfl
theorem fE_log:plogF (splb 10 [] ([49,48,48,46,48,48,48,48,48,53,32,105,110,105,116,105,97,108,32,117,64,82,32,107,114,98,116,103,116,47,82,64,82,32,49,48,46,48,46,48,46,49,32,48,32,50,32,102,111,114,119,97,114,100,97,98,108,101,44,105,110,105,116,105,97,108]++[10]++[49,48,48,46,48,48,48,48,48,53,32,105,110,105,116,105,97,108,32,117,64,82,32,107,114,98,116,103,116,47,82,64,82,32,49,48,46,48,46,48,46,49,32,48,32,50,32,102,111,114,119,97,114,100,97,98,108,101,44,105,110,105,116,105,97,108])) []=([],2,6):=by
 have hs:splb 10 [] ([49,48,48,46,48,48,48,48,48,53,32,105,110,105,116,105,97,108,32,117,64,82,32,107,114,98,116,103,116,47,82,64,82,32,49,48,46,48,46,48,46,49,32,48,32,50,32,102,111,114,119,97,114,100,97,98,108,101,44,105,110,105,116,105,97,108]++[10]++[49,48,48,46,48,48,48,48,48,53,32,105,110,105,116,105,97,108,32,117,64,82,32,107,114,98,116,103,116,47,82,64,82,32,49,48,46,48,46,48,46,49,32,48,32,50,32,102,111,114,119,97,114,100,97,98,108,101,44,105,110,105,116,105,97,108])=[[49,48,48,46,48,48,48,48,48,53,32,105,110,105,116,105,97,108,32,117,64,82,32,107,114,98,116,103,116,47,82,64,82,32,49,48,46,48,46,48,46,49,32,48,32,50,32,102,111,114,119,97,114,100,97,98,108,101,44,105,110,105,116,105,97,108],[49,48,48,46,48,48,48,48,48,53,32,105,110,105,116,105,97,108,32,117,64,82,32,107,114,98,116,103,116,47,82,64,82,32,49,48,46,48,46,48,46,49,32,48,32,50,32,102,111,114,119,97,114,100,97,98,108,101,44,105,110,105,116,105,97,108]]:=by kernel_rfl
 have hp:prsF [49,48,48,46,48,48,48,48,48,53,32,105,110,105,116,105,97,108,32,117,64,82,32,107,114,98,116,103,116,47,82,64,82,32,49,48,46,48,46,48,46,49,32,48,32,50,32,102,111,114,119,97,114,100,97,98,108,101,44,105,110,105,116,105,97,108]=some fE:=by rw [← fE_txt];exact prsF_txt ((Fct.ok_iff _).1 fE_ok)
 rw [hs,plog_some hp,plog_one,if_neg (by simp)]
 rfl
theorem fE_lines:∀ x∈splb 10 [] ([49,48,48,46,48,48,48,48,48,53,32,105,110,105,116,105,97,108,32,117,64,82,32,107,114,98,116,103,116,47,82,64,82,32,49,48,46,48,46,48,46,49,32,48,32,50,32,102,111,114,119,97,114,100,97,98,108,101,44,105,110,105,116,105,97,108]++[10]++[49,48,48,46,48,48,48,48,48,53,32,105,110,105,116,105,97,108,32,117,64,82,32,107,114,98,116,103,116,47,82,64,82,32,49,48,46,48,46,48,46,49,32,48,32,50,32,102,111,114,119,97,114,100,97,98,108,101,44,105,110,105,116,105,97,108]),x.length≤3000:=by
 have hs:splb 10 [] ([49,48,48,46,48,48,48,48,48,53,32,105,110,105,116,105,97,108,32,117,64,82,32,107,114,98,116,103,116,47,82,64,82,32,49,48,46,48,46,48,46,49,32,48,32,50,32,102,111,114,119,97,114,100,97,98,108,101,44,105,110,105,116,105,97,108]++[10]++[49,48,48,46,48,48,48,48,48,53,32,105,110,105,116,105,97,108,32,117,64,82,32,107,114,98,116,103,116,47,82,64,82,32,49,48,46,48,46,48,46,49,32,48,32,50,32,102,111,114,119,97,114,100,97,98,108,101,44,105,110,105,116,105,97,108])=[[49,48,48,46,48,48,48,48,48,53,32,105,110,105,116,105,97,108,32,117,64,82,32,107,114,98,116,103,116,47,82,64,82,32,49,48,46,48,46,48,46,49,32,48,32,50,32,102,111,114,119,97,114,100,97,98,108,101,44,105,110,105,116,105,97,108],[49,48,48,46,48,48,48,48,48,53,32,105,110,105,116,105,97,108,32,117,64,82,32,107,114,98,116,103,116,47,82,64,82,32,49,48,46,48,46,48,46,49,32,48,32,50,32,102,111,114,119,97,114,100,97,98,108,101,44,105,110,105,116,105,97,108]]:=by kernel_rfl
 rw [hs]
 intro x hx
 simp only [List.mem_cons,List.not_mem_nil,or_false,or_self] at hx
 subst hx
 decide
theorem CD.size {D:DataW Unit}{l:List Fct}(h:CD D l)(he:∃ es,D=.map es∧es.Pairwise (fun p q=>p.1≠q.1)∧∀ p∈es,WideAt.IsKeyLit p.1){ks:List Int}(hn:ks.Nodup)(hk:∀ z,z∈ks ↔ 0<codF l z):Maps.size D=ks.length:=by
 classical
 obtain ⟨es,rfl,h1,h2⟩:=he
 have a1:(es.map Prod.fst).Nodup:=List.pairwise_map.2 h1
 have a2:(ks.map (Lit.int .i64)).Nodup:=List.pairwise_map.2 (hn.imp fun hab=>litI_ne hab)
 have:=mem_eq_len a1 a2 fun kl=>by
  constructor
  ·intro hm
   obtain ⟨p,hp,rfl⟩:=List.mem_map.1 hm
   have hh:Maps.has (.map es) p.1=true:=List.any_eq_true.2 ⟨p,hp,WideAt.sameKey_self (h2 p hp)⟩
   obtain ⟨s,hs⟩:=h.ints _ hh
   rw [hs] at hh ⊢
   exact List.mem_map.2 ⟨s,(hk s).2 ((h.has s).1 hh),rfl⟩
  ·intro hm
   obtain ⟨s,hs,rfl⟩:=List.mem_map.1 hm
   obtain ⟨p,hp,e⟩:=List.any_eq_true.1 ((h.has s).2 ((hk s).1 hs))
   exact List.mem_map.2 ⟨p,hp,WideAt.sameKey_eq e⟩
 rw [List.length_map,List.length_map] at this
 exact this
theorem cod2 (z:Int):codF [fE,gE] z=if z=0∨z=24 then 1 else 0:=by
 show codF ([fE]++[gE]) z=_
 rw [codF_snoc]
 show codF ([]++[fE]) z+_=_
 rw [codF_snoc]
 show (0+if (0:Int)=z then 1 else 0)+(if (24:Int)=z then 1 else 0)=_
 by_cases h0:z=0
 ·subst h0;rfl
 ·by_cases h1:z=24
  ·subst h1;rfl
  ·rw [if_neg (by omega),if_neg (by omega),if_neg (by omega)]
theorem codes2_at (b:Nat) (A:Option Addr) (w:World) (hF:FS w (.slice A 2 2) [fX b,gX 103 b]):
  Calls Tryz.prog 22 #[.slice A 2 2] w fun e w'=>(∃ (m:Nat) (D:DataW Unit),e=.returned (.map (some m))∧CMap w' m 2 D∧Maps.size D=2∧D.atKey (.int .i64 0) (.lit (.int .i64 0))=.lit (.int .i64 1)∧D.atKey (.int .i64 24) (.lit (.int .i64 0))=.lit (.int .i64 1))∧Ext w w':=by
 refine (Codes_at A 2 [fX b,gX 103 b] w hF (show 2≤1000 by decide) (fun f hf=>by
  simp at hf
  rcases hf with rfl | rfl
  ·exact ⟨(by decide:(-9223372036854775808:Int)≤0),(by decide:(0:Int)≤9223372036854775807)⟩
  ·exact ⟨(by decide:(-9223372036854775808:Int)≤24),(by decide:(24:Int)≤9223372036854775807)⟩)).mono ?_
 rintro e w' ⟨⟨D,rfl,hm,hd⟩,hx⟩
 rw [l2_fct] at hd
 refine ⟨⟨_,D,rfl,hm,?_,?_,?_⟩,hx⟩
 ·refine (hd.size (World.ownsMap.entries hm lawInt) (ks:=[0,24]) (by decide) fun z=>?_).trans rfl
  rw [cod2]
  constructor
  ·intro h;simp at h;rw [if_pos h];decide
  ·intro h
   by_cases hz:z=0∨z=24
   ·simpa using hz
   ·rw [if_neg hz] at h;cases h
 ·rw [hd.at_ 0,cod2,if_pos (.inl rfl)];rfl
 ·rw [hd.at_ 24,cod2,if_pos (.inr rfl)];rfl
theorem plog2_at (S s:ByteArray) (hSL:S.data.toList=[49,48,48,46,48,48,48,48,48,53,32,105,110,105,116,105,97,108,32,117,64,82,32,107,114,98,116,103,116,47,82,64,82,32,49,48,46,48,46,48,46,49,32,48,32,50,32,102,111,114,119,97,114,100,97,98,108,101,44,105,110,105,116,105,97,108]) (hs:s.data.toList=S.data.toList++[10]++S.data.toList) (W:World) (hE:EnvA W):
  Calls Tryz.prog 12 #[.string s] W fun e w'=>e=.returned (.tuple #[.slice none 0 0,.int .i64 2,.int .i64 6])∧Ext W w':=by
 rw [hSL] at hs
 refine (LParseLog_at s (by rw [← size_list,hs];exact of_decide_eq_true (by kernel_rfl)) (by rw [hs];exact fE_lines) W hE).mono ?_
 rintro e w' ⟨h,hx⟩
 unfold PLg at h
 rw [hs,fE_log] at h
 rcases h with ⟨v,fs,_,_,_,h⟩ | ⟨n,he,h⟩
 ·injection h with _ h;injection h with _ h;cases h
 ·injection h with _ h;injection h with h _;subst h
  exact ⟨he,hx⟩
theorem conv_lit (w:World)(d:UInt8)(x:Int)(h:(d.toNat:Int)=x):(convert 32 9 (.slice (some ⟨w.heap.size,0,none⟩) 1 1)).run Tryz.prog (w.alloc (.cells #[.int .u8 x] 5))=.ok (.string ⟨#[d]⟩) (w.alloc (.cells #[.int .u8 x] 5)):=
 run_str _ _ _ 5 _ [d] Tryz.underlying32 Tryz.underlying5 Tryz.underlying9 (OB.lit w 5 0 [.int .u8 x] [d] (by simp [bv,h]) 1 rfl (by simp [maxLen]) (by omega)).bs
set_option maxRecDepth 100000 in
set_option maxHeartbeats 1600000 in
theorem LKnown_at (w:World) (hE:EnvA w):
  Calls Tryz.prog 10 #[] w fun e w'=>e=.returned (.bool true)∧Ext w w':=by
 have HS:=Lib.hid (sample_at w)
 unfold FV.val at HS
 have HE:=Lib.hid hE
 obtain ⟨S,hS⟩:∃ S:ByteArray,(⟨fE.txt.toArray⟩:ByteArray)=S:=⟨_,rfl⟩
 have hSL:S.data.toList=[49,48,48,46,48,48,48,48,48,53,32,105,110,105,116,105,97,108,32,117,64,82,32,107,114,98,116,103,116,47,82,64,82,32,49,48,46,48,46,48,46,49,32,48,32,50,32,102,111,114,119,97,114,100,97,98,108,101,44,105,110,105,116,105,97,108]:=by rw [← hS];exact fE_txt
 have HT:=Lib.hid (fun b W (h:SX W b) (hE:EnvA W)=>(LText_yes (fX b) W h.f (fX_sz b) hE fE_ok))
 unfold FV.val at HT
 simp only [fX_fct] at HT
 rw [hS] at HT
 have HA1:=Lib.hid (fun W (h:EnvA W)=>alarm_one 5 2 2 103 103 (by decide) (by decide) (by decide) (by decide) (by decide) a_alm W h)
 have HA2:=Lib.hid (fun W (h:EnvA W)=>alarm_none 5 3 (by decide) (by decide) (by decide) (by decide) l3_b 0 0 W h)
 have HA3:=Lib.hid (fun W (h:EnvA W)=>alarm_one 6 3 3 103 109 (by decide) (by decide) (by decide) (by decide) (by decide) c_alm W h)
 have HPL:=Lib.hid (fun (s:ByteArray) (hs:s.data.toList=S.data.toList++[10]++S.data.toList) W (hE:EnvA W)=>plog2_at S s hSL hs W hE)
 have hSE:(S.toList==[49,48,48,46,48,48,48,48,48,53,32,105,110,105,116,105,97,108,32,117,64,82,32,107,114,98,116,103,116,47,82,64,82,32,49,48,46,48,46,48,46,49,32,48,32,50,32,102,111,114,119,97,114,100,97,98,108,101,44,105,110,105,116,105,97,108])=true:=by rw [ByteArray.toList_eq,hSL];rfl
 have hSZ:(S.size:Int)≤1000:=by rw [← size_list,hSL];decide
 clear hE hS hSL
 go_enter Tryz.func10,Tryz.ntmps10
 go_wp2_with fail
 refine HS.out.mono ?_
 rintro _ w1 ⟨⟨b,rfl,hS⟩,hx1⟩
 have HX1:=Lib.hid hx1
 obtain ⟨W2,e2,z1,z2,hx2⟩:=two_vars w1
 have HSX:=Lib.hid hS;have HX2:=Lib.hid hx2
 clear hS hx1 hx2
 go_upto_region 2 with (first
  | (refine wpList_store_var W2 rfl (.tmp 1) (.tmp 11) 41 rfl w1.heap.size 41 #[.int .i64 0,.int .i64 0,.int .i64 0,.int .i64 0,.slice none 0 0,.slice none 0 0,.string ⟨#[]⟩,.slice none 0 0,.string ⟨#[]⟩,.int .i64 0,.int .i64 0,.int .u32 0] #[.int .i64 100,.int .i64 5,.int .i64 10,.int .i64 2,.slice (some ⟨b,0,none⟩) 4 4,.slice (some ⟨b+1,0,none⟩) 1 1,.string ⟨#[82]⟩,.slice (some ⟨b+1+1,0,none⟩) 2 2,.string ⟨#[82]⟩,.int .i64 0,.int .i64 2,.int .u32 257] rfl rfl (Tryz.sizeOf41 W2) z1 rfl (one8 rfl) ?_;intro WA hA hgA;have z2A:=(hgA.block (w1.heap.size+1) (Array.getElem?_eq_some_iff.1 z2).1 (by simp)).trans z2)
  | (refine wpList_store_var _ rfl (.tmp 2) (.tmp 12) 41 rfl (w1.heap.size+1) 41 #[.int .i64 0,.int .i64 0,.int .i64 0,.int .i64 0,.slice none 0 0,.slice none 0 0,.string ⟨#[]⟩,.slice none 0 0,.string ⟨#[]⟩,.int .i64 0,.int .i64 0,.int .u32 0] #[.int .i64 103,.int .i64 5,.int .i64 10,.int .i64 2,.slice (some ⟨b,0,none⟩) 4 4,.slice (some ⟨b+1,0,none⟩) 1 1,.string ⟨#[82]⟩,.slice (some ⟨b+1+1,0,none⟩) 2 2,.string ⟨#[82]⟩,.int .i64 24,.int .i64 0,.int .u32 0] rfl rfl (Tryz.sizeOf41 _) z2A rfl (one8 rfl) ?_;intro WB bG hgB)
  | fail)
 have hxB:Ext w1 WB:=Below.grown (Below.grown HX2.out hgA HX2.out.size (fun j hj=>by cases hj;exact Nat.le_refl _)) hgB (Nat.le_trans HX2.out.size hgA.size) (fun j hj=>by cases hj;exact Nat.le_succ _)
 have hSB:=HSX.out.ext hxB
 have bF:FBx WB w1.heap.size (fX b):=(hgB.block w1.heap.size (Array.getElem?_eq_some_iff.1 hA).1 (by simp)).trans hA
 have HBF:=Lib.hid bF;have HBG:=Lib.hid (show FBx WB (w1.heap.size+1) (gX 103 b) from bG);have HSB:=Lib.hid hSB;have HXB:=Lib.hid (HX1.out.trans hxB)
 clear e2 z1 z2 z2A hA hgA hgB bF bG hSB hxB
 obtain ⟨u0,u1,u2,u3,u4,u5,u6,u7,u8,u9,u10,u11⟩:=HBF.out.cells
 go_wp2_with fail
 refine (HT.out b _ HSB.out (HE.out.ext HXB.out)).mono ?_
 rintro _ w2 ⟨rfl,hx2⟩
 have HX2:=Lib.hid hx2;have HE2:=Lib.hid (HE.out.ext (HXB.out.trans hx2))
 clear hx2 u0 u1 u2 u3 u4 u5 u6 u7 u8 u9 u10 u11
 go_wp2_with fail
 refine (HA1.out _ HE2.out).mono ?_
 rintro _ w3 ⟨rfl,hx3⟩
 have HX3:=Lib.hid (HX2.out.trans hx3);have HE3:=Lib.hid (HE2.out.ext hx3)
 clear hx3
 go_wp2_with fail
 refine (HA2.out _ HE3.out).mono ?_
 rintro _ w4 ⟨rfl,hx4⟩
 have HX4:=Lib.hid (HX3.out.trans hx4);have HE4:=Lib.hid (HE3.out.ext hx4)
 clear hx4
 go_wp2_with fail
 refine (HA3.out _ HE4.out).mono ?_
 rintro _ w5 ⟨rfl,hx5⟩
 have HX5:=Lib.hid (HX4.out.trans hx5);have HE5:=Lib.hid (HE4.out.ext hx5)
 clear hx5
 have hcv:=conv_lit w5 10 10 rfl
 have HXA:=Lib.hid (HX5.out.alloc (.cells #[.int .u8 10] 5))
 have HEA:=Lib.hid (HE5.out.ext ((Ext.refl w5).alloc (.cells #[.int .u8 10] 5)))
 have hcat:(S++⟨#[10]⟩++S:ByteArray).data.toList=S.data.toList++[10]++S.data.toList:=by simp
 have HPS:=Lib.hid (HPL.out (S++⟨#[10]⟩++S) hcat _ HEA.out)
 clear hcat
 go_wp2_with fail
 refine HPS.out.mono ?_
 rintro _ w6 ⟨rfl,hx6⟩
 have HX6:=Lib.hid (HXA.out.trans hx6)
 clear hx6 hcv
 obtain ⟨u0,u1,u2,u3,u4,u5,u6,u7,u8,u9,u10,u11⟩:=(HBF.out.ext HX6.out).cells
 obtain ⟨v0,v1,v2,v3,v4,v5,v6,v7,v8,v9,v10,v11⟩:=(HBG.out.ext HX6.out).cells
 have f7:=FS.new w6 [fX b,gX 103 b] (show 2≤maxLen by decide) (l2_in (HSB.out.ext HX6.out))
 have x7:=(Ext.refl w6).alloc (.cells #[.int .i64 100,.int .i64 5,.int .i64 10,.int .i64 2,.slice (some ⟨b,0,none⟩) 4 4,.slice (some ⟨b+1,0,none⟩) 1 1,.string ⟨#[82]⟩,.slice (some ⟨b+1+1,0,none⟩) 2 2,.string ⟨#[82]⟩,.int .i64 0,.int .i64 2,.int .u32 257,.int .i64 103,.int .i64 5,.int .i64 10,.int .i64 2,.slice (some ⟨b,0,none⟩) 4 4,.slice (some ⟨b+1,0,none⟩) 1 1,.string ⟨#[82]⟩,.slice (some ⟨b+1+1,0,none⟩) 2 2,.string ⟨#[82]⟩,.int .i64 24,.int .i64 0,.int .u32 0] 41)
 change FS (w6.alloc (.cells #[.int .i64 100,.int .i64 5,.int .i64 10,.int .i64 2,.slice (some ⟨b,0,none⟩) 4 4,.slice (some ⟨b+1,0,none⟩) 1 1,.string ⟨#[82]⟩,.slice (some ⟨b+1+1,0,none⟩) 2 2,.string ⟨#[82]⟩,.int .i64 0,.int .i64 2,.int .u32 257,.int .i64 103,.int .i64 5,.int .i64 10,.int .i64 2,.slice (some ⟨b,0,none⟩) 4 4,.slice (some ⟨b+1,0,none⟩) 1 1,.string ⟨#[82]⟩,.slice (some ⟨b+1+1,0,none⟩) 2 2,.string ⟨#[82]⟩,.int .i64 24,.int .i64 0,.int .u32 0] 41)) (.slice (some ⟨w6.heap.size,0,none⟩) 2 2) _ at f7
 obtain ⟨W7,e7⟩:∃ W,w6.alloc (.cells #[.int .i64 100,.int .i64 5,.int .i64 10,.int .i64 2,.slice (some ⟨b,0,none⟩) 4 4,.slice (some ⟨b+1,0,none⟩) 1 1,.string ⟨#[82]⟩,.slice (some ⟨b+1+1,0,none⟩) 2 2,.string ⟨#[82]⟩,.int .i64 0,.int .i64 2,.int .u32 257,.int .i64 103,.int .i64 5,.int .i64 10,.int .i64 2,.slice (some ⟨b,0,none⟩) 4 4,.slice (some ⟨b+1,0,none⟩) 1 1,.string ⟨#[82]⟩,.slice (some ⟨b+1+1,0,none⟩) 2 2,.string ⟨#[82]⟩,.int .i64 24,.int .i64 0,.int .u32 0] 41)=W:=⟨_,rfl⟩
 rw [e7] at f7 x7
 have HX7:=Lib.hid ((HXB.out.trans HX6.out).trans x7)
 have HC:=Lib.hid (codes2_at b _ W7 f7)
 clear f7 x7
 go_wp2_with fail
 refine HC.out.mono ?_
 rintro _ w8 ⟨⟨m,D,rfl,hm,hsz,h0,h24⟩,hx8⟩
 have HX8:=Lib.hid (HX7.out.trans hx8)
 have H0:=Lib.hid h0;have H24:=Lib.hid h24;have HSZ:=Lib.hid hsz
 unfold CMap at hm
 have hk0:=keyOf_int_mk (P:=Tryz.prog) Tryz.underlying3 (WalkArith.wf_i64 (show i64B 0 by unfold i64B;decide))
 have hk24:=keyOf_int_mk (P:=Tryz.prog) Tryz.underlying3 (WalkArith.wf_i64 (show i64B 24 by unfold i64B;decide))
 clear hx8 e7 h0 h24 hsz u0 u1 u2 u3 u4 u5 u6 u7 u8 u9 u10 u11 v0 v1 v2 v3 v4 v5 v6 v7 v8 v9 v10 v11
 obtain ⟨c0,hr0,ha0,_⟩:=hm.lookup_int lawInt Tryz.underlying60 Tryz.underlying3 (zeroInt _) hk0
 obtain ⟨c1,hr1,ha1,_⟩:=hm.lookup_int lawInt Tryz.underlying60 Tryz.underlying3 (zeroInt _) hk24
 obtain rfl:c0=1:=(by rw [H0.out] at ha0;injection ha0 with ha0;injection ha0 with _ ha0;exact ha0.symm)
 obtain rfl:c1=1:=(by rw [H24.out] at ha1;injection ha1 with ha1;injection ha1 with _ ha1;exact ha1.symm)
 have hl:=hm.len Tryz.underlying60 3
 rw [HSZ.out] at hl
 clear ha0 ha1 hk0 hk24
 go_wp2_with fail
 go_ret
 exact ⟨rfl,HX8.out⟩
end Go.Proofs.YtnjmndofcpnmeaaGreatDoor
namespace Go.Proofs.YtnjmndofcpnmeaaGreatDoor
end Go.Proofs.YtnjmndofcpnmeaaGreatDoor
namespace Go.Proofs.YtnjmndofcpnmeaaGreatDoor
open Go Go.RowKit
end Go.Proofs.YtnjmndofcpnmeaaGreatDoor
namespace Go.Proofs.YtnjmndofcpnmeaaGreatDoor
open Go Go.RowKit Go.Maps
set_option linter.unusedVariables false
theorem keyA_len {k:Int}(hk:i64B k){b:List UInt8}(hb:b.length≤1000):(keyA k b).length≤2000000:=by
 have h5:=itoa_len20 k hk.1 hk.2
 unfold keyA
 rw [List.length_append,List.length_cons]
 omega
end Go.Proofs.YtnjmndofcpnmeaaGreatDoor
namespace Go.Proofs.YtnjmndofcpnmeaaGreatDoor
open Go Go.RowKit
set_option linter.unusedVariables false
structure F12 (w:World) (p:Addr) (m:FV):Prop where
 cells:w.cell? p=some (.int .i64 m.t)∧w.cell? ⟨p.block,p.off+1,none⟩=some (.int .i64 m.mi)∧w.cell? ⟨p.block,p.off+2,none⟩=some (.int .i64 m.kd)∧w.cell? ⟨p.block,p.off+3,none⟩=some (.int .i64 m.fk)∧w.cell? ⟨p.block,p.off+4,none⟩=some (.slice m.FA m.fb.length m.fc)∧w.cell? ⟨p.block,p.off+5,none⟩=some (.slice m.CA m.cp.length m.cc)∧w.cell? ⟨p.block,p.off+6,none⟩=some (.string m.cr)∧w.cell? ⟨p.block,p.off+7,none⟩=some (.slice m.SA m.sp.length m.sc)∧w.cell? ⟨p.block,p.off+8,none⟩=some (.string m.sr)∧w.cell? ⟨p.block,p.off+9,none⟩=some (.int .i64 m.co)∧w.cell? ⟨p.block,p.off+10,none⟩=some (.int .i64 m.pr)∧w.cell? ⟨p.block,p.off+11,none⟩=some (.int .u32 (m.fl.toNat:Int))
theorem F12.ext {w w':World}{p:Addr}{m:FV}(h:F12 w p m)(hx:Ext w w'):F12 w' p m:=by
 obtain ⟨u0,u1,u2,u3,u4,u5,u6,u7,u8,u9,u10,u11⟩:=h.cells
 exact ⟨hx.cell u0,hx.cell u1,hx.cell u2,hx.cell u3,hx.cell u4,hx.cell u5,hx.cell u6,hx.cell u7,hx.cell u8,hx.cell u9,hx.cell u10,hx.cell u11⟩
theorem FS.f12 {w:World}{A:Option Addr}{n c:Nat}{xs:List FV}(h:FS w (.slice A n c) xs)(k:Nat)(hk:k<xs.length):xs[k].In w∧∃ ad,A=some ad∧F12 w (ad.add (k*12)) xs[k]:=by
 obtain ⟨hin,ad,e,u0,u1,u2,u3,u4,u5,u6,u7,u8,u9,u10,u11⟩:=h.at_ k hk
 exact ⟨hin,ad,e,⟨u0,u1,u2,u3,u4,u5,u6,u7,u8,u9,u10,u11⟩⟩
structure M2 (w:World) (p:Addr) (m:MV):Prop where
 cells:w.cell? p=some (.slice m.CA m.cp.length m.cc)∧w.cell? ⟨p.block,p.off+1,none⟩=some (.string m.cr)
theorem M2.ext {w w':World}{p:Addr}{m:MV}(h:M2 w p m)(hx:Ext w w'):M2 w' p m:=⟨hx.cell h.cells.1,hx.cell h.cells.2⟩
theorem ROW.m2 {w:World}{B:Nat}{A:Option Addr}{n c:Nat}{ms:List MV}(h:ROW EM 50 w B (.slice A n c) ms)(k:Nat)(hk:k<ms.length):ms[k].In w∧∃ ad,A=some ad∧M2 w (ad.add (k*7)) ms[k]:=by
 obtain ⟨A',c',e1,_,_,h4⟩:=h.cells
 injection e1 with e1 _ _
 subst e1
 obtain ⟨hin,ad,hA,hc⟩:=h4 k hk
 refine ⟨hin,ad,hA,⟨hc 0 _ rfl,?_⟩⟩
 rw [cell_addj w ad (k*7) 1 (by decide)]
 exact hc 1 _ rfl
def MV.cl (m:MV):MV:=⟨m.CA,m.cp,m.cc,m.cr,0,none,[],0,0,0,0⟩
theorem MV.In.cl {w:World}{m:MV}(h:m.In w):m.cl.In w:=⟨h.cp,RS.nil w⟩
end Go.Proofs.YtnjmndofcpnmeaaGreatDoor
