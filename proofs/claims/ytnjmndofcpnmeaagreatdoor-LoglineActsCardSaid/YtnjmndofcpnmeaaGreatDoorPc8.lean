/- Pc8. -/
import Derived.Test.YtnjmndofcpnmeaaGreatDoorPc0
import Derived.Test.YtnjmndofcpnmeaaGreatDoorPc7
import Derived.WalkMore
namespace Go.Proofs.YtnjmndofcpnmeaaGreatDoor
open Go Go.RowKit
set_option linter.unusedVariables false
theorem put_end {w0 W:World}{n:Nat}{v:Value}{r:ByteArray}(h:W.heap[n]? = some (.cells #[v,.string r] 37 (0,0)))(hx:Ext w0 W)(a b:Value)(hn:w0.heap.size≤n:=by first | exact Nat.le_refl _ | omega):
  W.cell? ⟨n,0,none⟩=some v∧W.cell? ⟨n,1,none⟩=some (.string r)∧W.frozen? ⟨n,0,none⟩=false∧W.frozen? ⟨n,1,none⟩=false ∧
  ∃ WF,(W.setCell ⟨n,0,none⟩ a).setCell ⟨n,1,none⟩ b=WF∧Ext w0 WF∧WF.cell? ⟨n,0,none⟩=some a∧WF.cell? ⟨n,1,none⟩=some b:=by
 have h1:(W.setCell ⟨n,0,none⟩ a).heap[n]? = some (.cells #[a,.string r] 37 (0,0)):=by rw [heap_setCell_same W n 0 _ _ _ h];rfl
 have h2:((W.setCell ⟨n,0,none⟩ a).setCell ⟨n,1,none⟩ b).heap[n]? = some (.cells #[a,b] 37 (0,0)):=by rw [heap_setCell_same _ n 1 _ _ _ h1];rfl
 exact ⟨by rw [cell_of_row _ _ 0 _ _ (0,0) h];rfl,by rw [cell_of_row _ _ 1 _ _ (0,0) h];rfl,frozen_of_row W n 0 _ _ h,frozen_of_row W n 1 _ _ h,_,rfl,(hx.setCell (p:=⟨n,0,none⟩) hn _).setCell (p:=⟨n,1,none⟩) hn _,by rw [cell_of_row _ _ 0 _ _ (0,0) h2];rfl,by rw [cell_of_row _ _ 1 _ _ (0,0) h2];rfl⟩
theorem err_end {w W:World} {pv qv:Value} {parts:List ByteArray} {part:List UInt8} (h:NPS w W pv qv parts part):
  W.cell? ⟨w.heap.size,0,none⟩=some (.slice none 0 0)∧W.cell? ⟨w.heap.size,1,none⟩=some (.string ⟨#[]⟩)∧W.frozen? ⟨w.heap.size,0,none⟩=false∧W.frozen? ⟨w.heap.size,1,none⟩=false ∧
  ∃ WF,(W.setCell ⟨w.heap.size,0,none⟩ (.slice none 0 0)).setCell ⟨w.heap.size,1,none⟩ (.string ⟨#[]⟩)=WF∧Ext w WF∧WF.cell? ⟨w.heap.size,0,none⟩=some (.slice none 0 0)∧WF.cell? ⟨w.heap.size,1,none⟩=some (.string ⟨#[]⟩):=
 put_end h.r0 h.ex _ _
theorem ob_shape3 {e:TypeId}{w:World}{B:Nat}{v:Value}{l:List UInt8}(h:OB e w B v l):∃ A n c,v=.slice A n c:=by
 obtain ⟨A,c,rfl⟩:=h.shape
 exact ⟨A,_,c,rfl⟩
theorem rs_shape8 {W:World}{v:Value}{ps:List ByteArray}(h:RS W v (sv ps)):∃ A c,v=.slice A ps.length c:=by
 obtain ⟨A,c,rfl,_⟩:=h
 exact ⟨A,c,by rw [sv_length]⟩
theorem dat_snoc (parts:List ByteArray)(part:List UInt8):dat (parts++[⟨part.toArray⟩])=dat parts++[part]:=by simp [dat]
theorem sizes_snoc {parts:List ByteArray}{part:List UInt8}(h:∀ p∈parts,p.size≤3000)(hp:part.length≤3000):∀ p∈parts++[(⟨part.toArray⟩:ByteArray)],p.size≤3000:=fun p hm=>by
 rcases List.mem_append.1 hm with hm | hm
 ·exact h p hm
 ·simp only [List.mem_singleton] at hm
  subst hm
  show part.toArray.size≤3000
  rw [List.size_toArray];exact hp
theorem scan_none {l:List UInt8}(h:scan [] [] l=none):∀ (ls:List (List UInt8)) (r:List UInt8),nameB ls r=true→textN ls r≠l:=fun ls r hv ht=>by
 rw [← ht,textN,scan_parts ls [] r (nameB_ne hv)] at h
 cases h
theorem scan_bad {l:List UInt8}{p:List (List UInt8)}{r:List UInt8}(h:scan [] [] l=some (p,r))(hb:nameB p r=false):∀ (ls:List (List UInt8)) (r:List UInt8),nameB ls r=true→textN ls r≠l:=fun ls t hv ht=>by
 rw [← ht,textN,scan_parts ls [] t (nameB_ne hv),List.nil_append] at h
 simp only [Option.some.injEq,Prod.mk.injEq] at h
 rw [← h.1,← h.2,hv] at hb
 cases hb
theorem scan_good {l:List UInt8}{p:List (List UInt8)}{r:List UInt8}(h:scan [] [] l=some (p,r)):textN p r=l:=by
 have:=scan_text l.length l [] [] p r (Nat.le_refl _) h
 simpa [partsT,esc] using this.symm
theorem rs_set {W:World}{B:Nat}{e:TypeId}{v u:Value}{xs:List Value}{k i:Nat}(h:W.ownsRow B e 1 v xs.length xs)(hk:k<B):(W.setCell ⟨k,i,none⟩ u).ownsRow B e 1 v xs.length xs:=
 h.kept (grown_set (grown_refl _ _) i _) (ne_far (fun j hj=>(World.ownsRow.lt h j hj).1) hk)
theorem rs_put {W W':World}{n:Nat}{v a b:Value}{xs:List Value}{B:Nat}{e:TypeId}{o:Obj}(_h0:W.heap[n]? = some o)(hx:Ext W W')(_hr:RS W v xs)(ho:W.ownsRow B e 1 v xs.length xs∧n<B):RS ((W'.setCell ⟨n,0,none⟩ a).setCell ⟨n,1,none⟩ b) v xs:=
 RS.of_own (rs_set (rs_set (ownsRow_ext8 ho.1 hx) ho.2) ho.2)
def PNmO (B:Nat)(l:List UInt8)(en:Ending)(w':World):Prop:=
 (∃ A c ps r,nameB (dat ps) r.data.toList=true∧textN (dat ps) r.data.toList=l∧en=.returned (.tuple #[.agg #[.slice A ps.length c,.string r],.int .i64 0])∧RS w' (.slice A ps.length c) (sv ps)∧∀ ad,A=some ad→B≤ad.block) ∨
 ((∀ (ls:List (List UInt8)) (r:List UInt8),nameB ls r=true→textN ls r≠l)∧en=.returned (.tuple #[.agg #[.slice none 0 0,.string ⟨#[]⟩],.int .i64 6]))
theorem own_blk {W:World}{B B':Nat}{e:TypeId}{A:Option Addr}{n c m:Nat}{xs:List Value}(h:W.ownsRow B e 1 (.slice A n c) m xs)(hB:B'≤B):∀ ad,A=some ad→B'≤ad.block:=by
 intro ad ha
 rcases h.2 with ⟨hv,_⟩ | ⟨g,cap,cur,hv,hb,_⟩
 ·injection hv with e1 _ _
  rw [e1] at ha;cases ha
 ·injection hv with e1 _ _
  rw [e1] at ha
  injection ha with ha
  subst ha
  exact Nat.le_trans hB hb
set_option maxRecDepth 100000 in
set_option maxHeartbeats 2000000 in
theorem NParse_own (s:ByteArray) (hs:s.size≤3000) (w:World):
  Calls Tryz.prog 102 #[.string s] w fun e w'=>PNmO w.heap.size s.data.toList e w'∧Ext w w':=by
 have hmf:∀ (fn:Fn) (first cap:Array Value) (w:World),(Instr.makeFunc fn first cap).run Tryz.prog w=.ok (.func fn first cap) w:=fun _ _ _ _=>rfl
 obtain ⟨i0,hi,hz0,hz1,hz2⟩:=info_parts u8info'
 have hN0:NPS w (((w.alloc (.cells #[.slice none 0 0,.string ⟨#[]⟩] 37)).alloc (.cells #[.slice none 0 0,.string ⟨#[]⟩] 37)).alloc (.cells #[.slice none 0 0] 32)) (.slice none 0 0) (.slice none 0 0) [] []:=by
  have a0:=heap_alloc_new w (.cells #[.slice none 0 0,.string ⟨#[]⟩] 37)
  have a1:=heap_alloc_new (w.alloc (.cells #[.slice none 0 0,.string ⟨#[]⟩] 37)) (.cells #[.slice none 0 0,.string ⟨#[]⟩] 37)
  have a2:=heap_alloc_new ((w.alloc (.cells #[.slice none 0 0,.string ⟨#[]⟩] 37)).alloc (.cells #[.slice none 0 0,.string ⟨#[]⟩] 37)) (.cells #[.slice none 0 0] 32)
  rw [World.size_alloc] at a1
  rw [World.size_alloc,World.size_alloc] at a2
  have x1:=(Ext.refl (w.alloc (.cells #[.slice none 0 0,.string ⟨#[]⟩] 37))).alloc (.cells #[.slice none 0 0,.string ⟨#[]⟩] 37)
  have x2:=(Ext.refl ((w.alloc (.cells #[.slice none 0 0,.string ⟨#[]⟩] 37)).alloc (.cells #[.slice none 0 0,.string ⟨#[]⟩] 37))).alloc (.cells #[.slice none 0 0] 32)
  exact ⟨(x1.trans x2).heap a0,x2.heap a1,a2,World.ownsRow_nil _ _ _ _,OB.nil _ _ _,(((Ext.refl w).alloc _).alloc _).alloc _⟩
 have HN0:=Lib.hid hN0;clear hN0
 go_enter Tryz.func102,Tryz.ntmps102
 go_wp2_with fail
 go_step3
 go_wp2_with fail
 go_step3
 go_wp2_with fail
 go_loopw [7] (fun i wr=>∃ (k:Nat) (parts:List ByteArray) (part:List UInt8) (pv qv:Value),k≤s.size∧i=.int .i64 k∧parts.length≤k∧part.length≤k∧Hid (scan [] [] s.data.toList=scan (dat parts) part (s.data.toList.drop k))∧Hid (∀ p∈parts,p.size≤3000)∧Hid (NPS w wr pv qv parts part)) (fun i _=>s.size-(intOf i).toNat)
 case atStart=>exact ⟨0,[],[],_,_,Nat.zero_le _,rfl,Nat.zero_le _,Nat.zero_le _,Lib.hid rfl,Lib.hid (by simp),HN0⟩
 case round=>
  obtain ⟨k,parts,part,pv,qv,hk,rfl,hpk,hqk,HSC,HPB,HN⟩:=hrel
  clear HN0
  by_cases hlt:k<s.size
  ·have HD:=Lib.hid (drop_byte s k hlt)
   by_cases h92:s[k].toNat=92
   ·have e92:((s[k].toNat:Int)==92)=true:=by rw [h92];rfl
    by_cases hke:k+1=s.size
    ·have hke':s.size=k+1:=hke.symm
     have HNO:=Lib.hid (scan_none (l:=s.data.toList) (by rw [HSC.out,HD.out,drop_end s (k+1) (by omega)];exact scan_end h92))
     clear h92 hke
     obtain ⟨z0,z1,y0,y1,WF,hWF,hxF,d0,d1⟩:=err_end HN.out
     have HXF:=Lib.hid hxF;clear hxF
     go_wp2_with fail
     rw [Exit.noGoto_ret]
     refine bodyPost_ret (v:=.tuple #[.agg #[.slice none 0 0,.string ⟨#[]⟩],.int .i64 6]) (by simp [results,Tryz.results102,go_sem,d0,d1];try rfl) rfl ?_
     exact ⟨.inr ⟨HNO.out,rfl⟩,HXF.out⟩
    ·have ek2:((k:Int)+1==(s.size:Int))=false:=by rw [beq_eq_false_iff_ne];omega
     have ek3:(k+1==s.size)=false:=by rw [beq_eq_false_iff_ne];omega
     have hk1:k+1<s.size:=by omega
     have HD2:=Lib.hid (drop_byte s (k+1) hk1)
     have HSP:=Lib.hid (special_at s[k+1] wr)
     cases hsp:spc s[k+1] with
     | false=>
      have HNO:=Lib.hid (scan_none (l:=s.data.toList) (by rw [HSC.out,HD.out,HD2.out,scan_bs h92,if_neg (by rw [hsp];simp)]))
      rw [hsp] at HSP
      clear h92 hke hsp
      go_wp2_with fail
      refine HSP.out.mono ?_
      rintro _ w' ⟨rfl,rfl⟩
      obtain ⟨z0,z1,y0,y1,WF,hWF,hxF,d0,d1⟩:=err_end HN.out
      have HXF:=Lib.hid hxF;clear hxF
      go_wp2_with fail
      rw [Exit.noGoto_ret]
      refine bodyPost_ret (v:=.tuple #[.agg #[.slice none 0 0,.string ⟨#[]⟩],.int .i64 6]) (by simp [results,Tryz.results102,go_sem,d0,d1];try rfl) rfl ?_
      exact ⟨.inr ⟨HNO.out,rfl⟩,HXF.out⟩
     | true=>
      have HS2:=Lib.hid (show scan [] [] s.data.toList=scan (dat parts) (part++[s[k+1]]) (s.data.toList.drop (k+1+1)) by rw [HSC.out,HD.out,HD2.out,scan_bs h92,if_pos hsp])
      rw [hsp] at HSP
      obtain ⟨d,hd⟩:∃ d,s[k+1]=d:=⟨_,rfl⟩
      rw [hd] at HS2 HSP
      clear h92 hke hsp
      go_wp2_with fail
      refine HSP.out.mono ?_
      rintro _ w' ⟨rfl,rfl⟩
      go_wp2_with fail
      refine wp_region_ext_tail 5 (fun i v' w'=>match i with | 4=>∃ b x,v'=.slice (some ⟨b,0,none⟩) 1 1∧BS w' (.slice (some ⟨b,0,none⟩) 1 1) [x]∧d=x | _=>False) (by kernel_rfl) (by kernel_rfl) ?_
      refine wpE_op rfl rfl (fun w' hw' K' hK'=>?_)
      have hE:=hw'.1
      have u0:=(row1 (HN.out.ext ((Ext.drew wr).trans hE)).r2).1
      go_step
      refine hK' _ ⟨_,rfl⟩ ?_
      clear hK' K' u0 hE hw' w'
      refine wpE_op rfl rfl (fun w' hw' K' hK'=>?_)
      go_step
      refine hK' _ ⟨_,rfl⟩ ?_
      clear hK' K' hw' w'
      refine wpE_op rfl rfl (fun w' hw' K' hK'=>?_)
      go_step
      refine hK' _ ⟨_,rfl⟩ ?_
      clear hK' K' hw' w'
      refine wpE_op rfl rfl (fun w' hw' K' hK'=>?_)
      go_step
      refine hK' _ ⟨_,rfl⟩ ?_
      clear hK' K' hw' w'
      refine wpE_call 44 rfl (by simp) rfl (fun w' hw' K' hK'=>?_) ?_
      ·go_step
       exact hK' _ _ ⟨_,rfl,_,_,rfl,BS.new' w' 5 _ _ rfl 1 rfl (by simp [maxLen]),by first | rfl | exact hd.symm⟩ ((Ext.refl w').alloc _)
      rintro _ w5 hE5 ⟨b5,_,rfl,hb5,rfl⟩
      simp only [Act.put,sT1,sT2,sT3]
      refine wpE_nil (fun w7 hw7=>?_)
      have HN7:=Lib.hid (HN.out.ext ((Ext.drew wr).trans hw7.1))
      have HB7:=Lib.hid (hb5.ext (hw7.2 44 w5 (by simp [adds])))
      clear hw7 hE5 hb5
      simp only [List.drop_succ_cons,List.drop_zero]
      go_wp2_with (at_builtin;refine wpList_append_bs _ rfl (.tmp 40) (.tmp 44) 32 rfl (w.heap.size+3) 5 i0 (.int .u8 0) Tryz.underlying32 hi hz0 hz1 hz2 rfl _ part rfl HN7.out.ob _ [d] rfl HB7.out ?hl1 ?hm1 ?_;rotate_right;intro v1 w1 hown1 hg1 _;obtain ⟨A1,n1,cap1,rfl⟩:=ob_shape3 hown1;obtain ⟨c2,f2⟩:=byte_cells HN7.out (Ext.refl _) hg1)
      case hl1=>simp;omega
      case hm1=>exact HN7.out.lt
      have HN8:=Lib.hid (HN7.out.byte (Ext.refl _) hg1 hown1)
      clear hg1 hown1
      go_roundw
      case rel=>exact ⟨k+1+1,parts,part++[d],pv,_,by omega,by go_num,by omega,by simp;omega,HS2,HPB,HN8⟩
      case measure=>simp [intOf];omega
   ·have e92:((s[k].toNat:Int)==92)=false:=by rw [beq_eq_false_iff_ne];omega
    by_cases h47:s[k].toNat=47
    ·have e47:((s[k].toNat:Int)==47)=true:=by rw [h47];rfl
     have HS2:=Lib.hid (show scan [] [] s.data.toList=scan (dat (parts++[⟨part.toArray⟩])) [] (s.data.toList.drop (k+1)) by rw [HSC.out,HD.out,dat_snoc];exact scan_sl h47)
     clear h92 h47
     go_wp2_with fail
     refine (NEnd_at w pv qv parts part (by omega) (by omega) wr HN.out).mono ?_
     rintro _ w2 ⟨rfl,pv2,hN2⟩
     have HN2:=Lib.hid hN2;clear hN2
     go_wp2_with fail
     go_roundw
     case rel=>exact ⟨k+1,parts++[⟨part.toArray⟩],[],pv2,_,by omega,by go_num,by simp;omega,by simp,HS2,Lib.hid (sizes_snoc HPB.out (by omega)),HN2⟩
     case measure=>simp [intOf];omega
    ·have e47:((s[k].toNat:Int)==47)=false:=by rw [beq_eq_false_iff_ne];omega
     by_cases h64:s[k].toNat=64
     ·have e64:((s[k].toNat:Int)==64)=true:=by rw [h64];rfl
      have HSC6:=Lib.hid (show scan [] [] s.data.toList=some (dat (parts++[⟨part.toArray⟩]),(s.extract (k+1) s.size).data.toList) by rw [HSC.out,HD.out,dat_snoc,extract_drop];exact scan_at h64)
      clear h92 h47 h64
      go_wp2_with fail
      refine (NEnd_at w pv qv parts part (by omega) (by omega) wr HN.out).mono ?_
      rintro _ w2 ⟨rfl,pv2,hN2⟩
      obtain ⟨ps6,hps6⟩:∃ ps6,parts++[(⟨part.toArray⟩:ByteArray)]=ps6:=⟨_,rfl⟩
      obtain ⟨R6,hR6⟩:∃ R6,s.extract (k+1) s.size=R6:=⟨_,rfl⟩
      have HPB6:=Lib.hid (show ∀ p∈ps6,p.size≤4294967280 from fun p hm=>by rw [← hps6] at hm;have:=sizes_snoc HPB.out (show part.length≤3000 by omega) p hm;omega)
      have HR6:=Lib.hid (show R6.size≤3000 by rw [← hR6,ByteArray.size_extract];omega)
      rw [hps6] at hN2 HSC6
      rw [hR6] at HSC6
      have c2:w2.cell? ⟨w.heap.size+1,1,none⟩=some (.string ⟨#[]⟩):=by rw [cell_of_row _ _ 1 _ _ (0,0) hN2.r1];rfl
      have f2:=frozen_of_row w2 (w.heap.size+1) 1 _ _ hN2.r1
      obtain ⟨W6,hW6⟩:∃ W6,w2.setCell ⟨w.heap.size+1,1,none⟩ (.string R6)=W6:=⟨_,rfl⟩
      have g6:w2.grownBy W6 (some (w.heap.size+1)):=hW6 ▸ grown_set (grown_refl _ _) 1 _
      have h61:W6.heap[w.heap.size+1]? = some (.cells #[pv2,.string R6] 37 (0,0)):=by rw [← hW6,heap_setCell_same w2 _ 1 _ _ _ hN2.r1];rfl
      have h60:=heap_far g6 hN2.r0 (by omega)
      have hx6:Ext w W6:=hN2.ex.grown g6 (fun j hj=>by injection hj with hj;omega)
      have how6:=hN2.ow.kept g6 (ne_far (fun j hj=>(World.ownsRow.lt hN2.ow j hj).1) (by omega))
      have hrs6:=RS.of_own how6
      have HOW6:=Lib.hid (show W6.ownsRow (w.heap.size+3) 9 1 pv2 (sv ps6).length (sv ps6)∧w.heap.size<w.heap.size+3 from ⟨how6,by omega⟩)
      clear hN2 g6 how6 hps6
      obtain ⟨A6,c6,rfl⟩:=rs_shape8 hrs6
      have HRS6:=Lib.hid hrs6
      obtain ⟨k60,k61⟩:=(show PB W6 (w.heap.size+1) _ _ from h61).cells
      have H61:=Lib.hid h61;have H60:=Lib.hid h60;have HX6:=Lib.hid hx6
      clear hrs6 h61 h60 hx6
      have hV:=NValid_at A6 c6 ps6 R6 HPB6.out (by have:=HR6.out;omega) W6 HRS6.out
      cases hnb:nameB (dat ps6) R6.data.toList with
      | false=>
       have HNB:=Lib.hid hnb
       rw [hnb] at hV
       have HV:=Lib.hid hV
       clear hV hnb
       go_wp2_with fail
       refine HV.out.mono ?_
       rintro _ w7 ⟨rfl,hx7⟩
       obtain ⟨z0,z1,y0,y1,WF,hWF,hxF,d0,d1⟩:=put_end (n:=w.heap.size) (hx7.heap H60.out) (HX6.out.trans hx7) (.slice none 0 0) (.string ⟨#[]⟩)
       have HXF:=Lib.hid hxF;clear hxF hx7
       go_wp2_with fail
       rw [Exit.noGoto_ret]
       refine bodyPost_ret (v:=.tuple #[.agg #[.slice none 0 0,.string ⟨#[]⟩],.int .i64 6]) (by simp [results,Tryz.results102,go_sem,d0,d1];try rfl) rfl ?_
       exact ⟨.inr ⟨scan_bad HSC6.out HNB.out,rfl⟩,HXF.out⟩
      | true=>
       have HNB:=Lib.hid hnb
       rw [hnb] at hV
       have HV:=Lib.hid hV
       clear hV hnb
       go_wp2_with fail
       refine HV.out.mono ?_
       rintro _ w7 ⟨rfl,hx7⟩
       obtain ⟨k70,k71⟩:=(show PB w7 (w.heap.size+1) _ _ from hx7.heap H61.out).cells
       obtain ⟨z0,z1,y0,y1,WF,hWF,hxF,d0,d1⟩:=put_end (n:=w.heap.size) (hx7.heap H60.out) (HX6.out.trans hx7) (.slice A6 ps6.length c6) (.string R6)
       have HXF:=Lib.hid hxF
       have HRF:=Lib.hid (show RS WF (.slice A6 ps6.length c6) (sv ps6) from hWF ▸ rs_put (H60.out) hx7 HRS6.out (HOW6.out))
       clear hxF hx7
       go_wp2_with fail
       rw [Exit.noGoto_ret]
       refine bodyPost_ret (v:=.tuple #[.agg #[.slice A6 ps6.length c6,.string R6],.int .i64 0]) (by simp [results,Tryz.results102,go_sem,d0,d1];try rfl) rfl ?_
       exact ⟨.inl ⟨A6,c6,ps6,R6,HNB.out,scan_good HSC6.out,rfl,HRF.out,own_blk HOW6.out.1 (by omega)⟩,HXF.out⟩
     ·have e64:((s[k].toNat:Int)==64)=false:=by rw [beq_eq_false_iff_ne];omega
      obtain ⟨d,hd⟩:∃ d,s[k]=d:=⟨_,rfl⟩
      have HS2:=Lib.hid (show scan [] [] s.data.toList=scan (dat parts) (part++[d]) (s.data.toList.drop (k+1)) by rw [HSC.out,HD.out,← hd];exact scan_ch h92 h47 h64)
      rw [hd] at e92 e47 e64
      clear h92 h47 h64
      have k2:=(row1 HN.out.r2).1
      have HN7:=Lib.hid (HN.out.ext ((Ext.refl wr).alloc (.cells #[.int .u8 (d.toNat:Int)] 5)))
      go_wp2_with (at_builtin;refine wpList_append_bs _ rfl (.tmp 20) (.tmp 22) 32 rfl (w.heap.size+3) 5 i0 (.int .u8 0) Tryz.underlying32 hi hz0 hz1 hz2 rfl _ part rfl HN7.out.ob _ [d] rfl (BS.new' _ 5 [.int .u8 (d.toNat:Int)] [d] rfl 1 rfl (by simp [maxLen])) ?hl2 ?hm2 ?_;rotate_right;intro v2 w2 hown2 hg2 _;obtain ⟨A2,n2,cap2,rfl⟩:=ob_shape3 hown2;obtain ⟨c2,f2⟩:=byte_cells HN7.out (Ext.refl _) hg2)
      case hl2=>simp;omega
      case hm2=>exact Nat.le_trans HN.out.lt (by simp)
      have HN8:=Lib.hid (HN7.out.byte (Ext.refl _) hg2 hown2)
      clear hg2 hown2
      go_roundw
      case rel=>exact ⟨k+1,parts,part++[d],pv,_,by omega,by go_num,by omega,by simp;omega,HS2,HPB,HN8⟩
      case measure=>simp [intOf];omega
  ·have HNO:=Lib.hid (scan_none (l:=s.data.toList) (by rw [HSC.out,drop_end s k hlt];rfl))
   obtain ⟨A6,c6,rfl⟩:=rs_shape8 (RS.of_own HN.out.ow)
   obtain ⟨k60,k61⟩:=(show PB wr (w.heap.size+1) _ _ from HN.out.r1).cells
   have hV:=NValid_at A6 c6 parts ⟨#[]⟩ (fun p hp=>by have:=HPB.out p hp;omega) (by decide) wr (RS.of_own HN.out.ow)
   have hnb:nameB (dat parts) (⟨#[]⟩:ByteArray).data.toList=false:=by unfold nameB;simp [realmB,sizedB]
   rw [hnb] at hV
   have HV:=Lib.hid hV
   clear hV hnb
   go_wp2_with fail
   refine HV.out.mono ?_
   rintro _ w7 ⟨rfl,hx7⟩
   obtain ⟨z0,z1,y0,y1,WF,hWF,hxF,d0,d1⟩:=err_end (HN.out.ext hx7)
   have HXF:=Lib.hid hxF;clear hxF hx7
   go_wp2_with fail
   rw [Exit.noGoto_ret]
   refine bodyPost_ret (v:=.tuple #[.agg #[.slice none 0 0,.string ⟨#[]⟩],.int .i64 6]) (by simp [results,Tryz.results102,go_sem,d0,d1];try rfl) rfl ?_
   exact ⟨.inr ⟨HNO.out,rfl⟩,HXF.out⟩
def ordB (a b:List UInt8):Int:=if Op.bytesLess a b=true then -1 else if (a==b)=true then 0 else 1
def cmpL:List (List UInt8)→List (List UInt8)→Int
 | [],[]=>0
 | [],_::_=>-1
 | _::_,[]=>1
 | a::l,b::m=>if ordB a b≠0 then ordB a b else cmpL l m
def cmpN (ps:List (List UInt8))(r:List UInt8)(qs:List (List UInt8))(t:List UInt8):Int:=if ordB r t≠0 then ordB r t else cmpL ps qs
theorem cmpL_drop {la lb:List (List UInt8)}{k:Nat}(h1:k<la.length)(h2:k<lb.length):cmpL (la.drop k) (lb.drop k)=if ordB la[k] lb[k]≠0 then ordB la[k] lb[k] else cmpL (la.drop (k+1)) (lb.drop (k+1)):=by
 rw [List.drop_eq_getElem_cons h1,List.drop_eq_getElem_cons h2,cmpL]
theorem cmpL_end {la lb:List (List UInt8)}{k:Nat}(hk1:k≤la.length)(hk2:k≤lb.length)(h:¬ (k<la.length∧k<lb.length)):cmpL (la.drop k) (lb.drop k)=if la.length<lb.length then -1 else if lb.length<la.length then 1 else 0:=by
 by_cases h1:k<la.length
 ·have h2:k=lb.length:=by omega
  rw [List.drop_eq_getElem_cons h1,List.drop_eq_nil_of_le (by omega:lb.length≤k),cmpL,if_neg (by omega),if_pos (by omega)]
 ·rw [List.drop_eq_nil_of_le (by omega:la.length≤k)]
  by_cases h2:k<lb.length
  ·rw [List.drop_eq_getElem_cons h2,cmpL,if_pos (by omega)]
  ·rw [List.drop_eq_nil_of_le (by omega:lb.length≤k),cmpL,if_neg (by omega),if_neg (by omega)]
theorem bless_irr:∀ (l:List UInt8),Op.bytesLess l l=false
 | []=>rfl
 | c::r=>by
  have h:=bless_irr r
  unfold Op.bytesLess
  simp [h]
theorem ordB_zero {a b:List UInt8}:ordB a b=0 ↔ a=b:=by
 unfold ordB
 constructor
 ·intro h
  split at h
  ·omega
  ·split at h
   ·rename_i h2;exact eq_of_beq h2
   ·omega
 ·rintro rfl
  rw [if_neg (by rw [bless_irr];simp),if_pos (beq_self_eq_true _)]
theorem cmpL_zero:∀ {la lb:List (List UInt8)},cmpL la lb=0 ↔ la=lb
 | [],[]=>by simp [cmpL]
 | [],_::_=>by simp [cmpL]
 | _::_,[]=>by simp [cmpL]
 | a::la,b::lb=>by
  rw [cmpL]
  by_cases h:ordB a b=0
  ·rw [if_neg (by simp [h]),cmpL_zero (la:=la) (lb:=lb),ordB_zero.1 h]
   simp
  ·rw [if_pos h]
   constructor
   ·intro e;exact absurd e h
   ·intro e;injection e with e1 _;exact absurd (ordB_zero.2 e1) h
theorem cmpN_zero {ps qs:List (List UInt8)}{r t:List UInt8}:cmpN ps r qs t=0 ↔ ps=qs∧r=t:=by
 unfold cmpN
 by_cases h:ordB r t=0
 ·rw [if_neg (by simp [h]),cmpL_zero]
  exact ⟨fun e=>⟨e,ordB_zero.1 h⟩,fun e=>e.1⟩
 ·rw [if_pos h]
  exact ⟨fun e=>absurd e h,fun e=>absurd (ordB_zero.2 e.2) h⟩
theorem isNaN_at (a:ByteArray) (w:World):
  Calls Tryz.prog 181 #[.string a] w fun e w'=>e=.returned (.bool false)∧w=w':=by
 have hb:(a.toList==a.toList)=true:=beq_self_eq_true _
 go_enter Tryz.func181,Tryz.ntmps181
 go_wp2
 go_ret
 exact ⟨rfl,rfl⟩
theorem cmpS_at (a b:ByteArray) (w:World):
  Calls Tryz.prog 131 #[.string a,.string b] w fun e w'=>e=.returned (.int .i64 (ordB a.data.toList b.data.toList))∧w=w':=by
 obtain ⟨x,hx⟩:∃ x,ordB a.data.toList b.data.toList=x:=⟨_,rfl⟩
 rw [hx]
 unfold ordB at hx
 have HA:=Lib.hid (isNaN_at a w)
 have HB:=Lib.hid (isNaN_at b w)
 cases h1:Op.bytesLess a.data.toList b.data.toList with
 | true=>
  rw [if_pos h1] at hx
  have e1:Op.bytesLess a.toList b.toList=true:=by rw [ByteArray.toList_eq,ByteArray.toList_eq];exact h1
  subst hx
  clear h1
  go_enter Tryz.func131,Tryz.ntmps131
  go_wp2_with fail
  refine HA.out.mono ?_
  rintro _ w1 ⟨rfl,rfl⟩
  go_wp2_with fail
  refine HB.out.mono ?_
  rintro _ w2 ⟨rfl,rfl⟩
  go_wp2_with fail
  go_ret
  exact ⟨rfl,rfl⟩
 | false=>
  rw [if_neg (by rw [h1];simp)] at hx
  have e1:Op.bytesLess a.toList b.toList=false:=by rw [ByteArray.toList_eq,ByteArray.toList_eq];exact h1
  cases h2:(a.data.toList==b.data.toList) with
  | true=>
   rw [if_pos h2] at hx
   have e2:(a.toList==b.toList)=true:=by rw [ByteArray.toList_eq,ByteArray.toList_eq];exact h2
   subst hx
   clear h1 h2
   go_enter Tryz.func131,Tryz.ntmps131
   go_wp2_with fail
   refine HA.out.mono ?_
   rintro _ w1 ⟨rfl,rfl⟩
   go_wp2_with fail
   refine HB.out.mono ?_
   rintro _ w2 ⟨rfl,rfl⟩
   go_wp2_with fail
   go_ret
   exact ⟨rfl,rfl⟩
  | false=>
   rw [if_neg (by rw [h2];simp)] at hx
   have e2:(a.toList==b.toList)=false:=by rw [ByteArray.toList_eq,ByteArray.toList_eq];exact h2
   subst hx
   clear h1 h2
   go_enter Tryz.func131,Tryz.ntmps131
   go_wp2_with fail
   refine HA.out.mono ?_
   rintro _ w1 ⟨rfl,rfl⟩
   go_wp2_with fail
   refine HB.out.mono ?_
   rintro _ w2 ⟨rfl,rfl⟩
   go_wp2_with fail
   go_ret
   exact ⟨rfl,rfl⟩
set_option maxRecDepth 100000 in
set_option maxHeartbeats 1000000 in
theorem sCompare_at (A:Option Addr) (c:Nat) (ps:List ByteArray) (B:Option Addr) (d:Nat) (qs:List ByteArray) (hn:ps.length≤1000) (hm:qs.length≤1000) (w:World) (hR:RS w (.slice A ps.length c) (sv ps)) (hQ:RS w (.slice B qs.length d) (sv qs)):
  Calls Tryz.prog 132 #[.slice A ps.length c,.slice B qs.length d] w fun e w'=>e=.returned (.int .i64 (cmpL (dat ps) (dat qs)))∧w=w':=by
 obtain ⟨X,hX⟩:∃ X,cmpL (dat ps) (dat qs)=X:=⟨_,rfl⟩
 rw [hX]
 have HX:=Lib.hid hX
 have HR:=Lib.hid hR;have HQ:=Lib.hid hQ
 clear hX hR hQ
 go_enter Tryz.func132,Tryz.ntmps132
 go_wp2_with fail
 go_loopw [11] (fun i wr=>∃ k:Nat,k≤ps.length∧k≤qs.length∧i=.int .i64 k∧Hid (cmpL ((dat ps).drop k) ((dat qs).drop k)=X)∧wr=w) (fun i _=>ps.length-(intOf i).toNat)
 case atStart=>exact ⟨0,Nat.zero_le _,Nat.zero_le _,rfl,HX,rfl⟩
 case round=>
  obtain ⟨k,hk1,hk2,rfl,HC,rfl⟩:=hrel
  by_cases h1:k<ps.length
  ·obtain ⟨A',c',he,e1,e2,e3⟩:=HR.out
   rw [sv_length] at e1 e3 he
   injection he with z1 _ z3
   subst z1;subst z3
   obtain ⟨ad,rfl,_,hcell⟩:=e3 (by omega)
   have g1:=hcell k _ (sv_get ps k h1)
   by_cases h2:k<qs.length
   ·obtain ⟨B',d',he',e1',e2',e3'⟩:=HQ.out
    rw [sv_length] at e1' e3' he'
    injection he' with z1' _ z3'
    subst z1';subst z3'
    obtain ⟨bd,rfl,_,hcell'⟩:=e3' (by omega)
    have g2:=hcell' k _ (sv_get qs k h2)
    have hlt:¬ (qs.length:Int)≤(k:Int):=by omega
    have HO:=Lib.hid (cmpS_at ps[k] qs[k] wr)
    have HD:=Lib.hid (show (if ordB ps[k].data.toList qs[k].data.toList≠0 then ordB ps[k].data.toList qs[k].data.toList else cmpL ((dat ps).drop (k+1)) ((dat qs).drop (k+1)))=X by
     rw [← HC.out,cmpL_drop (k:=k) (la:=dat ps) (lb:=dat qs) (by rw [dat_length];exact h1) (by rw [dat_length];exact h2)]
     simp [dat])
    obtain ⟨z,hz⟩:∃ z,ordB ps[k].data.toList qs[k].data.toList=z:=⟨_,rfl⟩
    rw [hz] at HO HD
    clear hcell hcell' e1 e2 e3 e1' e2' e3' hz
    go_wp2_with fail
    refine HO.out.mono ?_
    rintro _ w' ⟨rfl,rfl⟩
    by_cases hz0:z=0
    ·subst hz0
     have HD2:=Lib.hid (show cmpL ((dat ps).drop (k+1)) ((dat qs).drop (k+1))=X by have:=HD.out;rwa [if_neg (by simp)] at this)
     go_wp2_with fail
     go_roundw
     case rel=>exact ⟨k+1,by omega,by omega,by go_num,HD2,trivial⟩
     case measure=>simp [intOf];omega
    ·have hzb:(z != 0)=true:=by rw [bne_iff_ne];exact hz0
     have HD2:=Lib.hid (show z=X by have:=HD.out;rwa [if_pos hz0] at this)
     clear hz0
     go_wp2_with fail
     go_ret
     refine ⟨?_,rfl⟩
     rw [← HD2.out];rfl
   ·have HF:=Lib.hid (show (1:Int)=X by rw [← HC.out,cmpL_end (by rw [dat_length];exact hk1) (by rw [dat_length];exact hk2) (by rw [dat_length,dat_length];omega),dat_length,dat_length,if_neg (by omega),if_pos (by omega)])
    have hkq:k=qs.length:=by omega
    subst hkq
    clear hcell e1 e2 e3
    go_wp2_with fail
    go_ret
    refine ⟨?_,rfl⟩
    rw [← HF.out];rfl
  ·have hkp:k=ps.length:=by omega
   subst hkp
   by_cases h3:ps.length<qs.length
   ·have HF:=Lib.hid (show (-1:Int)=X by rw [← HC.out,cmpL_end (by rw [dat_length];exact hk1) (by rw [dat_length];exact hk2) (by rw [dat_length,dat_length];omega),dat_length,dat_length,if_pos h3])
    go_wp2_with fail
    go_ret
    refine ⟨?_,rfl⟩
    rw [← HF.out];rfl
   ·have HF:=Lib.hid (show (0:Int)=X by rw [← HC.out,cmpL_end (by rw [dat_length];exact hk1) (by rw [dat_length];exact hk2) (by rw [dat_length,dat_length];omega),dat_length,dat_length,if_neg h3,if_neg (by omega)])
    have heq:qs.length=ps.length:=by omega
    go_wp2_with fail
    go_ret
    refine ⟨?_,rfl⟩
    rw [← HF.out];rfl
theorem still_all {P:Program} {id:Nat} {Q:Exit→Act→World→Prop} {a:Act} {w:World} {l:List Oper} (hm:P.follows .mixedOrders=true) (hB:Region.lexB .any l.toArray=true)
  (h:wpStill P l.toArray w.drew (fun a'=>Q .normal a' w.drew) l a):(Code.region id l.toArray true).wp P Q a w:=wp_region_still_lit hm hB h
theorem eqL_drop {la lb:List (List UInt8)}{k:Nat}(h1:k<la.length)(h2:k<lb.length):(la.drop k=lb.drop k) ↔ (la[k]=lb[k]∧la.drop (k+1)=lb.drop (k+1)):=by
 rw [List.drop_eq_getElem_cons h1,List.drop_eq_getElem_cons h2,List.cons.injEq]
set_option maxRecDepth 100000 in
set_option maxHeartbeats 1000000 in
theorem sEqual_at (A:Option Addr) (c:Nat) (ps:List ByteArray) (B:Option Addr) (d:Nat) (qs:List ByteArray) (hn:ps.length≤1000) (hm:qs.length≤1000) (w:World) (hR:RS w (.slice A ps.length c) (sv ps)) (hQ:RS w (.slice B qs.length d) (sv qs)):
  Calls Tryz.prog 170 #[.slice A ps.length c,.slice B qs.length d] w fun e w'=>e=.returned (.bool (decide (dat ps=dat qs)))∧Ext w w':=by
 obtain ⟨X,hX⟩:∃ X,decide (dat ps=dat qs)=X:=⟨_,rfl⟩
 rw [hX]
 have HX:=Lib.hid (show decide ((dat ps).drop 0=(dat qs).drop 0)=X by rw [List.drop_zero,List.drop_zero];exact hX)
 have HR:=Lib.hid hR;have HQ:=Lib.hid hQ
 by_cases hl:ps.length=qs.length
 ·clear hX hR hQ
  have HL:=Lib.hid hl
  obtain ⟨n,hn0⟩:∃ n,qs.length=n:=⟨_,rfl⟩
  have HN:=Lib.hid hn0
  rw [hn0] at hl HQ hm ⊢
  rw [hl] at HR ⊢
  clear hl hn0 hn
  go_enter Tryz.func170,Tryz.ntmps170
  go_wp2_with fail
  go_loopw [13] (fun i wr=>∃ k:Nat,k≤n∧i=.int .i64 k∧Hid (decide ((dat ps).drop k=(dat qs).drop k)=X)∧Hid (Ext w wr)) (fun i _=>n-(intOf i).toNat)
  case atStart=>exact ⟨0,Nat.zero_le _,rfl,HX,Lib.hid (Ext.refl _)⟩
  case round=>
   obtain ⟨k,hk1,rfl,HC,HE⟩:=hrel
   by_cases h1:k<n
   ·have hp:k<ps.length:=by have:=HL.out;have:=HN.out;omega
    have hq:k<qs.length:=by have:=HN.out;omega
    obtain ⟨A',c',he,e1,e2,e3⟩:=(HR.out.ext HE.out).ext (Ext.drew wr)
    obtain ⟨B',d',he',e1',e2',e3'⟩:=(HQ.out.ext HE.out).ext (Ext.drew wr)
    rw [sv_length,HL.out,HN.out] at he
    rw [sv_length,HN.out] at he'
    injection he with z1 _ z3
    injection he' with z1' _ z3'
    subst z1;subst z3;subst z1';subst z3'
    obtain ⟨ad,rfl,_,hcell⟩:=e3 (by rw [sv_length];omega)
    obtain ⟨bd,rfl,_,hcell'⟩:=e3' (by rw [sv_length];omega)
    have g1:=hcell k _ (sv_get ps k hp)
    have g2:=hcell' k _ (sv_get qs k hq)
    have HD:=Lib.hid (show decide (ps[k].data.toList=qs[k].data.toList∧(dat ps).drop (k+1)=(dat qs).drop (k+1))=X by
     rw [← HC.out]
     apply decide_eq_decide.2
     rw [eqL_drop (k:=k) (la:=dat ps) (lb:=dat qs) (by rw [dat_length];exact hp) (by rw [dat_length];exact hq)]
     simp [dat])
    clear hcell hcell' e1 e2 e3 e1' e2' e3'
    generalize hpk:ps[k]=p at g1 HD
    generalize hqk:qs[k]=q at g2 HD
    clear hpk hqk hp hq
    by_cases hz:p.data.toList=q.data.toList
    ·have e0:(p.toList==q.toList)=true:=by rw [ByteArray.toList_eq,ByteArray.toList_eq,hz];exact beq_self_eq_true _
     have HD2:=Lib.hid (show decide ((dat ps).drop (k+1)=(dat qs).drop (k+1))=X by
      rw [← HD.out];apply decide_eq_decide.2;exact ⟨fun h=>⟨hz,h⟩,fun h=>h.2⟩)
     clear hz
     go_wp2_with fail
     refine still_all (by kernel_rfl) (by kernel_rfl) ?_
     repeat still_step
     refine wpStill_nil ?_
     go_wp2_with fail
     go_roundw
     case rel=>exact ⟨k+1,by omega,by go_num,HD2,Lib.hid (HE.out.trans (Ext.drew wr))⟩
     case measure=>simp [intOf];omega
    ·have e0:(p.toList==q.toList)=false:=by
      rw [ByteArray.toList_eq,ByteArray.toList_eq,beq_eq_false_iff_ne];exact hz
     have HD2:=Lib.hid (show false=X by
      rw [← HD.out];symm;apply decide_eq_false;exact fun h=>hz h.1)
     clear hz
     go_wp2_with fail
     refine still_all (by kernel_rfl) (by kernel_rfl) ?_
     repeat still_step
     refine wpStill_nil ?_
     go_wp2_with fail
     go_ret
     refine ⟨?_,HE.out.trans (Ext.drew wr)⟩
     rw [← HD2.out];rfl
   ·have hkp:k=n:=by omega
    subst hkp
    have HF:=Lib.hid (show true=X by
     rw [← HC.out];symm;apply decide_eq_true
     rw [List.drop_eq_nil_of_le (by rw [dat_length,HL.out,HN.out];exact Nat.le_refl _),List.drop_eq_nil_of_le (by rw [dat_length,HN.out];exact Nat.le_refl _)])
    go_wp2_with fail
    go_ret
    refine ⟨?_,HE.out⟩
    rw [← HF.out];rfl
 ·have HF:=Lib.hid (show false=X by
   rw [← hX];symm;apply decide_eq_false
   intro h
   have:=congrArg List.length h
   rw [dat_length,dat_length] at this
   exact hl this)
  have hz:((ps.length:Int) != (qs.length:Int))=true:=by rw [bne_iff_ne];omega
  clear hX hR hQ hl
  go_enter Tryz.func170,Tryz.ntmps170
  go_wp2_with fail
  go_ret
  refine ⟨?_,Ext.refl _⟩
  rw [← HF.out];rfl
set_option maxRecDepth 100000 in
set_option maxHeartbeats 1000000 in
theorem NEqual_at (A:Option Addr) (c:Nat) (ps:List ByteArray) (r:ByteArray) (B:Option Addr) (d:Nat) (qs:List ByteArray) (t:ByteArray) (hn:ps.length≤1000) (hm:qs.length≤1000) (w:World) (hR:RS w (.slice A ps.length c) (sv ps)) (hQ:RS w (.slice B qs.length d) (sv qs)):
  Calls Tryz.prog 126 #[.agg #[.slice A ps.length c,.string r],.agg #[.slice B qs.length d,.string t]] w fun e w'=>e=.returned (.bool (decide (dat ps=dat qs∧r.data.toList=t.data.toList)))∧Ext w w':=by
 have hT:=heap_alloc_new w (.cells #[.slice A ps.length c,.string r] 37)
 have hU:=heap_alloc_new (w.alloc (.cells #[.slice A ps.length c,.string r] 37)) (.cells #[.slice B qs.length d,.string t] 37)
 rw [World.size_alloc] at hU
 have x1:=(Ext.refl w).alloc (.cells #[.slice A ps.length c,.string r] 37)
 have x2:=(Ext.refl (w.alloc (.cells #[.slice A ps.length c,.string r] 37))).alloc (.cells #[.slice B qs.length d,.string t] 37)
 have hT2:=x2.heap hT
 have hx:=x1.trans x2
 obtain ⟨wb,hwb⟩:∃ wb,wb=(w.alloc (.cells #[.slice A ps.length c,.string r] 37)).alloc (.cells #[.slice B qs.length d,.string t] 37):=⟨_,rfl⟩
 rw [← hwb] at hT2 hU hx
 have HT:Hid (PB wb w.heap.size (.slice A ps.length c) r):=Lib.hid hT2
 have HU:Hid (PB wb (w.heap.size+1) (.slice B qs.length d) t):=Lib.hid hU
 have HXB:=Lib.hid hx
 have HC:=Lib.hid (sEqual_at A c ps B d qs hn hm wb (hR.ext hx) (hQ.ext hx))
 obtain ⟨q0,q1⟩:=HT.out.cells
 obtain ⟨q2,q3⟩:=HU.out.cells
 obtain ⟨X,hX⟩:∃ X,decide (dat ps=dat qs)=X:=⟨_,rfl⟩
 rw [hX] at HC
 obtain ⟨b,hb⟩:∃ b,decide (dat ps=dat qs∧r.data.toList=t.data.toList)=b:=⟨_,rfl⟩
 rw [hb]
 clear hT hT2 hU hx x1 x2 hR hQ
 by_cases hz:r.data.toList=t.data.toList
 ·have e0:(r.toList==t.toList)=true:=by rw [ByteArray.toList_eq,ByteArray.toList_eq,hz];exact beq_self_eq_true _
  have HBT:=Lib.hid (show X=b by
   rw [← hb,← hX];apply decide_eq_decide.2;exact ⟨fun h=>⟨h,hz⟩,fun h=>h.1⟩)
  clear hb hX hz
  go_enter Tryz.func126,Tryz.ntmps126
  go_wp2_with fail
  rw [← hwb]
  clear hwb
  refine HC.out.mono ?_
  rintro _ w2 ⟨rfl,hx2⟩
  have HX2:=Lib.hid (HXB.out.trans hx2);clear hx2
  go_wp2_with fail
  go_ret
  refine ⟨?_,HX2.out⟩
  rw [← HBT.out];rfl
 ·have e0:(r.toList==t.toList)=false:=by
   rw [ByteArray.toList_eq,ByteArray.toList_eq,beq_eq_false_iff_ne];exact hz
  have HBT:=Lib.hid (show b=false by rw [← hb];exact decide_eq_false (fun h=>hz h.2))
  clear hb hX hz
  go_enter Tryz.func126,Tryz.ntmps126
  go_wp2_with fail
  go_ret
  refine ⟨?_,hwb ▸ HXB.out⟩
  rw [HBT.out];rfl
end Go.Proofs.YtnjmndofcpnmeaaGreatDoor
