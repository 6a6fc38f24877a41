/- Pq21. -/
import Derived.Test.YtnjmndofcpnmeaaGreatDoorPq20
import Derived.Test.YtnjmndofcpnmeaaGreatDoorPq1
import Derived.Test.YtnjmndofcpnmeaaGreatDoorPq4
import Derived.Test.YtnjmndofcpnmeaaGreatDoorPq18
import Derived.Test.YtnjmndofcpnmeaaGreatDoorPq5
import Derived.Test.YtnjmndofcpnmeaaGreatDoorPq0
namespace Go.Proofs.YtnjmndofcpnmeaaGreatDoor
open Go Go.RowKit Go.Shelf
set_option linter.unusedVariables false
def lbRen:Go.Shelf.Ren:={ Tryz.lays156_ren with f:=fun n=>if n=167 then 34 else Tryz.lays156_ren.f n }
theorem lbLays:Go.Proofs.Lays.n167 Tryz.prog lbRen:={
 mixed:=by kernel_rfl
 f167:=Tryz.func34.trans (congrArg some (by kernel_rfl))
 f240:=Tryz.func98.trans (congrArg some (by kernel_rfl))
 f276:=Tryz.func144.trans (congrArg some (by kernel_rfl))
 t0:=Tryz.lays156.t0
 a0:=Tryz.lays156.a0
 z0:=Tryz.lays156.z0
 v0:=Tryz.lays156.v0
 t4:=Tryz.lays156.t4
 a4:=Tryz.lays156.a4
 z4:=Tryz.lays156.z4
 v4:=Tryz.lays156.v4
 t5:=Tryz.Builder_Extra_156.t5
 a5:=Tryz.Builder_Extra_156.a5
 z5:=Tryz.Builder_Extra_156.z5
 v5:=Tryz.Builder_Extra_156.v5
 t9:=Tryz.lays156.t9
 a9:=Tryz.lays156.a9
 z9:=Tryz.lays156.z9
 v9:=Tryz.lays156.v9
 t20:=Tryz.lays156.t20
 a20:=Tryz.lays156.a20
 z20:=Tryz.lays156.z20
 v20:=Tryz.lays156.v20
 t37:=Tryz.lays156.t37
 a37:=Tryz.lays156.a37
 z37:=Tryz.lays156.z37
 v37:=Tryz.lays156.v37
 t70:=Tryz.lays156.t70
 a70:=Tryz.lays156.a70
 z70:=Tryz.lays156.z70
 v70:=Tryz.lays156.v70
 t72:=Tryz.lays156.t72
 a72:=Tryz.lays156.a72
 z72:=Tryz.lays156.z72
 v72:=Tryz.lays156.v72
 t75:=Tryz.lays156.t75
 a75:=Tryz.lays156.a75
 z75:=Tryz.lays156.z75
 v75:=Tryz.lays156.v75
 t164:=Tryz.lays156.t164
 a164:=Tryz.lays156.a164
 z164:=Tryz.lays156.z164
 v164:=Tryz.lays156.v164 }
theorem lbExtra:Builder.Extra Tryz.prog lbRen:={
 sizeBuilder:=by kernel_rfl
 liesBuilder:=by kernel_rfl
 t5:=Tryz.Builder_Extra_156.t5
 a5:=Tryz.Builder_Extra_156.a5
 z5:=Tryz.Builder_Extra_156.z5
 v5:=Tryz.Builder_Extra_156.v5
 infoByte:=by kernel_rfl
 cellsByte:=by kernel_rfl
 sizeByte:=by kernel_rfl
 neB5:=by decide }
theorem lsLays:Go.Proofs.Lays.n166 Tryz.prog Tryz.lays156_ren:={ Tryz.lays156 with }
def BL (B b:Nat)(l:List UInt8)(w:World):Prop:=Lib.IsBuilder 81 5 B b (Lib.byteCells l) w
theorem WByte_at (B b:Nat) (l:List UInt8) (c:UInt8) (w:World) (h:BL B b l w) (hl:l.length+1≤100000000) (hB:B≤w.heap.size):
  Calls Tryz.prog 34 #[.pointer (some ⟨b,0,none⟩),.int .u8 (c.toNat:Int)] w fun e w'=>e=.returned .nilIface∧BL B b (l++[c]) w'∧Below B w w':=by
 refine (Any.Builder_WriteByte lbLays lbExtra B b (Lib.byteCells l) (c.toNat:Int) w h (by simp [Lib.byteCells];omega) hB).mono ?_
 rintro e w' ⟨rfl,h1,h2⟩
 refine ⟨rfl,.inr ?_,h2⟩
 have e:Lib.byteCells (l++[c])=Lib.byteCells l++[.int .u8 (c.toNat:Int)]:=by simp [Lib.byteCells]
 rw [e];exact h1
theorem WStr_at (B b:Nat) (l m:List UInt8) (w:World) (h:BL B b l w) (hl:l.length+m.length≤100000000) (hB:B≤w.heap.size):
  Calls Tryz.prog 33 #[.pointer (some ⟨b,0,none⟩),.string ⟨m.toArray⟩] w fun e w'=>(∃ n,e=.returned (.tuple #[.int .i64 n,.nilIface]))∧BL B b (l++m) w'∧Below B w w':=by
 have hs:(⟨m.toArray⟩:ByteArray).size=m.length:=by simp [ByteArray.size]
 refine (Any.Builder_WriteString lsLays Tryz.Builder_Extra_156 B b (Lib.byteCells l) ⟨m.toArray⟩ w h (by rw [hs];simp [Lib.byteCells];omega) hB).mono ?_
 rintro e w' ⟨rfl,h1,h2⟩
 refine ⟨⟨_,rfl⟩,.inr ?_,h2⟩
 have e:Lib.byteCells (l++m)=Lib.byteCells l++Lib.strCells ⟨m.toArray⟩:=by simp [Lib.byteCells,Lib.strCells]
 rw [e];exact h1
end Go.Proofs.YtnjmndofcpnmeaaGreatDoor
namespace Go.Proofs.YtnjmndofcpnmeaaGreatDoor
open Go Go.RowKit
set_option linter.unusedVariables false
theorem cell_addj (w:World)(a:Addr)(n j:Nat)(hj:0<j):w.cell? ⟨(a.add n).block,(a.add n).off+j,none⟩=w.cell? (a.add (n+j)):=by
 rw [← add_of_add]
 conv=>rhs;unfold Addr.add
 rw [if_neg (by omega)]
 rfl
theorem FS.at_ {w:World}{A:Option Addr}{n c:Nat}{xs:List FV}(h:FS w (.slice A n c) xs)(k:Nat)(hk:k<xs.length):xs[k].In w∧∃ ad,A=some ad∧w.cell? (ad.add (k*12))=some (.int .i64 xs[k].t)∧w.cell? ⟨(ad.add (k*12)).block,(ad.add (k*12)).off+1,none⟩=some (.int .i64 xs[k].mi)∧w.cell? ⟨(ad.add (k*12)).block,(ad.add (k*12)).off+2,none⟩=some (.int .i64 xs[k].kd)∧w.cell? ⟨(ad.add (k*12)).block,(ad.add (k*12)).off+3,none⟩=some (.int .i64 xs[k].fk)∧w.cell? ⟨(ad.add (k*12)).block,(ad.add (k*12)).off+4,none⟩=some (.slice xs[k].FA xs[k].fb.length xs[k].fc)∧w.cell? ⟨(ad.add (k*12)).block,(ad.add (k*12)).off+5,none⟩=some (.slice xs[k].CA xs[k].cp.length xs[k].cc)∧w.cell? ⟨(ad.add (k*12)).block,(ad.add (k*12)).off+6,none⟩=some (.string xs[k].cr)∧w.cell? ⟨(ad.add (k*12)).block,(ad.add (k*12)).off+7,none⟩=some (.slice xs[k].SA xs[k].sp.length xs[k].sc)∧w.cell? ⟨(ad.add (k*12)).block,(ad.add (k*12)).off+8,none⟩=some (.string xs[k].sr)∧w.cell? ⟨(ad.add (k*12)).block,(ad.add (k*12)).off+9,none⟩=some (.int .i64 xs[k].co)∧w.cell? ⟨(ad.add (k*12)).block,(ad.add (k*12)).off+10,none⟩=some (.int .i64 xs[k].pr)∧w.cell? ⟨(ad.add (k*12)).block,(ad.add (k*12)).off+11,none⟩=some (.int .u32 (xs[k].fl.toNat:Int)):=by
 obtain ⟨A',c',he,_,_,h4⟩:=h
 injection he with e1 e2 e3
 subst e1
 obtain ⟨k1,ad,rfl,k3⟩:=h4 k hk
 refine ⟨k1,ad,rfl,?_,?_,?_,?_,?_,?_,?_,?_,?_,?_,?_,?_⟩
 ·exact k3 0 _ rfl
 ·rw [cell_addj w ad (k*12) 1 (by decide)];exact k3 1 _ rfl
 ·rw [cell_addj w ad (k*12) 2 (by decide)];exact k3 2 _ rfl
 ·rw [cell_addj w ad (k*12) 3 (by decide)];exact k3 3 _ rfl
 ·rw [cell_addj w ad (k*12) 4 (by decide)];exact k3 4 _ rfl
 ·rw [cell_addj w ad (k*12) 5 (by decide)];exact k3 5 _ rfl
 ·rw [cell_addj w ad (k*12) 6 (by decide)];exact k3 6 _ rfl
 ·rw [cell_addj w ad (k*12) 7 (by decide)];exact k3 7 _ rfl
 ·rw [cell_addj w ad (k*12) 8 (by decide)];exact k3 8 _ rfl
 ·rw [cell_addj w ad (k*12) 9 (by decide)];exact k3 9 _ rfl
 ·rw [cell_addj w ad (k*12) 10 (by decide)];exact k3 10 _ rfl
 ·rw [cell_addj w ad (k*12) 11 (by decide)];exact k3 11 _ rfl
theorem FS.shape {w:World}{v:Value}{xs:List FV}(h:FS w v xs):∃ A c,v=.slice A xs.length c∧xs.length≤c∧c≤maxLen:=let ⟨A,c,h1,h2,h3,_⟩:=h;⟨A,c,h1,h2,h3⟩
def logR (fs:List Fct)(b:Bool):Value:=.tuple #[.string ⟨(bif b then logT fs else []).toArray⟩,.int .i64 (bif b then 0 else 2)]
theorem log_len (fs:List Fct)(h:∀ f∈fs,f.Ok):(logT fs).length≤1201*fs.length:=by
 induction fs with
 | nil=>exact Nat.zero_le _
 | cons f fs ih=>
  have h1:=ih (fun g hg=>h g (List.mem_cons_of_mem _ hg))
  have h2:=txt_len (h f (by simp))
  rw [logT_cons,List.length_append,List.length_cons,List.length_cons]
  omega
theorem BL.ext {B b:Nat}{l:List UInt8}{w w':World}(h:BL B b l w)(hx:Ext w w'):BL B b l w':=by
 have key:∀ {p:Value},Lib.BuilderAt 81 5 B b p (Lib.byteCells l) w→Lib.BuilderAt 81 5 B b p (Lib.byteCells l) w':=by
  rintro p ⟨h1,v,h2,h3,h4⟩
  exact ⟨h1,v,hx.heap h2,h3.kept (hx.but none) (by cases hv:v.ownBlock<;>simp),h4⟩
 exact h.imp key key
theorem ext_below {w0 w w':World}(h:Ext w0 w)(k:Below w0.heap.size w w'):Ext w0 w':=Below.trans h k
set_option maxRecDepth 100000 in
set_option maxHeartbeats 4000000 in
theorem LLog_at (A:Option Addr) (c:Nat) (xs:List FV) (w:World) (hF:FS w (.slice A xs.length c) xs) (hn:xs.length≤1000) (hz:∀ x∈xs,x.Sz) (hE:EnvA w):
  Calls Tryz.prog 11 #[.slice A xs.length c] w fun e w'=>e=.returned (logR (xs.map FV.fct) (xs.all fun x=>x.fct.ok))∧Ext w w':=by
 have HF:=Lib.hid hF;have HZ:=Lib.hid hz;have HE:=Lib.hid hE
 obtain ⟨_,c',he,hc1,hc2⟩:=hF.shape
 injection he with e1 _ e3
 subst e1;subst e3
 unfold maxLen at hc2
 obtain ⟨n,hn'⟩:∃ n,xs.length=n:=⟨_,rfl⟩
 have HN:=Lib.hid hn'
 have hb0:BL w.heap.size w.heap.size [] (w.alloc (.cells #[.pointer none,.slice none 0 0] 81)):=.inl ⟨Nat.le_refl _,_,heap_alloc_new w _,World.ownsRow_nil _ _ _ _,by simp [Value.ownBlock]⟩
 have HB0:=Lib.hid hb0;have HX0:=Lib.hid ((Ext.refl w).alloc (.cells #[.pointer none,.slice none 0 0] 81))
 clear hF hz hE hb0
 rw [hn'] at hc1 hn ⊢
 clear hn'
 go_enter Tryz.func11,Tryz.ntmps11
 go_wp2_with fail
 go_loopw [6,7,8,11] (fun _ _ _ i wr=>∃ k:Nat,i=.int .i64 (k:Int)∧k≤n∧Hid (∀ x∈xs.take k,x.fct.Ok)∧Hid (BL w.heap.size w.heap.size (logT ((xs.take k).map FV.fct)) wr)∧Hid (Ext w wr)) (fun _ _ _ i _=>n-(intOf i).toNat)
 case atStart=>exact ⟨0,rfl,by omega,Lib.hid (fun x hx=>by simp at hx),HB0,HX0⟩
 case round=>
  obtain ⟨k,rfl,hk,HO,HB,HX⟩:=hrel
  by_cases hlt:k<n
  ·have hlx:k<xs.length:=by rw [HN.out];exact hlt
   have hF:=HF.out.ext HX.out
   obtain ⟨hin,ad,rfl,u0,u1,u2,u3,u4,u5,u6,u7,u8,u9,u10,u11⟩:=hF.at_ k hlx
   have hsz:=HZ.out xs[k] (List.getElem_mem hlx)
   have HTK:=Lib.hid (show (xs.take (k+1)).map FV.fct=(xs.take k).map FV.fct++[xs[k].fct] by rw [List.take_succ_eq_append_getElem hlx,List.map_append,List.map_cons,List.map_nil])
   have HTO:=Lib.hid (show xs[k].fct.Ok→∀ x∈xs.take (k+1),x.fct.Ok from fun h x hx=>by
    rw [List.take_succ_eq_append_getElem hlx] at hx
    rcases List.mem_append.1 hx with hx | hx
    ·exact HO.out x hx
    ·rw [List.mem_singleton] at hx
     exact hx ▸ h)
   have HNO:=Lib.hid (show xs[k].fct.ok=false→(xs.all fun x=>x.fct.ok)=false from fun h=>by
    rw [List.all_eq_false]
    exact ⟨xs[k],List.getElem_mem hlx,by rw [h];simp⟩)
   have HLL:=Lib.hid (show (logT ((xs.take k).map FV.fct)).length≤1201*k from by
    have h1:=log_len ((xs.take k).map FV.fct) (fun f hf=>by obtain ⟨x,hx,rfl⟩:=List.mem_map.1 hf;exact HO.out x hx)
    rw [List.length_map,List.length_take] at h1
    exact Nat.le_trans h1 (Nat.mul_le_mul_left _ (Nat.min_le_left _ _)))
   have HLS:=Lib.hid (show logT ((xs.take (k+1)).map FV.fct)=(logT ((xs.take k).map FV.fct)++xs[k].fct.txt)++[10] by rw [HTK.out,logT_snoc,List.append_assoc])
   generalize xs[k]=f at *
   generalize logT ((xs.take k).map FV.fct)=LK at HB HLL HLS
   clear HTK
   have hbx:=FBx.new wr f
   have hxa:=(Ext.refl wr).alloc (.cells #[.int .i64 f.t,.int .i64 f.mi,.int .i64 f.kd,.int .i64 f.fk,.slice f.FA f.fb.length f.fc,.slice f.CA f.cp.length f.cc,.string f.cr,.slice f.SA f.sp.length f.sc,.string f.sr,.int .i64 f.co,.int .i64 f.pr,.int .u32 (f.fl.toNat:Int)] 41)
   obtain ⟨Wa,ea⟩:∃ Wa,wr.alloc (.cells #[.int .i64 f.t,.int .i64 f.mi,.int .i64 f.kd,.int .i64 f.fk,.slice f.FA f.fb.length f.fc,.slice f.CA f.cp.length f.cc,.string f.cr,.slice f.SA f.sp.length f.sc,.string f.sr,.int .i64 f.co,.int .i64 f.pr,.int .u32 (f.fl.toNat:Int)] 41)=Wa:=⟨_,rfl⟩
   rw [ea] at hbx hxa
   obtain ⟨v0,v1,v2,v3,v4,v5,v6,v7,v8,v9,v10,v11⟩:=fv_cells hbx
   have HXA:=Lib.hid (HX.out.trans hxa)
   have hEa:=HE.out.ext HXA.out
   have hina:=hin.ext hxa
   cases hok:f.fct.ok with
   | false=>
    have HT:=Lib.hid (LText_no f Wa hina hsz hEa hok)
    have HAF:=Lib.hid (HNO.out hok)
    unfold FV.val at HT
    clear hbx hxa hin hsz hEa hina hok hF hlx
    go_wp2_with fail
    refine HT.out.mono ?_
    rintro _ w2 ⟨rfl,hx2⟩
    have HX2:=Lib.hid (HXA.out.trans hx2)
    clear hx2
    go_wp2_with fail
    go_ret2
    rw [HAF.out]
    exact ⟨rfl,HX2.out⟩
   | true=>
    have HT:=Lib.hid (LText_yes f Wa hina hsz hEa hok)
    have HOK:=Lib.hid ((Fct.ok_iff _).1 hok)
    have HTL:=Lib.hid (txt_len HOK.out)
    have HBA:=Lib.hid (HB.out.ext hxa)
    have HB0A:=Lib.hid (show w.heap.size≤Wa.heap.size from HXA.out.size)
    have HLK:=Lib.hid (show LK.length≤1201000 by have:=HLL.out;omega)
    have HTO2:=Lib.hid (HTO.out HOK.out)
    unfold FV.val at HT
    generalize f.fct.txt=L at *
    clear hbx hxa hin hsz hEa hina hok hF hlx
    go_wp2_with fail
    refine HT.out.mono ?_
    rintro _ w2 ⟨rfl,hx2⟩
    have HX2:=Lib.hid (HXA.out.trans hx2)
    have HB2:=Lib.hid (HBA.out.ext hx2)
    clear hx2 u0 u1 u2 u3 u4 u5 u6 u7 u8 u9 u10 u11 v0 v1 v2 v3 v4 v5 v6 v7 v8 v9 v10 v11
    go_wp2_with fail
    refine (WStr_at w.heap.size w.heap.size LK L w2 HB2.out (by have:=HLK.out;have:=HTL.out;omega) HX2.out.size).mono ?_
    rintro _ w3 ⟨⟨nn,rfl⟩,hb3,hbl3⟩
    have HB3:=Lib.hid hb3;have HX3:=Lib.hid (ext_below HX2.out hbl3)
    clear hb3 hbl3
    go_wp2_with fail
    refine (WByte_at w.heap.size w.heap.size (LK++L) 10 w3 HB3.out (by have:=HLK.out;have:=HTL.out;rw [List.length_append];omega) HX3.out.size).mono ?_
    rintro _ w4 ⟨rfl,hb4,hbl4⟩
    have HB4:=Lib.hid (show BL w.heap.size w.heap.size (logT ((xs.take (k+1)).map FV.fct)) w4 by rw [HLS.out];exact hb4);have HX4:=Lib.hid (ext_below HX3.out hbl4)
    clear hb4 hbl4
    go_wp2_with fail
    go_roundw
    case rel=>exact ⟨k+1,by go_num,by omega,HTO2,HB4,HX4⟩
    case measure=>simp [intOf];omega
  ·obtain rfl:k=n:=by omega
   have htk:xs.take k=xs:=List.take_of_length_le (by rw [HN.out];exact Nat.le_refl _)
   have hall:(xs.all fun x=>x.fct.ok)=true:=by
    rw [List.all_eq_true]
    intro x hx
    exact (Fct.ok_iff _).2 (HO.out x (by rw [htk];exact hx))
   have HALL:=Lib.hid hall
   have hS:=Tryz.Builder_String_any w.heap.size w.heap.size (logT ((xs.take k).map FV.fct)) wr HB.out HX.out.size
   rw [htk] at hS
   have HS:=Lib.hid hS
   clear hlt htk hall hS
   go_wp2_with fail
   refine HS.out.mono ?_
   rintro _ w2 ⟨rfl,hbl⟩
   have HX2:=Lib.hid (ext_below HX.out hbl)
   clear hbl
   go_wp2_with fail
   go_ret2
   rw [HALL.out]
   exact ⟨rfl,HX2.out⟩
end Go.Proofs.YtnjmndofcpnmeaaGreatDoor
namespace Go.Proofs.YtnjmndofcpnmeaaGreatDoor
open Go Go.RowKit Go.WideShapes Go.ChangeShapes Go.ChangeAt Go.Deep
set_option linter.unusedVariables false
theorem i64_of_wf {a:Int}(h:(Lit.int .i64 a).wf=true):i64B a:=by
 simp only [Lit.wf,IntKind.min,IntKind.max,IntKind.signed,IntKind.bits,Bool.and_eq_true] at h
 unfold i64B
 simp at h
 omega
theorem u32_of_wf {a:Int}(h:(Lit.int .u32 a).wf=true):0≤a∧a≤4294967295:=by
 simp only [Lit.wf,IntKind.min,IntKind.max,IntKind.signed,IntKind.bits,Bool.and_eq_true] at h
 simp at h
 omega
theorem rs_of_field {H:Type} {enc:TypeId × Value→H} {P:Program} {ts te:TypeId} (hts:P.underlying ts=some (.slice te)) (hte:P.underlying te=some .string) (hce:P.cellsOf te=1) {W:World} {v:Value} {n:Nat} {y:DataW H × List MemPlace}
  (hf:DataW.trod enc P W 0 (fun _=>true) true n ts [v]=some y):∃ (A:Option Addr) (c:Nat) (ps:List ByteArray),v=.slice A ps.length c∧RS W (.slice A ps.length c) (sv ps):=by
 rcases Go.Deep.open_strs hts hte hce hf with ⟨hcs,_⟩ | ⟨a,len,cap,m,Sx,hcs,_,hl,hm,hmm,_,hcell⟩
 ·simp only [List.cons.injEq,and_true] at hcs
  subst hcs
  exact ⟨none,0,[],rfl,RS.nil W⟩
 ·simp only [List.cons.injEq,and_true] at hcs
  subst hcs
  simp only [if_true] at hmm
  have hlen:((List.range len).map Sx).length=len:=by simp
  refine ⟨some a,cap,(List.range len).map Sx,by rw [hlen],?_⟩
  rw [hlen]
  refine ⟨some a,cap,by rw [sv_length,hlen],by rw [sv_length,hlen];exact hl,hm,fun hp=>⟨a,rfl,?_,fun j u hu=>?_⟩⟩
  ·rw [sv_length,hlen] at hp
   have:=World.block_lt_of_cell? W (a.add 0) (hcell 0 (by omega)).1
   rwa [block_of_add] at this
  ·have hj:j<len:=by
    have:=(List.getElem?_eq_some_iff.1 hu).1
    rwa [sv_length,hlen] at this
   rw [(hcell j (by omega)).1]
   rw [sv_get _ j (by rw [hlen];exact hj)] at hu
   rw [← hu]
   simp
theorem cells_int:Tryz.prog.cellsOf 3=1:=by kernel_rfl
theorem cells_kind:Tryz.prog.cellsOf 31=1:=by kernel_rfl
theorem cells_adr:Tryz.prog.cellsOf 34=2:=by kernel_rfl
theorem cells_prin:Tryz.prog.cellsOf 37=2:=by kernel_rfl
theorem cells_flags:Tryz.prog.cellsOf 39=1:=by kernel_rfl
theorem cells_fact:Tryz.prog.cellsOf 41=12:=by kernel_rfl
theorem cells_bs:Tryz.prog.cellsOf 32=1:=by kernel_rfl
theorem cells_ss:Tryz.prog.cellsOf 35=1:=by kernel_rfl
theorem cells_str:Tryz.prog.cellsOf 9=1:=by kernel_rfl
section
variable {H:Type} {enc:TypeId × Value→H} {W:World} {n:Nat}
theorem adr_of_cs {a b:Value}{x:DataW H × List MemPlace}(h:DataW.trod enc Tryz.prog W 0 (fun _=>true) true n 34 [a,b]=some x):∃ (k:Int) (A:Option Addr) (c:Nat) (l:List UInt8),a=.int .i64 k∧b=.slice A l.length c∧BS W (.slice A l.length c) l∧i64B k:=by
 obtain ⟨xs,m,_,_,hl,hlen,hf⟩:=DataW.trod_struct Tryz.underlying34 h
 match xs,hlen with
 | [y0,y1],_=>
  have k0:DataW.trod enc Tryz.prog W 0 (fun _=>true) true m 3 (([a,b].drop 0).take (Tryz.prog.cellsOf 3))=some y0:=hf 0 _ rfl
  have k1:DataW.trod enc Tryz.prog W 0 (fun _=>true) true m 32 (([a,b].drop 1).take (Tryz.prog.cellsOf 32))=some y1:=hf 1 _ rfl
  rw [cells_int] at k0
  rw [cells_bs] at k1
  obtain ⟨k,e0,_,w0⟩:=DataW.trod_int Tryz.underlying3 (show DataW.trod enc Tryz.prog W 0 (fun _=>true) true m 3 [a]=some y0 from k0)
  obtain ⟨A,c,l,e1,hl⟩:=bs_of_field Tryz.underlying32 Tryz.underlying5 (by kernel_rfl) (show DataW.trod enc Tryz.prog W 0 (fun _=>true) true m 32 [b]=some y1 from k1)
  simp only [List.cons.injEq,and_true] at e0
  exact ⟨k,A,c,l,e0,e1,hl,i64_of_wf w0⟩
theorem prin_of_cs {a b:Value}{x:DataW H × List MemPlace}(h:DataW.trod enc Tryz.prog W 0 (fun _=>true) true n 37 [a,b]=some x):∃ (A:Option Addr) (c:Nat) (ps:List ByteArray) (r:ByteArray),a=.slice A ps.length c∧b=.string r∧RS W (.slice A ps.length c) (sv ps):=by
 obtain ⟨xs,m,_,_,hl,hlen,hf⟩:=DataW.trod_struct Tryz.underlying37 h
 match xs,hlen with
 | [y0,y1],_=>
  have k0:DataW.trod enc Tryz.prog W 0 (fun _=>true) true m 35 (([a,b].drop 0).take (Tryz.prog.cellsOf 35))=some y0:=hf 0 _ rfl
  have k1:DataW.trod enc Tryz.prog W 0 (fun _=>true) true m 9 (([a,b].drop 1).take (Tryz.prog.cellsOf 9))=some y1:=hf 1 _ rfl
  rw [cells_ss] at k0
  rw [cells_str] at k1
  obtain ⟨A,c,ps,e0,hr⟩:=rs_of_field Tryz.underlying35 Tryz.underlying9 (by kernel_rfl) (show DataW.trod enc Tryz.prog W 0 (fun _=>true) true m 35 [a]=some y0 from k0)
  obtain ⟨s,e1,_,_⟩:=DataW.trod_string Tryz.underlying9 (show DataW.trod enc Tryz.prog W 0 (fun _=>true) true m 9 [b]=some y1 from k1)
  simp only [List.cons.injEq,and_true] at e1
  exact ⟨A,c,ps,s,e0,e1,hr⟩
set_option maxRecDepth 100000 in
theorem fact_of_cs {cs:List Value}{x:DataW H × List MemPlace}(h:DataW.trod enc Tryz.prog W 0 (fun _=>true) true n 41 cs=some x):∃ f:FV,cs=f.cs∧f.In W∧f.Wf:=by
 obtain ⟨xs,m,_,_,hl,hlen,hf⟩:=DataW.trod_struct Tryz.underlying41 h
 rw [cells_fact] at hl
 match cs,hl,hf with
 | [c0,c1,c2,c3,c4,c5,c6,c7,c8,c9,c10,c11],_,hf=>
  match xs,hlen,hf with
  | [y0,y1,y2,y3,y4,y5,y6,y7,y8],_,hf=>
   have k0:DataW.trod enc Tryz.prog W 0 (fun _=>true) true m 3 (([c0,c1,c2,c3,c4,c5,c6,c7,c8,c9,c10,c11].drop 0).take (Tryz.prog.cellsOf 3))=some y0:=hf 0 _ rfl
   have k1:DataW.trod enc Tryz.prog W 0 (fun _=>true) true m 3 (([c0,c1,c2,c3,c4,c5,c6,c7,c8,c9,c10,c11].drop 1).take (Tryz.prog.cellsOf 3))=some y1:=hf 1 _ rfl
   have k2:DataW.trod enc Tryz.prog W 0 (fun _=>true) true m 31 (([c0,c1,c2,c3,c4,c5,c6,c7,c8,c9,c10,c11].drop 2).take (Tryz.prog.cellsOf 31))=some y2:=hf 2 _ rfl
   have k3:DataW.trod enc Tryz.prog W 0 (fun _=>true) true m 34 (([c0,c1,c2,c3,c4,c5,c6,c7,c8,c9,c10,c11].drop 3).take (Tryz.prog.cellsOf 34))=some y3:=hf 3 _ rfl
   have k4:DataW.trod enc Tryz.prog W 0 (fun _=>true) true m 37 (([c0,c1,c2,c3,c4,c5,c6,c7,c8,c9,c10,c11].drop 5).take (Tryz.prog.cellsOf 37))=some y4:=hf 4 _ rfl
   have k5:DataW.trod enc Tryz.prog W 0 (fun _=>true) true m 37 (([c0,c1,c2,c3,c4,c5,c6,c7,c8,c9,c10,c11].drop 7).take (Tryz.prog.cellsOf 37))=some y5:=hf 5 _ rfl
   have k6:DataW.trod enc Tryz.prog W 0 (fun _=>true) true m 3 (([c0,c1,c2,c3,c4,c5,c6,c7,c8,c9,c10,c11].drop 9).take (Tryz.prog.cellsOf 3))=some y6:=hf 6 _ rfl
   have k7:DataW.trod enc Tryz.prog W 0 (fun _=>true) true m 3 (([c0,c1,c2,c3,c4,c5,c6,c7,c8,c9,c10,c11].drop 10).take (Tryz.prog.cellsOf 3))=some y7:=hf 7 _ rfl
   have k8:DataW.trod enc Tryz.prog W 0 (fun _=>true) true m 39 (([c0,c1,c2,c3,c4,c5,c6,c7,c8,c9,c10,c11].drop 11).take (Tryz.prog.cellsOf 39))=some y8:=hf 8 _ rfl
   rw [cells_int] at k0 k1 k6 k7
   rw [cells_kind] at k2
   rw [cells_adr] at k3
   rw [cells_prin] at k4 k5
   rw [cells_flags] at k8
   obtain ⟨t,e0,_,w0⟩:=DataW.trod_int Tryz.underlying3 (show DataW.trod enc Tryz.prog W 0 (fun _=>true) true m 3 [c0]=some y0 from k0)
   obtain ⟨mi,e1,_,w1⟩:=DataW.trod_int Tryz.underlying3 (show DataW.trod enc Tryz.prog W 0 (fun _=>true) true m 3 [c1]=some y1 from k1)
   obtain ⟨kd,e2,_,w2⟩:=DataW.trod_int Tryz.underlying31 (show DataW.trod enc Tryz.prog W 0 (fun _=>true) true m 31 [c2]=some y2 from k2)
   obtain ⟨fk,FA,fc,fb,e3,e4,h3,w3⟩:=adr_of_cs (show DataW.trod enc Tryz.prog W 0 (fun _=>true) true m 34 [c3,c4]=some y3 from k3)
   obtain ⟨CA,cc,cp,cr,e5,e6,h4⟩:=prin_of_cs (show DataW.trod enc Tryz.prog W 0 (fun _=>true) true m 37 [c5,c6]=some y4 from k4)
   obtain ⟨SA,sc,sp,sr,e7,e8,h5⟩:=prin_of_cs (show DataW.trod enc Tryz.prog W 0 (fun _=>true) true m 37 [c7,c8]=some y5 from k5)
   obtain ⟨co,e9,_,w6⟩:=DataW.trod_int Tryz.underlying3 (show DataW.trod enc Tryz.prog W 0 (fun _=>true) true m 3 [c9]=some y6 from k6)
   obtain ⟨pr,e10,_,w7⟩:=DataW.trod_int Tryz.underlying3 (show DataW.trod enc Tryz.prog W 0 (fun _=>true) true m 3 [c10]=some y7 from k7)
   obtain ⟨fl,e11,_,w8⟩:=DataW.trod_int Tryz.underlying39 (show DataW.trod enc Tryz.prog W 0 (fun _=>true) true m 39 [c11]=some y8 from k8)
   obtain ⟨F,rfl⟩:=u32_of fl (u32_of_wf w8).1 (u32_of_wf w8).2
   simp only [List.cons.injEq,and_true] at e0 e1 e2 e9 e10 e11
   subst e0;subst e1;subst e2;subst e3;subst e4;subst e5;subst e6;subst e7;subst e8;subst e9;subst e10;subst e11
   exact ⟨⟨t,mi,kd,fk,FA,fb,fc,CA,cp,cc,cr,SA,sp,sc,sr,co,pr,F⟩,rfl,⟨h3,h4,h5⟩,⟨i64_of_wf w0,i64_of_wf w1,i64_of_wf w2,w3,i64_of_wf w6,i64_of_wf w7⟩⟩
end
set_option maxRecDepth 100000 in
theorem facts_of_trod {H:Type} {enc:TypeId × Value→H} {r:Reach} {base:Nat} {W:World} {v:Value} {d:DataW H} {qs:List MemPlace}
  (hv:Value.okWide Tryz.prog W r base 22 v) (h:DataW.Trod enc Tryz.prog W 0 (fun _=>true) true 22 v d qs):∃ (A:Option Addr) (c:Nat) (xs:List FV),v=.slice A xs.length c∧FS W (.slice A xs.length c) xs∧∀ f∈xs,f.Wf:=by
 obtain ⟨a0,len,cap,rfl⟩:=okWide_slice Tryz.underlying22 hv
 obtain ⟨fuel,hf⟩:=h
 rcases open_slice Tryz.underlying22 hf with ⟨hcs,_⟩ | ⟨a,len',cap',m,n,D,Pl,hcs,_,hl,hm,hmm,_,hrow⟩
 ·simp only [Value.cells,List.cons.injEq,and_true,Value.slice.injEq] at hcs
  obtain ⟨rfl,rfl,rfl⟩:=hcs
  exact ⟨none,0,[],rfl,FS.nil W,fun f h=>by cases h⟩
 ·simp only [Value.cells,List.cons.injEq,and_true,Value.slice.injEq] at hcs
  obtain ⟨rfl,rfl,rfl⟩:=hcs
  simp only [if_true] at hmm
  have key:∀ i,i<len→∃ f:FV,f.In W∧f.Wf∧∀ j u,f.cs[j]? = some u→W.cell? (a.add (i*12+j))=some u:=by
   intro i hi'
   obtain ⟨cs',hc,ht⟩:=hrow i (by omega)
   obtain ⟨f,e,h1,h2⟩:=fact_of_cs ht
   rw [cells_fact] at hc
   obtain ⟨_,hcl,hat⟩:=World.cells?_some hc
   refine ⟨f,h1,h2,fun j u hu=>?_⟩
   have hj:j<12:=by
    have:=(List.getElem?_eq_some_iff.1 hu).1
    exact this
   rw [← Go.Deep.add_add,hat j hj,e,hu]
  have key2:∃ g:Nat→FV,∀ i,i<len→(g i).In W∧(g i).Wf∧∀ j u,(g i).cs[j]? = some u→W.cell? (a.add (i*12+j))=some u:=
   ⟨fun i=>if hi':i<len then Classical.choose (key i hi') else fv0,fun i hi'=>by
    have:=Classical.choose_spec (key i hi')
    simpa only [dif_pos hi'] using this⟩
  obtain ⟨g,hg⟩:=key2
  have hlen:((List.range len).map g).length=len:=by simp
  refine ⟨some a,cap,(List.range len).map g,by rw [hlen],⟨some a,cap,rfl,by rw [hlen];exact hl,hm,fun i hi'=>?_⟩,fun f hf=>?_⟩
  ·have hi2:i<len:=by rwa [hlen] at hi'
   have e:((List.range len).map g)[i]=g i:=by simp
   rw [e]
   exact ⟨(hg i hi2).1,a,rfl,(hg i hi2).2.2⟩
  ·obtain ⟨i,hi,rfl⟩:=List.mem_map.1 hf
   exact (hg i (List.mem_range.1 hi)).2.1
end Go.Proofs.YtnjmndofcpnmeaaGreatDoor
namespace Go.Proofs.YtnjmndofcpnmeaaGreatDoor
open Go Go.RowKit
set_option linter.unusedVariables false
structure Ek (α:Type) where
 k:Nat
 kp:0<k
 cs:α→List Value
 len:∀ x,(cs x).length=k
 one:∀ x,∀ u∈cs x,u.oneCell'=true
 no8:∀ x,∀ u∈cs x,∀ n,u≠.int .u8 n
 In:World→α→Prop
 Blk:α→Nat→Prop
 blt:∀ w x b,In w x→Blk x b→b<w.heap.size
 keep:∀ w w' x row,In w x→w.grownBy w' row→(∀ b,row=some b→NoU8 w b∧¬ Blk x b)→In w' x
section
variable {α:Type} (E:Ek α)
theorem Ek.ext {w w':World}{x:α}(h:E.In w x)(hx:Ext w w'):E.In w' x:=E.keep w w' x none h (hx.but none) (fun b e=>by cases e)
def Ek.all (xs:List α):List Value:=xs.flatMap E.cs
theorem Ek.all_len:∀ xs:List α,(E.all xs).length=xs.length*E.k
 | []=>by simp [Ek.all]
 | x::xs=>by
  have h:=Ek.all_len xs
  unfold Ek.all at h ⊢
  rw [List.flatMap_cons,List.length_append,E.len,h,List.length_cons,Nat.succ_mul,Nat.add_comm]
theorem Ek.all_append (xs ys:List α):E.all (xs++ys)=E.all xs++E.all ys:=by simp [Ek.all]
theorem Ek.all_one (x:α):E.all [x]=E.cs x:=by simp [Ek.all]
theorem Ek.all_get:∀ (xs:List α) (i j:Nat) (h:i<xs.length),j<E.k→(E.all xs)[i*E.k+j]? = (E.cs xs[i])[j]?
 | [],i,j,h,_=>by simp at h
 | x::xs,0,j,h,hj=>by
  unfold Ek.all
  rw [List.flatMap_cons,Nat.zero_mul,Nat.zero_add,List.getElem?_append_left (by rw [E.len];exact hj)]
  rfl
 | x::xs,i+1,j,h,hj=>by
  have hh:=Ek.all_get xs i j (by simpa using h) hj
  unfold Ek.all at hh ⊢
  rw [List.flatMap_cons,List.getElem?_append_right (by rw [E.len,Nat.succ_mul];omega),E.len,show (i+1)*E.k+j-E.k=i*E.k+j by rw [Nat.succ_mul];omega]
  exact hh
def ROW (e:TypeId)(w:World)(B:Nat)(v:Value)(xs:List α):Prop:=
 (∀ r,v.ownBlock=some r→NoU8 w r)∧w.ownsRow B e E.k v xs.length (E.all xs)∧∀ x∈xs,E.In w x∧∀ b,v.ownBlock=some b→¬ E.Blk x b
variable {E} {e:TypeId} {w w':World} {B:Nat} {v:Value} {xs ys:List α}
theorem ROW.nil (e:TypeId)(w:World)(B:Nat):ROW E e w B (.slice none 0 0) []:=⟨fun r h=>by simp [Value.ownBlock] at h,World.ownsRow_nil _ _ _ _,fun x h=>by cases h⟩
theorem ROW.lt (h:ROW E e w B v xs):∀ b,v.ownBlock=some b→B≤b∧b<w.heap.size:=World.ownsRow.lt h.2.1
theorem ROW.shape (h:ROW E e w B v xs):∃ A c,v=.slice A xs.length c:=by
 rcases h.2.1.2 with ⟨rfl,h0⟩ | ⟨g,cap,cur,rfl,_⟩
 ·exact ⟨none,0,by rw [h0]⟩
 ·exact ⟨_,cap,rfl⟩
theorem ROW.keep (h:ROW E e w B v xs){row:Option Nat}(hg:w.grownBy w' row)(hne:∀ b,row=some b→v.ownBlock≠some b∧NoU8 w b∧∀ x∈xs,¬ E.Blk x b):ROW E e w' B v xs:=by
 obtain ⟨h0,h1,h2⟩:=h
 refine ⟨fun r hr=>(h0 r hr).same (hg.block r (World.ownsRow.lt h1 r hr).2 (fun e'=>(hne r e'.symm).1 hr)),h1.kept hg ?_,fun x hx=>⟨E.keep w w' x row (h2 x hx).1 hg (fun b hb=>⟨(hne b hb).2.1,(hne b hb).2.2 x hx⟩),(h2 x hx).2⟩⟩
 cases hv:v.ownBlock with
 | none=>exact .inl rfl
 | some r=>exact .inr (fun e'=>(hne r e'.symm).1 hv)
theorem ROW.ext (h:ROW E e w B v xs)(hx:Ext w w'):ROW E e w' B v xs:=h.keep (hx.but none) (fun b e=>by cases e)
theorem ROW.down {B':Nat}(h:ROW E e w B v xs)(hB:B'≤B):ROW E e w B' v xs:=by
 obtain ⟨h0,⟨h1,h2⟩,h3⟩:=h
 refine ⟨h0,⟨h1,?_⟩,h3⟩
 rcases h2 with h | ⟨g,cap,cur,e1,e2,r⟩
 ·exact .inl h
 ·exact .inr ⟨g,cap,cur,e1,Nat.le_trans hB e2,r⟩
theorem ROW.cells (h:ROW E e w B v xs):∃ A c,v=.slice A xs.length c∧xs.length≤c∧c≤maxLen∧∀ i (hi:i<xs.length),E.In w xs[i]∧∃ ad,A=some ad∧∀ j u,(E.cs xs[i])[j]? = some u→w.cell? (ad.add (i*E.k+j))=some u:=by
 obtain ⟨_,h1,h2⟩:=h
 rcases h1.2 with ⟨rfl,h0⟩ | ⟨g,cap,cur,rfl,hb,hg,hnc,hcm,_⟩
 ·exact ⟨none,0,by rw [h0],by omega,by unfold maxLen;omega,fun i hi=>by omega⟩
 ·refine ⟨some ⟨g,0,none⟩,cap,rfl,hnc,hcm,fun i hi=>⟨(h2 _ (List.getElem_mem hi)).1,_,rfl,fun j u hu=>?_⟩⟩
  have hj:j<E.k:=by rw [← E.len xs[i]];exact (List.getElem?_eq_some_iff.1 hu).1
  exact h1.cells rfl _ _ (by rw [E.all_get xs i j hi hj];exact hu)
end
section
variable {α:Type} {E:Ek α} {P:Program}
theorem run_append_row (w:World) (base:Nat) (t ty e:TypeId) (i:TypeInfo) (z:Value) (bytes:Nat) (ht:P.underlying t=some (.slice e)) (hi:P.info? e=some i) (hz:i.zero=some z)
  (hsize:i.size=E.k) (hby:i.bytes=bytes) (hzs:z.cells.size=E.k) (hzn:∀ x∈z.cells.toList,∀ n,x≠.int .u8 n)
  (v:Value) (xs:List α) (hown:ROW E e w base v xs) (ad:Addr) (c:Nat) (ys:List α) (hy0:0<ys.length) (hnews:∀ j u,(E.all ys)[j]? = some u→w.cell? (ad.add j)=some u)
  (hys:∀ y∈ys,E.In w y∧∀ b,v.ownBlock=some b→¬ E.Blk y b)
  (hbytes:(xs.length+ys.length)*bytes≤140737488355328) (hby0:0<bytes) (hbase:base≤w.heap.size):
  ∃ v' w',(Builtin.append_ #[t,t] ty #[v,.slice (some ad) ys.length c]).run P w=.ok v' w'∧ROW E e w' base v' (xs++ys)∧w.grownBy w' v.ownBlock∧(v'.ownBlock=v.ownBlock∨v'.ownBlock=some w.heap.size):=by
 obtain ⟨h0,h1,h2⟩:=hown
 have h63:xs.length+ys.length≤maxLen:=by
  have:xs.length+ys.length≤(xs.length+ys.length)*bytes:=Nat.le_mul_of_pos_right _ hby0
  unfold maxLen;omega
 have hone:∀ u∈E.all ys,u.oneCell'=true:=by
  intro u hu
  unfold Ek.all at hu
  obtain ⟨y,_,hu⟩:=List.mem_flatMap.1 hu
  exact E.one y u hu
 have hno8:∀ u∈E.all ys,∀ n,u≠.int .u8 n:=by
  intro u hu
  unfold Ek.all at hu
  obtain ⟨y,_,hu⟩:=List.mem_flatMap.1 hu
  exact E.no8 y u hu
 obtain ⟨v',w',hrun,g1,g2,_,g3⟩:=run_append_own_at (P:=P) w base t ty e i z E.k bytes ht hi hz hsize hby hzs E.kp v xs.length (E.all xs) h1 ad ys.length c (E.all ys) (E.all_len ys) hnews hone h63 hbytes hbase
 have g4:=append_noU8 (P:=P) w base t ty e i z E.k bytes ht hi hz hsize hby hzs E.kp v xs.length (E.all xs) h1 ad ys.length c (E.all ys) (E.all_len ys) hnews hone hy0 h63 hbytes h0 hzn hno8 v' w' hrun
 have key:∀ x,(E.In w x∧∀ b,v.ownBlock=some b→¬ E.Blk x b)→E.In w' x∧∀ b,v'.ownBlock=some b→¬ E.Blk x b:=by
  rintro x ⟨k1,k2⟩
  refine ⟨E.keep w w' x v.ownBlock k1 g2 (fun b hb=>⟨h0 b hb,k2 b hb⟩),fun b hb hB=>?_⟩
  rcases g3 with g | g
  ·exact k2 b (g ▸ hb) hB
  ·rw [g] at hb
   injection hb with hb
   have:=E.blt w x b k1 hB
   omega
 refine ⟨v',w',hrun,⟨g4,?_,fun x hx=>?_⟩,g2,g3⟩
 ·rw [E.all_append,List.length_append];exact g1
 ·rcases List.mem_append.1 hx with hx | hx
  ·exact key x (h2 x hx)
  ·exact key x (hys x hx)
theorem wpList_append_row (w:World) {ops:Array Oper} {rest:List Oper} {o:Oper} {a:Act} {Q:Exit→Act→World→Prop} (hgd:o.guard=none) (s x:Operand) (t:TypeId)
  (ho:o.op=.call { callee:=.builtin .append,args:=#[s,x],argTypes:=#[t,t] })
  (base:Nat) (e:TypeId) (i:TypeInfo) (z:Value) (bytes:Nat) (ht:P.underlying t=some (.slice e)) (hi:P.info? e=some i) (hz:i.zero=some z)
  (hsize:i.size=E.k) (hby:i.bytes=bytes) (hzs:z.cells.size=E.k) (hzn:∀ x∈z.cells.toList,∀ n,x≠.int .u8 n)
  (v:Value) (xs:List α) (hs:a.eval s=v) (hown:ROW E e w base v xs) (ad:Addr) (c:Nat) (ys:List α) (hx:a.eval x=.slice (some ad) ys.length c) (hy0:0<ys.length) (hnews:∀ j u,(E.all ys)[j]? = some u→w.cell? (ad.add j)=some u)
  (hys:∀ y∈ys,E.In w y∧∀ b,v.ownBlock=some b→¬ E.Blk y b)
  (hbytes:(xs.length+ys.length)*bytes≤140737488355328) (hby0:0<bytes) (hbase:base≤w.heap.size)
  (h:∀ v' w',ROW E e w' base v' (xs++ys)→w.grownBy w' v.ownBlock→(v'.ownBlock=v.ownBlock∨v'.ownBlock=some w.heap.size)→wpList P ops Q rest (a.put o.dst v') w'):wpList P ops Q (o::rest) a w:=by
 refine wpList_plain hgd fun K hK=>?_
 obtain ⟨v',w',hrun,h2,h3,h4⟩:=run_append_row (P:=P) w base t o.type e i z bytes ht hi hz hsize hby hzs hzn v xs hown ad c ys hy0 hnews hys hbytes hby0 hbase
 unfold Oper.wp execOp
 simp only [ho,resolve,invoke,builtin,Sem.run_bind,Sem.run_pure,Result.andThen_ok,List.map_toArray,List.map_cons,List.map_nil,hs,hx,hrun]
 exact hK _ _ (h v' w' h2 h3 h4)
theorem wpListIn_append_row {F:Fence} {n:Nat} (w:World) {ops:Array Oper} {rest:List Oper} {o:Oper} {a:Act} {Q:Exit→Act→World→Prop} (hgd:o.guard=none) (s x:Operand) (t:TypeId)
  (ho:o.op=.call { callee:=.builtin .append,args:=#[s,x],argTypes:=#[t,t] })
  (base:Nat) (e:TypeId) (i:TypeInfo) (z:Value) (bytes:Nat) (ht:P.underlying t=some (.slice e)) (hi:P.info? e=some i) (hz:i.zero=some z)
  (hsize:i.size=E.k) (hby:i.bytes=bytes) (hzs:z.cells.size=E.k) (hzn:∀ x∈z.cells.toList,∀ n,x≠.int .u8 n)
  (v:Value) (xs:List α) (hs:a.eval s=v) (hown:ROW E e w base v xs) (ad:Addr) (c:Nat) (ys:List α) (hx:a.eval x=.slice (some ad) ys.length c) (hy0:0<ys.length) (hnews:∀ j u,(E.all ys)[j]? = some u→w.cell? (ad.add j)=some u)
  (hys:∀ y∈ys,E.In w y∧∀ b,v.ownBlock=some b→¬ E.Blk y b)
  (hbytes:(xs.length+ys.length)*bytes≤140737488355328) (hby0:0<bytes) (hbase:base≤w.heap.size)
  (h:∀ v' w',ROW E e w' base v' (xs++ys)→w.grownBy w' v.ownBlock→(v'.ownBlock=v.ownBlock∨v'.ownBlock=some w.heap.size)→wpListIn F n P ops Q rest (a.put o.dst v') w'):wpListIn F n P ops Q (o::rest) a w:=by
 refine wpListIn_plain hgd fun K hK=>?_
 obtain ⟨v',w',hrun,h2,h3,h4⟩:=run_append_row (P:=P) w base t o.type e i z bytes ht hi hz hsize hby hzs hzn v xs hown ad c ys hy0 hnews hys hbytes hby0 hbase
 unfold Oper.wpIn
 refine ⟨?_,?_⟩
 ·simp [Oper.about,ho,resolve,Target.leads,Sem.run_pure]
 ·rw [Oper.semAt_plain F _ _ (by rw [ho];intro c hc';cases hc')]
  simp [execOp,ho,resolve,invoke,builtin,hs,hx,hrun,Result.andThen]
  exact hK _ _ (h v' w' h2 h3 h4)
end
theorem ROW.keepsOthers {α:Type}{E:Ek α}{e:TypeId}{w W':World}{B:Nat}{v:Value}{xs:List α}(h:ROW E e w B v xs)(hg:w.grownBy W' v.ownBlock):KeepsOthers w W':=
 KeepsOthers.of_grownBy hg (fun j o hj ho=>by
  rcases h.2.1.2 with ⟨rfl,_⟩ | ⟨g,cap,cur,rfl,hb,hgg,_⟩
  ·simp [Value.ownBlock] at hj
  ·have:g=j:=Option.some.inj hj
   subst this
   rw [hgg] at ho;injection ho with ho;subst ho;rfl)
theorem Stab.row {α:Type}{E:Ek α}{B:Nat}(e:TypeId)(b0:Nat)(v:Value)(xs:List α)(hB:∀ w l x,NC w l→E.In w x→¬ E.Blk x l):Stab B (fun W=>ROW E e W b0 v xs):=fun W W' l _ hn hg h=>
 h.keep hg (fun b hb=>by
  injection hb with hb
  subst hb
  refine ⟨fun hv=>?_,hn.noU8,fun x hx=>hB W l x hn (h.2.2 x hx).1⟩
  rcases h.2.1.2 with ⟨rfl,_⟩ | ⟨g,cap,cur,rfl,hb,hgg,_⟩
  ·simp [Value.ownBlock] at hv
  ·have:g=l:=Option.some.inj hv
   subst this
   exact hn _ _ _ hgg)
end Go.Proofs.YtnjmndofcpnmeaaGreatDoor
namespace Go.Proofs.YtnjmndofcpnmeaaGreatDoor
open Go Go.RowKit
set_option linter.unusedVariables false
set_option maxRecDepth 100000 in
theorem RNone_at (A:Option Addr)(n c:Nat)(r:ByteArray)(w:World):Calls Tryz.prog 77 #[.agg #[.slice A n c,.string r]] w fun e w'=>e=.returned (.bool (decide (n=0)&&r.toList.isEmpty))∧Ext w w':=by
 have hg:=heap_alloc_new w (.cells #[.slice A n c,.string r] 37)
 have hx:=(Ext.refl w).alloc (.cells #[.slice A n c,.string r] 37)
 obtain ⟨W1,e1⟩:∃ W,w.alloc (.cells #[.slice A n c,.string r] 37)=W:=⟨_,rfl⟩
 rw [e1] at hg hx
 have c0:W1.cell? ⟨w.heap.size,0,none⟩=some (.slice A n c):=by rw [cell_of_row _ w.heap.size 0 _ _ (0,0) hg];rfl
 have c1:W1.cell? ⟨w.heap.size,1,none⟩=some (.string r):=by rw [cell_of_row _ w.heap.size 1 _ _ (0,0) hg];rfl
 have HX:=Lib.hid hx
 clear hg hx
 by_cases hn:n=0
 ·subst hn
  go_enter Tryz.func77,Tryz.ntmps77
  go_wp2
  go_ret
  exact ⟨by simp,HX.out⟩
 ·have q:((n:Int)==0)=false:=by rw [beq_eq_false_iff_ne];omega
  rw [decide_eq_false hn,Bool.false_and]
  clear hn
  go_enter Tryz.func77,Tryz.ntmps77
  go_wp2
  go_ret
  exact ⟨rfl,HX.out⟩
end Go.Proofs.YtnjmndofcpnmeaaGreatDoor
