/- Pq7. -/
import Derived.Test.YtnjmndofcpnmeaaGreatDoorPq0
import Derived.Test.YtnjmndofcpnmeaaGreatDoorPq6
import Derived.Test.YtnjmndofcpnmeaaGreatDoorPq3
import Derived.Test.YtnjmndofcpnmeaaGreatDoorPq5
namespace Go.Proofs.YtnjmndofcpnmeaaGreatDoor
open Go Go.RowKit
set_option linter.unusedVariables false
def sv (ps:List ByteArray):List Value:=ps.map Value.string
theorem sv_length (ps:List ByteArray):(sv ps).length=ps.length:=by simp [sv]
theorem sv_get (ps:List ByteArray)(k:Nat)(h:k<ps.length):(sv ps)[k]? = some (.string ps[k]):=by simp [sv,h]
theorem dat_length (ps:List ByteArray):(dat ps).length=ps.length:=by simp [dat]
def PB (w:World)(g:Nat)(v:Value)(r:ByteArray):Prop:=w.heap[g]? = some (.cells #[v,.string r] 37 (0,0))
theorem PB.cells {w:World}{g:Nat}{v:Value}{r:ByteArray}(h:PB w g v r):w.cell? ⟨g,0,none⟩=some v∧w.cell? ⟨g,1,none⟩=some (.string r):=
 ⟨by rw [cell_of_row _ _ 0 _ _ (0,0) h];rfl,by rw [cell_of_row _ _ 1 _ _ (0,0) h];rfl⟩
theorem PB.ext {w w':World}{g:Nat}{v:Value}{r:ByteArray}(h:PB w g v r)(hx:Ext w w'):PB w' g v r:=hx.heap h
theorem nameB_all {ps:List ByteArray}{r:ByteArray}:nameB (dat ps) r.data.toList=((decide (1≤(ps.length:Int))&&decide ((ps.length:Int)≤4)&&realmB r.data.toList)&&(dat ps).all partB):=by
 unfold nameB
 rw [dat_length]
 have e:decide (1≤ps.length∧ps.length≤4)=(decide (1≤(ps.length:Int))&&decide ((ps.length:Int)≤4)):=by
  rw [← Bool.decide_and]
  exact decide_eq_decide.2 (by omega)
 rw [e]
theorem parts_no {ps:List ByteArray}{k:Nat}(h:k<ps.length)(hp:partB ps[k].data.toList=false):(dat ps).all partB=false:=by
 rw [List.all_eq_false]
 exact ⟨ps[k].data.toList,List.mem_map.2 ⟨ps[k],List.getElem_mem h,rfl⟩,by rw [hp];simp⟩
theorem parts_yes {ps:List ByteArray}{k:Nat}(h:k<ps.length)(ha:(dat (ps.take k)).all partB=true)(hp:partB ps[k].data.toList=true):(dat (ps.take (k+1))).all partB=true:=by
 rw [List.take_succ_eq_append_getElem h]
 unfold dat at *
 rw [List.map_append,List.all_append,ha]
 simp [hp]
set_option maxRecDepth 100000 in
set_option maxHeartbeats 2000000 in
theorem NValid_at (A:Option Addr) (c:Nat) (ps:List ByteArray) (r:ByteArray) (hps:∀ p∈ps,p.size≤4294967280) (hr:r.size≤4294967280) (w:World) (hR:RS w (.slice A ps.length c) (sv ps)):
  Calls Tryz.prog 82 #[.agg #[.slice A ps.length c,.string r]] w fun e w'=>e=.returned (.bool (nameB (dat ps) r.data.toList))∧Ext w w':=by
 have HN:=Lib.hid (nameB_all (ps:=ps) (r:=r))
 obtain ⟨b,hb⟩:∃ b,nameB (dat ps) r.data.toList=b:=⟨_,rfl⟩
 rw [hb] at HN ⊢
 clear hb
 obtain ⟨b1,h1⟩:∃ b1,decide (1≤(ps.length:Int))=b1:=⟨_,rfl⟩
 obtain ⟨b2,h2⟩:∃ b2,decide ((ps.length:Int)≤4)=b2:=⟨_,rfl⟩
 rw [h1,h2] at HN
 have HPS:=Lib.hid hps;have HR:=Lib.hid hr;have HRS:=Lib.hid hR
 clear hps hr hR
 have hT:=heap_alloc_new w (.cells #[.slice A ps.length c,.string r] 37)
 have hX:=(Ext.refl w).alloc (.cells #[.slice A ps.length c,.string r] 37)
 obtain ⟨wr,hwr⟩:∃ wr,wr=w.alloc (.cells #[.slice A ps.length c,.string r] 37):=⟨_,rfl⟩
 rw [← hwr] at hT hX
 have HT:Hid (PB wr w.heap.size (.slice A ps.length c) r):=Lib.hid hT
 have HX:=Lib.hid hX
 clear hT hX
 go_enter Tryz.func82,Tryz.ntmps82
 go_wp2_with fail
 rw [← hwr]
 clear hwr
 refine wp_region_ext_tail 11 (fun i v' w'=>match i with | 10=>v'=.bool (realmB r.data.toList) | _=>False) (by kernel_rfl) (by kernel_rfl) ?_
 refine wpE_op rfl rfl (fun w' hw' K' hK'=>?_)
 have hE:=hw'.1
 go_step
 refine hK' _ ⟨_,rfl⟩ ?_
 clear hK' K'  hE hw' w'
 refine wpE_op rfl rfl (fun w' hw' K' hK'=>?_)
 have hE:=hw'.1
 obtain ⟨u0,u1⟩:=(HT.out.ext ((Ext.drew wr).trans hE)).cells
 go_step
 refine hK' _ ⟨_,rfl⟩ ?_
 clear hK' K' u0 u1 hE hw' w'
 refine wpE_op rfl rfl (fun w' hw' K' hK'=>?_)
 have hE:=hw'.1
 go_step
 refine hK' _ ⟨_,rfl⟩ ?_
 clear hK' K'  hE hw' w'
 refine wpE_op rfl rfl (fun w' hw' K' hK'=>?_)
 have hE:=hw'.1
 go_step
 refine hK' _ ⟨_,rfl⟩ ?_
 clear hK' K'  hE hw' w'
 refine wpE_op rfl rfl (fun w' hw' K' hK'=>?_)
 have hE:=hw'.1
 go_step
 refine hK' _ ⟨_,rfl⟩ ?_
 clear hK' K'  hE hw' w'
 refine wpE_op rfl rfl (fun w' hw' K' hK'=>?_)
 have hE:=hw'.1
 obtain ⟨u0,u1⟩:=(HT.out.ext ((Ext.drew wr).trans hE)).cells
 go_step
 refine hK' _ ⟨_,rfl⟩ ?_
 clear hK' K' u0 u1 hE hw' w'
 refine wpE_op rfl rfl (fun w' hw' K' hK'=>?_)
 have hE:=hw'.1
 go_step
 refine hK' _ ⟨_,rfl⟩ ?_
 clear hK' K'  hE hw' w'
 refine wpE_op rfl rfl (fun w' hw' K' hK'=>?_)
 have hE:=hw'.1
 go_step
 refine hK' _ ⟨_,rfl⟩ ?_
 clear hK' K'  hE hw' w'
 refine wpE_op rfl rfl (fun w' hw' K' hK'=>?_)
 have hE:=hw'.1
 go_step
 refine hK' _ ⟨_,rfl⟩ ?_
 clear hK' K'  hE hw' w'
 refine wpE_op rfl rfl (fun w' hw' K' hK'=>?_)
 have hE:=hw'.1
 obtain ⟨u0,u1⟩:=(HT.out.ext ((Ext.drew wr).trans hE)).cells
 go_step
 refine hK' _ ⟨_,rfl⟩ ?_
 clear hK' K' u0 u1 hE hw' w'
 refine wpE_call 15 rfl (by simp) rfl (fun w' hw' K' hK'=>?_) ?_
 ·have hE:=hw'.1
  go_step
  refine (Realm_at r HR.out _).mono ?_
  rintro _ w2 ⟨rfl,hx⟩
  exact hK' _ _ ⟨_,rfl,rfl⟩ hx
 rintro _ w6 hE6 rfl
 simp only [Act.put,sT1,sT2,sT3]
 refine wpE_nil (fun w7 hw7=>?_)
 have hx7:=(Ext.drew wr).trans hw7.1
 have HX7:=Lib.hid (HX.out.trans hx7);have HT7:=Lib.hid (HT.out.ext hx7)
 have hall:=all_at (some ⟨w7.heap.size,0,none⟩) 3 [b1,b2,realmB r.data.toList] (w7.alloc (.cells #[.bool b1,.bool b2,.bool (realmB r.data.toList)] 4)) (RS.new w7 4 [.bool b1,.bool b2,.bool (realmB r.data.toList)] (by simp [maxLen]))
 rw [show ([b1,b2,realmB r.data.toList].all id)=(b1&&b2&&realmB r.data.toList) by simp [Bool.and_assoc]] at hall
 obtain ⟨b3,h3⟩:∃ b3,(b1&&b2&&realmB r.data.toList)=b3:=⟨_,rfl⟩
 rw [h3] at hall HN
 have HB4:=Lib.hid (show b3=true→ps.length≤4 from fun e=>by
  rw [← h3] at e
  cases b2 with
  | true=>have:=of_decide_eq_true h2;omega
  | false=>simp at e)
 have HALL:=Lib.hid hall
 have hT8:=HT7.out.ext ((Ext.refl w7).alloc (.cells #[.bool b1,.bool b2,.bool (realmB r.data.toList)] 4))
 have HX8:=Lib.hid (HX7.out.alloc (.cells #[.bool b1,.bool b2,.bool (realmB r.data.toList)] 4))
 have HRS8:=Lib.hid (HRS.out.ext HX8.out)
 obtain ⟨q0,q1⟩:=hT8.cells
 clear hw7 hall h1 h2 h3 hx7 hT8 HRS
 simp only [List.drop_succ_cons,List.drop_zero]
 go_wp2_with fail
 refine HALL.out.mono ?_
 rintro _ w8 ⟨rfl,rfl⟩
 cases b3 with
 | false=>
  go_wp2_with fail
  go_ret
  refine ⟨?_,HX8.out⟩
  rw [HN.out];rfl
 | true=>
  have hn4:ps.length≤4:=HB4.out rfl
  obtain ⟨W,hW⟩:∃ W,w7.alloc (.cells #[.bool b1,.bool b2,.bool (realmB r.data.toList)] 4)=W:=⟨_,rfl⟩
  rw [hW] at HX8 HRS8 q0 q1 ⊢
  clear hW HALL
  go_wp2_with fail
  go_loopw [4,22] (fun _ i W'=>∃ k:Nat,k≤ps.length∧i=.int .i64 k∧(dat (ps.take k)).all partB=true∧W'=W) (fun _ i _=>ps.length-(intOf i).toNat)
  case atStart=>exact ⟨0,Nat.zero_le _,rfl,by simp [dat],rfl⟩
  case round=>
   obtain ⟨k,hk,rfl,hall,rfl⟩:=hrel
   have HA:=Lib.hid hall;clear hall
   by_cases hlt:k<ps.length
   ·obtain ⟨A',c',he,e1,e2,e3⟩:=HRS8.out
    rw [sv_length] at e1 e3 he
    injection he with z1 _ z3
    subst z1;subst z3
    obtain ⟨ad,rfl,hblt,hcell⟩:=e3 (by omega)
    have hck:=hcell k _ (sv_get ps k hlt)
    have HPK:=Lib.hid (Part_at ps[k] (HPS.out _ (List.getElem_mem hlt)) wr)
    clear hcell e3 e2 e1 hblt
    cases hp:partB ps[k].data.toList with
    | false=>
     have HP:=Lib.hid hp
     rw [hp] at HPK
     clear hp
     go_wp2_with fail
     refine HPK.out.mono ?_
     rintro _ w9 ⟨rfl,rfl⟩
     go_wp2_with fail
     go_ret
     refine ⟨?_,HX8.out⟩
     rw [HN.out,parts_no hlt HP.out];rfl
    | true=>
     have HP:=Lib.hid hp
     rw [hp] at HPK
     clear hp
     go_wp2_with fail
     refine HPK.out.mono ?_
     rintro _ w9 ⟨rfl,rfl⟩
     go_wp2_with fail
     go_roundw
     case rel=>exact ⟨k+1,by omega,by go_num,parts_yes hlt HA.out HP.out,trivial⟩
     case measure=>simp [intOf];omega
   ·have HF:=Lib.hid (show (dat ps).all partB=true by
     have:=HA.out
     rwa [List.take_of_length_le (by omega)] at this)
    go_wp2_with fail
    go_ret
    refine ⟨?_,HX8.out⟩
    rw [HN.out,HF.out];rfl
structure FV where
 t:Int
 mi:Int
 kd:Int
 fk:Int
 FA:Option Addr
 fb:List UInt8
 fc:Nat
 CA:Option Addr
 cp:List ByteArray
 cc:Nat
 cr:ByteArray
 SA:Option Addr
 sp:List ByteArray
 sc:Nat
 sr:ByteArray
 co:Int
 pr:Int
 fl:W32
def FV.cs (f:FV):List Value:=[.int .i64 f.t,.int .i64 f.mi,.int .i64 f.kd,.int .i64 f.fk,.slice f.FA f.fb.length f.fc,.slice f.CA f.cp.length f.cc,.string f.cr,.slice f.SA f.sp.length f.sc,.string f.sr,.int .i64 f.co,.int .i64 f.pr,.int .u32 (f.fl.toNat:Int)]
def FV.val (f:FV):Value:=.agg #[.int .i64 f.t,.int .i64 f.mi,.int .i64 f.kd,.int .i64 f.fk,.slice f.FA f.fb.length f.fc,.slice f.CA f.cp.length f.cc,.string f.cr,.slice f.SA f.sp.length f.sc,.string f.sr,.int .i64 f.co,.int .i64 f.pr,.int .u32 (f.fl.toNat:Int)]
def FV.fct (f:FV):Fct:=⟨f.t,f.mi,f.kd,f.fk,f.fb,dat f.cp,f.cr.data.toList,dat f.sp,f.sr.data.toList,f.co,f.pr,f.fl⟩
structure FV.In (w:World) (f:FV):Prop where
 fb:BS w (.slice f.FA f.fb.length f.fc) f.fb
 cp:RS w (.slice f.CA f.cp.length f.cc) (sv f.cp)
 sp:RS w (.slice f.SA f.sp.length f.sc) (sv f.sp)
theorem FV.In.ext {w w':World}{f:FV}(h:f.In w)(hx:Ext w w'):f.In w':=⟨h.fb.ext hx,h.cp.ext hx,h.sp.ext hx⟩
structure FV.Sz (f:FV):Prop where
 fb:f.fb.length≤1000
 cp:f.cp.length≤1000
 cps:∀ p∈f.cp,p.size≤1000
 cr:f.cr.size≤1000
 sp:f.sp.length≤1000
 sps:∀ p∈f.sp,p.size≤1000
 sr:f.sr.size≤1000
def i64B (x:Int):Prop:=-9223372036854775808≤x∧x≤9223372036854775807
structure FV.Wf (f:FV):Prop where
 t:i64B f.t
 mi:i64B f.mi
 kd:i64B f.kd
 fk:i64B f.fk
 co:i64B f.co
 pr:i64B f.pr
def FBx (w:World)(g:Nat)(f:FV):Prop:=w.heap[g]? = some (.cells #[.int .i64 f.t,.int .i64 f.mi,.int .i64 f.kd,.int .i64 f.fk,.slice f.FA f.fb.length f.fc,.slice f.CA f.cp.length f.cc,.string f.cr,.slice f.SA f.sp.length f.sc,.string f.sr,.int .i64 f.co,.int .i64 f.pr,.int .u32 (f.fl.toNat:Int)] 41 (0,0))
theorem FBx.new (w:World)(f:FV):FBx (w.alloc (.cells #[.int .i64 f.t,.int .i64 f.mi,.int .i64 f.kd,.int .i64 f.fk,.slice f.FA f.fb.length f.fc,.slice f.CA f.cp.length f.cc,.string f.cr,.slice f.SA f.sp.length f.sc,.string f.sr,.int .i64 f.co,.int .i64 f.pr,.int .u32 (f.fl.toNat:Int)] 41)) w.heap.size f:=heap_alloc_new w _
theorem FBx.ext {w w':World}{g:Nat}{f:FV}(h:FBx w g f)(hx:Ext w w'):FBx w' g f:=hx.heap h
theorem FBx.cells {w:World} {g:Nat} {t mi kd fk:Int} {FA:Option Addr} {fb:List UInt8} {fc:Nat} {CA:Option Addr} {cp:List ByteArray} {cc:Nat} {cr:ByteArray} {SA:Option Addr} {sp:List ByteArray} {sc:Nat} {sr:ByteArray} {co pr:Int} {fl:W32}
  (h:FBx w g ⟨t,mi,kd,fk,FA,fb,fc,CA,cp,cc,cr,SA,sp,sc,sr,co,pr,fl⟩):w.cell? ⟨g,0,none⟩=some (.int .i64 t)∧w.cell? ⟨g,1,none⟩=some (.int .i64 mi)∧w.cell? ⟨g,2,none⟩=some (.int .i64 kd)∧w.cell? ⟨g,3,none⟩=some (.int .i64 fk)∧w.cell? ⟨g,4,none⟩=some (.slice FA fb.length fc)∧w.cell? ⟨g,5,none⟩=some (.slice CA cp.length cc)∧w.cell? ⟨g,6,none⟩=some (.string cr)∧w.cell? ⟨g,7,none⟩=some (.slice SA sp.length sc)∧w.cell? ⟨g,8,none⟩=some (.string sr)∧w.cell? ⟨g,9,none⟩=some (.int .i64 co)∧w.cell? ⟨g,10,none⟩=some (.int .i64 pr)∧w.cell? ⟨g,11,none⟩=some (.int .u32 (fl.toNat:Int)):=by
 unfold FBx at h
 refine ⟨?_,?_,?_,?_,?_,?_,?_,?_,?_,?_,?_,?_⟩<;>(rw [cell_of_row _ _ _ _ _ (0,0) h];rfl)
def FS (w:World)(v:Value)(xs:List FV):Prop:=
 ∃ A c,v=.slice A xs.length c∧xs.length≤c∧c≤maxLen∧∀ i (h:i<xs.length),xs[i].In w∧∃ ad,A=some ad∧∀ j u,xs[i].cs[j]? = some u→w.cell? (ad.add (i*12+j))=some u
theorem FS.ext {w w':World}{v:Value}{xs:List FV}(h:FS w v xs)(hx:Ext w w'):FS w' v xs:=by
 obtain ⟨A,c,h1,h2,h3,h4⟩:=h
 refine ⟨A,c,h1,h2,h3,fun i hi=>?_⟩
 obtain ⟨k1,ad,k2,k3⟩:=h4 i hi
 exact ⟨k1.ext hx,ad,k2,fun j u hu=>hx.cell (k3 j u hu)⟩
theorem FS.nil (w:World):FS w (.slice none 0 0) []:=⟨none,0,rfl,Nat.le_refl _,Nat.zero_le _,fun i h=>absurd h (Nat.not_lt_zero i)⟩
theorem drop_byte (s:ByteArray)(k:Nat)(h:k<s.size):s.data.toList.drop k=s[k]::s.data.toList.drop (k+1):=by
 rw [List.drop_eq_getElem_cons (by rw [Array.length_toList];exact h)];rfl
theorem drop_end (s:ByteArray)(k:Nat)(h:¬ k<s.size):s.data.toList.drop k=[]:=List.drop_eq_nil_of_le (by rw [size_list];omega)
theorem labB_dot {n:Nat}{c:UInt8}{r:List UInt8}(h:c.toNat=46)(hn:0<n):labB n (c::r)=labB 0 r:=by rw [labB,if_pos h,decide_eq_true hn,Bool.true_and]
theorem labB_dot0 {c:UInt8}{r:List UInt8}(h:c.toNat=46):labB 0 (c::r)=false:=by rw [labB,if_pos h];rfl
theorem labB_ok {n:Nat}{c:UInt8}{r:List UInt8}(h:c.toNat≠46)(hc:okc c=true):labB n (c::r)=labB (n+1) r:=by rw [labB,if_neg h,hc,Bool.true_and]
theorem labB_bad {n:Nat}{c:UInt8}{r:List UInt8}(h:c.toNat≠46)(hc:okc c=false):labB n (c::r)=false:=by rw [labB,if_neg h,hc,Bool.false_and]
end Go.Proofs.YtnjmndofcpnmeaaGreatDoor
