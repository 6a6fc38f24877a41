/- Pc4. -/
import Derived.Test.YtnjmndofcpnmeaaGreatDoorPc3
import Derived.Test.YtnjmndofcpnmeaaGreatDoorPc0
import Derived.Test.YtnjmndofcpnmeaaGreatDoorPc1
import Derived.Laws.BitsAllLaws
import Derived.Laws.BitsLemmas
import Derived.IntWalk
import Derived.Test.YtnjmndofcpnmeaaGreatDoorProg
import Derived.Lib.Hide
import Derived.Handy
import Derived.StillTailTactics
import Derived.Shelf.Abstract
import Derived.MapKept
import Derived.RangeFuncRecord
import Derived.Test.YtnjmndofcpnmeaaGreatDoorPc2
namespace Go.Proofs.YtnjmndofcpnmeaaGreatDoor
open Go Go.RowKit
set_option linter.unusedVariables false
structure EnvA (w:World):Prop where
 env:Env w
 deb:DeB w
theorem EnvA.ext {w w':World}(h:EnvA w)(hx:Ext w w'):EnvA w':=⟨h.env.ext hx,h.deb.ext hx⟩
structure SWR (w:World) (g cap:Nat) (ls:List (List UInt8)):Prop where
 lt:g<w.heap.size
 le:ls.length≤cap
 max:cap≤maxLen
 cell:∀ (j:Nat) l,ls[j]? = some l→w.cell? ⟨g,j,none⟩=some (.string ⟨l.toArray⟩)
theorem SWR.ext {w w':World}{g cap:Nat}{ls:List (List UInt8)}(h:SWR w g cap ls)(hx:Ext w w'):SWR w' g cap ls:=
 ⟨Nat.lt_of_lt_of_le h.lt hx.size,h.le,h.max,fun j l hj=>hx.cell (h.cell j l hj)⟩
theorem SWR.of_own {w:World}{B n:Nat}{v:Value}{ls:List (List UInt8)}(h:w.ownsRow B 9 1 v n (stv ls))(hn:n=ls.length)(h0:ls≠[]):∃ g cap,v=.slice (some ⟨g,0,none⟩) ls.length cap∧SWR w g cap ls:=by
 subst hn
 rcases h.2 with ⟨_,he⟩ | ⟨g,cap,cur,rfl,hb,hg,hc,hm,_⟩
 ·exact absurd (List.eq_nil_of_length_eq_zero he) h0
 ·refine ⟨g,cap,rfl,(Array.getElem?_eq_some_iff.1 hg).1,hc,hm,fun j l hj=>?_⟩
  have hcell:=h.cells (g:=g) rfl j (.string ⟨l.toArray⟩) (by unfold stv;rw [List.getElem?_map,hj];rfl)
  have hadd:(⟨g,0,none⟩:Addr).add j=⟨g,j,none⟩:=by unfold Addr.add;split<;>simp_all
  rwa [hadd] at hcell
set_option maxRecDepth 100000 in
theorem joinA_at (sep:UInt8) (ls:List (List UInt8)) (g o c n:Nat) (w:World) (hg:g<w.heap.size) (hcell:∀ (j:Nat) l,ls[j]? = some l→w.cell? ⟨g,o+j,none⟩=some (.string ⟨l.toArray⟩)) (hn:n=ls.length) (hc:n≤c) (hn1:n≤1000) (hl:(Lib.join ls [sep]).length≤1000):
  Calls Tryz.prog 228 #[.string ⟨#[sep]⟩,.slice (some ⟨g,o,none⟩) n c] w fun e w'=>e=.returned (.string ⟨(Lib.join ls [sep]).toArray⟩)∧Ext w w':=by
 have e1:(ls.map fun l=>(⟨l.toArray⟩:ByteArray)).length=n:=by rw [List.length_map,hn]
 have e2:(ls.map fun l=>(⟨l.toArray⟩:ByteArray)).map (·.data.toList)=ls:=by rw [List.map_map];exact List.map_id' _
 have hcl:∀ (j:Nat) x,(ls.map fun l=>(⟨l.toArray⟩:ByteArray))[j]? = some x→w.cell? ⟨g,o+j,none⟩=some (.string x):=by
  intro j x hx
  rw [List.getElem?_map] at hx
  cases hw:ls[j]? with
  | none=>rw [hw] at hx;cases hx
  | some y=>rw [hw] at hx;injection hx with hx;subst hx;exact hcell j y hw
 have hj:Calls Tryz.prog 57 #[.slice (some ⟨g,o,none⟩) n c,.string ⟨#[sep]⟩] w fun e w'=>e=.returned (.string ⟨(Lib.join ls [sep]).toArray⟩)∧Ext w w':=by
  have h:=Tryz.strings_Join g o c (ls.map fun l=>⟨l.toArray⟩) ⟨#[sep]⟩ w hcl hg (by rw [e1];omega) (by rw [e1];exact hc) (by rw [e2];show (Lib.join ls [sep]).length≤_;omega)
  rw [e1,e2] at h
  exact h
 have HJ:=Lib.hid hj
 clear hj hg hl e1 e2 hcell hn hcl hc hn1
 go_enter Tryz.func228,Tryz.ntmps228
 go_wp2_with fail
 refine HJ.out.mono ?_
 rintro _ w2 ⟨rfl,hx2⟩
 have HX2:=Lib.hid (show Ext w w2 from hx2)
 clear hx2
 go_wp2_with fail
 go_ret
 exact ⟨rfl,HX2.out⟩
def tx4 (m:List UInt8):List UInt8:=match m with | [c]=>Lib.decDigits c.toNat | _=>[]
theorem dec_len (n:Nat)(h:n<256):(Lib.decDigits n).length≤3:=by
 by_cases h1:n<10
 ·rw [dec_lo n h1];simp
 ·rw [dec_hi n h1]
  by_cases h2:n / 10<10
  ·rw [dec_lo _ h2];simp
  ·rw [dec_hi _ h2,dec_lo _ (by omega)];simp
theorem gst4 {b:List UInt8}(h:b.length=4):(chk 1 4 b).map tx4=b.map fun c=>Lib.decDigits c.toNat:=by
 obtain ⟨p,q,r,t,rfl⟩:=list4 h
 rfl
theorem txt4_len {b:List UInt8}(h:b.length=4):(txt4 b).length≤1000:=by
 obtain ⟨p,q,r,t,rfl⟩:=list4 h
 rw [txt4_eq]
 have:=dec_len p.toNat p.toNat_lt;have:=dec_len q.toNat q.toNat_lt;have:=dec_len r.toNat r.toNat_lt;have:=dec_len t.toNat t.toNat_lt
 simp only [List.length_append,List.length_cons]
 omega
set_option maxRecDepth 100000 in
theorem text4_at (b:List UInt8) (A:Option Addr) (c:Nat) (w:World) (hb:BS w (.slice A b.length c) b) (hE:EnvA w) (h:b.length=4):
  Calls Tryz.prog 196 #[.slice A b.length c] w fun e w'=>e=.returned (.tuple #[.string ⟨(txt4 b).toArray⟩,.bool true])∧Ext w w':=by
 have HG:=Lib.hid (groups_at 1 230 tx4 (by omega) b A c w hb 4 (by omega) (by omega) (Go.Proofs.enters_of Tryz.func230 (by kernel_rfl) rfl) (fun m A c W hm hx hbm=>by
  match m,hm with
  | [x],_=>exact tx4_at x A c W hbm (hE.env.pow.ext hx)))
 have HT:=Lib.hid (show Lib.join ((chk 1 4 b).map tx4) [46]=txt4 b by rw [gst4 h];rfl)
 have HL:=Lib.hid (txt4_len h)
 obtain ⟨L,hL⟩:∃ L,txt4 b=L:=⟨_,rfl⟩
 rw [hL] at HT HL ⊢
 rw [h] at HG ⊢
 clear hb hE h hL
 go_enter Tryz.func196,Tryz.ntmps196
 go_wp2_with fail
 refine HG.out.mono ?_
 rintro _ w1 ⟨v,rfl,hr,hx⟩
 obtain ⟨g,cap,rfl,hsw⟩:=SWR.of_own (ls:=(chk 1 4 b).map tx4) hr (by rw [List.length_map,chk_length]) (by intro e;have:=congrArg List.length e;rw [List.length_map,chk_length] at this;cases this)
 have HX:=Lib.hid hx;have HS:=Lib.hid hsw
 rw [List.length_map,chk_length]
 have HJ:=Lib.hid (joinA_at 46 ((chk 1 4 b).map tx4) g 0 cap 4 w1 hsw.lt (fun j l hj=>by rw [Nat.zero_add];exact hsw.cell j l hj) (by rw [List.length_map,chk_length]) (by have:=hsw.le;rwa [List.length_map,chk_length] at this) (by omega) (by rw [HT.out];exact HL.out))
 rw [HT.out] at HJ
 clear hr hx hsw
 go_wp2_with fail
 refine HJ.out.mono ?_
 rintro _ w2 ⟨rfl,hx2⟩
 have HX2:=Lib.hid (HX.out.trans hx2)
 clear hx2
 go_wp2_with fail
 go_ret2
 exact ⟨rfl,HX2.out⟩
set_option maxRecDepth 100000 in
theorem text4_no (b:List UInt8) (A:Option Addr) (c:Nat) (w:World) (h:b.length≠4):
  Calls Tryz.prog 196 #[.slice A b.length c] w fun e w'=>e=.returned (.tuple #[.string ⟨#[]⟩,.bool false])∧Ext w w':=by
 have h4:((b.length:Int)==4)=false:=by rw [beq_eq_false_iff_ne];omega
 have h4':((b.length:Int) != 4)=true:=by rw [bne,h4];rfl
 clear h
 go_enter Tryz.func196,Tryz.ntmps196
 go_wp2_with fail
 go_ret2
 exact ⟨rfl,Ext.refl _⟩
def resA (vb:Bool)(l:List UInt8):Value:=.tuple #[.string ⟨(if vb then l else []).toArray⟩,.bool vb]
theorem visB_iff (c:UInt8):visB c=true ↔ 33≤c.toNat∧c.toNat≤126:=by unfold visB;rw [decide_eq_true_eq]
set_option maxRecDepth 100000 in
theorem textH_len (b:List UInt8) (A:Option Addr) (c:Nat) (w:World) (h:b.length<1∨16<b.length):
  Calls Tryz.prog 197 #[.slice A b.length c] w fun e w'=>e=.returned (.tuple #[.string ⟨#[]⟩,.bool false])∧Ext w w':=by
 rcases h with h | h
 ·have h1:(b.length:Int)<1:=by omega
  clear h
  go_enter Tryz.func197,Tryz.ntmps197
  go_wp2_with fail
  go_ret2
  exact ⟨rfl,Ext.refl _⟩
 ·have h1:(16:Int)<(b.length:Int):=by omega
  clear h
  go_enter Tryz.func197,Tryz.ntmps197
  go_wp2_with fail
  go_ret2
  exact ⟨rfl,Ext.refl _⟩
set_option maxRecDepth 100000 in
set_option maxHeartbeats 1000000 in
theorem textH_at (b:List UInt8) (A:Option Addr) (c:Nat) (w:World) (hb:BS w (.slice A b.length c) b) (h1:1≤b.length) (h16:b.length≤16) (vb:Bool) (hvb:b.all visB=vb):
  Calls Tryz.prog 197 #[.slice A b.length c] w fun e w'=>e=.returned (resA vb (txtH b))∧Ext w w':=by
 have HVB:=Lib.hid hvb
 clear hvb
 have hcv:=fun W h=>run_str (P:=Tryz.prog) W 32 9 5 (.slice A b.length c) b Tryz.underlying32 Tryz.underlying5 Tryz.underlying9 h
 have HCV:=Lib.hid (hcv w hb)
 obtain ⟨A',k',he,_,_,h3⟩:=hb.open_
 injection he with e1 e2 e3
 subst e1
 obtain ⟨ad,rfl,hlt,hcell⟩:=h3 (by omega)
 have HC:=Lib.hid hcell
 have i1:(1:Int)≤(b.length:Int):=by omega
 have i16:(b.length:Int)≤16:=by omega
 clear hcv hb h3 hcell e2 e3
 go_enter Tryz.func197,Tryz.ntmps197
 go_wp2_with fail
 go_loopw [16] (fun i wr=>∃ k:Nat,i=.int .i64 (k:Int)∧k≤b.length∧Hid ((b.take k).all visB=true)∧Hid (w=wr)) (fun i _=>b.length-(intOf i).toNat)
 case atStart=>exact ⟨0,rfl,by omega,Lib.hid rfl,Lib.hid rfl⟩
 case round=>
  obtain ⟨k,rfl,hk,HV,HWR⟩:=hrel
  obtain rfl:=HWR.out
  clear HWR
  by_cases hkl:k<b.length
  ·have hc:=HC.out k hkl
   have htk:b.take (k+1)=b.take k++[b[k]]:=List.take_succ_eq_append_getElem hkl
   have hdk:b=b.take k++b[k]::b.drop (k+1):=by rw [← List.drop_eq_getElem_cons hkl,List.take_append_drop]
   obtain ⟨x,hx⟩:∃ x,b[k]=x:=⟨_,rfl⟩
   rw [hx] at hc htk hdk
   have hxl:=x.toNat_lt
   by_cases hvis:33≤x.toNat∧x.toNat≤126
   ·obtain ⟨v1,v2⟩:=hvis
    have HV2:=Lib.hid (show (b.take (k+1)).all visB=true by rw [htk,List.all_append,HV.out];simp [(visB_iff x).2 ⟨v1,v2⟩])
    clear htk hdk hx HC
    go_wp2_with fail
    go_roundw
    case rel=>exact ⟨k+1,by go_num,by omega,HV2,(by first | exact Lib.hid rfl | exact Lib.hid trivial)⟩
    case measure=>simp [intOf];omega
   ·have HV2:=Lib.hid (show b.all visB=false by
     rw [hdk,List.all_append,List.all_cons,show visB x=false by cases hv:visB x with | false=>rfl | true=>exact absurd ((visB_iff x).1 hv) hvis];simp)
    have hvv:x.toNat<33∨126<x.toNat:=by omega
    clear htk hdk hx HC hvis
    rcases hvv with hvv | hvv
    all_goals
     go_wp2_with fail
     go_ret2
     have e:vb=false:=HVB.out.symm.trans HV2.out
     subst e
     exact ⟨rfl,Ext.refl _⟩
  ·obtain rfl:k=b.length:=by omega
   rw [List.take_length] at HV
   have hcv:=HCV.out
   clear HC HCV hkl
   go_wp2_with fail
   go_ret2
   have e:vb=true:=HVB.out.symm.trans HV.out
   subst e
   refine ⟨?_,Ext.refl _⟩
   show Ending.returned (.tuple #[.string (_++_),.bool true])=_
   rw [show (⟨#[104,111,115,116,47]⟩:ByteArray)++⟨b.toArray⟩=⟨(txtH b).toArray⟩ from by apply ByteArray.ext;simp [ByteArray.data_append,txtH]]
   rfl
end Go.Proofs.YtnjmndofcpnmeaaGreatDoor
namespace Go.Proofs.YtnjmndofcpnmeaaGreatDoor
open Go Go.RowKit Go.WideShapes Go.ChangeShapes Go.ChangeAt Go.Deep
set_option linter.unusedVariables false
def debTab:List Int:=[0,1,56,2,57,49,28,3,61,58,42,50,38,29,17,4,62,47,59,36,45,43,51,22,53,39,33,30,24,18,12,5,63,55,48,27,60,41,37,16,46,35,44,21,52,32,23,11,54,26,40,15,34,20,31,10,25,14,19,9,13,8,7,6]
theorem deb_at {r : List (String × DataW Unit)} {W : World} (h : laidMet Tryz.prog (("math/bits.deBruijn64tab", (Rows.laid_math_bits_deBruijn64tab : DataW Unit)) :: r) W) : DeB W := by
 have e:(Rows.laid_math_bits_deBruijn64tab:DataW Unit)=Lib.tabData .u8 debTab:=by kernel_rfl
 rw [e] at h
 have hg : Tryz.prog.globalNamed "math/bits.deBruijn64tab" = some 7 := by kernel_rfl
 have hgt:((Tryz.prog.globals[7]?).map (·.type))=some 284:=by kernel_rfl
 have ht:=Lib.tabIs_of_head hg hgt Tryz.underlying284 Tryz.underlying5 (by kernel_rfl) (by kernel_rfl) h
 exact ht.cell hg 15 (by decide)
end Go.Proofs.YtnjmndofcpnmeaaGreatDoor
namespace Go.Proofs.YtnjmndofcpnmeaaGreatDoor
set_option linter.unusedVariables false
def okc (c:UInt8):Bool:=decide (65≤c.toNat∧c.toNat≤90∨48≤c.toNat∧c.toNat≤57∨c.toNat=45)
def labB:Nat→List UInt8→Bool
 | n,[]=>decide (0<n)
 | n,c::r=>if c.toNat=46 then decide (0<n)&&labB 0 r else okc c&&labB (n+1) r
def sizedB (l:List UInt8):Bool:=decide (1≤l.length∧l.length≤32)
def realmB (l:List UInt8):Bool:=sizedB l&&labB 0 l
def prtc (c:UInt8):Bool:=decide (33≤c.toNat∧c.toNat≤126)
def partB (l:List UInt8):Bool:=sizedB l&&l.all prtc
def nameB (parts:List (List UInt8))(realm:List UInt8):Bool:=decide (1≤parts.length∧parts.length≤4)&&realmB realm&&parts.all partB
def labelB (l:List UInt8):Bool:=!l.isEmpty&&l.all okc
def spl:List UInt8→List UInt8→List (List UInt8)
 | acc,[]=>[acc]
 | acc,c::r=>if c.toNat=46 then acc::spl [] r else spl (acc++[c]) r
theorem spl_labels:∀ (s acc:List UInt8),(acc.all okc&&labB acc.length s)=(spl acc s).all labelB
 | [],acc=>by
  simp only [labB,spl,List.all_cons,List.all_nil,Bool.and_true,labelB]
  cases acc<;>simp
 | c::r,acc=>by
  unfold labB spl
  split
  ·have h:=spl_labels r []
   simp only [List.all_nil,Bool.true_and,List.length_nil] at h
   rw [List.all_cons,← h,labelB]
   cases acc<;>simp [Bool.and_assoc]
  ·have h:=spl_labels r (acc++[c])
   rw [← h,List.length_append,List.length_singleton,List.all_append,List.all_cons,List.all_nil,Bool.and_true,Bool.and_assoc]
theorem realm_labels (s:List UInt8):realmB s=(sizedB s&&(spl [] s).all labelB):=by
 unfold realmB
 rw [← spl_labels s []]
 simp
theorem spl_acc:∀ (s acc:List UInt8),(∀ c∈s,c.toNat≠46)→spl acc s=[acc++s]
 | [],acc,_=>by simp [spl]
 | c::r,acc,h=>by
  rw [spl,if_neg (h c (by simp)),spl_acc r _ (fun d hd=>h d (by simp [hd]))]
  simp
theorem spl_hit:∀ (s acc r:List UInt8),(∀ c∈s,c.toNat≠46)→spl acc (s++46::r)=(acc++s)::spl [] r
 | [],acc,r,_=>by rw [List.nil_append,spl,if_pos (by decide)];simp
 | c::s,acc,r,h=>by
  rw [List.cons_append,spl,if_neg (h c (by simp)),spl_hit s _ r (fun d hd=>h d (by simp [hd]))]
  simp
def spc (c:UInt8):Bool:=decide (c.toNat=47∨c.toNat=64∨c.toNat=92)
def esc:List UInt8→List UInt8
 | []=>[]
 | c::r=>if spc c then 92::c::esc r else c::esc r
theorem esc_append (a b:List UInt8):esc (a++b)=esc a++esc b:=by
 induction a with
 | nil=>rfl
 | cons c r ih=>
  rw [List.cons_append,esc,esc,ih]
  split<;>simp
def partsT:List (List UInt8)→List UInt8
 | []=>[]
 | [p]=>esc p
 | p::q::r=>esc p++47::partsT (q::r)
theorem partsT_snoc:∀ (ls:List (List UInt8)) (p:List UInt8),partsT (ls++[p])=if ls=[] then esc p else partsT ls++47::esc p
 | [],p=>by simp [partsT]
 | [a],p=>by simp [partsT]
 | a::b::r,p=>by
  have h:=partsT_snoc (b::r) p
  rw [if_neg (by simp)] at h
  rw [if_neg (by simp)]
  show esc a++47::partsT (b::r++[p])=_
  rw [h,partsT]
  simp
def textN (parts:List (List UInt8))(realm:List UInt8):List UInt8:=partsT parts++64::realm
def scan (parts:List (List UInt8)) (part:List UInt8):List UInt8→Option (List (List UInt8) × List UInt8)
 | []=>none
 | c::r=>
  if c.toNat=92 then
   match r with
   | []=>none
   | d::r'=>if spc d then scan parts (part++[d]) r' else none
  else if c.toNat=47 then scan (parts++[part]) [] r
  else if c.toNat=64 then some (parts++[part],r)
  else scan parts (part++[c]) r
theorem scan_cons (parts:List (List UInt8)) (part:List UInt8) (c:UInt8) (r:List UInt8):scan parts part (c::r)=(if c.toNat=92 then
   match r with
   | []=>none
   | d::r'=>if spc d then scan parts (part++[d]) r' else none
  else if c.toNat=47 then scan (parts++[part]) [] r
  else if c.toNat=64 then some (parts++[part],r)
  else scan parts (part++[c]) r):=by rw [scan.eq_def]
theorem scan_bs {parts:List (List UInt8)}{part:List UInt8}{c d:UInt8}{r:List UInt8}(h:c.toNat=92):scan parts part (c::d::r)=if spc d then scan parts (part++[d]) r else none:=by rw [scan_cons,if_pos h]
theorem scan_end {parts:List (List UInt8)}{part:List UInt8}{c:UInt8}(h:c.toNat=92):scan parts part [c]=none:=by rw [scan_cons,if_pos h]
theorem scan_sl {parts:List (List UInt8)}{part:List UInt8}{c:UInt8}{r:List UInt8}(h:c.toNat=47):scan parts part (c::r)=scan (parts++[part]) [] r:=by rw [scan_cons,if_neg (by omega),if_pos h]
theorem scan_at {parts:List (List UInt8)}{part:List UInt8}{c:UInt8}{r:List UInt8}(h:c.toNat=64):scan parts part (c::r)=some (parts++[part],r):=by rw [scan_cons,if_neg (by omega),if_neg (by omega),if_pos h]
theorem scan_ch {parts:List (List UInt8)}{part:List UInt8}{c:UInt8}{r:List UInt8}(h1:c.toNat≠92)(h2:c.toNat≠47)(h3:c.toNat≠64):scan parts part (c::r)=scan parts (part++[c]) r:=by rw [scan_cons,if_neg h1,if_neg h2,if_neg h3]
theorem spc_no {c:UInt8}(h:¬ spc c=true):c.toNat≠47∧c.toNat≠64∧c.toNat≠92:=by
 unfold spc at h
 simp only [decide_eq_true_eq] at h
 omega
theorem scan_esc:∀ (q parts:List (UInt8)) (ps:List (List UInt8)) (rest:List UInt8),scan ps parts (esc q++rest)=scan ps (parts++q) rest
 | [],part,ps,rest=>by simp [esc]
 | c::r,part,ps,rest=>by
  rw [esc]
  split
  ·rename_i h
   rw [List.cons_append,List.cons_append,scan_bs (by decide),if_pos h,scan_esc r]
   simp
  ·rename_i h
   have hs:=spc_no h
   rw [List.cons_append,scan_ch hs.2.2 hs.1 hs.2.1,scan_esc r]
   simp
theorem scan_parts:∀ (ls ps:List (List UInt8)) (realm:List UInt8),ls≠[]→scan ps [] (partsT ls++64::realm)=some (ps++ls,realm)
 | [],_,_,h=>absurd rfl h
 | [p],ps,realm,_=>by
  rw [partsT,scan_esc,List.nil_append,scan_at (by decide)]
 | p::q::r,ps,realm,_=>by
  rw [partsT,List.append_assoc,scan_esc,List.nil_append,List.cons_append,scan_sl (by decide),scan_parts (q::r) _ _ (by simp)]
  simp
theorem u8_of {c:UInt8}{n:Nat}(hn:n<256)(h:c.toNat=n):c=UInt8.ofNat n:=by
 apply UInt8.toNat_inj.1
 rw [h,UInt8.toNat_ofNat']
 omega
theorem esc_one {c:UInt8}(h:¬ spc c=true):esc [c]=[c]:=by rw [esc,if_neg h];rfl
theorem esc_spc {c:UInt8}(h:spc c=true):esc [c]=[92,c]:=by rw [esc,if_pos h];rfl
theorem partsT_open (parts:List (List UInt8))(part q:List UInt8):partsT (parts++[part++q])=partsT (parts++[part])++esc q:=by
 rw [partsT_snoc,partsT_snoc,esc_append]
 split<;>simp
theorem scan_text:∀ (n:Nat) (l:List UInt8) (parts:List (List UInt8)) (part:List UInt8) (p:List (List UInt8)) (r:List UInt8),l.length≤n→scan parts part l=some (p,r)→partsT (parts++[part])++l=textN p r
 | _,[],parts,part,p,r,_,h=>by simp [scan] at h
 | 0,c::l,_,_,_,_,hl,_=>by simp at hl
 | n+1,c::l,parts,part,p,r,hl,h=>by
  have hl':l.length≤n:=by simpa using hl
  unfold scan at h
  split at h
  ·rename_i h92
   cases l with
   | nil=>cases h
   | cons d l'=>
    simp only at h
    split at h
    ·rename_i hd
     have hl2:l'.length≤n:=by simp at hl';omega
     have ih:=scan_text n l' parts (part++[d]) p r hl2 h
     rw [partsT_open,esc_spc hd] at ih
     rw [← ih,u8_of (by omega) h92]
     simp
    ·cases h
  ·split at h
   ·rename_i h92 h47
    have ih:=scan_text n l (parts++[part]) [] p r hl' h
    rw [partsT_snoc,if_neg (by simp),esc] at ih
    rw [← ih,u8_of (by omega) h47]
    simp
   ·split at h
    ·rename_i h92 h47 h64
     simp only [Option.some.injEq,Prod.mk.injEq] at h
     obtain ⟨rfl,rfl⟩:=h
     rw [u8_of (by omega) h64];rfl
    ·rename_i h92 h47 h64
     have hs:¬ spc c=true:=by unfold spc;simp only [decide_eq_true_eq];omega
     have ih:=scan_text n l parts (part++[c]) p r hl' h
     rw [partsT_open,esc_one hs] at ih
     rw [← ih]
     simp
theorem nameB_ne {parts:List (List UInt8)}{realm:List UInt8}(h:nameB parts realm=true):parts≠[]:=by
 rintro rfl
 simp [nameB] at h
theorem textN_inj {p q:List (List UInt8)}{r t:List UInt8}(hp:p≠[])(hq:q≠[])(h:textN p r=textN q t):p=q∧r=t:=by
 have a:=scan_parts p [] r hp
 have b:=scan_parts q [] t hq
 unfold textN at h
 rw [h,b] at a
 simp only [List.nil_append,Option.some.injEq,Prod.mk.injEq] at a
 exact ⟨a.1.symm,a.2.symm⟩
end Go.Proofs.YtnjmndofcpnmeaaGreatDoor
namespace Go.Proofs.YtnjmndofcpnmeaaGreatDoor
open Go Go.Lib
set_option linter.unusedVariables false
def noneN (p:List (List UInt8))(r:List UInt8):Bool:=p.isEmpty&&r.isEmpty
def prsB (p:List (List UInt8))(r:List UInt8):Bool:=noneN p r||nameB p r
def kindW (k:Int):List UInt8:=if k=10 then [105,110,105,116,105,97,108] else if k=12 then [103,114,97,110,116] else [111,116,104,101,114]
def prsW (p:List (List UInt8))(r:List UInt8):List UInt8:=if noneN p r then [45] else textN p r
def timW (t m:Int):List UInt8:=itoa t++46::(List.replicate (6-(itoa m).length) 48++itoa m)
def visL (l:List UInt8):Prop:=∀ c∈l,33≤c.toNat∧c.toNat≤126
theorem visL.append {a b:List UInt8}(h:visL a)(k:visL b):visL (a++b):=fun c hc=>(List.mem_append.1 hc).elim (h c) (k c)
theorem visL.cons {c:UInt8}{l:List UInt8}(h:33≤c.toNat∧c.toNat≤126)(k:visL l):visL (c::l):=fun x hx=>(List.mem_cons.1 hx).elim (fun e=>e ▸ h) (k x)
theorem visL.nil:visL []:=fun c hc=>absurd hc (by simp)
theorem visL.no {l:List UInt8}(h:visL l){x:UInt8}(hx:x.toNat<33):∀ c∈l,c≠x:=fun c hc e=>by have:=h c hc;rw [e] at this;omega
theorem itoa_nn {x:Int}(h:0≤x):itoa x=decDigits x.toNat:=by unfold itoa;rw [if_neg (by omega)]
theorem dec_vis (n:Nat):visL (decDigits n):=fun c hc=>by have:=dec_dig n c hc;omega
theorem itoa_vis {x:Int}(h:0≤x):visL (itoa x):=by rw [itoa_nn h];exact dec_vis _
theorem timW_vis {t m:Int}(h:0≤t)(k:0≤m):visL (timW t m):=
 (itoa_vis h).append (visL.cons (by decide) (visL.append (fun c hc=>by rw [(List.mem_replicate.1 hc).2];decide) (itoa_vis k)))
theorem kindW_vis (k:Int):visL (kindW k):=by
 unfold kindW visL
 split
 ·decide
 ·split<;>decide
theorem esc_vis {l:List UInt8}(h:l.all prtc=true):visL (esc l):=by
 induction l with
 | nil=>exact visL.nil
 | cons c r ih=>
  rw [List.all_cons,Bool.and_eq_true] at h
  have hc:33≤c.toNat∧c.toNat≤126:=by simpa [prtc] using h.1
  rw [esc]
  split
  ·exact visL.cons (by decide) (visL.cons hc (ih h.2))
  ·exact visL.cons hc (ih h.2)
theorem lab_vis:∀ (l:List UInt8) (n:Nat),labB n l=true→visL l
 | [],_,_=>visL.nil
 | c::r,n,h=>by
  rw [labB] at h
  split at h
  ·next hc=>
   rw [Bool.and_eq_true] at h
   exact visL.cons (by omega) (lab_vis r 0 h.2)
  ·rw [Bool.and_eq_true] at h
   have hc:33≤c.toNat∧c.toNat≤126:=by
    have:=h.1
    unfold okc at this
    rw [decide_eq_true_eq] at this
    omega
   exact visL.cons hc (lab_vis r _ h.2)
theorem parts_vis:∀ (ls:List (List UInt8)),ls.all partB=true→visL (partsT ls)
 | [],_=>visL.nil
 | [p],h=>by
  rw [partsT]
  simp only [List.all_cons,List.all_nil,Bool.and_true,partB,Bool.and_eq_true] at h
  exact esc_vis h.2
 | p::q::r,h=>by
  rw [partsT]
  rw [List.all_cons,Bool.and_eq_true] at h
  have h1:=h.1
  simp only [partB,Bool.and_eq_true] at h1
  exact (esc_vis h1.2).append (visL.cons (by decide) (parts_vis (q::r) h.2))
theorem prsW_vis {p:List (List UInt8)}{r:List UInt8}(h:prsB p r=true):visL (prsW p r):=by
 unfold prsW
 split
 ·unfold visL;decide
 ·next hn=>
  unfold prsB at h
  rw [Bool.or_eq_true] at h
  rcases h with h | h
  ·exact absurd h hn
  ·unfold nameB at h
   simp only [Bool.and_eq_true] at h
   unfold textN
   have hr:=h.1.2
   unfold realmB at hr
   rw [Bool.and_eq_true] at hr
   exact (parts_vis p h.2).append (visL.cons (by decide) (lab_vis r 0 hr.2))
theorem hjoin_vis (g:List Nat):visL (hjoin g):=fun c hc=>by
 rcases hjoin_chr g c hc with rfl | h | h
 ·decide
 ·omega
 ·omega
theorem txtA_vis {k:Int}{b:List UInt8}(h:okA k b=true):visL (txtA k b):=by
 rcases okA_kinds h with ⟨rfl,hl⟩ | ⟨rfl,hl⟩ | ⟨rfl,hl,hv⟩
 ·obtain ⟨x,y,z,t,rfl⟩:=list4 hl
  show visL (txt4 [x,y,z,t])
  rw [txt4_eq]
  exact (dec_vis _).append (visL.cons (by decide) ((dec_vis _).append (visL.cons (by decide) ((dec_vis _).append (visL.cons (by decide) (dec_vis _))))))
 ·show visL (txt6 b)
  rcases txt6_shape hl with ⟨g,e,_⟩ | ⟨g1,g2,e,_⟩
  ·rw [e]
   exact visL.append (visL.cons (by decide) visL.nil) ((hjoin_vis g).append (visL.cons (by decide) visL.nil))
  ·rw [e]
   refine visL.append (visL.cons (by decide) visL.nil) ?_
   first
    | exact (hjoin_vis _).append (visL.append (by unfold visL;decide) ((hjoin_vis _).append (visL.cons (by decide) visL.nil)))
    | exact (hjoin_vis _).append (visL.cons (by decide) (visL.cons (by decide) ((hjoin_vis _).append (visL.cons (by decide) visL.nil))))
 ·show visL (txtH b)
  unfold txtH
  refine visL.append (by unfold visL;decide) fun c hc=>?_
  have:=List.all_eq_true.1 hv c hc
  simpa [visB] using this
theorem kindW_inj {k k':Int}(h:k=0∨k=10∨k=12)(h':k'=0∨k'=10∨k'=12)(e:kindW k=kindW k'):k=k':=by
 rcases h with rfl | rfl | rfl<;>rcases h' with rfl | rfl | rfl<;>first | rfl | (revert e;decide)
theorem itoa_inj {x y:Int}(h:0≤x)(k:0≤y)(e:itoa x=itoa y):x=y:=by
 rw [itoa_nn h,itoa_nn k] at e
 have:=dec_inj e
 omega
theorem valD_zeros (n:Nat)(l:List UInt8):valD 0 (List.replicate n 48++l)=valD 0 l:=by
 induction n with
 | zero=>rfl
 | succ n ih=>
  have e:10*0+((48:UInt8).toNat-48)=0:=by decide
  have h:valD 0 (48::(List.replicate n 48++l))=valD (10*0+((48:UInt8).toNat-48)) (List.replicate n 48++l):=rfl
  rw [List.replicate_succ,List.cons_append,h,e,ih]
theorem app_sep {x:UInt8}:∀ {a b a' b':List UInt8},x ∉ a→x ∉ a'→a++x::b=a'++x::b'→a=a'∧b=b'
 | [],b,[],b',_,_,e=>⟨rfl,by injection e⟩
 | [],b,c::a',b',_,h',e=>by injection e with e _;exact absurd (e ▸ List.mem_cons_self) h'
 | c::a,b,[],b',h,_,e=>by injection e with e _;exact absurd (e ▸ List.mem_cons_self) h
 | c::a,b,d::a',b',h,h',e=>by
  injection e with e1 e2
  obtain ⟨h1,h2⟩:=app_sep (fun hm=>h (List.mem_cons_of_mem _ hm)) (fun hm=>h' (List.mem_cons_of_mem _ hm)) e2
  exact ⟨by rw [e1,h1],h2⟩
theorem timW_inj {t m t' m':Int}(h:0≤t)(k:0≤m)(h':0≤t')(k':0≤m')(e:timW t m=timW t' m'):t=t'∧m=m':=by
 unfold timW at e
 have n1:(46:UInt8) ∉ itoa t:=by rw [itoa_nn h];exact dec_no _ _ (by decide)
 have n2:(46:UInt8) ∉ itoa t':=by rw [itoa_nn h'];exact dec_no _ _ (by decide)
 obtain ⟨e1,e2⟩:=app_sep n1 n2 e
 refine ⟨itoa_inj h h' e1,?_⟩
 have:=congrArg (valD 0) e2
 rw [valD_zeros,valD_zeros,itoa_nn k,itoa_nn k',valD_dec,valD_dec] at this
 omega
theorem textN_at (p:List (List UInt8))(r:List UInt8):(64:UInt8)∈textN p r:=by unfold textN;simp
theorem prsW_inj {p q:List (List UInt8)}{r s:List UInt8}(h:prsB p r=true)(k:prsB q s=true)(e:prsW p r=prsW q s):p=q∧r=s:=by
 unfold prsW at e
 have key:∀ {p:List (List UInt8)} {r:List UInt8},noneN p r=true→p=[]∧r=[]:=fun {p r} hn=>by
  unfold noneN at hn
  rw [Bool.and_eq_true] at hn
  exact ⟨List.isEmpty_iff.1 hn.1,List.isEmpty_iff.1 hn.2⟩
 unfold prsB at h k
 rw [Bool.or_eq_true] at h k
 by_cases h1:noneN p r=true
 ·by_cases h2:noneN q s=true
  ·obtain ⟨rfl,rfl⟩:=key h1
   obtain ⟨rfl,rfl⟩:=key h2
   exact ⟨rfl,rfl⟩
  ·rw [if_pos h1,if_neg h2] at e
   have:=textN_at q s
   rw [← e] at this
   exact absurd this (by decide)
 ·by_cases h2:noneN q s=true
  ·rw [if_neg h1,if_pos h2] at e
   have:=textN_at p r
   rw [e] at this
   exact absurd this (by decide)
  ·rw [if_neg h1,if_neg h2] at e
   exact textN_inj (nameB_ne (h.resolve_left h1)) (nameB_ne (k.resolve_left h2)) e
end Go.Proofs.YtnjmndofcpnmeaaGreatDoor
namespace Go.Proofs.YtnjmndofcpnmeaaGreatDoor
open Go
set_option linter.unusedVariables false
abbrev W32:=BitVec 32
def andW (x y:W32):W32:=x &&& y
def orW (x y:W32):W32:=x ||| y
theorem u32_and (x y:W32):bits .and .u32 (x.toNat:Int) (y.toNat:Int)=((andW x y).toNat:Int):=by
 unfold andW
 show IntKind.u32.wrap ((BitVec.ofInt 32 (x.toNat:Int) &&& BitVec.ofInt 32 (y.toNat:Int)).toNat:Int)=_
 rw [BitVec.ofInt_natCast,BitVec.ofInt_natCast,BitVec.ofNat_toNat,BitVec.ofNat_toNat,BitVec.setWidth_eq,BitVec.setWidth_eq]
 have:=(x &&& y).isLt
 exact IntWalk.u32_in _ (by omega)
theorem u32_or (x y:W32):bits .or .u32 (x.toNat:Int) (y.toNat:Int)=((orW x y).toNat:Int):=by
 unfold orW
 show IntKind.u32.wrap ((BitVec.ofInt 32 (x.toNat:Int) ||| BitVec.ofInt 32 (y.toNat:Int)).toNat:Int)=_
 rw [BitVec.ofInt_natCast,BitVec.ofInt_natCast,BitVec.ofNat_toNat,BitVec.ofNat_toNat,BitVec.setWidth_eq,BitVec.setWidth_eq]
 have:=(x ||| y).isLt
 exact IntWalk.u32_in _ (by omega)
def hasB (f g:W32):Bool:=andW f g==g
theorem u32_beq (x y:W32):((x.toNat:Int)==(y.toNat:Int))=(x==y):=by
 rw [Bool.eq_iff_iff,beq_iff_eq,beq_iff_eq]
 constructor
 ·intro h;exact BitVec.eq_of_toNat_eq (by omega)
 ·rintro rfl;rfl
theorem u32_of (f:Int)(h0:0≤f)(h1:f≤4294967295):∃ x:W32,f=(x.toNat:Int):=⟨BitVec.ofNat 32 f.toNat,by rw [BitVec.toNat_ofNat];omega⟩
def unionF (xs:List W32):W32:=xs.foldl orW 0#32
theorem unionF_snoc (xs:List W32)(x:W32):unionF (xs++[x])=orW (unionF xs) x:=by simp [unionF]
def tkM:W32:=4095#32
def opM:W32:=2031807#32
def tkB (f:W32):Bool:=hasB tkM f
def nmB (f:W32):Bool:=hasB (orW tkM opM) f
end Go.Proofs.YtnjmndofcpnmeaaGreatDoor
namespace Go.Proofs.YtnjmndofcpnmeaaGreatDoor
open Go Go.RowKit
set_option linter.unusedVariables false
def fv (x:W32):Value:=.int .u32 (x.toNat:Int)
theorem Has_at (x y:W32) (w:World):
  Calls Tryz.prog 136 #[.int .u32 (x.toNat:Int),.int .u32 (y.toNat:Int)] w fun e w'=>e=.returned (.bool (hasB x y))∧w=w':=by
 have h1:=u32_and x y
 have h2:=u32_beq (andW x y) y
 obtain ⟨b,hb⟩:∃ b,hasB x y=b:=⟨_,rfl⟩
 have hb':(andW x y==y)=b:=hb
 rw [hb'] at h2
 rw [hb]
 clear hb hb'
 go_enter Tryz.func136,Tryz.ntmps136
 go_wp2
 go_ret
 exact ⟨rfl,rfl⟩
theorem Has_lit (a:Int) (x y:W32) (h:a=(x.toNat:Int)) (w:World):
  Calls Tryz.prog 136 #[.int .u32 a,.int .u32 (y.toNat:Int)] w fun e w'=>e=.returned (.bool (hasB x y))∧w=w':=by
 subst h;exact Has_at x y w
theorem Has_lit2 (a:Int) (x y:W32) (h:a=(y.toNat:Int)) (w:World):
  Calls Tryz.prog 136 #[.int .u32 (x.toNat:Int),.int .u32 a] w fun e w'=>e=.returned (.bool (hasB x y))∧w=w':=by
 subst h;exact Has_at x y w
def fvs (xs:List W32):List Value:=xs.map fv
theorem fvs_length (xs:List W32):(fvs xs).length=xs.length:=by simp [fvs]
theorem fvs_get (xs:List W32)(k:Nat)(h:k<xs.length):(fvs xs)[k]? = some (.int .u32 (xs[k].toNat:Int)):=by simp [fvs,fv,h]
set_option maxRecDepth 100000 in
theorem union_at (A:Option Addr) (c:Nat) (xs:List W32) (hn:xs.length≤1000) (w:World) (h:RS w (.slice A xs.length c) (fvs xs)):
  Calls Tryz.prog 110 #[.slice A xs.length c] w fun e w'=>e=.returned (.int .u32 ((unionF xs).toNat:Int))∧w=w':=by
 have HR:=Lib.hid h;clear h
 go_enter Tryz.func110,Tryz.ntmps110
 go_wp2
 go_loopw [2,4,7] (fun f _ i wr=>∃ (k:Nat) (u:W32),k≤xs.length∧i=.int .i64 k∧f=.int .u32 (u.toNat:Int)∧Hid (u=unionF (xs.take k))∧wr=w) (fun _ _ i _=>xs.length-(intOf i).toNat)
 case atStart=>exact ⟨0,0#32,Nat.zero_le _,rfl,rfl,Lib.hid rfl,rfl⟩
 case round=>
  obtain ⟨k,u,hk,rfl,rfl,HU,rfl⟩:=hrel
  by_cases hlt:k<xs.length
  ·obtain ⟨A',c',he,e1,e2,e3⟩:=HR.out
   rw [fvs_length] at e1 e3 he
   injection he with z1 _ z3
   subst z1;subst z3
   obtain ⟨ad,rfl,hblt,hcell⟩:=e3 (by omega)
   have hck:=hcell k _ (fvs_get xs k hlt)
   have HS:=Lib.hid (show orW u xs[k]=unionF (xs.take (k+1)) by rw [List.take_succ_eq_append_getElem hlt,unionF_snoc,← HU.out])
   generalize xs[k]=x at hck HS
   have hor:=u32_or u x
   clear hcell e1 e2 e3 hblt
   go_wp2_with fail
   go_roundw
   case rel=>exact ⟨k+1,orW u x,by omega,by go_num,rfl,HS,trivial⟩
   case measure=>simp [intOf];omega
  ·have HF:=Lib.hid (show u=unionF xs by have:=HU.out;rwa [List.take_of_length_le (by omega)] at this)
   go_wp2_with fail
   go_ret
   exact ⟨by rw [← HF.out];rfl,rfl⟩
theorem union2_at (x y:W32) (w:World) (A:Option Addr) (c:Nat) (h:RS w (.slice A 2 c) (fvs [x,y])):
  Calls Tryz.prog 110 #[.slice A 2 c] w fun e w'=>e=.returned (.int .u32 ((orW x y).toNat:Int))∧w=w':=by
 have:=union_at A c [x,y] (by simp) w h
 rwa [show unionF [x,y]=orW x y by simp [unionF,orW]] at this
set_option maxRecDepth 100000 in
theorem Ticket_at (x:W32) (w:World):
  Calls Tryz.prog 83 #[.int .u32 (x.toNat:Int)] w fun e w'=>e=.returned (.bool (tkB x))∧w=w':=by
 have H:=Lib.hid (Has_lit 4095 tkM x (by decide))
 go_enter Tryz.func83,Tryz.ntmps83
 go_wp2_with fail
 refine (H.out w).mono ?_
 rintro _ w1 ⟨rfl,rfl⟩
 go_wp2_with fail
 go_ret
 exact ⟨rfl,rfl⟩
def namesL:List (Nat × ByteArray):=[(0,⟨#[102,111,114,119,97,114,100,97,98,108,101]⟩),(1,⟨#[102,111,114,119,97,114,100,101,100]⟩),(2,⟨#[112,114,111,120,105,97,98,108,101]⟩),(3,⟨#[112,114,111,120,121]⟩),(4,⟨#[109,97,121,45,112,111,115,116,100,97,116,101]⟩),(5,⟨#[112,111,115,116,100,97,116,101,100]⟩),(6,⟨#[105,110,118,97,108,105,100]⟩),(7,⟨#[114,101,110,101,119,97,98,108,101]⟩),(8,⟨#[105,110,105,116,105,97,108]⟩),(9,⟨#[112,114,101,45,97,117,116,104]⟩),(10,⟨#[116,114,97,110,115,105,116,101,100]⟩),(11,⟨#[100,101,108,101,103,97,116,101]⟩),(16,⟨#[114,101,110,101,119]⟩),(17,⟨#[118,97,108,105,100,97,116,101]⟩),(18,⟨#[99,97,110,111,110,105,99,97,108]⟩),(19,⟨#[99,111,110,115,116,114,97,105,110,101,100]⟩),(20,⟨#[114,101,110,101,119,97,98,108,101,45,111,107]⟩)]
def entsN (i:Nat):List MapEntry:=((namesL.take i).zipIdx).map fun x=>{ key:=.int .i64 (x.1.1:Int),val:=.string x.1.2,born:=x.2 }
def NM (W:World)(b:Nat):Prop:=W.heap[b]? = some (.map (entsN 17).toArray 17)
def nameAt (k:Nat):Option ByteArray:=(namesL.find? fun x=>x.1==k).map (·.2)
theorem run_mapNew {P:Program} {W:World} {T K E b n:Nat} {d:TypeDesc} {es:Array MapEntry} {k v:Value} (hT:P.underlying T=some (.map K E)) (hK:P.underlying K=some d) (hk:MapKept.IsKey d k) (h:W.heap[b]? = some (.map es n)) (hf:Instr.findNow d k es.toList 0=some none):
  (Instr.mapUpdate T (.map (some b)) k v).run P W=.ok () (W.putObj b (.map (es.push { key:=k,val:=v,born:=n }) (n+1))):=by
 simp [Instr.mapUpdate,run_underlying hT,MapKept.run_getObj_map h,MapKept.run_checkKey hK hk,MapKept.run_findKey hK hf,MapKept.run_setObj_map _ h,Result.andThen,World.putObj]
theorem ins0 (W:World)(b:Nat)(h:W.heap[b]? = some (.map (entsN 0).toArray 0)):(Instr.mapUpdate 207 (.map (some b)) (.int .i64 0) (.string ⟨#[102,111,114,119,97,114,100,97,98,108,101]⟩)).run Tryz.prog W=.ok () (W.putObj b (.map (entsN 1).toArray 1)):=
 run_mapNew (k:=.int .i64 0) Tryz.underlying207 Tryz.underlying3 (d:=.int .i64) rfl h (by kernel_rfl)
theorem ins1 (W:World)(b:Nat)(h:W.heap[b]? = some (.map (entsN 1).toArray 1)):(Instr.mapUpdate 207 (.map (some b)) (.int .i64 1) (.string ⟨#[102,111,114,119,97,114,100,101,100]⟩)).run Tryz.prog W=.ok () (W.putObj b (.map (entsN 2).toArray 2)):=
 run_mapNew (k:=.int .i64 1) Tryz.underlying207 Tryz.underlying3 (d:=.int .i64) rfl h (by kernel_rfl)
theorem ins2 (W:World)(b:Nat)(h:W.heap[b]? = some (.map (entsN 2).toArray 2)):(Instr.mapUpdate 207 (.map (some b)) (.int .i64 2) (.string ⟨#[112,114,111,120,105,97,98,108,101]⟩)).run Tryz.prog W=.ok () (W.putObj b (.map (entsN 3).toArray 3)):=
 run_mapNew (k:=.int .i64 2) Tryz.underlying207 Tryz.underlying3 (d:=.int .i64) rfl h (by kernel_rfl)
theorem ins3 (W:World)(b:Nat)(h:W.heap[b]? = some (.map (entsN 3).toArray 3)):(Instr.mapUpdate 207 (.map (some b)) (.int .i64 3) (.string ⟨#[112,114,111,120,121]⟩)).run Tryz.prog W=.ok () (W.putObj b (.map (entsN 4).toArray 4)):=
 run_mapNew (k:=.int .i64 3) Tryz.underlying207 Tryz.underlying3 (d:=.int .i64) rfl h (by kernel_rfl)
theorem ins4 (W:World)(b:Nat)(h:W.heap[b]? = some (.map (entsN 4).toArray 4)):(Instr.mapUpdate 207 (.map (some b)) (.int .i64 4) (.string ⟨#[109,97,121,45,112,111,115,116,100,97,116,101]⟩)).run Tryz.prog W=.ok () (W.putObj b (.map (entsN 5).toArray 5)):=
 run_mapNew (k:=.int .i64 4) Tryz.underlying207 Tryz.underlying3 (d:=.int .i64) rfl h (by kernel_rfl)
theorem ins5 (W:World)(b:Nat)(h:W.heap[b]? = some (.map (entsN 5).toArray 5)):(Instr.mapUpdate 207 (.map (some b)) (.int .i64 5) (.string ⟨#[112,111,115,116,100,97,116,101,100]⟩)).run Tryz.prog W=.ok () (W.putObj b (.map (entsN 6).toArray 6)):=
 run_mapNew (k:=.int .i64 5) Tryz.underlying207 Tryz.underlying3 (d:=.int .i64) rfl h (by kernel_rfl)
theorem ins6 (W:World)(b:Nat)(h:W.heap[b]? = some (.map (entsN 6).toArray 6)):(Instr.mapUpdate 207 (.map (some b)) (.int .i64 6) (.string ⟨#[105,110,118,97,108,105,100]⟩)).run Tryz.prog W=.ok () (W.putObj b (.map (entsN 7).toArray 7)):=
 run_mapNew (k:=.int .i64 6) Tryz.underlying207 Tryz.underlying3 (d:=.int .i64) rfl h (by kernel_rfl)
theorem ins7 (W:World)(b:Nat)(h:W.heap[b]? = some (.map (entsN 7).toArray 7)):(Instr.mapUpdate 207 (.map (some b)) (.int .i64 7) (.string ⟨#[114,101,110,101,119,97,98,108,101]⟩)).run Tryz.prog W=.ok () (W.putObj b (.map (entsN 8).toArray 8)):=
 run_mapNew (k:=.int .i64 7) Tryz.underlying207 Tryz.underlying3 (d:=.int .i64) rfl h (by kernel_rfl)
theorem ins8 (W:World)(b:Nat)(h:W.heap[b]? = some (.map (entsN 8).toArray 8)):(Instr.mapUpdate 207 (.map (some b)) (.int .i64 8) (.string ⟨#[105,110,105,116,105,97,108]⟩)).run Tryz.prog W=.ok () (W.putObj b (.map (entsN 9).toArray 9)):=
 run_mapNew (k:=.int .i64 8) Tryz.underlying207 Tryz.underlying3 (d:=.int .i64) rfl h (by kernel_rfl)
theorem ins9 (W:World)(b:Nat)(h:W.heap[b]? = some (.map (entsN 9).toArray 9)):(Instr.mapUpdate 207 (.map (some b)) (.int .i64 9) (.string ⟨#[112,114,101,45,97,117,116,104]⟩)).run Tryz.prog W=.ok () (W.putObj b (.map (entsN 10).toArray 10)):=
 run_mapNew (k:=.int .i64 9) Tryz.underlying207 Tryz.underlying3 (d:=.int .i64) rfl h (by kernel_rfl)
theorem ins10 (W:World)(b:Nat)(h:W.heap[b]? = some (.map (entsN 10).toArray 10)):(Instr.mapUpdate 207 (.map (some b)) (.int .i64 10) (.string ⟨#[116,114,97,110,115,105,116,101,100]⟩)).run Tryz.prog W=.ok () (W.putObj b (.map (entsN 11).toArray 11)):=
 run_mapNew (k:=.int .i64 10) Tryz.underlying207 Tryz.underlying3 (d:=.int .i64) rfl h (by kernel_rfl)
theorem ins11 (W:World)(b:Nat)(h:W.heap[b]? = some (.map (entsN 11).toArray 11)):(Instr.mapUpdate 207 (.map (some b)) (.int .i64 11) (.string ⟨#[100,101,108,101,103,97,116,101]⟩)).run Tryz.prog W=.ok () (W.putObj b (.map (entsN 12).toArray 12)):=
 run_mapNew (k:=.int .i64 11) Tryz.underlying207 Tryz.underlying3 (d:=.int .i64) rfl h (by kernel_rfl)
theorem ins12 (W:World)(b:Nat)(h:W.heap[b]? = some (.map (entsN 12).toArray 12)):(Instr.mapUpdate 207 (.map (some b)) (.int .i64 16) (.string ⟨#[114,101,110,101,119]⟩)).run Tryz.prog W=.ok () (W.putObj b (.map (entsN 13).toArray 13)):=
 run_mapNew (k:=.int .i64 16) Tryz.underlying207 Tryz.underlying3 (d:=.int .i64) rfl h (by kernel_rfl)
theorem ins13 (W:World)(b:Nat)(h:W.heap[b]? = some (.map (entsN 13).toArray 13)):(Instr.mapUpdate 207 (.map (some b)) (.int .i64 17) (.string ⟨#[118,97,108,105,100,97,116,101]⟩)).run Tryz.prog W=.ok () (W.putObj b (.map (entsN 14).toArray 14)):=
 run_mapNew (k:=.int .i64 17) Tryz.underlying207 Tryz.underlying3 (d:=.int .i64) rfl h (by kernel_rfl)
theorem ins14 (W:World)(b:Nat)(h:W.heap[b]? = some (.map (entsN 14).toArray 14)):(Instr.mapUpdate 207 (.map (some b)) (.int .i64 18) (.string ⟨#[99,97,110,111,110,105,99,97,108]⟩)).run Tryz.prog W=.ok () (W.putObj b (.map (entsN 15).toArray 15)):=
 run_mapNew (k:=.int .i64 18) Tryz.underlying207 Tryz.underlying3 (d:=.int .i64) rfl h (by kernel_rfl)
theorem ins15 (W:World)(b:Nat)(h:W.heap[b]? = some (.map (entsN 15).toArray 15)):(Instr.mapUpdate 207 (.map (some b)) (.int .i64 19) (.string ⟨#[99,111,110,115,116,114,97,105,110,101,100]⟩)).run Tryz.prog W=.ok () (W.putObj b (.map (entsN 16).toArray 16)):=
 run_mapNew (k:=.int .i64 19) Tryz.underlying207 Tryz.underlying3 (d:=.int .i64) rfl h (by kernel_rfl)
theorem ins16 (W:World)(b:Nat)(h:W.heap[b]? = some (.map (entsN 16).toArray 16)):(Instr.mapUpdate 207 (.map (some b)) (.int .i64 20) (.string ⟨#[114,101,110,101,119,97,98,108,101,45,111,107]⟩)).run Tryz.prog W=.ok () (W.putObj b (.map (entsN 17).toArray 17)):=
 run_mapNew (k:=.int .i64 20) Tryz.underlying207 Tryz.underlying3 (d:=.int .i64) rfl h (by kernel_rfl)
theorem put_same {W:World}{b:Nat}{o o':Obj}(h:W.heap[b]? = some o):(W.putObj b o').heap[b]? = some o':=World.putObj_heap_same (Array.getElem?_eq_some_iff.1 h).1
theorem ext_put {w W:World}{b:Nat}{o:Obj}(h:Ext w W)(hb:w.heap.size≤b):Ext w (W.putObj b o):=
 ⟨h.os,h.tape,h.output,Nat.le_trans h.size (by simp [World.putObj]),fun k hk=>(World.putObj_heap_other (by omega)).trans (h.block k hk)⟩
set_option maxRecDepth 100000 in
set_option maxHeartbeats 1000000 in
theorem names_at (w:World):
  Calls Tryz.prog 158 #[] w fun e w'=>e=.returned (.map (some w.heap.size))∧NM w' w.heap.size∧Ext w w':=by
 have hmm:=@run_makeMap Tryz.prog
 have g0:(w.alloc (.map #[] 0)).heap[w.heap.size]? = some (.map (entsN 0).toArray 0):=heap_alloc_new w _
 have x0:=(Ext.refl w).alloc (.map #[] 0)
 obtain ⟨W0,hW0⟩:∃ W,w.alloc (.map #[] 0)=W:=⟨_,rfl⟩
 rw [hW0] at g0 x0
 have h0:=ins0 W0 _ g0
 have g1:=put_same (o':=.map (entsN 1).toArray 1) g0
 have x1:=ext_put (o:=.map (entsN 1).toArray 1) x0 (Nat.le_refl _)
 obtain ⟨W1,hW1⟩:∃ W,W0.putObj w.heap.size (.map (entsN 1).toArray 1)=W:=⟨_,rfl⟩
 rw [hW1] at h0 g1 x1
 clear hW1
 have h1:=ins1 W1 _ g1
 have g2:=put_same (o':=.map (entsN 2).toArray 2) g1
 have x2:=ext_put (o:=.map (entsN 2).toArray 2) x1 (Nat.le_refl _)
 obtain ⟨W2,hW2⟩:∃ W,W1.putObj w.heap.size (.map (entsN 2).toArray 2)=W:=⟨_,rfl⟩
 rw [hW2] at h1 g2 x2
 clear hW2
 have h2:=ins2 W2 _ g2
 have g3:=put_same (o':=.map (entsN 3).toArray 3) g2
 have x3:=ext_put (o:=.map (entsN 3).toArray 3) x2 (Nat.le_refl _)
 obtain ⟨W3,hW3⟩:∃ W,W2.putObj w.heap.size (.map (entsN 3).toArray 3)=W:=⟨_,rfl⟩
 rw [hW3] at h2 g3 x3
 clear hW3
 have h3:=ins3 W3 _ g3
 have g4:=put_same (o':=.map (entsN 4).toArray 4) g3
 have x4:=ext_put (o:=.map (entsN 4).toArray 4) x3 (Nat.le_refl _)
 obtain ⟨W4,hW4⟩:∃ W,W3.putObj w.heap.size (.map (entsN 4).toArray 4)=W:=⟨_,rfl⟩
 rw [hW4] at h3 g4 x4
 clear hW4
 have h4:=ins4 W4 _ g4
 have g5:=put_same (o':=.map (entsN 5).toArray 5) g4
 have x5:=ext_put (o:=.map (entsN 5).toArray 5) x4 (Nat.le_refl _)
 obtain ⟨W5,hW5⟩:∃ W,W4.putObj w.heap.size (.map (entsN 5).toArray 5)=W:=⟨_,rfl⟩
 rw [hW5] at h4 g5 x5
 clear hW5
 have h5:=ins5 W5 _ g5
 have g6:=put_same (o':=.map (entsN 6).toArray 6) g5
 have x6:=ext_put (o:=.map (entsN 6).toArray 6) x5 (Nat.le_refl _)
 obtain ⟨W6,hW6⟩:∃ W,W5.putObj w.heap.size (.map (entsN 6).toArray 6)=W:=⟨_,rfl⟩
 rw [hW6] at h5 g6 x6
 clear hW6
 have h6:=ins6 W6 _ g6
 have g7:=put_same (o':=.map (entsN 7).toArray 7) g6
 have x7:=ext_put (o:=.map (entsN 7).toArray 7) x6 (Nat.le_refl _)
 obtain ⟨W7,hW7⟩:∃ W,W6.putObj w.heap.size (.map (entsN 7).toArray 7)=W:=⟨_,rfl⟩
 rw [hW7] at h6 g7 x7
 clear hW7
 have h7:=ins7 W7 _ g7
 have g8:=put_same (o':=.map (entsN 8).toArray 8) g7
 have x8:=ext_put (o:=.map (entsN 8).toArray 8) x7 (Nat.le_refl _)
 obtain ⟨W8,hW8⟩:∃ W,W7.putObj w.heap.size (.map (entsN 8).toArray 8)=W:=⟨_,rfl⟩
 rw [hW8] at h7 g8 x8
 clear hW8
 have h8:=ins8 W8 _ g8
 have g9:=put_same (o':=.map (entsN 9).toArray 9) g8
 have x9:=ext_put (o:=.map (entsN 9).toArray 9) x8 (Nat.le_refl _)
 obtain ⟨W9,hW9⟩:∃ W,W8.putObj w.heap.size (.map (entsN 9).toArray 9)=W:=⟨_,rfl⟩
 rw [hW9] at h8 g9 x9
 clear hW9
 have h9:=ins9 W9 _ g9
 have g10:=put_same (o':=.map (entsN 10).toArray 10) g9
 have x10:=ext_put (o:=.map (entsN 10).toArray 10) x9 (Nat.le_refl _)
 obtain ⟨W10,hW10⟩:∃ W,W9.putObj w.heap.size (.map (entsN 10).toArray 10)=W:=⟨_,rfl⟩
 rw [hW10] at h9 g10 x10
 clear hW10
 have h10:=ins10 W10 _ g10
 have g11:=put_same (o':=.map (entsN 11).toArray 11) g10
 have x11:=ext_put (o:=.map (entsN 11).toArray 11) x10 (Nat.le_refl _)
 obtain ⟨W11,hW11⟩:∃ W,W10.putObj w.heap.size (.map (entsN 11).toArray 11)=W:=⟨_,rfl⟩
 rw [hW11] at h10 g11 x11
 clear hW11
 have h11:=ins11 W11 _ g11
 have g12:=put_same (o':=.map (entsN 12).toArray 12) g11
 have x12:=ext_put (o:=.map (entsN 12).toArray 12) x11 (Nat.le_refl _)
 obtain ⟨W12,hW12⟩:∃ W,W11.putObj w.heap.size (.map (entsN 12).toArray 12)=W:=⟨_,rfl⟩
 rw [hW12] at h11 g12 x12
 clear hW12
 have h12:=ins12 W12 _ g12
 have g13:=put_same (o':=.map (entsN 13).toArray 13) g12
 have x13:=ext_put (o:=.map (entsN 13).toArray 13) x12 (Nat.le_refl _)
 obtain ⟨W13,hW13⟩:∃ W,W12.putObj w.heap.size (.map (entsN 13).toArray 13)=W:=⟨_,rfl⟩
 rw [hW13] at h12 g13 x13
 clear hW13
 have h13:=ins13 W13 _ g13
 have g14:=put_same (o':=.map (entsN 14).toArray 14) g13
 have x14:=ext_put (o:=.map (entsN 14).toArray 14) x13 (Nat.le_refl _)
 obtain ⟨W14,hW14⟩:∃ W,W13.putObj w.heap.size (.map (entsN 14).toArray 14)=W:=⟨_,rfl⟩
 rw [hW14] at h13 g14 x14
 clear hW14
 have h14:=ins14 W14 _ g14
 have g15:=put_same (o':=.map (entsN 15).toArray 15) g14
 have x15:=ext_put (o:=.map (entsN 15).toArray 15) x14 (Nat.le_refl _)
 obtain ⟨W15,hW15⟩:∃ W,W14.putObj w.heap.size (.map (entsN 15).toArray 15)=W:=⟨_,rfl⟩
 rw [hW15] at h14 g15 x15
 clear hW15
 have h15:=ins15 W15 _ g15
 have g16:=put_same (o':=.map (entsN 16).toArray 16) g15
 have x16:=ext_put (o:=.map (entsN 16).toArray 16) x15 (Nat.le_refl _)
 obtain ⟨W16,hW16⟩:∃ W,W15.putObj w.heap.size (.map (entsN 16).toArray 16)=W:=⟨_,rfl⟩
 rw [hW16] at h15 g16 x16
 clear hW16
 have h16:=ins16 W16 _ g16
 have g17:=put_same (o':=.map (entsN 17).toArray 17) g16
 have x17:=ext_put (o:=.map (entsN 17).toArray 17) x16 (Nat.le_refl _)
 obtain ⟨W17,hW17⟩:∃ W,W16.putObj w.heap.size (.map (entsN 17).toArray 17)=W:=⟨_,rfl⟩
 rw [hW17] at h16 g17 x17
 clear hW17
 have G:=Lib.hid g17;have X:=Lib.hid x17
 clear g0 x0 g1 x1 g2 x2 g3 x3 g4 x4 g5 x5 g6 x6 g7 x7 g8 x8 g9 x9 g10 x10 g11 x11 g12 x12 g13 x13 g14 x14 g15 x15 g16 x16 g17 x17
 go_enter Tryz.func158,Tryz.ntmps158
 go_wp2
 go_ret
 exact ⟨rfl,G.out,X.out⟩
def lookV (k:Nat):Value:=match nameAt k with | some s=>.tuple #[.string s,.bool true] | none=>.tuple #[.string ⟨#[]⟩,.bool false]
theorem run_look {P:Program} {W:World} {T K E b n:Nat} {d:TypeDesc} {es:Array MapEntry} {k z v:Value} {r:Option (Nat × Value)} {ok:Bool} (hT:P.underlying T=some (.map K E)) (hK:P.underlying K=some d) (hk:MapKept.IsKey d k) (h:W.heap[b]? = some (.map es n)) (hz:(zeroValue E).run P W=.ok z W) (hf:Instr.findNow d k es.toList 0=some r)
  (hr:v=(match r with | some x=>x.2 | none=>z)) (hok:ok=r.isSome):(Instr.lookup T (.map (some b)) k true).run P W=.ok (.tuple #[v,.bool ok]) W:=by
 subst hr;subst hok
 cases r with
 | none=>simp [Instr.lookup,run_underlying hT,MapKept.run_getObj_map h,MapKept.run_checkKey hK hk,MapKept.run_findKey hK hf,hz,Result.andThen]
 | some x=>simp [Instr.lookup,run_underlying hT,MapKept.run_getObj_map h,MapKept.run_checkKey hK hk,MapKept.run_findKey hK hf,Result.andThen]
theorem zeroS (W:World):(zeroValue 9).run Tryz.prog W=.ok (.string ⟨#[]⟩) W:=by kernel_rfl
theorem look0 (W:World)(b:Nat)(h:NM W b):(Instr.lookup 207 (.map (some b)) (.int .i64 0) true).run Tryz.prog W=.ok (lookV 0) W:=
 run_look (k:=.int .i64 0) Tryz.underlying207 Tryz.underlying3 (d:=.int .i64) rfl h (zeroS W) (r:=some (0,.string ⟨#[102,111,114,119,97,114,100,97,98,108,101]⟩)) (by kernel_rfl) (by kernel_rfl) rfl
theorem look1 (W:World)(b:Nat)(h:NM W b):(Instr.lookup 207 (.map (some b)) (.int .i64 1) true).run Tryz.prog W=.ok (lookV 1) W:=
 run_look (k:=.int .i64 1) Tryz.underlying207 Tryz.underlying3 (d:=.int .i64) rfl h (zeroS W) (r:=some (1,.string ⟨#[102,111,114,119,97,114,100,101,100]⟩)) (by kernel_rfl) (by kernel_rfl) rfl
theorem look2 (W:World)(b:Nat)(h:NM W b):(Instr.lookup 207 (.map (some b)) (.int .i64 2) true).run Tryz.prog W=.ok (lookV 2) W:=
 run_look (k:=.int .i64 2) Tryz.underlying207 Tryz.underlying3 (d:=.int .i64) rfl h (zeroS W) (r:=some (2,.string ⟨#[112,114,111,120,105,97,98,108,101]⟩)) (by kernel_rfl) (by kernel_rfl) rfl
theorem look3 (W:World)(b:Nat)(h:NM W b):(Instr.lookup 207 (.map (some b)) (.int .i64 3) true).run Tryz.prog W=.ok (lookV 3) W:=
 run_look (k:=.int .i64 3) Tryz.underlying207 Tryz.underlying3 (d:=.int .i64) rfl h (zeroS W) (r:=some (3,.string ⟨#[112,114,111,120,121]⟩)) (by kernel_rfl) (by kernel_rfl) rfl
theorem look4 (W:World)(b:Nat)(h:NM W b):(Instr.lookup 207 (.map (some b)) (.int .i64 4) true).run Tryz.prog W=.ok (lookV 4) W:=
 run_look (k:=.int .i64 4) Tryz.underlying207 Tryz.underlying3 (d:=.int .i64) rfl h (zeroS W) (r:=some (4,.string ⟨#[109,97,121,45,112,111,115,116,100,97,116,101]⟩)) (by kernel_rfl) (by kernel_rfl) rfl
theorem look5 (W:World)(b:Nat)(h:NM W b):(Instr.lookup 207 (.map (some b)) (.int .i64 5) true).run Tryz.prog W=.ok (lookV 5) W:=
 run_look (k:=.int .i64 5) Tryz.underlying207 Tryz.underlying3 (d:=.int .i64) rfl h (zeroS W) (r:=some (5,.string ⟨#[112,111,115,116,100,97,116,101,100]⟩)) (by kernel_rfl) (by kernel_rfl) rfl
theorem look6 (W:World)(b:Nat)(h:NM W b):(Instr.lookup 207 (.map (some b)) (.int .i64 6) true).run Tryz.prog W=.ok (lookV 6) W:=
 run_look (k:=.int .i64 6) Tryz.underlying207 Tryz.underlying3 (d:=.int .i64) rfl h (zeroS W) (r:=some (6,.string ⟨#[105,110,118,97,108,105,100]⟩)) (by kernel_rfl) (by kernel_rfl) rfl
theorem look7 (W:World)(b:Nat)(h:NM W b):(Instr.lookup 207 (.map (some b)) (.int .i64 7) true).run Tryz.prog W=.ok (lookV 7) W:=
 run_look (k:=.int .i64 7) Tryz.underlying207 Tryz.underlying3 (d:=.int .i64) rfl h (zeroS W) (r:=some (7,.string ⟨#[114,101,110,101,119,97,98,108,101]⟩)) (by kernel_rfl) (by kernel_rfl) rfl
theorem look8 (W:World)(b:Nat)(h:NM W b):(Instr.lookup 207 (.map (some b)) (.int .i64 8) true).run Tryz.prog W=.ok (lookV 8) W:=
 run_look (k:=.int .i64 8) Tryz.underlying207 Tryz.underlying3 (d:=.int .i64) rfl h (zeroS W) (r:=some (8,.string ⟨#[105,110,105,116,105,97,108]⟩)) (by kernel_rfl) (by kernel_rfl) rfl
theorem look9 (W:World)(b:Nat)(h:NM W b):(Instr.lookup 207 (.map (some b)) (.int .i64 9) true).run Tryz.prog W=.ok (lookV 9) W:=
 run_look (k:=.int .i64 9) Tryz.underlying207 Tryz.underlying3 (d:=.int .i64) rfl h (zeroS W) (r:=some (9,.string ⟨#[112,114,101,45,97,117,116,104]⟩)) (by kernel_rfl) (by kernel_rfl) rfl
theorem look10 (W:World)(b:Nat)(h:NM W b):(Instr.lookup 207 (.map (some b)) (.int .i64 10) true).run Tryz.prog W=.ok (lookV 10) W:=
 run_look (k:=.int .i64 10) Tryz.underlying207 Tryz.underlying3 (d:=.int .i64) rfl h (zeroS W) (r:=some (10,.string ⟨#[116,114,97,110,115,105,116,101,100]⟩)) (by kernel_rfl) (by kernel_rfl) rfl
theorem look11 (W:World)(b:Nat)(h:NM W b):(Instr.lookup 207 (.map (some b)) (.int .i64 11) true).run Tryz.prog W=.ok (lookV 11) W:=
 run_look (k:=.int .i64 11) Tryz.underlying207 Tryz.underlying3 (d:=.int .i64) rfl h (zeroS W) (r:=some (11,.string ⟨#[100,101,108,101,103,97,116,101]⟩)) (by kernel_rfl) (by kernel_rfl) rfl
theorem look12 (W:World)(b:Nat)(h:NM W b):(Instr.lookup 207 (.map (some b)) (.int .i64 12) true).run Tryz.prog W=.ok (lookV 12) W:=
 run_look (k:=.int .i64 12) Tryz.underlying207 Tryz.underlying3 (d:=.int .i64) rfl h (zeroS W) (r:=none) (by kernel_rfl) (by kernel_rfl) rfl
theorem look13 (W:World)(b:Nat)(h:NM W b):(Instr.lookup 207 (.map (some b)) (.int .i64 13) true).run Tryz.prog W=.ok (lookV 13) W:=
 run_look (k:=.int .i64 13) Tryz.underlying207 Tryz.underlying3 (d:=.int .i64) rfl h (zeroS W) (r:=none) (by kernel_rfl) (by kernel_rfl) rfl
theorem look14 (W:World)(b:Nat)(h:NM W b):(Instr.lookup 207 (.map (some b)) (.int .i64 14) true).run Tryz.prog W=.ok (lookV 14) W:=
 run_look (k:=.int .i64 14) Tryz.underlying207 Tryz.underlying3 (d:=.int .i64) rfl h (zeroS W) (r:=none) (by kernel_rfl) (by kernel_rfl) rfl
theorem look15 (W:World)(b:Nat)(h:NM W b):(Instr.lookup 207 (.map (some b)) (.int .i64 15) true).run Tryz.prog W=.ok (lookV 15) W:=
 run_look (k:=.int .i64 15) Tryz.underlying207 Tryz.underlying3 (d:=.int .i64) rfl h (zeroS W) (r:=none) (by kernel_rfl) (by kernel_rfl) rfl
theorem look16 (W:World)(b:Nat)(h:NM W b):(Instr.lookup 207 (.map (some b)) (.int .i64 16) true).run Tryz.prog W=.ok (lookV 16) W:=
 run_look (k:=.int .i64 16) Tryz.underlying207 Tryz.underlying3 (d:=.int .i64) rfl h (zeroS W) (r:=some (12,.string ⟨#[114,101,110,101,119]⟩)) (by kernel_rfl) (by kernel_rfl) rfl
theorem look17 (W:World)(b:Nat)(h:NM W b):(Instr.lookup 207 (.map (some b)) (.int .i64 17) true).run Tryz.prog W=.ok (lookV 17) W:=
 run_look (k:=.int .i64 17) Tryz.underlying207 Tryz.underlying3 (d:=.int .i64) rfl h (zeroS W) (r:=some (13,.string ⟨#[118,97,108,105,100,97,116,101]⟩)) (by kernel_rfl) (by kernel_rfl) rfl
theorem look18 (W:World)(b:Nat)(h:NM W b):(Instr.lookup 207 (.map (some b)) (.int .i64 18) true).run Tryz.prog W=.ok (lookV 18) W:=
 run_look (k:=.int .i64 18) Tryz.underlying207 Tryz.underlying3 (d:=.int .i64) rfl h (zeroS W) (r:=some (14,.string ⟨#[99,97,110,111,110,105,99,97,108]⟩)) (by kernel_rfl) (by kernel_rfl) rfl
theorem look19 (W:World)(b:Nat)(h:NM W b):(Instr.lookup 207 (.map (some b)) (.int .i64 19) true).run Tryz.prog W=.ok (lookV 19) W:=
 run_look (k:=.int .i64 19) Tryz.underlying207 Tryz.underlying3 (d:=.int .i64) rfl h (zeroS W) (r:=some (15,.string ⟨#[99,111,110,115,116,114,97,105,110,101,100]⟩)) (by kernel_rfl) (by kernel_rfl) rfl
theorem look20 (W:World)(b:Nat)(h:NM W b):(Instr.lookup 207 (.map (some b)) (.int .i64 20) true).run Tryz.prog W=.ok (lookV 20) W:=
 run_look (k:=.int .i64 20) Tryz.underlying207 Tryz.underlying3 (d:=.int .i64) rfl h (zeroS W) (r:=some (16,.string ⟨#[114,101,110,101,119,97,98,108,101,45,111,107]⟩)) (by kernel_rfl) (by kernel_rfl) rfl
theorem look21 (W:World)(b:Nat)(h:NM W b):(Instr.lookup 207 (.map (some b)) (.int .i64 21) true).run Tryz.prog W=.ok (lookV 21) W:=
 run_look (k:=.int .i64 21) Tryz.underlying207 Tryz.underlying3 (d:=.int .i64) rfl h (zeroS W) (r:=none) (by kernel_rfl) (by kernel_rfl) rfl
theorem look22 (W:World)(b:Nat)(h:NM W b):(Instr.lookup 207 (.map (some b)) (.int .i64 22) true).run Tryz.prog W=.ok (lookV 22) W:=
 run_look (k:=.int .i64 22) Tryz.underlying207 Tryz.underlying3 (d:=.int .i64) rfl h (zeroS W) (r:=none) (by kernel_rfl) (by kernel_rfl) rfl
theorem look23 (W:World)(b:Nat)(h:NM W b):(Instr.lookup 207 (.map (some b)) (.int .i64 23) true).run Tryz.prog W=.ok (lookV 23) W:=
 run_look (k:=.int .i64 23) Tryz.underlying207 Tryz.underlying3 (d:=.int .i64) rfl h (zeroS W) (r:=none) (by kernel_rfl) (by kernel_rfl) rfl
theorem look24 (W:World)(b:Nat)(h:NM W b):(Instr.lookup 207 (.map (some b)) (.int .i64 24) true).run Tryz.prog W=.ok (lookV 24) W:=
 run_look (k:=.int .i64 24) Tryz.underlying207 Tryz.underlying3 (d:=.int .i64) rfl h (zeroS W) (r:=none) (by kernel_rfl) (by kernel_rfl) rfl
theorem look25 (W:World)(b:Nat)(h:NM W b):(Instr.lookup 207 (.map (some b)) (.int .i64 25) true).run Tryz.prog W=.ok (lookV 25) W:=
 run_look (k:=.int .i64 25) Tryz.underlying207 Tryz.underlying3 (d:=.int .i64) rfl h (zeroS W) (r:=none) (by kernel_rfl) (by kernel_rfl) rfl
theorem look26 (W:World)(b:Nat)(h:NM W b):(Instr.lookup 207 (.map (some b)) (.int .i64 26) true).run Tryz.prog W=.ok (lookV 26) W:=
 run_look (k:=.int .i64 26) Tryz.underlying207 Tryz.underlying3 (d:=.int .i64) rfl h (zeroS W) (r:=none) (by kernel_rfl) (by kernel_rfl) rfl
theorem look27 (W:World)(b:Nat)(h:NM W b):(Instr.lookup 207 (.map (some b)) (.int .i64 27) true).run Tryz.prog W=.ok (lookV 27) W:=
 run_look (k:=.int .i64 27) Tryz.underlying207 Tryz.underlying3 (d:=.int .i64) rfl h (zeroS W) (r:=none) (by kernel_rfl) (by kernel_rfl) rfl
theorem look28 (W:World)(b:Nat)(h:NM W b):(Instr.lookup 207 (.map (some b)) (.int .i64 28) true).run Tryz.prog W=.ok (lookV 28) W:=
 run_look (k:=.int .i64 28) Tryz.underlying207 Tryz.underlying3 (d:=.int .i64) rfl h (zeroS W) (r:=none) (by kernel_rfl) (by kernel_rfl) rfl
theorem look29 (W:World)(b:Nat)(h:NM W b):(Instr.lookup 207 (.map (some b)) (.int .i64 29) true).run Tryz.prog W=.ok (lookV 29) W:=
 run_look (k:=.int .i64 29) Tryz.underlying207 Tryz.underlying3 (d:=.int .i64) rfl h (zeroS W) (r:=none) (by kernel_rfl) (by kernel_rfl) rfl
theorem look30 (W:World)(b:Nat)(h:NM W b):(Instr.lookup 207 (.map (some b)) (.int .i64 30) true).run Tryz.prog W=.ok (lookV 30) W:=
 run_look (k:=.int .i64 30) Tryz.underlying207 Tryz.underlying3 (d:=.int .i64) rfl h (zeroS W) (r:=none) (by kernel_rfl) (by kernel_rfl) rfl
theorem look31 (W:World)(b:Nat)(h:NM W b):(Instr.lookup 207 (.map (some b)) (.int .i64 31) true).run Tryz.prog W=.ok (lookV 31) W:=
 run_look (k:=.int .i64 31) Tryz.underlying207 Tryz.underlying3 (d:=.int .i64) rfl h (zeroS W) (r:=none) (by kernel_rfl) (by kernel_rfl) rfl
theorem look_at (W:World)(b k:Nat)(hk:k<32)(h:NM W b):(Instr.lookup 207 (.map (some b)) (.int .i64 (k:Int)) true).run Tryz.prog W=.ok (lookV k) W:=by
 rcases (show k=0∨k=1∨k=2∨k=3∨k=4∨k=5∨k=6∨k=7∨k=8∨k=9∨k=10∨k=11∨k=12∨k=13∨k=14∨k=15∨k=16∨k=17∨k=18∨k=19∨k=20∨k=21∨k=22∨k=23∨k=24∨k=25∨k=26∨k=27∨k=28∨k=29∨k=30∨k=31 by omega) with rfl | rfl | rfl | rfl | rfl | rfl | rfl | rfl | rfl | rfl | rfl | rfl | rfl | rfl | rfl | rfl | rfl | rfl | rfl | rfl | rfl | rfl | rfl | rfl | rfl | rfl | rfl | rfl | rfl | rfl | rfl | rfl
 ·exact look0 W b h
 ·exact look1 W b h
 ·exact look2 W b h
 ·exact look3 W b h
 ·exact look4 W b h
 ·exact look5 W b h
 ·exact look6 W b h
 ·exact look7 W b h
 ·exact look8 W b h
 ·exact look9 W b h
 ·exact look10 W b h
 ·exact look11 W b h
 ·exact look12 W b h
 ·exact look13 W b h
 ·exact look14 W b h
 ·exact look15 W b h
 ·exact look16 W b h
 ·exact look17 W b h
 ·exact look18 W b h
 ·exact look19 W b h
 ·exact look20 W b h
 ·exact look21 W b h
 ·exact look22 W b h
 ·exact look23 W b h
 ·exact look24 W b h
 ·exact look25 W b h
 ·exact look26 W b h
 ·exact look27 W b h
 ·exact look28 W b h
 ·exact look29 W b h
 ·exact look30 W b h
 ·exact look31 W b h
def NCK (B:Nat)(W W':World):Prop:=W.heap.size≤W'.heap.size∧∀ k o,B≤k→W.heap[k]? = some o→o.isCells=false→W'.heap[k]? = some o
theorem NCK.trans {B:Nat}{X Y Z:World}(h:NCK B X Y)(k:NCK B Y Z):NCK B X Z:=⟨Nat.le_trans h.1 k.1,fun i o hB hi ho=>k.2 i o hB (h.2 i o hB hi ho) ho⟩
theorem NCK.of_keeps {B C:Nat}{X Y:World}(h:KeepsFrom B X Y)(hB:B≤C):NCK C X Y:=⟨h.size,fun k o hk hi ho=>h.same k o (by omega) hi ho⟩
theorem NCK.put {B l:Nat}{W:World}(o:Obj)(h:l<B):NCK B W (W.putObj l o):=⟨by simp [World.putObj],fun k o' hk hi _=>(World.putObj_heap_other (by omega)).trans hi⟩
section
variable {P:Program}
def IterM {α:Type}(P:Program)(gf:Nat)(lb:Array Value)(encs:α→Array Value)(It:World→Prop)(G:List α→α→World→Prop)(own:Nat→Prop)(S Sp:List α→Prop):Prop:=
 ∀ (l:Nat) (J Jx:List α→World→Prop) (W:World),
  (∀ pre A B r,(∀ k,r=some k→own k)→A.grownBy B r→J pre A→J pre B)→(∀ pre A B r,(∀ k,r=some k→own k)→A.grownBy B r→Jx pre A→Jx pre B) →
  (∀ pre x W1,J pre W1→It W1→G pre x W1→YieldAt Fence.wide 0 P l (encs x) W1 fun e W'=>NCK W.heap.size W1 W' ∧
   ((e=.returned (.bool true)∧J (pre++[x]) W'∧It W')∨(e=.returned (.bool false)∧Jx (pre++[x]) W'))) →
  It W→J [] W →
  CallsIn Fence.wide 0 P gf (#[.func (.yield l) #[] #[]]++lb) W fun e W'=>(∃ v,e=.returned v)∧((∃ xs,S xs∧J xs W'∧It W')∨(∃ pre,Sp pre∧Jx pre W'))
theorem wp_rangeM {α:Type} {g:Operand} {ps:Array Tmp} {assign body:Code} {Q:Exit→Act→World→Prop} {a:Act} {w:World}
  {gf:Nat} {lb:Array Value} (hg:a.eval g=.func (.func gf) #[] lb) (eg:∀ args w,(callFunc gf args).run P w=.ok (.enter gf args) w)
  {encs:α→Array Value} {It:World→Prop} {G:List α→α→World→Prop} {own:Nat→Prop} {S Sp:List α→Prop} (hseq:IterM P gf lb encs It G own S Sp) (hps:∀ x,(encs x).size=ps.size)
  (hown:∀ k,own k→k<w.heap.size) (hIt0:It w) (hIt:Stab w.heap.size It)
  (I:List α→World→Prop) (Ix:Code→List α→World→Prop) (hI:∀ pre,Stab w.heap.size (I pre)) (hIx:∀ c pre,Stab w.heap.size (Ix c pre))
  (hIo:∀ pre A B r,(∀ k,r=some k→own k)→A.grownBy B r→I pre A→I pre B) (hIxo:∀ c pre A B r,(∀ k,r=some k→own k)→A.grownBy B r→Ix c pre A→Ix c pre B)
  (h0:I [] w)
  (hround:∀ (l:Nat) (pre:List α) (x:α) (W:World),w.heap.size≤l→NC W l→w.heap.size≤W.heap.size→I pre W→It W→G pre x W →
   assign.wpIn (Fence.wide.inRound l) 0 P (Exit.then (fun a' W1=>KeepsFrom w.heap.size W W1∧∀ W2,W1.grownBy W2 (some l)→NC W1 l→W2.heap.size=W1.heap.size →
     body.wpIn (Fence.wide.inRound l) 0 P (bPost w.heap.size It I Ix (pre++[x]) W2) a' W2) (fun _ _ _=>False))
    { tmps:=(ps.zip (encs x)).foldl (fun t (p,v)=>t.setIfInBounds p v) a.tmps,defers:=[] } W)
  (hdone:∀ (D:Nat) (xs:List α) (W:World),w.heap.size≤D→S xs→I xs W→It W→W.heap[D]? = some (.deferred (some []))→Q .normal { a with defers:={ target:=.collected D,args:=#[] }::a.defers } W)
  (hstop:∀ (D:Nat) (c:Code) (pre:List α) (W:World),w.heap.size≤D→Sp pre→Ix c pre W→W.heap[D]? = some (.deferred (some []))→c.wpIn Fence.wide 0 P Q { a with defers:={ target:=.collected D,args:=#[] }::a.defers } W):
  (Code.rangeFunc g ps assign body).wpIn Fence.wide 0 P Q a w:=by
 refine wpIn_rangeFunc ?_
 intro fn hfn
 obtain ⟨rc,hrc⟩:∃ rc:LoopState→Option Code→Loop,rc=fun st pe=>{ state:=st,pending:=pe,fn,tmps:=a.tmps,params:=ps,assign,body,defers:=w.heap.size }:=⟨_,rfl⟩
 obtain ⟨V,hV⟩:∃ V,(w.alloc (.deferred (some []))).alloc (.loop (rc .ready none))=V:=⟨_,rfl⟩
 have hxV:Ext w V:=by rw [← hV];exact ((Ext.refl w).alloc _).alloc _
 have hVz:V.heap.size=w.heap.size+2:=by rw [← hV];simp
 have hVL:V.heap[w.heap.size+1]? = some (.loop (rc .ready none)):=by
  rw [← hV]
  have:=heap_alloc_new (w.alloc (.deferred (some []))) (.loop (rc .ready none))
  rwa [World.size_alloc] at this
 have hVD:V.heap[w.heap.size]? = some (.deferred (some [])):=by rw [← hV];exact ((Ext.refl _).alloc _).heap (heap_alloc_new w _)
 have ncL:∀ {W:World} {r:Loop},W.heap[w.heap.size+1]? = some (.loop r)→NC W (w.heap.size+1):=fun h=>NC.of h rfl
 have toV:∀ {K:World→Prop},Stab w.heap.size K→K w→K V:=by
  intro K hK hk
  have hn:NC w w.heap.size:=fun cs t fr e=>by simp at e
  exact hK w V w.heap.size (Nat.le_refl _) hn (hxV.but _) hk
 have keepsOwn:∀ {A B:World} {r:Option Nat} {k:Nat} {o:Obj},(∀ j,r=some j→own j)→A.grownBy B r→w.heap.size≤k→A.heap[k]? = some o→B.heap[k]? = some o:=by
  intro A B r k o hr hgr hk ho
  exact (hgr.block k (Array.getElem?_eq_some_iff.1 ho).1 (fun e=>by have:=hown k (hr k e.symm);omega)).trans ho
 refine ⟨w.heap.size+1,[{ target:=.collected w.heap.size,args:=#[] }],V,{ target:=.fn (.func gf) lb,args:=#[.func (.yield (w.heap.size+1)) #[] #[]] },V,gf,
  #[.func (.yield (w.heap.size+1)) #[] #[]]++lb,V,?_,?_,?_,?_,fun h=>by simp [Fence.wide] at h,?_⟩
 ·rw [← hV,hrc]
  exact run_enterLoop_outer _ _ _ _ _
 ·simp only [resolve,hg]
  simp [go_sem]
 ·intro f' hf'
  trivial
 ·simp [invoke,go_sem,eg]
 ·refine (hseq (w.heap.size+1)
   (fun pre W=>w.heap.size+2≤W.heap.size∧I pre W∧W.heap[w.heap.size+1]? = some (.loop (rc .ready none))∧W.heap[w.heap.size]? = some (.deferred (some [])))
   (fun pre W=>∃ c,Ix c pre W∧W.heap[w.heap.size+1]? = some (.loop (rc .done (some c)))∧W.heap[w.heap.size]? = some (.deferred (some [])))
   V (fun pre A B r hr hgr h=>⟨Nat.le_trans h.1 hgr.size,hIo pre A B r hr hgr h.2.1,keepsOwn hr hgr (by omega) h.2.2.1,keepsOwn hr hgr (Nat.le_refl _) h.2.2.2⟩)
   (fun pre A B r hr hgr ⟨c,h1,h2,h3⟩=>⟨c,hIxo c pre A B r hr hgr h1,keepsOwn hr hgr (by omega) h2,keepsOwn hr hgr (Nat.le_refl _) h3⟩)
   ?_ (toV hIt hIt0) ⟨by rw [← hV];simp,toV (hI []) h0,hVL,hVD⟩).mono ?_
  ·rintro pre x W ⟨hsz,hi,hl,hd⟩ hit hG
   have hy:=run_yield (P:=P) (args:=encs x) hl (by rw [hrc];exact hps x)
   rw [hrc] at hy
   refine ⟨fn,_,assign,body,hy,roundIn_of_wpIn hfn ?_⟩
   have hr:=hround (w.heap.size+1) pre x W (by omega) (ncL hl) (by omega) hi hit hG
   refine wpIn_mono hr ?_
   clear hr hy
   rintro e a1 W1 h
   cases e with
   | normal=>
    obtain ⟨hk1,h⟩:=h
    have hl1:=hk1.same _ _ (by omega) hl rfl
    have hd1:=hk1.same _ _ (Nat.le_refl _) hd rfl
    refine ⟨_,run_beginRound hl1 (by rw [hrc]),?_⟩
    have hlt1:=(Array.getElem?_eq_some_iff.1 hl1).1
    have hl2:(W1.putObj (w.heap.size+1) (.loop { rc .ready none with state:=.busy })).heap[w.heap.size+1]? = some (.loop { rc .ready none with state:=.busy }):=World.putObj_heap_same hlt1
    have hd2:(W1.putObj (w.heap.size+1) (.loop { rc .ready none with state:=.busy })).heap[w.heap.size]? = some (.deferred (some [])):=(World.putObj_heap_other (by omega)).trans hd1
    refine wpIn_mono (h _ (grown_put hl1) (ncL hl1) (by simp [World.putObj])) ?_
    have fin:∀ (jump:Option Code) (W3:World),KeepsFrom w.heap.size (W1.putObj (w.heap.size+1) (.loop { rc .ready none with state:=.busy })) W3 →
      ∃ W4,NCK (w.heap.size+2) W3 W4∧(Instr.endRound (w.heap.size+1) jump).run P W3=.ok (.bool jump.isNone) W4∧W3.grownBy W4 (some (w.heap.size+1))∧NC W3 (w.heap.size+1)∧w.heap.size+2≤W4.heap.size ∧
       W4.heap[w.heap.size+1]? = some (.loop (rc (if jump.isNone then .ready else .done) jump))∧W4.heap[w.heap.size]? = some (.deferred (some [])):=by
     intro jump W3 hk3
     have hl3:=hk3.same _ _ (by omega) hl2 rfl
     have hd3:=hk3.same _ _ (Nat.le_refl _) hd2 rfl
     have hlt3:=(Array.getElem?_eq_some_iff.1 hl3).1
     have hrun:=run_endRound (P:=P) jump hl3
     refine ⟨W3.putObj (w.heap.size+1) (.loop (rc (if jump.isNone then .ready else .done) jump)),NCK.put _ (by omega),?_,grown_put hl3,ncL hl3,by simp [World.putObj];omega,World.putObj_heap_same hlt3,(World.putObj_heap_other (by omega)).trans hd3⟩
     rw [hrc] at hrun ⊢
     exact hrun
    rintro e a3 W3 hp
    cases e with
    | normal=>
     obtain ⟨hk3,hit3,hi3⟩:=hp
     obtain ⟨W4,hq4,hrun,hg4,hn4,hz4,hl4,hd4⟩:=fin none W3 hk3
     exact ⟨_,_,hrun,by rw [hVz];exact (((NCK.of_keeps hk1 (by omega)).trans (NCK.put _ (by omega))).trans (NCK.of_keeps hk3 (by omega))).trans hq4,.inl ⟨rfl,⟨hz4,hI _ _ _ _ (by omega) hn4 hg4 hi3,hl4,hd4⟩,hIt _ _ _ (by omega) hn4 hg4 hit3⟩⟩
    | ret=>
     obtain ⟨hk3,hi3⟩:=hp
     obtain ⟨W4,hq4,hrun,hg4,hn4,hz4,hl4,hd4⟩:=fin (some .ret) W3 hk3
     exact ⟨_,_,hrun,by rw [hVz];exact (((NCK.of_keeps hk1 (by omega)).trans (NCK.put _ (by omega))).trans (NCK.of_keeps hk3 (by omega))).trans hq4,.inr ⟨rfl,.ret,hIx _ _ _ _ _ (by omega) hn4 hg4 hi3,hl4,hd4⟩⟩
    | exit id=>
     obtain ⟨hk3,hi3⟩:=hp
     obtain ⟨W4,hq4,hrun,hg4,hn4,hz4,hl4,hd4⟩:=fin (some (.exit id)) W3 hk3
     exact ⟨_,_,hrun,by rw [hVz];exact (((NCK.of_keeps hk1 (by omega)).trans (NCK.put _ (by omega))).trans (NCK.of_keeps hk3 (by omega))).trans hq4,.inr ⟨rfl,.exit id,hIx _ _ _ _ _ (by omega) hn4 hg4 hi3,hl4,hd4⟩⟩
    | goto t=>
     obtain ⟨hk3,hi3⟩:=hp
     obtain ⟨W4,hq4,hrun,hg4,hn4,hz4,hl4,hd4⟩:=fin (some (.goto t)) W3 hk3
     exact ⟨_,_,hrun,by rw [hVz];exact (((NCK.of_keeps hk1 (by omega)).trans (NCK.put _ (by omega))).trans (NCK.of_keeps hk3 (by omega))).trans hq4,.inr ⟨rfl,.goto t,hIx _ _ _ _ _ (by omega) hn4 hg4 hi3,hl4,hd4⟩⟩
    | panic ch=>exact hp.elim
    | outgrown=>exact hp.elim
   | ret=>exact h.elim
   | exit id=>exact h.elim
   | goto t=>exact h.elim
   | panic ch=>exact h.elim
   | outgrown=>exact h.elim
  ·rintro e W2 ⟨⟨v,rfl⟩,(⟨xs,hS,⟨hz,hi,hl,hd⟩,hit⟩ | ⟨pre,hSp,c,hi,hl,hd⟩)⟩
   ·have hrun:=run_endLoop (P:=P) hl (by rw [hrc];simp)
    rw [hrc] at hrun
    refine ⟨none,_,hrun,?_⟩
    exact hdone _ xs _ (Nat.le_refl _) hS (hI _ _ _ _ (by omega) (ncL hl) (grown_put hl) hi) (hIt _ _ _ (by omega) (ncL hl) (grown_put hl) hit) ((World.putObj_heap_other (by omega)).trans hd)
   ·have hrun:=run_endLoop (P:=P) hl (by rw [hrc];simp)
    rw [hrc] at hrun
    refine ⟨some c,_,hrun,?_⟩
    exact hstop _ c pre _ (Nat.le_refl _) hSp (hIx _ _ _ _ _ (by omega) (ncL hl) (grown_put hl) hi) ((World.putObj_heap_other (by omega)).trans hd)
end
#print axioms wp_rangeM
end Go.Proofs.YtnjmndofcpnmeaaGreatDoor
