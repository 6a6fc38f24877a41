/- Pq4. -/
import Derived.Test.YtnjmndofcpnmeaaGreatDoorPq3
import Derived.Test.YtnjmndofcpnmeaaGreatDoorPq0
import Derived.Test.YtnjmndofcpnmeaaGreatDoorPq1
import Derived.Test.YtnjmndofcpnmeaaGreatDoorPq2
import Derived.Laws.BitsAllLaws
import Derived.Laws.BitsLemmas
import Derived.IntWalk
import Derived.Test.YtnjmndofcpnmeaaGreatDoorProg
import Derived.Lib.Hide
import Derived.Handy
import Derived.StillTailTactics
import Derived.Shelf.Abstract
namespace Go.Proofs.YtnjmndofcpnmeaaGreatDoor
open Go Go.RowKit
set_option linter.unusedVariables false
structure EnvA (w:World):Prop where
 env:Env w
 deb:DeB w
theorem EnvA.ext {w w':World}(h:EnvA w)(hx:Ext w w'):EnvA w':=⟨h.env.ext hx,h.deb.ext hx⟩
structure SWR (w:World) (g cap:Nat) (ls:List (List UInt8)):Prop where
 lt:g<w.heap.size
 le:ls.length≤cap
 max:cap≤maxLen
 cell:∀ (j:Nat) l,ls[j]? = some l→w.cell? ⟨g,j,none⟩=some (.string ⟨l.toArray⟩)
theorem SWR.ext {w w':World}{g cap:Nat}{ls:List (List UInt8)}(h:SWR w g cap ls)(hx:Ext w w'):SWR w' g cap ls:=
 ⟨Nat.lt_of_lt_of_le h.lt hx.size,h.le,h.max,fun j l hj=>hx.cell (h.cell j l hj)⟩
theorem SWR.of_own {w:World}{B n:Nat}{v:Value}{ls:List (List UInt8)}(h:w.ownsRow B 9 1 v n (stv ls))(hn:n=ls.length)(h0:ls≠[]):∃ g cap,v=.slice (some ⟨g,0,none⟩) ls.length cap∧SWR w g cap ls:=by
 subst hn
 rcases h.2 with ⟨_,he⟩ | ⟨g,cap,cur,rfl,hb,hg,hc,hm,_⟩
 ·exact absurd (List.eq_nil_of_length_eq_zero he) h0
 ·refine ⟨g,cap,rfl,(Array.getElem?_eq_some_iff.1 hg).1,hc,hm,fun j l hj=>?_⟩
  have hcell:=h.cells (g:=g) rfl j (.string ⟨l.toArray⟩) (by unfold stv;rw [List.getElem?_map,hj];rfl)
  have hadd:(⟨g,0,none⟩:Addr).add j=⟨g,j,none⟩:=by unfold Addr.add;split<;>simp_all
  rwa [hadd] at hcell
set_option maxRecDepth 100000 in
theorem joinA_at (sep:UInt8) (ls:List (List UInt8)) (g o c n:Nat) (w:World) (hg:g<w.heap.size) (hcell:∀ (j:Nat) l,ls[j]? = some l→w.cell? ⟨g,o+j,none⟩=some (.string ⟨l.toArray⟩)) (hn:n=ls.length) (hc:n≤c) (hn1:n≤1000) (hl:(Lib.join ls [sep]).length≤1000):
  Calls Tryz.prog 228 #[.string ⟨#[sep]⟩,.slice (some ⟨g,o,none⟩) n c] w fun e w'=>e=.returned (.string ⟨(Lib.join ls [sep]).toArray⟩)∧Ext w w':=by
 have e1:(ls.map fun l=>(⟨l.toArray⟩:ByteArray)).length=n:=by rw [List.length_map,hn]
 have e2:(ls.map fun l=>(⟨l.toArray⟩:ByteArray)).map (·.data.toList)=ls:=by rw [List.map_map];exact List.map_id' _
 have hcl:∀ (j:Nat) x,(ls.map fun l=>(⟨l.toArray⟩:ByteArray))[j]? = some x→w.cell? ⟨g,o+j,none⟩=some (.string x):=by
  intro j x hx
  rw [List.getElem?_map] at hx
  cases hw:ls[j]? with
  | none=>rw [hw] at hx;cases hx
  | some y=>rw [hw] at hx;injection hx with hx;subst hx;exact hcell j y hw
 have hj:Calls Tryz.prog 57 #[.slice (some ⟨g,o,none⟩) n c,.string ⟨#[sep]⟩] w fun e w'=>e=.returned (.string ⟨(Lib.join ls [sep]).toArray⟩)∧Ext w w':=by
  have h:=Tryz.strings_Join g o c (ls.map fun l=>⟨l.toArray⟩) ⟨#[sep]⟩ w hcl hg (by rw [e1];omega) (by rw [e1];exact hc) (by rw [e2];show (Lib.join ls [sep]).length≤_;omega)
  rw [e1,e2] at h
  exact h
 have HJ:=Lib.hid hj
 clear hj hg hl e1 e2 hcell hn hcl hc hn1
 go_enter Tryz.func228,Tryz.ntmps228
 go_wp2_with fail
 refine HJ.out.mono ?_
 rintro _ w2 ⟨rfl,hx2⟩
 have HX2:=Lib.hid (show Ext w w2 from hx2)
 clear hx2
 go_wp2_with fail
 go_ret
 exact ⟨rfl,HX2.out⟩
def tx4 (m:List UInt8):List UInt8:=match m with | [c]=>Lib.decDigits c.toNat | _=>[]
theorem dec_len (n:Nat)(h:n<256):(Lib.decDigits n).length≤3:=by
 by_cases h1:n<10
 ·rw [dec_lo n h1];simp
 ·rw [dec_hi n h1]
  by_cases h2:n / 10<10
  ·rw [dec_lo _ h2];simp
  ·rw [dec_hi _ h2,dec_lo _ (by omega)];simp
theorem gst4 {b:List UInt8}(h:b.length=4):(chk 1 4 b).map tx4=b.map fun c=>Lib.decDigits c.toNat:=by
 obtain ⟨p,q,r,t,rfl⟩:=list4 h
 rfl
theorem txt4_len {b:List UInt8}(h:b.length=4):(txt4 b).length≤1000:=by
 obtain ⟨p,q,r,t,rfl⟩:=list4 h
 rw [txt4_eq]
 have:=dec_len p.toNat p.toNat_lt;have:=dec_len q.toNat q.toNat_lt;have:=dec_len r.toNat r.toNat_lt;have:=dec_len t.toNat t.toNat_lt
 simp only [List.length_append,List.length_cons]
 omega
set_option maxRecDepth 100000 in
theorem text4_at (b:List UInt8) (A:Option Addr) (c:Nat) (w:World) (hb:BS w (.slice A b.length c) b) (hE:EnvA w) (h:b.length=4):
  Calls Tryz.prog 196 #[.slice A b.length c] w fun e w'=>e=.returned (.tuple #[.string ⟨(txt4 b).toArray⟩,.bool true])∧Ext w w':=by
 have HG:=Lib.hid (groups_at 1 230 tx4 (by omega) b A c w hb 4 (by omega) (by omega) (Go.Proofs.enters_of Tryz.func230 (by kernel_rfl) rfl) (fun m A c W hm hx hbm=>by
  match m,hm with
  | [x],_=>exact tx4_at x A c W hbm (hE.env.pow.ext hx)))
 have HT:=Lib.hid (show Lib.join ((chk 1 4 b).map tx4) [46]=txt4 b by rw [gst4 h];rfl)
 have HL:=Lib.hid (txt4_len h)
 obtain ⟨L,hL⟩:∃ L,txt4 b=L:=⟨_,rfl⟩
 rw [hL] at HT HL ⊢
 rw [h] at HG ⊢
 clear hb hE h hL
 go_enter Tryz.func196,Tryz.ntmps196
 go_wp2_with fail
 refine HG.out.mono ?_
 rintro _ w1 ⟨v,rfl,hr,hx⟩
 obtain ⟨g,cap,rfl,hsw⟩:=SWR.of_own (ls:=(chk 1 4 b).map tx4) hr (by rw [List.length_map,chk_length]) (by intro e;have:=congrArg List.length e;rw [List.length_map,chk_length] at this;cases this)
 have HX:=Lib.hid hx;have HS:=Lib.hid hsw
 rw [List.length_map,chk_length]
 have HJ:=Lib.hid (joinA_at 46 ((chk 1 4 b).map tx4) g 0 cap 4 w1 hsw.lt (fun j l hj=>by rw [Nat.zero_add];exact hsw.cell j l hj) (by rw [List.length_map,chk_length]) (by have:=hsw.le;rwa [List.length_map,chk_length] at this) (by omega) (by rw [HT.out];exact HL.out))
 rw [HT.out] at HJ
 clear hr hx hsw
 go_wp2_with fail
 refine HJ.out.mono ?_
 rintro _ w2 ⟨rfl,hx2⟩
 have HX2:=Lib.hid (HX.out.trans hx2)
 clear hx2
 go_wp2_with fail
 go_ret2
 exact ⟨rfl,HX2.out⟩
set_option maxRecDepth 100000 in
theorem text4_no (b:List UInt8) (A:Option Addr) (c:Nat) (w:World) (h:b.length≠4):
  Calls Tryz.prog 196 #[.slice A b.length c] w fun e w'=>e=.returned (.tuple #[.string ⟨#[]⟩,.bool false])∧Ext w w':=by
 have h4:((b.length:Int)==4)=false:=by rw [beq_eq_false_iff_ne];omega
 have h4':((b.length:Int) != 4)=true:=by rw [bne,h4];rfl
 clear h
 go_enter Tryz.func196,Tryz.ntmps196
 go_wp2_with fail
 go_ret2
 exact ⟨rfl,Ext.refl _⟩
def resA (vb:Bool)(l:List UInt8):Value:=.tuple #[.string ⟨(if vb then l else []).toArray⟩,.bool vb]
theorem visB_iff (c:UInt8):visB c=true ↔ 33≤c.toNat∧c.toNat≤126:=by unfold visB;rw [decide_eq_true_eq]
set_option maxRecDepth 100000 in
theorem textH_len (b:List UInt8) (A:Option Addr) (c:Nat) (w:World) (h:b.length<1∨16<b.length):
  Calls Tryz.prog 197 #[.slice A b.length c] w fun e w'=>e=.returned (.tuple #[.string ⟨#[]⟩,.bool false])∧Ext w w':=by
 rcases h with h | h
 ·have h1:(b.length:Int)<1:=by omega
  clear h
  go_enter Tryz.func197,Tryz.ntmps197
  go_wp2_with fail
  go_ret2
  exact ⟨rfl,Ext.refl _⟩
 ·have h1:(16:Int)<(b.length:Int):=by omega
  clear h
  go_enter Tryz.func197,Tryz.ntmps197
  go_wp2_with fail
  go_ret2
  exact ⟨rfl,Ext.refl _⟩
set_option maxRecDepth 100000 in
set_option maxHeartbeats 1000000 in
theorem textH_at (b:List UInt8) (A:Option Addr) (c:Nat) (w:World) (hb:BS w (.slice A b.length c) b) (h1:1≤b.length) (h16:b.length≤16) (vb:Bool) (hvb:b.all visB=vb):
  Calls Tryz.prog 197 #[.slice A b.length c] w fun e w'=>e=.returned (resA vb (txtH b))∧Ext w w':=by
 have HVB:=Lib.hid hvb
 clear hvb
 have hcv:=fun W h=>run_str (P:=Tryz.prog) W 32 9 5 (.slice A b.length c) b Tryz.underlying32 Tryz.underlying5 Tryz.underlying9 h
 have HCV:=Lib.hid (hcv w hb)
 obtain ⟨A',k',he,_,_,h3⟩:=hb.open_
 injection he with e1 e2 e3
 subst e1
 obtain ⟨ad,rfl,hlt,hcell⟩:=h3 (by omega)
 have HC:=Lib.hid hcell
 have i1:(1:Int)≤(b.length:Int):=by omega
 have i16:(b.length:Int)≤16:=by omega
 clear hcv hb h3 hcell e2 e3
 go_enter Tryz.func197,Tryz.ntmps197
 go_wp2_with fail
 go_loopw [16] (fun i wr=>∃ k:Nat,i=.int .i64 (k:Int)∧k≤b.length∧Hid ((b.take k).all visB=true)∧Hid (w=wr)) (fun i _=>b.length-(intOf i).toNat)
 case atStart=>exact ⟨0,rfl,by omega,Lib.hid rfl,Lib.hid rfl⟩
 case round=>
  obtain ⟨k,rfl,hk,HV,HWR⟩:=hrel
  obtain rfl:=HWR.out
  clear HWR
  by_cases hkl:k<b.length
  ·have hc:=HC.out k hkl
   have htk:b.take (k+1)=b.take k++[b[k]]:=List.take_succ_eq_append_getElem hkl
   have hdk:b=b.take k++b[k]::b.drop (k+1):=by rw [← List.drop_eq_getElem_cons hkl,List.take_append_drop]
   obtain ⟨x,hx⟩:∃ x,b[k]=x:=⟨_,rfl⟩
   rw [hx] at hc htk hdk
   have hxl:=x.toNat_lt
   by_cases hvis:33≤x.toNat∧x.toNat≤126
   ·obtain ⟨v1,v2⟩:=hvis
    have HV2:=Lib.hid (show (b.take (k+1)).all visB=true by rw [htk,List.all_append,HV.out];simp [(visB_iff x).2 ⟨v1,v2⟩])
    clear htk hdk hx HC
    go_wp2_with fail
    go_roundw
    case rel=>exact ⟨k+1,by go_num,by omega,HV2,(by first | exact Lib.hid rfl | exact Lib.hid trivial)⟩
    case measure=>simp [intOf];omega
   ·have HV2:=Lib.hid (show b.all visB=false by
     rw [hdk,List.all_append,List.all_cons,show visB x=false by cases hv:visB x with | false=>rfl | true=>exact absurd ((visB_iff x).1 hv) hvis];simp)
    have hvv:x.toNat<33∨126<x.toNat:=by omega
    clear htk hdk hx HC hvis
    rcases hvv with hvv | hvv
    all_goals
     go_wp2_with fail
     go_ret2
     have e:vb=false:=HVB.out.symm.trans HV2.out
     subst e
     exact ⟨rfl,Ext.refl _⟩
  ·obtain rfl:k=b.length:=by omega
   rw [List.take_length] at HV
   have hcv:=HCV.out
   clear HC HCV hkl
   go_wp2_with fail
   go_ret2
   have e:vb=true:=HVB.out.symm.trans HV.out
   subst e
   refine ⟨?_,Ext.refl _⟩
   show Ending.returned (.tuple #[.string (_++_),.bool true])=_
   rw [show (⟨#[104,111,115,116,47]⟩:ByteArray)++⟨b.toArray⟩=⟨(txtH b).toArray⟩ from by apply ByteArray.ext;simp [ByteArray.data_append,txtH]]
   rfl
end Go.Proofs.YtnjmndofcpnmeaaGreatDoor
namespace Go.Proofs.YtnjmndofcpnmeaaGreatDoor
open Go Go.RowKit Go.WideShapes Go.ChangeShapes Go.ChangeAt Go.Deep
set_option linter.unusedVariables false
def debTab:List Int:=[0,1,56,2,57,49,28,3,61,58,42,50,38,29,17,4,62,47,59,36,45,43,51,22,53,39,33,30,24,18,12,5,63,55,48,27,60,41,37,16,46,35,44,21,52,32,23,11,54,26,40,15,34,20,31,10,25,14,19,9,13,8,7,6]
theorem deb_at {r : List (String × DataW Unit)} {W : World} (h : laidMet Tryz.prog (("math/bits.deBruijn64tab", (Rows.laid_math_bits_deBruijn64tab : DataW Unit)) :: r) W) : DeB W := by
 have e:(Rows.laid_math_bits_deBruijn64tab:DataW Unit)=Lib.tabData .u8 debTab:=by kernel_rfl
 rw [e] at h
 have hg : Tryz.prog.globalNamed "math/bits.deBruijn64tab" = some 7 := by kernel_rfl
 have hgt:((Tryz.prog.globals[7]?).map (·.type))=some 284:=by kernel_rfl
 have ht:=Lib.tabIs_of_head hg hgt Tryz.underlying284 Tryz.underlying5 (by kernel_rfl) (by kernel_rfl) h
 exact ht.cell hg 15 (by decide)
end Go.Proofs.YtnjmndofcpnmeaaGreatDoor
namespace Go.Proofs.YtnjmndofcpnmeaaGreatDoor
set_option linter.unusedVariables false
def okc (c:UInt8):Bool:=decide (65≤c.toNat∧c.toNat≤90∨48≤c.toNat∧c.toNat≤57∨c.toNat=45)
def labB:Nat→List UInt8→Bool
 | n,[]=>decide (0<n)
 | n,c::r=>if c.toNat=46 then decide (0<n)&&labB 0 r else okc c&&labB (n+1) r
def sizedB (l:List UInt8):Bool:=decide (1≤l.length∧l.length≤32)
def realmB (l:List UInt8):Bool:=sizedB l&&labB 0 l
def prtc (c:UInt8):Bool:=decide (33≤c.toNat∧c.toNat≤126)
def partB (l:List UInt8):Bool:=sizedB l&&l.all prtc
def nameB (parts:List (List UInt8))(realm:List UInt8):Bool:=decide (1≤parts.length∧parts.length≤4)&&realmB realm&&parts.all partB
def labelB (l:List UInt8):Bool:=!l.isEmpty&&l.all okc
def spl:List UInt8→List UInt8→List (List UInt8)
 | acc,[]=>[acc]
 | acc,c::r=>if c.toNat=46 then acc::spl [] r else spl (acc++[c]) r
theorem spl_labels:∀ (s acc:List UInt8),(acc.all okc&&labB acc.length s)=(spl acc s).all labelB
 | [],acc=>by
  simp only [labB,spl,List.all_cons,List.all_nil,Bool.and_true,labelB]
  cases acc<;>simp
 | c::r,acc=>by
  unfold labB spl
  split
  ·have h:=spl_labels r []
   simp only [List.all_nil,Bool.true_and,List.length_nil] at h
   rw [List.all_cons,← h,labelB]
   cases acc<;>simp [Bool.and_assoc]
  ·have h:=spl_labels r (acc++[c])
   rw [← h,List.length_append,List.length_singleton,List.all_append,List.all_cons,List.all_nil,Bool.and_true,Bool.and_assoc]
theorem realm_labels (s:List UInt8):realmB s=(sizedB s&&(spl [] s).all labelB):=by
 unfold realmB
 rw [← spl_labels s []]
 simp
theorem spl_acc:∀ (s acc:List UInt8),(∀ c∈s,c.toNat≠46)→spl acc s=[acc++s]
 | [],acc,_=>by simp [spl]
 | c::r,acc,h=>by
  rw [spl,if_neg (h c (by simp)),spl_acc r _ (fun d hd=>h d (by simp [hd]))]
  simp
theorem spl_hit:∀ (s acc r:List UInt8),(∀ c∈s,c.toNat≠46)→spl acc (s++46::r)=(acc++s)::spl [] r
 | [],acc,r,_=>by rw [List.nil_append,spl,if_pos (by decide)];simp
 | c::s,acc,r,h=>by
  rw [List.cons_append,spl,if_neg (h c (by simp)),spl_hit s _ r (fun d hd=>h d (by simp [hd]))]
  simp
def spc (c:UInt8):Bool:=decide (c.toNat=47∨c.toNat=64∨c.toNat=92)
def esc:List UInt8→List UInt8
 | []=>[]
 | c::r=>if spc c then 92::c::esc r else c::esc r
theorem esc_append (a b:List UInt8):esc (a++b)=esc a++esc b:=by
 induction a with
 | nil=>rfl
 | cons c r ih=>
  rw [List.cons_append,esc,esc,ih]
  split<;>simp
def partsT:List (List UInt8)→List UInt8
 | []=>[]
 | [p]=>esc p
 | p::q::r=>esc p++47::partsT (q::r)
theorem partsT_snoc:∀ (ls:List (List UInt8)) (p:List UInt8),partsT (ls++[p])=if ls=[] then esc p else partsT ls++47::esc p
 | [],p=>by simp [partsT]
 | [a],p=>by simp [partsT]
 | a::b::r,p=>by
  have h:=partsT_snoc (b::r) p
  rw [if_neg (by simp)] at h
  rw [if_neg (by simp)]
  show esc a++47::partsT (b::r++[p])=_
  rw [h,partsT]
  simp
def textN (parts:List (List UInt8))(realm:List UInt8):List UInt8:=partsT parts++64::realm
def scan (parts:List (List UInt8)) (part:List UInt8):List UInt8→Option (List (List UInt8) × List UInt8)
 | []=>none
 | c::r=>
  if c.toNat=92 then
   match r with
   | []=>none
   | d::r'=>if spc d then scan parts (part++[d]) r' else none
  else if c.toNat=47 then scan (parts++[part]) [] r
  else if c.toNat=64 then some (parts++[part],r)
  else scan parts (part++[c]) r
def scanR (parts:List (List UInt8)) (part:List UInt8):List UInt8→Option (List (List UInt8) × List UInt8)
 | []=>none
 | c::r=>
  if c.toNat=64 then some (parts++[part],r)
  else if c.toNat=47 then scanR (parts++[part]) [] r
  else if c.toNat=92 then
   match r with
   | []=>none
   | d::r'=>scanR parts (part++[d]) r'
  else scanR parts (part++[c]) r
theorem scan_cons (parts:List (List UInt8)) (part:List UInt8) (c:UInt8) (r:List UInt8):scan parts part (c::r)=(if c.toNat=92 then
   match r with
   | []=>none
   | d::r'=>if spc d then scan parts (part++[d]) r' else none
  else if c.toNat=47 then scan (parts++[part]) [] r
  else if c.toNat=64 then some (parts++[part],r)
  else scan parts (part++[c]) r):=by rw [scan.eq_def]
theorem scanR_cons (parts:List (List UInt8)) (part:List UInt8) (c:UInt8) (r:List UInt8):scanR parts part (c::r)=(if c.toNat=64 then some (parts++[part],r)
  else if c.toNat=47 then scanR (parts++[part]) [] r
  else if c.toNat=92 then
   match r with
   | []=>none
   | d::r'=>scanR parts (part++[d]) r'
  else scanR parts (part++[c]) r):=by rw [scanR.eq_def]
theorem scan_bs {parts:List (List UInt8)}{part:List UInt8}{c d:UInt8}{r:List UInt8}(h:c.toNat=92):scan parts part (c::d::r)=if spc d then scan parts (part++[d]) r else none:=by rw [scan_cons,if_pos h]
theorem scan_end {parts:List (List UInt8)}{part:List UInt8}{c:UInt8}(h:c.toNat=92):scan parts part [c]=none:=by rw [scan_cons,if_pos h]
theorem scan_sl {parts:List (List UInt8)}{part:List UInt8}{c:UInt8}{r:List UInt8}(h:c.toNat=47):scan parts part (c::r)=scan (parts++[part]) [] r:=by rw [scan_cons,if_neg (by omega),if_pos h]
theorem scan_at {parts:List (List UInt8)}{part:List UInt8}{c:UInt8}{r:List UInt8}(h:c.toNat=64):scan parts part (c::r)=some (parts++[part],r):=by rw [scan_cons,if_neg (by omega),if_neg (by omega),if_pos h]
theorem scan_ch {parts:List (List UInt8)}{part:List UInt8}{c:UInt8}{r:List UInt8}(h1:c.toNat≠92)(h2:c.toNat≠47)(h3:c.toNat≠64):scan parts part (c::r)=scan parts (part++[c]) r:=by rw [scan_cons,if_neg h1,if_neg h2,if_neg h3]
theorem scanR_bs {parts:List (List UInt8)}{part:List UInt8}{c d:UInt8}{r:List UInt8}(h:c.toNat=92):scanR parts part (c::d::r)=scanR parts (part++[d]) r:=by rw [scanR_cons,if_neg (by omega),if_neg (by omega),if_pos h]
theorem scanR_end {parts:List (List UInt8)}{part:List UInt8}{c:UInt8}(h:c.toNat=92):scanR parts part [c]=none:=by rw [scanR_cons,if_neg (by omega),if_neg (by omega),if_pos h]
theorem scanR_sl {parts:List (List UInt8)}{part:List UInt8}{c:UInt8}{r:List UInt8}(h:c.toNat=47):scanR parts part (c::r)=scanR (parts++[part]) [] r:=by rw [scanR_cons,if_neg (by omega),if_pos h]
theorem scanR_at {parts:List (List UInt8)}{part:List UInt8}{c:UInt8}{r:List UInt8}(h:c.toNat=64):scanR parts part (c::r)=some (parts++[part],r):=by rw [scanR_cons,if_pos h]
theorem scanR_ch {parts:List (List UInt8)}{part:List UInt8}{c:UInt8}{r:List UInt8}(h1:c.toNat≠92)(h2:c.toNat≠47)(h3:c.toNat≠64):scanR parts part (c::r)=scanR parts (part++[c]) r:=by rw [scanR_cons,if_neg h3,if_neg h2,if_neg h1]
theorem spc_no {c:UInt8}(h:¬ spc c=true):c.toNat≠47∧c.toNat≠64∧c.toNat≠92:=by
 unfold spc at h
 simp only [decide_eq_true_eq] at h
 omega
theorem scan_esc:∀ (q parts:List (UInt8)) (ps:List (List UInt8)) (rest:List UInt8),scan ps parts (esc q++rest)=scan ps (parts++q) rest
 | [],part,ps,rest=>by simp [esc]
 | c::r,part,ps,rest=>by
  rw [esc]
  split
  ·rename_i h
   rw [List.cons_append,List.cons_append,scan_bs (by decide),if_pos h,scan_esc r]
   simp
  ·rename_i h
   have hs:=spc_no h
   rw [List.cons_append,scan_ch hs.2.2 hs.1 hs.2.1,scan_esc r]
   simp
theorem scanR_esc:∀ (q parts:List (UInt8)) (ps:List (List UInt8)) (rest:List UInt8),scanR ps parts (esc q++rest)=scanR ps (parts++q) rest
 | [],part,ps,rest=>by simp [esc]
 | c::r,part,ps,rest=>by
  rw [esc]
  split
  ·rename_i h
   rw [List.cons_append,List.cons_append,scanR_bs (by decide),scanR_esc r]
   simp
  ·rename_i h
   have hs:=spc_no h
   rw [List.cons_append,scanR_ch hs.2.2 hs.1 hs.2.1,scanR_esc r]
   simp
theorem scan_parts:∀ (ls ps:List (List UInt8)) (realm:List UInt8),ls≠[]→scan ps [] (partsT ls++64::realm)=some (ps++ls,realm)
 | [],_,_,h=>absurd rfl h
 | [p],ps,realm,_=>by
  rw [partsT,scan_esc,List.nil_append,scan_at (by decide)]
 | p::q::r,ps,realm,_=>by
  rw [partsT,List.append_assoc,scan_esc,List.nil_append,List.cons_append,scan_sl (by decide),scan_parts (q::r) _ _ (by simp)]
  simp
theorem scanR_parts:∀ (ls ps:List (List UInt8)) (realm:List UInt8),ls≠[]→scanR ps [] (partsT ls++64::realm)=some (ps++ls,realm)
 | [],_,_,h=>absurd rfl h
 | [p],ps,realm,_=>by
  rw [partsT,scanR_esc,List.nil_append,scanR_at (by decide)]
 | p::q::r,ps,realm,_=>by
  rw [partsT,List.append_assoc,scanR_esc,List.nil_append,List.cons_append,scanR_sl (by decide),scanR_parts (q::r) _ _ (by simp)]
  simp
theorem u8_of {c:UInt8}{n:Nat}(hn:n<256)(h:c.toNat=n):c=UInt8.ofNat n:=by
 apply UInt8.toNat_inj.1
 rw [h,UInt8.toNat_ofNat']
 omega
theorem esc_one {c:UInt8}(h:¬ spc c=true):esc [c]=[c]:=by rw [esc,if_neg h];rfl
theorem esc_spc {c:UInt8}(h:spc c=true):esc [c]=[92,c]:=by rw [esc,if_pos h];rfl
theorem partsT_open (parts:List (List UInt8))(part q:List UInt8):partsT (parts++[part++q])=partsT (parts++[part])++esc q:=by
 rw [partsT_snoc,partsT_snoc,esc_append]
 split<;>simp
theorem scan_text:∀ (n:Nat) (l:List UInt8) (parts:List (List UInt8)) (part:List UInt8) (p:List (List UInt8)) (r:List UInt8),l.length≤n→scan parts part l=some (p,r)→partsT (parts++[part])++l=textN p r
 | _,[],parts,part,p,r,_,h=>by simp [scan] at h
 | 0,c::l,_,_,_,_,hl,_=>by simp at hl
 | n+1,c::l,parts,part,p,r,hl,h=>by
  have hl':l.length≤n:=by simpa using hl
  unfold scan at h
  split at h
  ·rename_i h92
   cases l with
   | nil=>cases h
   | cons d l'=>
    simp only at h
    split at h
    ·rename_i hd
     have hl2:l'.length≤n:=by simp at hl';omega
     have ih:=scan_text n l' parts (part++[d]) p r hl2 h
     rw [partsT_open,esc_spc hd] at ih
     rw [← ih,u8_of (by omega) h92]
     simp
    ·cases h
  ·split at h
   ·rename_i h92 h47
    have ih:=scan_text n l (parts++[part]) [] p r hl' h
    rw [partsT_snoc,if_neg (by simp),esc] at ih
    rw [← ih,u8_of (by omega) h47]
    simp
   ·split at h
    ·rename_i h92 h47 h64
     simp only [Option.some.injEq,Prod.mk.injEq] at h
     obtain ⟨rfl,rfl⟩:=h
     rw [u8_of (by omega) h64];rfl
    ·rename_i h92 h47 h64
     have hs:¬ spc c=true:=by unfold spc;simp only [decide_eq_true_eq];omega
     have ih:=scan_text n l parts (part++[c]) p r hl' h
     rw [partsT_open,esc_one hs] at ih
     rw [← ih]
     simp
theorem nameB_ne {parts:List (List UInt8)}{realm:List UInt8}(h:nameB parts realm=true):parts≠[]:=by
 rintro rfl
 simp [nameB] at h
theorem textN_inj {p q:List (List UInt8)}{r t:List UInt8}(hp:p≠[])(hq:q≠[])(h:textN p r=textN q t):p=q∧r=t:=by
 have a:=scan_parts p [] r hp
 have b:=scan_parts q [] t hq
 unfold textN at h
 rw [h,b] at a
 simp only [List.nil_append,Option.some.injEq,Prod.mk.injEq] at a
 exact ⟨a.1.symm,a.2.symm⟩
end Go.Proofs.YtnjmndofcpnmeaaGreatDoor
namespace Go.Proofs.YtnjmndofcpnmeaaGreatDoor
open Go Go.Lib
set_option linter.unusedVariables false
def noneN (p:List (List UInt8))(r:List UInt8):Bool:=p.isEmpty&&r.isEmpty
def prsB (p:List (List UInt8))(r:List UInt8):Bool:=noneN p r||nameB p r
def kindW (k:Int):List UInt8:=if k=10 then [105,110,105,116,105,97,108] else if k=12 then [103,114,97,110,116] else [111,116,104,101,114]
def prsW (p:List (List UInt8))(r:List UInt8):List UInt8:=if noneN p r then [45] else textN p r
def timW (t m:Int):List UInt8:=itoa t++46::(List.replicate (6-(itoa m).length) 48++itoa m)
def visL (l:List UInt8):Prop:=∀ c∈l,33≤c.toNat∧c.toNat≤126
theorem visL.append {a b:List UInt8}(h:visL a)(k:visL b):visL (a++b):=fun c hc=>(List.mem_append.1 hc).elim (h c) (k c)
theorem visL.cons {c:UInt8}{l:List UInt8}(h:33≤c.toNat∧c.toNat≤126)(k:visL l):visL (c::l):=fun x hx=>(List.mem_cons.1 hx).elim (fun e=>e ▸ h) (k x)
theorem visL.nil:visL []:=fun c hc=>absurd hc (by simp)
theorem visL.no {l:List UInt8}(h:visL l){x:UInt8}(hx:x.toNat<33):∀ c∈l,c≠x:=fun c hc e=>by have:=h c hc;rw [e] at this;omega
theorem itoa_nn {x:Int}(h:0≤x):itoa x=decDigits x.toNat:=by unfold itoa;rw [if_neg (by omega)]
theorem dec_vis (n:Nat):visL (decDigits n):=fun c hc=>by have:=dec_dig n c hc;omega
theorem itoa_vis {x:Int}(h:0≤x):visL (itoa x):=by rw [itoa_nn h];exact dec_vis _
theorem timW_vis {t m:Int}(h:0≤t)(k:0≤m):visL (timW t m):=
 (itoa_vis h).append (visL.cons (by decide) (visL.append (fun c hc=>by rw [(List.mem_replicate.1 hc).2];decide) (itoa_vis k)))
theorem kindW_vis (k:Int):visL (kindW k):=by
 unfold kindW visL
 split
 ·decide
 ·split<;>decide
theorem esc_vis {l:List UInt8}(h:l.all prtc=true):visL (esc l):=by
 induction l with
 | nil=>exact visL.nil
 | cons c r ih=>
  rw [List.all_cons,Bool.and_eq_true] at h
  have hc:33≤c.toNat∧c.toNat≤126:=by simpa [prtc] using h.1
  rw [esc]
  split
  ·exact visL.cons (by decide) (visL.cons hc (ih h.2))
  ·exact visL.cons hc (ih h.2)
theorem lab_vis:∀ (l:List UInt8) (n:Nat),labB n l=true→visL l
 | [],_,_=>visL.nil
 | c::r,n,h=>by
  rw [labB] at h
  split at h
  ·next hc=>
   rw [Bool.and_eq_true] at h
   exact visL.cons (by omega) (lab_vis r 0 h.2)
  ·rw [Bool.and_eq_true] at h
   have hc:33≤c.toNat∧c.toNat≤126:=by
    have:=h.1
    unfold okc at this
    rw [decide_eq_true_eq] at this
    omega
   exact visL.cons hc (lab_vis r _ h.2)
theorem parts_vis:∀ (ls:List (List UInt8)),ls.all partB=true→visL (partsT ls)
 | [],_=>visL.nil
 | [p],h=>by
  rw [partsT]
  simp only [List.all_cons,List.all_nil,Bool.and_true,partB,Bool.and_eq_true] at h
  exact esc_vis h.2
 | p::q::r,h=>by
  rw [partsT]
  rw [List.all_cons,Bool.and_eq_true] at h
  have h1:=h.1
  simp only [partB,Bool.and_eq_true] at h1
  exact (esc_vis h1.2).append (visL.cons (by decide) (parts_vis (q::r) h.2))
theorem prsW_vis {p:List (List UInt8)}{r:List UInt8}(h:prsB p r=true):visL (prsW p r):=by
 unfold prsW
 split
 ·unfold visL;decide
 ·next hn=>
  unfold prsB at h
  rw [Bool.or_eq_true] at h
  rcases h with h | h
  ·exact absurd h hn
  ·unfold nameB at h
   simp only [Bool.and_eq_true] at h
   unfold textN
   have hr:=h.1.2
   unfold realmB at hr
   rw [Bool.and_eq_true] at hr
   exact (parts_vis p h.2).append (visL.cons (by decide) (lab_vis r 0 hr.2))
theorem hjoin_vis (g:List Nat):visL (hjoin g):=fun c hc=>by
 rcases hjoin_chr g c hc with rfl | h | h
 ·decide
 ·omega
 ·omega
theorem txtA_vis {k:Int}{b:List UInt8}(h:okA k b=true):visL (txtA k b):=by
 rcases okA_kinds h with ⟨rfl,hl⟩ | ⟨rfl,hl⟩ | ⟨rfl,hl,hv⟩
 ·obtain ⟨x,y,z,t,rfl⟩:=list4 hl
  show visL (txt4 [x,y,z,t])
  rw [txt4_eq]
  exact (dec_vis _).append (visL.cons (by decide) ((dec_vis _).append (visL.cons (by decide) ((dec_vis _).append (visL.cons (by decide) (dec_vis _))))))
 ·show visL (txt6 b)
  rcases txt6_shape hl with ⟨g,e,_⟩ | ⟨g1,g2,e,_⟩
  ·rw [e]
   exact visL.append (visL.cons (by decide) visL.nil) ((hjoin_vis g).append (visL.cons (by decide) visL.nil))
  ·rw [e]
   refine visL.append (visL.cons (by decide) visL.nil) ?_
   first
    | exact (hjoin_vis _).append (visL.append (by unfold visL;decide) ((hjoin_vis _).append (visL.cons (by decide) visL.nil)))
    | exact (hjoin_vis _).append (visL.cons (by decide) (visL.cons (by decide) ((hjoin_vis _).append (visL.cons (by decide) visL.nil))))
 ·show visL (txtH b)
  unfold txtH
  refine visL.append (by unfold visL;decide) fun c hc=>?_
  have:=List.all_eq_true.1 hv c hc
  simpa [visB] using this
theorem kindW_inj {k k':Int}(h:k=0∨k=10∨k=12)(h':k'=0∨k'=10∨k'=12)(e:kindW k=kindW k'):k=k':=by
 rcases h with rfl | rfl | rfl<;>rcases h' with rfl | rfl | rfl<;>first | rfl | (revert e;decide)
theorem itoa_inj {x y:Int}(h:0≤x)(k:0≤y)(e:itoa x=itoa y):x=y:=by
 rw [itoa_nn h,itoa_nn k] at e
 have:=dec_inj e
 omega
theorem valD_zeros (n:Nat)(l:List UInt8):valD 0 (List.replicate n 48++l)=valD 0 l:=by
 induction n with
 | zero=>rfl
 | succ n ih=>
  have e:10*0+((48:UInt8).toNat-48)=0:=by decide
  have h:valD 0 (48::(List.replicate n 48++l))=valD (10*0+((48:UInt8).toNat-48)) (List.replicate n 48++l):=rfl
  rw [List.replicate_succ,List.cons_append,h,e,ih]
theorem app_sep {x:UInt8}:∀ {a b a' b':List UInt8},x ∉ a→x ∉ a'→a++x::b=a'++x::b'→a=a'∧b=b'
 | [],b,[],b',_,_,e=>⟨rfl,by injection e⟩
 | [],b,c::a',b',_,h',e=>by injection e with e _;exact absurd (e ▸ List.mem_cons_self) h'
 | c::a,b,[],b',h,_,e=>by injection e with e _;exact absurd (e ▸ List.mem_cons_self) h
 | c::a,b,d::a',b',h,h',e=>by
  injection e with e1 e2
  obtain ⟨h1,h2⟩:=app_sep (fun hm=>h (List.mem_cons_of_mem _ hm)) (fun hm=>h' (List.mem_cons_of_mem _ hm)) e2
  exact ⟨by rw [e1,h1],h2⟩
theorem timW_inj {t m t' m':Int}(h:0≤t)(k:0≤m)(h':0≤t')(k':0≤m')(e:timW t m=timW t' m'):t=t'∧m=m':=by
 unfold timW at e
 have n1:(46:UInt8) ∉ itoa t:=by rw [itoa_nn h];exact dec_no _ _ (by decide)
 have n2:(46:UInt8) ∉ itoa t':=by rw [itoa_nn h'];exact dec_no _ _ (by decide)
 obtain ⟨e1,e2⟩:=app_sep n1 n2 e
 refine ⟨itoa_inj h h' e1,?_⟩
 have:=congrArg (valD 0) e2
 rw [valD_zeros,valD_zeros,itoa_nn k,itoa_nn k',valD_dec,valD_dec] at this
 omega
theorem textN_at (p:List (List UInt8))(r:List UInt8):(64:UInt8)∈textN p r:=by unfold textN;simp
theorem prsW_inj {p q:List (List UInt8)}{r s:List UInt8}(h:prsB p r=true)(k:prsB q s=true)(e:prsW p r=prsW q s):p=q∧r=s:=by
 unfold prsW at e
 have key:∀ {p:List (List UInt8)} {r:List UInt8},noneN p r=true→p=[]∧r=[]:=fun {p r} hn=>by
  unfold noneN at hn
  rw [Bool.and_eq_true] at hn
  exact ⟨List.isEmpty_iff.1 hn.1,List.isEmpty_iff.1 hn.2⟩
 unfold prsB at h k
 rw [Bool.or_eq_true] at h k
 by_cases h1:noneN p r=true
 ·by_cases h2:noneN q s=true
  ·obtain ⟨rfl,rfl⟩:=key h1
   obtain ⟨rfl,rfl⟩:=key h2
   exact ⟨rfl,rfl⟩
  ·rw [if_pos h1,if_neg h2] at e
   have:=textN_at q s
   rw [← e] at this
   exact absurd this (by decide)
 ·by_cases h2:noneN q s=true
  ·rw [if_neg h1,if_pos h2] at e
   have:=textN_at p r
   rw [e] at this
   exact absurd this (by decide)
  ·rw [if_neg h1,if_neg h2] at e
   exact textN_inj (nameB_ne (h.resolve_left h1)) (nameB_ne (k.resolve_left h2)) e
end Go.Proofs.YtnjmndofcpnmeaaGreatDoor
namespace Go.Proofs.YtnjmndofcpnmeaaGreatDoor
open Go
set_option linter.unusedVariables false
abbrev W32:=BitVec 32
def andW (x y:W32):W32:=x &&& y
def orW (x y:W32):W32:=x ||| y
theorem u32_and (x y:W32):bits .and .u32 (x.toNat:Int) (y.toNat:Int)=((andW x y).toNat:Int):=by
 unfold andW
 show IntKind.u32.wrap ((BitVec.ofInt 32 (x.toNat:Int) &&& BitVec.ofInt 32 (y.toNat:Int)).toNat:Int)=_
 rw [BitVec.ofInt_natCast,BitVec.ofInt_natCast,BitVec.ofNat_toNat,BitVec.ofNat_toNat,BitVec.setWidth_eq,BitVec.setWidth_eq]
 have:=(x &&& y).isLt
 exact IntWalk.u32_in _ (by omega)
theorem u32_or (x y:W32):bits .or .u32 (x.toNat:Int) (y.toNat:Int)=((orW x y).toNat:Int):=by
 unfold orW
 show IntKind.u32.wrap ((BitVec.ofInt 32 (x.toNat:Int) ||| BitVec.ofInt 32 (y.toNat:Int)).toNat:Int)=_
 rw [BitVec.ofInt_natCast,BitVec.ofInt_natCast,BitVec.ofNat_toNat,BitVec.ofNat_toNat,BitVec.setWidth_eq,BitVec.setWidth_eq]
 have:=(x ||| y).isLt
 exact IntWalk.u32_in _ (by omega)
def hasB (f g:W32):Bool:=andW f g==g
theorem u32_beq (x y:W32):((x.toNat:Int)==(y.toNat:Int))=(x==y):=by
 rw [Bool.eq_iff_iff,beq_iff_eq,beq_iff_eq]
 constructor
 ·intro h;exact BitVec.eq_of_toNat_eq (by omega)
 ·rintro rfl;rfl
theorem u32_of (f:Int)(h0:0≤f)(h1:f≤4294967295):∃ x:W32,f=(x.toNat:Int):=⟨BitVec.ofNat 32 f.toNat,by rw [BitVec.toNat_ofNat];omega⟩
def unionF (xs:List W32):W32:=xs.foldl orW 0#32
theorem unionF_snoc (xs:List W32)(x:W32):unionF (xs++[x])=orW (unionF xs) x:=by simp [unionF]
def tkM:W32:=4095#32
def opM:W32:=2031807#32
def tkB (f:W32):Bool:=hasB tkM f
def nmB (f:W32):Bool:=hasB (orW tkM opM) f
end Go.Proofs.YtnjmndofcpnmeaaGreatDoor
namespace Go.Proofs.YtnjmndofcpnmeaaGreatDoor
open Go Go.RowKit
set_option linter.unusedVariables false
def fv (x:W32):Value:=.int .u32 (x.toNat:Int)
theorem Has_at (x y:W32) (w:World):
  Calls Tryz.prog 136 #[.int .u32 (x.toNat:Int),.int .u32 (y.toNat:Int)] w fun e w'=>e=.returned (.bool (hasB x y))∧w=w':=by
 have h1:=u32_and x y
 have h2:=u32_beq (andW x y) y
 obtain ⟨b,hb⟩:∃ b,hasB x y=b:=⟨_,rfl⟩
 have hb':(andW x y==y)=b:=hb
 rw [hb'] at h2
 rw [hb]
 clear hb hb'
 go_enter Tryz.func136,Tryz.ntmps136
 go_wp2
 go_ret
 exact ⟨rfl,rfl⟩
theorem Has_lit (a:Int) (x y:W32) (h:a=(x.toNat:Int)) (w:World):
  Calls Tryz.prog 136 #[.int .u32 a,.int .u32 (y.toNat:Int)] w fun e w'=>e=.returned (.bool (hasB x y))∧w=w':=by
 subst h;exact Has_at x y w
theorem Has_lit2 (a:Int) (x y:W32) (h:a=(y.toNat:Int)) (w:World):
  Calls Tryz.prog 136 #[.int .u32 (x.toNat:Int),.int .u32 a] w fun e w'=>e=.returned (.bool (hasB x y))∧w=w':=by
 subst h;exact Has_at x y w
def fvs (xs:List W32):List Value:=xs.map fv
theorem fvs_length (xs:List W32):(fvs xs).length=xs.length:=by simp [fvs]
theorem fvs_get (xs:List W32)(k:Nat)(h:k<xs.length):(fvs xs)[k]? = some (.int .u32 (xs[k].toNat:Int)):=by simp [fvs,fv,h]
set_option maxRecDepth 100000 in
theorem union_at (A:Option Addr) (c:Nat) (xs:List W32) (hn:xs.length≤1000) (w:World) (h:RS w (.slice A xs.length c) (fvs xs)):
  Calls Tryz.prog 110 #[.slice A xs.length c] w fun e w'=>e=.returned (.int .u32 ((unionF xs).toNat:Int))∧w=w':=by
 have HR:=Lib.hid h;clear h
 go_enter Tryz.func110,Tryz.ntmps110
 go_wp2
 go_loopw [2,4,7] (fun f _ i wr=>∃ (k:Nat) (u:W32),k≤xs.length∧i=.int .i64 k∧f=.int .u32 (u.toNat:Int)∧Hid (u=unionF (xs.take k))∧wr=w) (fun _ _ i _=>xs.length-(intOf i).toNat)
 case atStart=>exact ⟨0,0#32,Nat.zero_le _,rfl,rfl,Lib.hid rfl,rfl⟩
 case round=>
  obtain ⟨k,u,hk,rfl,rfl,HU,rfl⟩:=hrel
  by_cases hlt:k<xs.length
  ·obtain ⟨A',c',he,e1,e2,e3⟩:=HR.out
   rw [fvs_length] at e1 e3 he
   injection he with z1 _ z3
   subst z1;subst z3
   obtain ⟨ad,rfl,hblt,hcell⟩:=e3 (by omega)
   have hck:=hcell k _ (fvs_get xs k hlt)
   have HS:=Lib.hid (show orW u xs[k]=unionF (xs.take (k+1)) by rw [List.take_succ_eq_append_getElem hlt,unionF_snoc,← HU.out])
   generalize xs[k]=x at hck HS
   have hor:=u32_or u x
   clear hcell e1 e2 e3 hblt
   go_wp2_with fail
   go_roundw
   case rel=>exact ⟨k+1,orW u x,by omega,by go_num,rfl,HS,trivial⟩
   case measure=>simp [intOf];omega
  ·have HF:=Lib.hid (show u=unionF xs by have:=HU.out;rwa [List.take_of_length_le (by omega)] at this)
   go_wp2_with fail
   go_ret
   exact ⟨by rw [← HF.out];rfl,rfl⟩
theorem union2_at (x y:W32) (w:World) (A:Option Addr) (c:Nat) (h:RS w (.slice A 2 c) (fvs [x,y])):
  Calls Tryz.prog 110 #[.slice A 2 c] w fun e w'=>e=.returned (.int .u32 ((orW x y).toNat:Int))∧w=w':=by
 have:=union_at A c [x,y] (by simp) w h
 rwa [show unionF [x,y]=orW x y by simp [unionF,orW]] at this
set_option maxRecDepth 100000 in
theorem Ticket_at (x:W32) (w:World):
  Calls Tryz.prog 83 #[.int .u32 (x.toNat:Int)] w fun e w'=>e=.returned (.bool (tkB x))∧w=w':=by
 have H:=Lib.hid (Has_lit 4095 tkM x (by decide))
 go_enter Tryz.func83,Tryz.ntmps83
 go_wp2_with fail
 refine (H.out w).mono ?_
 rintro _ w1 ⟨rfl,rfl⟩
 go_wp2_with fail
 go_ret
 exact ⟨rfl,rfl⟩
end Go.Proofs.YtnjmndofcpnmeaaGreatDoor
