/- Pc2. -/
import Derived.Test.YtnjmndofcpnmeaaGreatDoorPc1
import Derived.Lib.Join
import Derived.Test.YtnjmndofcpnmeaaGreatDoorProg
import Derived.Test.YtnjmndofcpnmeaaGreatDoorPc0
import Derived.Lib.Hide
import Derived.Handy
import Derived.Laws.IdiomStrings
import Derived.Laws.Slices
import Derived.Deep.Cut
import Derived.RangeFuncNested
import Derived.RangeFuncLeaves
import Derived.RangeFuncCalls
namespace Go.Proofs.YtnjmndofcpnmeaaGreatDoor
open Go.Lib
set_option linter.unusedVariables false
def hxc (d:Nat):UInt8:=if d<10 then UInt8.ofNat (48+d) else UInt8.ofNat (87+d)
def hexD (n:Nat):List UInt8:=if h:n<16 then [hxc n] else hexD (n / 16)++[hxc (n % 16)]
termination_by n
decreasing_by omega
def hxv (c:UInt8):Option Nat:=if 48≤c.toNat∧c.toNat≤57 then some (c.toNat-48) else if 97≤c.toNat∧c.toNat≤102 then some (c.toNat-87) else if 65≤c.toNat∧c.toNat≤70 then some (c.toNat-55) else none
def pu16 (acc:Nat):List UInt8→Option Nat
 | []=>some acc
 | c::r=>match hxv c with
  | none=>none
  | some d=>if 65535<acc*16+d then none else pu16 (acc*16+d) r
def pu16w (l:List UInt8):Option Nat:=if l=[] then none else pu16 0 l
def pu8 (acc:Nat):List UInt8→Option Nat
 | []=>some acc
 | c::r=>if 48≤c.toNat∧c.toNat≤57 then (if 255<acc*10+(c.toNat-48) then none else pu8 (acc*10+(c.toNat-48)) r) else none
def pu8w (l:List UInt8):Option Nat:=if l=[] then none else pu8 0 l
theorem hxc_lt (d:Nat)(h:d<16):(hxc d).toNat=if d<10 then 48+d else 87+d:=by
 unfold hxc;split<;>simp [UInt8.toNat_ofNat']<;>omega
theorem hxv_hxc (d:Nat)(h:d<16):hxv (hxc d)=some d:=by
 have e:=hxc_lt d h
 unfold hxv
 rw [e]
 split at e
 ·next hd=>rw [if_pos hd,if_pos (by omega)];congr 1;omega
 ·next hd=>rw [if_neg hd,if_neg (by omega),if_pos (by omega)];congr 1;omega
theorem hexD_lo {n:Nat}(h:n<16):hexD n=[hxc n]:=by rw [hexD,dif_pos h]
theorem hexD_hi {n:Nat}(h:¬ n<16):hexD n=hexD (n / 16)++[hxc (n % 16)]:=by rw [hexD,dif_neg h]
theorem hexD_ne (n:Nat):hexD n≠[]:=by
 by_cases h:n<16
 ·rw [hexD_lo h];simp
 ·rw [hexD_hi h];simp
theorem hexD_dig (n:Nat):∀ c∈hexD n,(48≤c.toNat∧c.toNat≤57)∨(97≤c.toNat∧c.toNat≤102):=by
 induction n using Nat.strongRecOn with
 | _ n ih=>
  intro c hc
  by_cases h:n<16
  ·rw [hexD_lo h] at hc
   simp only [List.mem_singleton] at hc
   subst hc
   rw [hxc_lt n h];split<;>omega
  ·rw [hexD_hi h] at hc
   rcases List.mem_append.1 hc with hc | hc
   ·exact ih (n / 16) (by omega) c hc
   ·simp only [List.mem_singleton] at hc
    subst hc
    rw [hxc_lt _ (by omega)];split<;>omega
theorem hexD_no (n:Nat)(x:UInt8)(hx:x.toNat<48∨(57<x.toNat∧x.toNat<97)∨102<x.toNat):x ∉ hexD n:=fun h=>by
 have:=hexD_dig n x h;omega
theorem hexD_len (n:Nat)(h:n<65536):(hexD n).length≤4:=by
 by_cases h1:n<16
 ·rw [hexD_lo h1];simp
 ·rw [hexD_hi h1]
  by_cases h2:n / 16<16
  ·rw [hexD_lo h2];simp
  ·rw [hexD_hi h2]
   by_cases h3:n / 16 / 16<16
   ·rw [hexD_lo h3];simp
   ·rw [hexD_hi h3,hexD_lo (by omega)];simp
theorem pu16_hex (n:Nat)(h:n<65536)(r:List UInt8):pu16 0 (hexD n++r)=pu16 n r:=by
 induction n using Nat.strongRecOn generalizing r with
 | _ n ih=>
  by_cases h16:n<16
  ·rw [hexD_lo h16,List.singleton_append,pu16,hxv_hxc n h16]
   simp only
   rw [if_neg (by omega)]
   congr 1;omega
  ·rw [hexD_hi h16,List.append_assoc,ih (n / 16) (by omega) (by omega),List.singleton_append,pu16,hxv_hxc _ (by omega)]
   simp only
   rw [if_neg (by omega)]
   congr 1;omega
theorem pu16w_hex (n:Nat)(h:n<65536):pu16w (hexD n)=some n:=by
 have:=pu16_hex n h []
 rw [List.append_nil] at this
 unfold pu16w
 rw [if_neg (hexD_ne n),this];rfl
theorem pu16_le:∀ (l:List UInt8) (acc v:Nat),acc≤65535→pu16 acc l=some v→v≤65535
 | [],acc,v,ha,h=>by simp only [pu16,Option.some.injEq] at h;omega
 | c::r,acc,v,ha,h=>by
  rw [pu16] at h
  cases hc:hxv c with
  | none=>rw [hc] at h;cases h
  | some d=>
   rw [hc] at h
   simp only at h
   split at h
   ·cases h
   ·exact pu16_le r _ v (by omega) h
theorem pu16w_le {l:List UInt8}{v:Nat}(h:pu16w l=some v):v≤65535:=by
 unfold pu16w at h
 split at h
 ·cases h
 ·exact pu16_le _ _ _ (by omega) h
theorem pu8_dec (n:Nat)(h:n<256)(r:List UInt8):pu8 0 (decDigits n++r)=pu8 n r:=by
 induction n using Nat.strongRecOn generalizing r with
 | _ n ih=>
  by_cases h10:n<10
  ·rw [dec_lo n h10,List.singleton_append,pu8,u8_dig n h10,if_pos (by omega),if_neg (by omega)]
   congr 1;omega
  ·rw [dec_hi n h10,List.append_assoc,ih (n / 10) (by omega) (by omega),List.singleton_append,pu8,u8_dig _ (by omega),if_pos (by omega),if_neg (by omega)]
   congr 1;omega
theorem pu8w_dec (n:Nat)(h:n<256):pu8w (decDigits n)=some n:=by
 have:=pu8_dec n h []
 rw [List.append_nil] at this
 unfold pu8w
 rw [if_neg (dec_ne n),this];rfl
theorem pu8_le:∀ (l:List UInt8) (acc v:Nat),acc≤255→pu8 acc l=some v→v≤255
 | [],acc,v,ha,h=>by simp only [pu8,Option.some.injEq] at h;omega
 | c::r,acc,v,ha,h=>by
  rw [pu8] at h
  split at h
  ·split at h
   ·cases h
   ·exact pu8_le r _ v (by omega) h
  ·cases h
theorem pu8w_le {l:List UInt8}{v:Nat}(h:pu8w l=some v):v≤255:=by
 unfold pu8w at h
 split at h
 ·cases h
 ·exact pu8_le _ _ _ (by omega) h
def visB (c:UInt8):Bool:=decide (33≤c.toNat∧c.toNat≤126)
def okA (k:Int)(b:List UInt8):Bool:=
 if k=2 then b.length==4 else if k=24 then b.length==16 else if k=20 then (decide (1≤b.length∧b.length≤16)&&b.all visB) else false
def wds:List UInt8→List Nat
 | a::b::r=>(256*a.toNat+b.toNat)::wds r
 | _=>[]
def zrs:List Nat→Nat
 | 0::r=>zrs r+1
 | _=>0
def bst (i:Nat)(l:List Nat)(bg ln:Nat):Nat × Nat:=match l with
 | []=>(bg,ln)
 | x::r=>if ln<zrs (x::r) then bst (i+1) r i (zrs (x::r)) else bst (i+1) r bg ln
def hjoin (l:List Nat):List UInt8:=join (l.map hexD) [58]
def txt6w (g:List Nat)(bg ln:Nat):List UInt8:=
 if ln<2 then [91]++(hjoin g++[93]) else [91]++(hjoin (g.take bg)++([58,58]++(hjoin (g.drop (bg+ln))++[93])))
def txt6 (b:List UInt8):List UInt8:=txt6w (wds b) (bst 0 (wds b) 0 0).1 (bst 0 (wds b) 0 0).2
def txt4 (b:List UInt8):List UInt8:=join (b.map fun c=>decDigits c.toNat) [46]
def txtH (b:List UInt8):List UInt8:=[104,111,115,116,47]++b
def txtA (k:Int)(b:List UInt8):List UInt8:=if k=2 then txt4 b else if k=24 then txt6 b else txtH b
end Go.Proofs.YtnjmndofcpnmeaaGreatDoor
namespace Go.Proofs.YtnjmndofcpnmeaaGreatDoor
open Go Go.RowKit
set_option linter.unusedVariables false
def DeB (w:World):Prop:=w.cell? ⟨7,15,none⟩=some (.int .u8 4)
theorem DeB.ext {w w':World}(h:DeB w)(hx:Ext w w'):DeB w':=hx.cell h
theorem pow2_at (w:World):Calls Tryz.prog 236 #[.int .i64 16] w fun e w'=>e=.returned (.bool true)∧w=w':=by
 have h:bits .and .i64 16 15=0:=by decide
 go_enter Tryz.func236,Tryz.ntmps236
 go_wp2
 go_ret
 exact ⟨rfl,rfl⟩
theorem tz64_at (w:World)(hd:DeB w):Calls Tryz.prog 244 #[.int .u64 16] w fun e w'=>e=.returned (.int .i64 4)∧w=w':=by
 unfold DeB at hd
 have h0:IntKind.u64.wrap (-16)=18446744073709551600:=by rw [IntKind.wrap_u64];decide
 have h1:bits .and .u64 16 18446744073709551600=16:=by decide
 have h2:IntKind.u64.wrap (16*285870213051353865)=4573923408821661840:=by rw [IntKind.wrap_u64];decide
 have h3:IntKind.u64.wrap 4573923408821661840=4573923408821661840:=by rw [IntKind.wrap_u64];decide
 go_enter Tryz.func244,Tryz.ntmps244
 go_wp2
 go_ret
 exact ⟨rfl,rfl⟩
theorem tz_at (w:World)(hd:DeB w):Calls Tryz.prog 237 #[.int .u64 16] w fun e w'=>e=.returned (.int .i64 4)∧w=w':=by
 have HT:=Lib.hid (tz64_at w hd)
 go_enter Tryz.func237,Tryz.ntmps237
 go_wp2_with fail
 refine HT.out.mono ?_
 rintro _ w1 ⟨rfl,rfl⟩
 go_wp2_with fail
 go_ret
 exact ⟨rfl,rfl⟩
def hexS:ByteArray:=⟨#[48,49,50,51,52,53,54,55,56,57,97,98,99,100,101,102,103,104,105,106,107,108,109,110,111,112,113,114,115,116,117,118,119,120,121,122]⟩
theorem hexS_at (d:Nat)(h:d<16):hexS.data[d]? = some (hxc d):=by
 revert h;revert d;decide
theorem u64_and15 (a:Nat)(h:a<65536):bits .and .u64 (a:Int) 15=((a % 16:Nat):Int):=by
 show IntKind.u64.wrap ((BitVec.ofInt 64 (a:Int) &&& BitVec.ofInt 64 15).toNat:Int)=_
 have h1:(BitVec.ofInt 64 (a:Int)).toNat=a:=by
  rw [BitVec.toNat_ofInt]
  have:(a:Int) % ((2 ^ 64:Nat):Int)=a:=Int.emod_eq_of_lt (by omega) (by omega)
  rw [this];omega
 rw [BitVec.toNat_and,h1,show (BitVec.ofInt 64 15).toNat=2 ^ 4-1 by decide,Nat.and_two_pow_sub_one_eq_mod,IntKind.wrap_u64]
 omega
def HR (W:World)(g:Nat)(L:List UInt8):Prop:=∃ cs:Array Value,W.heap[g]? = some (.cells cs 270 (0,0))∧cs.size=65∧cs.toList.drop (65-L.length)=bv L
theorem HR.ext {W W':World}{g:Nat}{L:List UInt8}(h:HR W g L)(hx:Ext W W'):HR W' g L:=let ⟨cs,h1,h2⟩:=h;⟨cs,hx.heap h1,h2⟩
theorem HR.soft {W:World}{g:Nat}{L:List UInt8}(h:HR W g L)(k:Nat):W.frozen? ⟨g,k,none⟩=false:=let ⟨cs,h1,h2⟩:=h;frozen_of_row W g k _ _ h1
theorem HR.at_ {W:World}{g:Nat}{L:List UInt8}(h:HR W g L)(k:Nat)(hk:k<65):∃ u,W.cell? ⟨g,k,none⟩=some u:=by
 obtain ⟨cs,h1,h2,_⟩:=h
 exact ⟨cs[k]'(by omega),by rw [cell_of_row W g k _ _ (0,0) h1,Array.getElem?_eq_getElem (by omega)]⟩
theorem HR.put {W:World}{g:Nat}{L:List UInt8}(h:HR W g L)(j:Nat)(hj:j+1+L.length=65)(c:UInt8):HR (W.setCell ⟨g,j,none⟩ (.int .u8 (c.toNat:Int))) g (c::L):=by
 obtain ⟨cs,h1,h2,h3⟩:=h
 refine ⟨_,heap_setCell_same W g j _ _ _ h1,by simpa using h2,?_⟩
 rw [List.length_cons,show 65-(L.length+1)=j by omega]
 rw [show 65-L.length=j+1 by omega] at h3
 rw [Array.toList_setIfInBounds,List.drop_eq_getElem_cons (by simp;omega),List.getElem_set_self,List.drop_set_of_lt (by omega),h3]
 rfl
theorem HR.cell {W:World}{g:Nat}{L:List UInt8}(h:HR W g L)(hL:L.length≤65)(j:Nat)(hj:j<L.length):W.cell? ⟨g,65-L.length+j,none⟩=some (.int .u8 (L[j].toNat:Int)):=by
 obtain ⟨cs,h1,h2,h3⟩:=h
 rw [cell_of_row W g _ _ _ (0,0) h1,← Array.getElem?_toList,← List.getElem?_drop,h3,bv_get L j hj]
set_option maxRecDepth 100000 in
set_option maxHeartbeats 2000000 in
theorem formatBits_at (n:Nat) (hn:n<65536) (w:World) (hd:DeB w):
  Calls Tryz.prog 206 #[.slice none 0 0,.int .u64 (n:Int),.int .i64 16,.bool false,.bool false] w fun e w'=>e=.returned (.tuple #[.slice none 0 0,.string ⟨(hexD n).toArray⟩])∧Ext w w':=by
 have HD:=Lib.hid hd
 have hL4:=hexD_len n hn
 have HP:=Lib.hid (fun W=>pow2_at W)
 clear hd
 go_enter Tryz.func206,Tryz.ntmps206
 generalize hS:(⟨#[48,49,50,51,52,53,54,55,56,57,97,98,99,100,101,102,103,104,105,106,107,108,109,110,111,112,113,114,115,116,117,118,119,120,121,122]⟩:ByteArray)=S
 have HS36:=Lib.hid (show S.size=36 by rw [← hS];rfl)
 have HAT:=Lib.hid (show ∀ (d:Nat) (h:d<S.size),d<16→S[d]=hxc d from by subst hS;intro d h h16;exact (Array.getElem?_eq_some_iff.1 (hexS_at d h16)).2)
 clear hS
 go_wp2_with fail
 refine (HP.out _).mono ?_
 rintro _ w1 ⟨rfl,hw1⟩
 go_wp2_with fail
 refine (tz_at _ ?_).mono ?_
 ·rw [← hw1];exact HD.out.ext ((Ext.refl w).alloc _)
 rintro _ w2 ⟨rfl,hw2⟩
 have hx2:Ext w w2:=by rw [← hw2,← hw1];exact (Ext.refl w).alloc _
 have hr2:HR w2 w.heap.size []:=by
  rw [← hw2,← hw1];exact ⟨_,heap_alloc_new w _,rfl,rfl⟩
 have HX2:=Lib.hid hx2;have HR2:=Lib.hid hr2
 clear hw1 hw2 hx2 hr2
 go_wp2_with fail
 go_loopw [1,13] (fun u i wr=>∃ (v j:Nat) (L:List UInt8),u=.int .u64 (v:Int)∧i=.int .i64 ((j:Int)+1)∧j+1+L.length=65∧v≤n∧Hid (hexD n=hexD v++L)∧Hid (HR wr w.heap.size L)∧Hid (Ext w wr)) (fun u _ _=>(intOf u).toNat)
 case atStart=>exact ⟨n,64,[],rfl,by go_num,rfl,Nat.le_refl _,Lib.hid (by simp),HR2,HX2⟩
 case round=>
  obtain ⟨v,j,L,rfl,rfl,hj,hv,HE,HRW,HXW⟩:=hrel
  have hL3:L.length≤3:=by
   have h1:=congrArg List.length HE.out
   rw [List.length_append] at h1
   have h2:=List.length_pos_iff.2 (hexD_ne v)
   omega
  by_cases h16:v<16
  ·have hi16:(v:Int)<16:=by omega
   have hf:=HRW.out.soft j
   obtain ⟨u0,hc⟩:=HRW.out.at_ j (by omega)
   have HEE:=Lib.hid (show hexD n=hxc v::L by rw [HE.out,hexD_lo h16];rfl)
   have hd16:=h16
   have hlt:(v:Int)<(S.size:Int):=by rw [HS36.out];omega
   have hd:S[v]'(by have:=HS36.out;omega)=hxc v:=HAT.out v _ h16
   have hlen:(hxc v::L).length=65-j:=by simp;omega
   have HRF:=Lib.hid (HRW.out.put j hj (hxc v))
   have hsl:∀ W,(Instr.sliceAt 270 (.pointer (some ⟨w.heap.size,0,none⟩)) (some (.int .i64 (j:Int))) none none).run Tryz.prog W=.ok (.slice (some ⟨w.heap.size,j,none⟩) (65-j) (65-j)) W:=fun W=>by
    have hal:Tryz.prog.arrayLen 270=65:=by simp [Program.arrayLen,Tryz.underlying270]
    rw [run_sliceAt_array_l W 270 ⟨w.heap.size,0,none⟩ (by simp [Program.arrayLen,Program.elem,Tryz.underlying270]) .i64 (j:Int) (by omega) (by rw [hal];omega)]
    rw [hal]
    go_simp
    omega
   have hcv:(convert 32 9 (.slice (some ⟨w.heap.size,j,none⟩) (65-j) (65-j))).run Tryz.prog (wr.setCell ⟨w.heap.size,j,none⟩ (.int .u8 ((S[v]'(by have:=HS36.out;omega)).toNat:Int)))=.ok (.string ⟨(hexD n).toArray⟩) (wr.setCell ⟨w.heap.size,j,none⟩ (.int .u8 ((S[v]'(by have:=HS36.out;omega)).toNat:Int))):=by
    rw [hd]
    have h:=run_convert_bytes_back (P:=Tryz.prog) (wr.setCell ⟨w.heap.size,j,none⟩ (.int .u8 ((hxc v).toNat:Int))) 32 9 5 ⟨w.heap.size,j,none⟩ (65-j) (hxc v::L) Tryz.underlying32 Tryz.underlying5 Tryz.underlying9 (fun i hi=>by
     have h1:=HRF.out.cell (by omega) i hi
     rw [hlen,show 65-(65-j)=j by omega] at h1
     rw [← h1]
     unfold Addr.add
     split
     ·next h0=>subst h0;rfl
     ·rfl)
    rw [hlen] at h
    rw [HEE.out]
    exact h
   have HXF:=Lib.hid (HXW.out.setCell (p:=⟨w.heap.size,j,none⟩) (Nat.le_refl _) (.int .u8 ((S[v]'(by have:=HS36.out;omega)).toNat:Int)))
   clear h16 hlen hd hd16
   go_wp2_with fail
   go_ret2
   exact ⟨rfl,HXF.out⟩
  ·have hi16:(16:Int)≤v:=by omega
   have hand:=u64_and15 v (by omega)
   have hl:=HE.out
   have hd16:v % 16<16:=by omega
   obtain ⟨d,hdd⟩:∃ d,v % 16=d:=⟨_,rfl⟩
   rw [hdd] at hand hd16
   have hf:=HRW.out.soft j
   obtain ⟨u0,hc⟩:=HRW.out.at_ j (by omega)
   have hd0:(d:Int)<16:=by omega
   clear h16 hl
   have hlt:(d:Int)<(S.size:Int):=by rw [HS36.out];omega
   have HSd:=Lib.hid (HAT.out d (by have:=HS36.out;omega) hd16)
   clear hd0
   go_wp2_with fail
   go_roundw
   case rel=>exact ⟨v / 16,j-1,hxc d::L,by rw [show (v:Int) / 16=((v / 16:Nat):Int) by omega],by rw [show (j:Int)=((j-1:Nat):Int)+1 by omega],by simp;omega,by omega,by rw [HE.out,hexD_hi (by omega),hdd];exact Lib.hid (by simp),Lib.hid (HSd.out ▸ HRW.out.put j hj _),Lib.hid (HXW.out.setCell (Nat.le_refl _) _)⟩
   case measure=>simp [intOf];omega
theorem FormatI_at (n:Nat) (hn:n<65536) (w:World) (hd:DeB w):
  Calls Tryz.prog 242 #[.int .u64 (n:Int),.int .i64 16] w fun e w'=>e=.returned (.string ⟨(hexD n).toArray⟩)∧Ext w w':=by
 have HF:=Lib.hid (formatBits_at n hn w hd)
 clear hd
 go_enter Tryz.func242,Tryz.ntmps242
 go_wp2_with fail
 refine HF.out.mono ?_
 rintro _ w1 ⟨rfl,hx⟩
 have HX:=Lib.hid hx
 clear hx
 go_wp2_with fail
 go_ret
 exact ⟨rfl,HX.out⟩
theorem Format_at (n:Nat) (hn:n<65536) (w:World) (hd:DeB w):
  Calls Tryz.prog 232 #[.int .u64 (n:Int),.int .i64 16] w fun e w'=>e=.returned (.string ⟨(hexD n).toArray⟩)∧Ext w w':=by
 have HF:=Lib.hid (FormatI_at n hn w hd)
 clear hd
 go_enter Tryz.func232,Tryz.ntmps232
 go_wp2_with fail
 refine HF.out.mono ?_
 rintro _ w1 ⟨rfl,hx⟩
 have HX:=Lib.hid hx
 clear hx
 go_wp2_with fail
 go_ret
 exact ⟨rfl,HX.out⟩
def NC (W:World)(l:Nat):Prop:=∀ cs t fr,W.heap[l]?≠some (.cells cs t fr)
theorem NC.of {W:World}{l:Nat}{o:Obj}(h:W.heap[l]? = some o)(ho:o.isCells=false):NC W l:=by
 intro cs t fr e
 rw [h] at e
 injection e with e
 subst e
 simp [Obj.isCells] at ho
theorem NC.noU8 {W:World}{l:Nat}(h:NC W l):NoU8 W l:=by
 intro p hp n hc
 unfold World.cell? at hc
 rw [hp] at hc
 cases ho:W.heap[l]? with
 | none=>rw [ho] at hc;simp at hc
 | some o=>
  rw [ho] at hc
  cases o<;>simp at hc
  case cells cs t fr=>exact h cs t fr ho
def Stab (B:Nat)(I:World→Prop):Prop:=∀ (W W':World) (l:Nat),B≤l→NC W l→W.grownBy W' (some l)→I W→I W'
theorem Stab.and {B:Nat}{I J:World→Prop}(h:Stab B I)(k:Stab B J):Stab B (fun W=>I W∧J W):=fun W W' l hl hn hg hh=>⟨h W W' l hl hn hg hh.1,k W W' l hl hn hg hh.2⟩
theorem Stab.ex {ι:Sort _}{B:Nat}{I:ι→World→Prop}(h:∀ i,Stab B (I i)):Stab B (fun W=>∃ i,I i W):=fun W W' l hl hn hg ⟨i,hi⟩=>⟨i,h i W W' l hl hn hg hi⟩
theorem Stab.pure {B:Nat}(p:Prop):Stab B (fun _=>p):=fun _ _ _ _ _ _ h=>h
theorem Stab.bs {B:Nat}(v:Value)(b:List UInt8):Stab B (fun W=>BS W v b):=fun _ _ _ _ hn hg h=>h.but hn.noU8 hg
theorem heap_nc {W W':World}{l k:Nat}{cs:Array Value}{t:TypeId}{fr:Nat × Nat}(hn:NC W l)(hg:W.grownBy W' (some l))(h:W.heap[k]? = some (.cells cs t fr)):W'.heap[k]? = some (.cells cs t fr):=
 (hg.block k (Array.getElem?_eq_some_iff.1 h).1 (by intro e;cases e;exact hn _ _ _ h)).trans h
theorem Stab.heap {B:Nat}(k:Nat)(cs:Array Value)(t:TypeId)(fr:Nat × Nat):Stab B (fun W=>W.heap[k]? = some (.cells cs t fr)):=fun _ _ _ _ hn hg h=>heap_nc hn hg h
theorem Stab.ext {B:Nat}(w0:World)(h0:w0.heap.size≤B):Stab B (fun W=>Ext w0 W):=fun W W' l hl _ hg h=>Ext.of_grown h hg (by omega)
theorem Stab.obj {B:Nat}(k:Nat)(o:Obj)(h:k<B):Stab B (fun W=>W.heap[k]? = some o):=fun W W' l hl _ hg hk=>(hg.block k (Array.getElem?_eq_some_iff.1 hk).1 (by intro e;cases e;omega)).trans hk
theorem Stab.size {B:Nat}(k:Nat):Stab B (fun W=>k≤W.heap.size):=fun _ _ _ _ _ hg h=>Nat.le_trans h hg.size
theorem Stab.ob {B:Nat}(e:TypeId)(b0:Nat)(v:Value)(b:List UInt8):Stab B (fun W=>OB e W b0 v b):=fun W W' l _ hn hg h=>by
 refine ⟨h.1,?_⟩
 rcases h.2 with hh | ⟨g,cap,cur,hv,hb,hh,r⟩
 ·exact .inl hh
 ·exact .inr ⟨g,cap,cur,hv,hb,heap_nc hn hg hh,r⟩
theorem Stab.later {B:Nat}{I:World→Prop}(h:Stab B I){W W':World}(hx:Ext W W')(hi:I W):I W':=
 h W W' (W.heap.size+B) (by omega) (fun cs t fr e=>by simp at e) (hx.but _) hi
theorem OB.far {e:TypeId}{w w':World}{B:Nat}{v:Value}{b:List UInt8}{g:Nat}(h:OB e w B v b)(hg:w.grownBy w' (some g))(hlt:g<B):OB e w' B v b:=by
 refine ⟨h.1,?_⟩
 rcases h.2 with hh | ⟨g',cap,cur,hv,hb,hh,r⟩
 ·exact .inl hh
 ·exact .inr ⟨g',cap,cur,hv,hb,(hg.block g' (Array.getElem?_eq_some_iff.1 hh).1 (by intro e;cases e;omega)).trans hh,r⟩
theorem heap_far {w w':World}{g k:Nat}{o:Obj}(hg:w.grownBy w' (some g))(h:w.heap[k]? = some o)(hne:k≠g):w'.heap[k]? = some o:=
 (hg.block k (Array.getElem?_eq_some_iff.1 h).1 (by intro e;cases e;exact hne rfl)).trans h
theorem OB.set {e:TypeId} {w:World} {B g c:Nat} {X:List UInt8} (h:OB e w B (.slice (some ⟨g,0,none⟩) X.length c) X) (k:Nat) (y:UInt8) (v:Int) (hv:v=(y.toNat:Int)):
  OB e (w.setCell ⟨g,k,none⟩ (.int .u8 v)) B (.slice (some ⟨g,0,none⟩) (X.set k y).length c) (X.set k y)∧w.grownBy (w.setCell ⟨g,k,none⟩ (.int .u8 v)) (some g):=by
 subst hv
 unfold OB at *
 have:=h.stored k (.int .u8 (y.toNat:Int))
 refine ⟨?_,this.2⟩
 have e1:bv (X.set k y)=(bv X).set k (.int .u8 (y.toNat:Int)):=by simp [bv,List.map_set]
 rw [List.length_set,e1]
 exact this.1
theorem OB.at_ {e:TypeId} {w:World} {B g c:Nat} {X:List UInt8} (h:OB e w B (.slice (some ⟨g,0,none⟩) X.length c) X) (k:Nat) (hk:k<X.length):
  w.cell? ⟨g,k,none⟩=some (.int .u8 (X[k].toNat:Int))∧w.frozen? ⟨g,k,none⟩=false:=by
 unfold OB at h
 have hkx:k<(bv X).length:=by rw [bv_length];exact hk
 refine ⟨(h.cellAt k (by omega)).trans ?_,h.frozenAt k⟩
 exact bv_get X k hk
theorem OB.row {e:TypeId} {w:World} {B c:Nat} {A:Option Addr} {X:List UInt8} (h:OB e w B (.slice A X.length c) X):
  ∃ g,B≤g∧(0<X.length→A=some ⟨g,0,none⟩)∧(∀ o,w.heap[g]? = some o→o.isCells=true):=by
 rcases h.2 with ⟨_,h0⟩ | ⟨g,cap,cur,hv,hb,hh,r⟩
 ·refine ⟨B+w.heap.size,by omega,fun hp=>?_,fun o ho=>?_⟩
  ·rw [show X.length=0 by simpa using h0] at hp;omega
  ·have:=(Array.getElem?_eq_some_iff.1 ho).1
   omega
 ·injection hv with h1
  exact ⟨g,hb,fun _=>h1,fun o ho=>by rw [hh] at ho;injection ho with ho;subst ho;rfl⟩
theorem BS.far {V W W':World}{v:Value}{b:List UInt8}{g:Nat}(h0:BS V v b)(h:BS W v b)(hg:W.grownBy W' (some g))(hlt:V.heap.size≤g):BS W' v b:=by
 obtain ⟨A,c,hv,h1,h2,h3⟩:=h
 obtain ⟨A0,c0,hv0,_,_,h03⟩:=h0
 rw [hv] at hv0
 injection hv0 with e1 _ _
 subst e1
 refine ⟨A,c,hv,h1,h2,fun hp=>?_⟩
 obtain ⟨ad,ha,hb,hc⟩:=h3 hp
 obtain ⟨ad0,ha0,hb0,_⟩:=h03 hp
 rw [ha] at ha0
 injection ha0 with e
 subst e
 refine ⟨ad,ha,Nat.lt_of_lt_of_le hb hg.size,fun j u hu=>?_⟩
 exact (World.cell?_of_block (hg.block _ (by rw [block_of_add];exact hb) (by rw [block_of_add];intro e;injection e with e;omega))).trans (hc j u hu)
theorem grown_set1 (w:World)(g:Nat)(u:Value):w.grownBy (w.setCell ⟨g,0,none⟩ u) (some g):=grown_set (grown_refl _ _) 0 _
theorem row1 {w:World}{k:Nat}{v:Value}{t:TypeId}(h:w.heap[k]? = some (.cells #[v] t (0,0))):w.cell? ⟨k,0,none⟩=some v∧w.frozen? ⟨k,0,none⟩=false:=
 ⟨by rw [cell_of_row _ _ 0 _ _ (0,0) h];rfl,frozen_of_row w k 0 _ _ h⟩
theorem row1_set {w:World}{k:Nat}{v:Value}{t:TypeId}(u:Value)(h:w.heap[k]? = some (.cells #[v] t (0,0))):(w.setCell ⟨k,0,none⟩ u).heap[k]? = some (.cells #[u] t (0,0)):=by
 rw [heap_setCell_same w k 0 _ _ u h];rfl
theorem Ext.keepsOthers {W W':World}(h:Ext W W'):KeepsOthers W W':=⟨h.size,fun k o hk _=>(h.block k (Array.getElem?_eq_some_iff.1 hk).1).trans hk⟩
section
variable {P:Program}
theorem wide_call {f:FuncId}{args:Array Value}{w:World}{R R':Ending→World→Prop}(h:Calls P f args w R')(hr:∀ e w',R' e w'→R e w'):Fence.wide.fn f∧Fence.wide.depth=none∧CallsIn Fence.wide 0 P f args w R:=
 ⟨trivial,rfl,(callsIn_wide.2 h).mono hr⟩
theorem wide_callR {l:Nat}{f:FuncId}{args:Array Value}{w:World}{R R':Ending→World→Prop}(h:Calls P f args w R')(hr:∀ e w',R' e w'→R e w'):Fence.wide.fn f∧Fence.wide.depth=none∧CallsIn (Fence.wide.inRound l) 0 P f args w R:=
 ⟨trivial,rfl,CallsIn.inRound l ((callsIn_wide.2 h).mono hr)⟩
def Iter {α:Type}(P:Program)(gf:Nat)(lb:Array Value)(encs:α→Array Value)(It:World→Prop)(G:List α→α→World→Prop)(own:Nat→Prop)(S Sp:List α→Prop):Prop:=
 ∀ (l:Nat) (J Jx:List α→World→Prop) (W:World),
  (∀ pre A B r,(∀ k,r=some k→own k)→A.grownBy B r→J pre A→J pre B)→(∀ pre A B r,(∀ k,r=some k→own k)→A.grownBy B r→Jx pre A→Jx pre B) →
  (∀ pre x W1,J pre W1→It W1→G pre x W1→YieldAt Fence.wide 0 P l (encs x) W1 fun e W'=>
   (e=.returned (.bool true)∧J (pre++[x]) W'∧It W')∨(e=.returned (.bool false)∧Jx (pre++[x]) W')) →
  It W→J [] W →
  CallsIn Fence.wide 0 P gf (#[.func (.yield l) #[] #[]]++lb) W fun e W'=>(∃ v,e=.returned v)∧((∃ xs,S xs∧J xs W'∧It W')∨(∃ pre,Sp pre∧Jx pre W'))
def bPost {α:Type} (B:Nat) (It:World→Prop) (I:List α→World→Prop) (Ix:Code→List α→World→Prop) (xs:List α) (W:World):Exit→Act→World→Prop
 | .normal,_,W'=>KeepsFrom B W W'∧It W'∧I xs W'
 | .ret,_,W'=>KeepsFrom B W W'∧Ix .ret xs W'
 | .exit id,_,W'=>KeepsFrom B W W'∧Ix (.exit id) xs W'
 | .goto t,_,W'=>KeepsFrom B W W'∧Ix (.goto t) xs W'
 | .panic _,_,_=>False
 | .outgrown,_,_=>False
theorem grown_put {W:World}{l:Nat}{o o':Obj}(_h:W.heap[l]? = some o):W.grownBy (W.putObj l o') (some l):=grownBy_putObj' W l o'
theorem wp_range {α:Type} {g:Operand} {ps:Array Tmp} {assign body:Code} {Q:Exit→Act→World→Prop} {a:Act} {w:World}
  {gf:Nat} {lb:Array Value} (hg:a.eval g=.func (.func gf) #[] lb) (eg:∀ args w,(callFunc gf args).run P w=.ok (.enter gf args) w)
  {encs:α→Array Value} {It:World→Prop} {G:List α→α→World→Prop} {own:Nat→Prop} {S Sp:List α→Prop} (hseq:Iter P gf lb encs It G own S Sp) (hps:∀ x,(encs x).size=ps.size)
  (hown:∀ k,own k→k<w.heap.size) (hIt0:It w) (hIt:Stab w.heap.size It)
  (I:List α→World→Prop) (Ix:Code→List α→World→Prop) (hI:∀ pre,Stab w.heap.size (I pre)) (hIx:∀ c pre,Stab w.heap.size (Ix c pre))
  (hIo:∀ pre A B r,(∀ k,r=some k→own k)→A.grownBy B r→I pre A→I pre B) (hIxo:∀ c pre A B r,(∀ k,r=some k→own k)→A.grownBy B r→Ix c pre A→Ix c pre B)
  (h0:I [] w)
  (hround:∀ (l:Nat) (pre:List α) (x:α) (W:World),w.heap.size≤l→NC W l→w.heap.size≤W.heap.size→I pre W→It W→G pre x W →
   assign.wpIn (Fence.wide.inRound l) 0 P (Exit.then (fun a' W1=>KeepsFrom w.heap.size W W1∧∀ W2,W1.grownBy W2 (some l)→NC W1 l→W2.heap.size=W1.heap.size →
     body.wpIn (Fence.wide.inRound l) 0 P (bPost w.heap.size It I Ix (pre++[x]) W2) a' W2) (fun _ _ _=>False))
    { tmps:=(ps.zip (encs x)).foldl (fun t (p,v)=>t.setIfInBounds p v) a.tmps,defers:=[] } W)
  (hdone:∀ (D:Nat) (xs:List α) (W:World),w.heap.size≤D→S xs→I xs W→It W→W.heap[D]? = some (.deferred (some []))→Q .normal { a with defers:={ target:=.collected D,args:=#[] }::a.defers } W)
  (hstop:∀ (D:Nat) (c:Code) (pre:List α) (W:World),w.heap.size≤D→Sp pre→Ix c pre W→W.heap[D]? = some (.deferred (some []))→c.wpIn Fence.wide 0 P Q { a with defers:={ target:=.collected D,args:=#[] }::a.defers } W):
  (Code.rangeFunc g ps assign body).wpIn Fence.wide 0 P Q a w:=by
 refine wpIn_rangeFunc ?_
 intro fn hfn
 obtain ⟨rc,hrc⟩:∃ rc:LoopState→Option Code→Loop,rc=fun st pe=>{ state:=st,pending:=pe,fn,tmps:=a.tmps,params:=ps,assign,body,defers:=w.heap.size }:=⟨_,rfl⟩
 obtain ⟨V,hV⟩:∃ V,(w.alloc (.deferred (some []))).alloc (.loop (rc .ready none))=V:=⟨_,rfl⟩
 have hxV:Ext w V:=by rw [← hV];exact ((Ext.refl w).alloc _).alloc _
 have hVL:V.heap[w.heap.size+1]? = some (.loop (rc .ready none)):=by
  rw [← hV]
  have:=heap_alloc_new (w.alloc (.deferred (some []))) (.loop (rc .ready none))
  rwa [World.size_alloc] at this
 have hVD:V.heap[w.heap.size]? = some (.deferred (some [])):=by rw [← hV];exact ((Ext.refl _).alloc _).heap (heap_alloc_new w _)
 have ncL:∀ {W:World} {r:Loop},W.heap[w.heap.size+1]? = some (.loop r)→NC W (w.heap.size+1):=fun h=>NC.of h rfl
 have toV:∀ {K:World→Prop},Stab w.heap.size K→K w→K V:=by
  intro K hK hk
  have hn:NC w w.heap.size:=fun cs t fr e=>by simp at e
  exact hK w V w.heap.size (Nat.le_refl _) hn (hxV.but _) hk
 have keepsOwn:∀ {A B:World} {r:Option Nat} {k:Nat} {o:Obj},(∀ j,r=some j→own j)→A.grownBy B r→w.heap.size≤k→A.heap[k]? = some o→B.heap[k]? = some o:=by
  intro A B r k o hr hgr hk ho
  exact (hgr.block k (Array.getElem?_eq_some_iff.1 ho).1 (fun e=>by have:=hown k (hr k e.symm);omega)).trans ho
 refine ⟨w.heap.size+1,[{ target:=.collected w.heap.size,args:=#[] }],V,{ target:=.fn (.func gf) lb,args:=#[.func (.yield (w.heap.size+1)) #[] #[]] },V,gf,
  #[.func (.yield (w.heap.size+1)) #[] #[]]++lb,V,?_,?_,?_,?_,fun h=>by simp [Fence.wide] at h,?_⟩
 ·rw [← hV,hrc]
  exact run_enterLoop_outer _ _ _ _ _
 ·simp only [resolve,hg]
  simp [go_sem]
 ·intro f' hf'
  trivial
 ·simp [invoke,go_sem,eg]
 ·refine (hseq (w.heap.size+1)
   (fun pre W=>w.heap.size+2≤W.heap.size∧I pre W∧W.heap[w.heap.size+1]? = some (.loop (rc .ready none))∧W.heap[w.heap.size]? = some (.deferred (some [])))
   (fun pre W=>∃ c,Ix c pre W∧W.heap[w.heap.size+1]? = some (.loop (rc .done (some c)))∧W.heap[w.heap.size]? = some (.deferred (some [])))
   V (fun pre A B r hr hgr h=>⟨Nat.le_trans h.1 hgr.size,hIo pre A B r hr hgr h.2.1,keepsOwn hr hgr (by omega) h.2.2.1,keepsOwn hr hgr (Nat.le_refl _) h.2.2.2⟩)
   (fun pre A B r hr hgr ⟨c,h1,h2,h3⟩=>⟨c,hIxo c pre A B r hr hgr h1,keepsOwn hr hgr (by omega) h2,keepsOwn hr hgr (Nat.le_refl _) h3⟩)
   ?_ (toV hIt hIt0) ⟨by rw [← hV];simp,toV (hI []) h0,hVL,hVD⟩).mono ?_
  ·rintro pre x W ⟨hsz,hi,hl,hd⟩ hit hG
   have hy:=run_yield (P:=P) (args:=encs x) hl (by rw [hrc];exact hps x)
   rw [hrc] at hy
   refine ⟨fn,_,assign,body,hy,roundIn_of_wpIn hfn ?_⟩
   have hr:=hround (w.heap.size+1) pre x W (by omega) (ncL hl) (by omega) hi hit hG
   refine wpIn_mono hr ?_
   clear hr hy
   rintro e a1 W1 h
   cases e with
   | normal=>
    obtain ⟨hk1,h⟩:=h
    have hl1:=hk1.same _ _ (by omega) hl rfl
    have hd1:=hk1.same _ _ (Nat.le_refl _) hd rfl
    refine ⟨_,run_beginRound hl1 (by rw [hrc]),?_⟩
    have hlt1:=(Array.getElem?_eq_some_iff.1 hl1).1
    have hl2:(W1.putObj (w.heap.size+1) (.loop { rc .ready none with state:=.busy })).heap[w.heap.size+1]? = some (.loop { rc .ready none with state:=.busy }):=World.putObj_heap_same hlt1
    have hd2:(W1.putObj (w.heap.size+1) (.loop { rc .ready none with state:=.busy })).heap[w.heap.size]? = some (.deferred (some [])):=(World.putObj_heap_other (by omega)).trans hd1
    refine wpIn_mono (h _ (grown_put hl1) (ncL hl1) (by simp [World.putObj])) ?_
    have fin:∀ (jump:Option Code) (W3:World),KeepsFrom w.heap.size (W1.putObj (w.heap.size+1) (.loop { rc .ready none with state:=.busy })) W3 →
      ∃ W4,(Instr.endRound (w.heap.size+1) jump).run P W3=.ok (.bool jump.isNone) W4∧W3.grownBy W4 (some (w.heap.size+1))∧NC W3 (w.heap.size+1)∧w.heap.size+2≤W4.heap.size ∧
       W4.heap[w.heap.size+1]? = some (.loop (rc (if jump.isNone then .ready else .done) jump))∧W4.heap[w.heap.size]? = some (.deferred (some [])):=by
     intro jump W3 hk3
     have hl3:=hk3.same _ _ (by omega) hl2 rfl
     have hd3:=hk3.same _ _ (Nat.le_refl _) hd2 rfl
     have hlt3:=(Array.getElem?_eq_some_iff.1 hl3).1
     have hrun:=run_endRound (P:=P) jump hl3
     refine ⟨W3.putObj (w.heap.size+1) (.loop (rc (if jump.isNone then .ready else .done) jump)),?_,grown_put hl3,ncL hl3,by simp [World.putObj];omega,World.putObj_heap_same hlt3,(World.putObj_heap_other (by omega)).trans hd3⟩
     rw [hrc] at hrun ⊢
     exact hrun
    rintro e a3 W3 hp
    cases e with
    | normal=>
     obtain ⟨hk3,hit3,hi3⟩:=hp
     obtain ⟨W4,hrun,hg4,hn4,hz4,hl4,hd4⟩:=fin none W3 hk3
     exact ⟨_,_,hrun,.inl ⟨rfl,⟨hz4,hI _ _ _ _ (by omega) hn4 hg4 hi3,hl4,hd4⟩,hIt _ _ _ (by omega) hn4 hg4 hit3⟩⟩
    | ret=>
     obtain ⟨hk3,hi3⟩:=hp
     obtain ⟨W4,hrun,hg4,hn4,hz4,hl4,hd4⟩:=fin (some .ret) W3 hk3
     exact ⟨_,_,hrun,.inr ⟨rfl,.ret,hIx _ _ _ _ _ (by omega) hn4 hg4 hi3,hl4,hd4⟩⟩
    | exit id=>
     obtain ⟨hk3,hi3⟩:=hp
     obtain ⟨W4,hrun,hg4,hn4,hz4,hl4,hd4⟩:=fin (some (.exit id)) W3 hk3
     exact ⟨_,_,hrun,.inr ⟨rfl,.exit id,hIx _ _ _ _ _ (by omega) hn4 hg4 hi3,hl4,hd4⟩⟩
    | goto t=>
     obtain ⟨hk3,hi3⟩:=hp
     obtain ⟨W4,hrun,hg4,hn4,hz4,hl4,hd4⟩:=fin (some (.goto t)) W3 hk3
     exact ⟨_,_,hrun,.inr ⟨rfl,.goto t,hIx _ _ _ _ _ (by omega) hn4 hg4 hi3,hl4,hd4⟩⟩
    | panic ch=>exact hp.elim
    | outgrown=>exact hp.elim
   | ret=>exact h.elim
   | exit id=>exact h.elim
   | goto t=>exact h.elim
   | panic ch=>exact h.elim
   | outgrown=>exact h.elim
  ·rintro e W2 ⟨⟨v,rfl⟩,(⟨xs,hS,⟨hz,hi,hl,hd⟩,hit⟩ | ⟨pre,hSp,c,hi,hl,hd⟩)⟩
   ·have hrun:=run_endLoop (P:=P) hl (by rw [hrc];simp)
    rw [hrc] at hrun
    refine ⟨none,_,hrun,?_⟩
    exact hdone _ xs _ (Nat.le_refl _) hS (hI _ _ _ _ (by omega) (ncL hl) (grown_put hl) hi) (hIt _ _ _ (by omega) (ncL hl) (grown_put hl) hit) ((World.putObj_heap_other (by omega)).trans hd)
   ·have hrun:=run_endLoop (P:=P) hl (by rw [hrc];simp)
    rw [hrc] at hrun
    refine ⟨some c,_,hrun,?_⟩
    exact hstop _ c pre _ (Nat.le_refl _) hSp (hIx _ _ _ _ _ (by omega) (ncL hl) (grown_put hl) hi) ((World.putObj_heap_other (by omega)).trans hd)
theorem calls_of_marks {f:FuncId} {fn:Func} {c:Code} {args:Array Value} {w:World} {R:Ending→World→Prop} (hf:P.funcs[f]? = some fn) (hb:fn.body=some c)
  (h:c.wp P (bodyPostM Fence.wide 0 P fn R) { tmps:=args++Array.replicate (fn.ntmps-args.size) undef,defers:=[] } w):Calls P f args w R:=
 callsIn_wide.1 (callsIn_of_wp_marks hf hb trivial (wpIn_wide.2 h))
theorem grown_none {W W':World}(h:Ext W W'):W.grownBy W' none:=⟨h.os,h.tape,h.output,h.size,fun k hk _=>h.block k hk⟩
theorem grown_of_ext {W W':World}(h:W.grownBy W' none):Ext W W':=⟨h.os,h.tape,h.output,h.size,fun k hk=>h.block k hk (by simp)⟩
end
#print axioms wp_range
end Go.Proofs.YtnjmndofcpnmeaaGreatDoor
