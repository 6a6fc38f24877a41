/- Pc11. -/
import Derived.Test.YtnjmndofcpnmeaaGreatDoorPc2
import Derived.Test.YtnjmndofcpnmeaaGreatDoorPc1
import Derived.Lib.ConvBytes
import Derived.Lib.Hide
import Derived.Handy
import Derived.Laws.Strings3
import Derived.Laws.Closers25
import Derived.Laws.Closers25b
namespace Go.Proofs.YtnjmndofcpnmeaaGreatDoor
open Go Go.RowKit
set_option linter.unusedVariables false
def PUi (o:Option Nat)(e:Ending):Prop:=
 (∃ n:Nat,o=some n∧e=.returned (.tuple #[.int .u64 (n:Int),.nilIface]))∨(o=none∧∃ v c:Int,(c=1∨c=2)∧e=.returned (.tuple #[.int .u64 v,.iface 234 (.int .i64 c)]))
def PU (o:Option Nat)(e:Ending):Prop:=
 (∃ n:Nat,o=some n∧e=.returned (.tuple #[.int .u64 (n:Int),.nilIface]))∨(o=none∧∃ v p,e=.returned (.tuple #[.int .u64 v,.iface 237 p]))
theorem low_eq:∀ n:Fin 256,bits .or .u8 (n.val:Int) 32=((n.val ||| 32:Nat):Int):=by decide +kernel
theorem low_hex:∀ n:Fin 256,¬ (48≤n.val∧n.val≤57)→(((97≤n.val∧n.val≤102)→n.val ||| 32=n.val)∧((65≤n.val∧n.val≤70)→n.val ||| 32=n.val+32)∧(¬ (97≤n.val∧n.val≤102)→¬ (65≤n.val∧n.val≤70)→(n.val ||| 32<97∨(103≤n.val ||| 32∧n.val ||| 32≤122)∨122<n.val ||| 32))∧n.val ||| 32<256):=by decide +kernel
theorem low_at (c:UInt8)(w:World):Calls Tryz.prog 226 #[.int .u8 (c.toNat:Int)] w fun e w'=>e=.returned (.int .u8 ((c.toNat ||| 32:Nat):Int))∧w=w':=by
 refine (Tryz.internal_strconv_lower (c.toNat:Int) w).mono ?_
 rintro e w' ⟨rfl,rfl⟩
 have h:=low_eq ⟨c.toNat,c.toNat_lt⟩
 exact ⟨by rw [h],rfl⟩
theorem low95 (w:World):Calls Tryz.prog 226 #[.int .u8 95] w fun e w'=>e=.returned (.int .u8 127)∧w=w':=low_at 95 w
set_option maxHeartbeats 4000000 in
set_option maxRecDepth 100000 in
theorem ParseI16_at (t:ByteArray) (hmax:t.size≤3000) (w:World):
  Calls Tryz.prog 195 #[.string t,.int .i64 16,.int .i64 16] w fun e w'=>PUi (pu16w t.data.toList) e∧Ext w w':=by
 by_cases hne:t.size=0
 ·have he:pu16w t.data.toList=none:=by
   have:t.data.toList=[]:=List.eq_nil_of_length_eq_zero (by rw [Array.length_toList];exact hne)
   unfold pu16w
   rw [if_pos this]
  rw [he]
  have:t=⟨#[]⟩:=by
   obtain ⟨⟨l⟩⟩:=t
   have:l=[]:=List.eq_nil_of_length_eq_zero hne
   subst this;rfl
  subst this
  clear he hne hmax
  go_enter Tryz.func195,Tryz.ntmps195
  go_wp2
  go_ret2
  exact ⟨.inr ⟨rfl,_,_,.inr rfl,rfl⟩,Ext.refl _⟩
 have hemp:t.toList.isEmpty=false:=by
  rw [← decide_eq_emptyBytes]
  exact decide_eq_false (fun h=>hne (by rw [h];rfl))
 have hpw:pu16w t.data.toList=pu16 0 t.data.toList:=by
  unfold pu16w
  rw [if_neg (fun h=>hne (by have:=congrArg List.length h;rw [Array.length_toList] at this;exact this))]
 rw [hpw]
 have hcv:=Lib.run_convert_string_bytes (P:=Tryz.prog) w 9 32 5 t (u:=.string) Tryz.underlying9 Tryz.underlying32 Tryz.underlying5
 have hB:∀ j,j<t.size→(Lib.bytesWorld w 5 t).cell? ⟨w.heap.size,j,none⟩=some (.int .u8 (t.data.toList.getD j 0).toNat):=fun j hj=>Lib.bytesWorld_cell w 5 t j hj
 have hxb:=ext_bytesWorld w 5 t
 obtain ⟨W1,hW1⟩:∃ W1,W1=Lib.bytesWorld w 5 t:=⟨_,rfl⟩
 rw [← hW1] at hcv hB hxb
 clear hW1 hpw
 obtain ⟨bs,hL⟩:∃ bs,bs=t.data.toList:=⟨_,rfl⟩
 have hLn:bs.length=t.size:=by rw [hL,Array.length_toList];rfl
 rw [← hL] at hB ⊢
 clear hL
 have hmv:IntKind.u64.wrap (IntKind.u64.wrap 65536-1)=65535:=by
  rw [IntKind.wrap_u64,IntKind.wrap_u64]
  decide
 have HXB:=Lib.hid hxb;have HB:=Lib.hid hB;have HLN:=Lib.hid hLn
 clear hxb hB hLn
 go_enter Tryz.func195,Tryz.ntmps195
 go_wp2
 go_loop [12,13,101] (fun vu vn vi=>∃ (k acc:Nat) (a:Int),vu=.bool false∧vn=.int .u64 a∧vi=.int .i64 k∧k≤t.size∧Hid (a=(acc:Int)∧acc≤65535∧pu16 0 bs=pu16 acc (bs.drop k)))
  (fun _ _ vi=>t.size-(intOf vi).toNat)
 case atStart=>exact ⟨0,0,0,rfl,rfl,rfl,by omega,Lib.hid ⟨rfl,by omega,rfl⟩⟩
 case round=>
  obtain ⟨k,acc,a,rfl,rfl,rfl,hk,hh⟩:=hrel
  obtain ⟨ha,hacc,hdec⟩:=hh.out
  clear hh
  have a0:0≤a:=by omega
  have a1:a≤65535:=by omega
  by_cases hkn:k<t.size
  ·have hlt:k<bs.length:=by rw [HLN.out];exact hkn
   have hc:=HB.out k hkn
   have hdrop:bs.drop k=bs[k]::bs.drop (k+1):=List.drop_eq_getElem_cons hlt
   have hget:bs.getD k 0=bs[k]:=by simp [List.getD,List.getElem?_eq_getElem hlt]
   rw [hdrop,pu16] at hdec
   rw [hget] at hc
   generalize bs[k]=c at hc hdec
   have hc256:c.toNat<256:=c.toNat_lt
   clear hdrop hget
   by_cases hdig:48≤c.toNat∧c.toNat≤57
   ·obtain ⟨hd0,hd1⟩:=hdig
    have hv:hxv c=some (c.toNat-48):=by unfold hxv;rw [if_pos ⟨hd0,hd1⟩]
    rw [hv] at hdec
    simp only at hdec
    by_cases hov:65535<acc*16+(c.toNat-48)
    ·rw [if_pos hov] at hdec
     have iov:65535<a*16+((c.toNat:Int)-48):=by omega
     have HDE:=Lib.hid hdec
     clear hv hov hdec hacc ha
     go_wp2
     go_ret2
     exact ⟨.inr ⟨HDE.out,_,_,.inl rfl,rfl⟩,HXB.out⟩
    ·rw [if_neg hov] at hdec
     have iov:a*16+((c.toNat:Int)-48)≤65535:=by omega
     have HDE:=Lib.hid (show a*16+((c.toNat:Int)-48)=((acc*16+(c.toNat-48):Nat):Int)∧acc*16+(c.toNat-48)≤65535∧_ from ⟨by omega,by omega,hdec⟩)
     clear hv hov hdec hacc ha
     go_wp2
     refine ⟨⟨k+1,acc*16+(c.toNat-48),a*16+((c.toNat:Int)-48),rfl,(by first | rfl | (congr 1;omega)),(by first | rfl | (congr 1;omega)),by omega,HDE⟩,by simp [intOf];omega⟩
   ·have hlo:=low_hex ⟨c.toNat,hc256⟩ hdig
    simp only at hlo
    have HLO:=Lib.hid (fun W=>low_at c W)
    obtain ⟨x,hx⟩:∃ x,c.toNat ||| 32=x:=⟨_,rfl⟩
    rw [hx] at hlo HLO
    obtain ⟨l1,l2,l3,l4⟩:=hlo
    clear hx
    by_cases hhex:(97≤c.toNat∧c.toNat≤102)∨(65≤c.toNat∧c.toNat≤70)
    ·have hx:97≤x∧x≤102∧hxv c=some (x-87):=by
      rcases hhex with h | h
      ·have:=l1 h
       refine ⟨by omega,by omega,?_⟩
       unfold hxv
       rw [if_neg hdig,if_pos h]
       congr 1;omega
      ·have:=l2 h
       refine ⟨by omega,by omega,?_⟩
       unfold hxv
       rw [if_neg hdig,if_neg (by omega),if_pos h]
       congr 1;omega
     obtain ⟨x1,x2,hv⟩:=hx
     rw [hv] at hdec
     simp only at hdec
     have h95:((c.toNat:Int)==95)=false:=by rw [beq_eq_false_iff_ne];omega
     have hdg:((c.toNat:Int)<48∨57<(c.toNat:Int)):=by omega
     clear l1 l2 l3 hdig hhex hv
     by_cases hov:65535<acc*16+(x-87)
     ·rw [if_pos hov] at hdec
      have iov:65535<a*16+((x:Int)-97+10):=by omega
      have HDE:=Lib.hid hdec
      clear hov hdec hacc ha
      rcases hdg with hdg | hdg
      all_goals
       go_wp2_with (go_at_call 226;refine (HLO.out _).mono ?_;rintro _ _ ⟨rfl,rfl⟩)
       go_ret2
       exact ⟨.inr ⟨HDE.out,_,_,.inl rfl,rfl⟩,HXB.out⟩
     ·rw [if_neg hov] at hdec
      have iov:a*16+((x:Int)-97+10)≤65535:=by omega
      have HDE:=Lib.hid (show a*16+((x:Int)-97+10)=((acc*16+(x-87):Nat):Int)∧acc*16+(x-87)≤65535∧_ from ⟨by omega,by omega,hdec⟩)
      clear hov hdec hacc ha
      rcases hdg with hdg | hdg
      all_goals
       go_wp2_with (go_at_call 226;refine (HLO.out _).mono ?_;rintro _ _ ⟨rfl,rfl⟩)
       refine ⟨⟨k+1,acc*16+(x-87),a*16+((x:Int)-97+10),rfl,(by first | rfl | (congr 1;omega)),(by first | rfl | (congr 1;omega)),by omega,HDE⟩,by simp [intOf];omega⟩
    ·have hv:hxv c=none:=by
      unfold hxv
      rw [if_neg hdig,if_neg (by omega),if_neg (by omega)]
     rw [hv] at hdec
     simp only at hdec
     have HDE:=Lib.hid hdec
     have hxx:=l3 (by omega) (by omega)
     clear l1 l2 l3 hhex hv hdec hacc ha
     by_cases h95:c.toNat=95
     ·have HL95:=Lib.hid (low95)
      rw [h95] at hc
      clear hdig hxx l4 hc256 HLO h95
      go_wp2_with (go_at_call 226;refine (HL95.out _).mono ?_;rintro _ _ ⟨rfl,rfl⟩)
      go_ret2
      exact ⟨.inr ⟨HDE.out,_,_,.inr rfl,rfl⟩,HXB.out⟩
     rcases (show (c.toNat≠95∧c.toNat<48)∨(c.toNat≠95∧57<c.toNat) by omega) with ⟨h,h'⟩ | ⟨h,h'⟩
     all_goals
      clear hdig
      rcases hxx with hxx | hxx | hxx
      all_goals
       go_wp2_with (go_at_call 226;refine (HLO.out _).mono ?_;rintro _ _ ⟨rfl,rfl⟩)
       go_ret2
       exact ⟨.inr ⟨HDE.out,_,_,.inr rfl,rfl⟩,HXB.out⟩
  ·have hkk:k=t.size:=by omega
   subst hkk
   rw [List.drop_eq_nil_of_le (by rw [HLN.out];exact Nat.le_refl _)] at hdec
   have HDE:=Lib.hid (show pu16 0 bs=some acc from hdec)
   subst ha
   clear hdec hacc a0 a1
   go_wp2
   go_ret2
   exact ⟨.inl ⟨acc,HDE.out,rfl⟩,HXB.out⟩
end Go.Proofs.YtnjmndofcpnmeaaGreatDoor
