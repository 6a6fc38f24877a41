/- Pq31. -/
import Derived.Test.YtnjmndofcpnmeaaGreatDoorPq3
import Derived.Test.YtnjmndofcpnmeaaGreatDoorPq0
import Derived.Deep.Cut
namespace Go.Proofs.YtnjmndofcpnmeaaGreatDoor
open Go Go.RowKit
set_option linter.unusedVariables false
theorem dgsX_stop {base:Nat}{l:List UInt8}{c:UInt8}{r:List UInt8}{v:Nat}(hl:l=c::r)(h:¬ (v<65536∧dgv c<base)):dgs base l v=(v,l):=by rw [hl,dgs,if_neg h]
theorem dgsX_go {base:Nat}{l:List UInt8}{c:UInt8}{r:List UInt8}{v z:Nat}(hl:l=c::r)(h:v<65536∧dgv c<base)(hz:base*v+dgv c=z):dgs base l v=dgs base r z:=by rw [hl,dgs,if_pos h,hz]
theorem dgv_dig {c:UInt8}(h:48≤c.toNat∧c.toNat≤57):dgv c=c.toNat-48:=by unfold dgv;rw [if_pos h]
theorem dgv_let {c:UInt8}(h:97≤c.toNat∧c.toNat≤102):dgv c=c.toNat-87:=by unfold dgv;rw [if_neg (by omega),if_pos h]
theorem dgv_no {c:UInt8}(h1:¬ (48≤c.toNat∧c.toNat≤57))(h2:¬ (97≤c.toNat∧c.toNat≤102)):dgv c=99:=by unfold dgv;rw [if_neg h1,if_neg h2]
theorem drop_byteA (s:ByteArray)(k:Nat)(h:k<s.size):s.data.toList.drop k=s[k]::s.data.toList.drop (k+1):=by
 rw [List.drop_eq_getElem_cons (by rw [Array.length_toList];exact h),Array.getElem_toList];rfl
theorem idx_run (s:ByteArray)(k:Nat)(h:k<s.size)(x:Int)(hx:(s[k].toNat:Int)=x)(W:World):(Instr.index 9 (.string s) (.int .i64 (k:Int))).run Tryz.prog W=.ok (.int .u8 x) W:=by
 rw [run_index_string W 9 _ .i64 _ Tryz.underlying9,dif_pos ⟨by omega,by omega⟩]
 rw [← hx]
 rfl
theorem size_drop (s:ByteArray)(k:Nat)(h:k≤s.size):((s.size:Int)-((s.data.toList.drop k).length:Nat))=(k:Int):=by
 have:(s.data.toList.drop k).length=s.size-k:=by rw [List.length_drop,Array.length_toList];rfl
 omega
set_option maxRecDepth 100000 in
set_option maxHeartbeats 2000000 in
theorem RAdigits10_at (s:ByteArray) (hs:s.size≤3000) (i:Nat) (hi:i≤s.size) (w:World):
  Calls Tryz.prog 142 #[.string s,.int .i64 (i:Int),.int .i64 10] w fun e w'=>e=.returned (.tuple #[.int .i64 ((dgs 10 (s.data.toList.drop i) 0).1:Nat),.int .i64 ((s.size:Int)-((dgs 10 (s.data.toList.drop i) 0).2.length:Nat))])∧w=w':=by
 go_enter Tryz.func142,Tryz.ntmps142
 go_wp2_with fail
 go_loopw [1,8] (fun vi vv wr=>∃ (k v:Nat),vi=.int .i64 (k:Int)∧vv=.int .i64 (v:Int)∧Hid (i≤k)∧k≤s.size∧Hid (v≤1100000)∧Hid (dgs 10 (s.data.toList.drop i) 0=dgs 10 (s.data.toList.drop k) v)∧Hid (w=wr)) (fun vi _ _=>s.size-(intOf vi).toNat)
 case atStart=>exact ⟨i,0,rfl,rfl,Lib.hid (Nat.le_refl _),hi,Lib.hid (by omega),Lib.hid rfl,Lib.hid rfl⟩
 case round=>
  obtain ⟨k,v,rfl,rfl,HIK,hk,HVL,HD,HWR⟩:=hrel
  obtain rfl:=HWR.out
  clear HWR
  by_cases hlt:k<s.size
  ·have hdr:=drop_byteA s k hlt
   have hx:=s[k].toNat_lt
   by_cases hv:v<65536
   ·have hvi:decide ((v:Int)<65536)=true:=by rw [decide_eq_true_eq];omega
    by_cases hd:48≤s[k].toNat∧s[k].toNat≤57
    ·have hgv:=dgv_dig hd
     obtain ⟨i1,i2⟩:=hd
     obtain ⟨dd,hdd⟩:∃ dd,s[k].toNat=48+dd:=⟨s[k].toNat-48,by omega⟩
     have hix:=idx_run s k hlt (48+(dd:Int)) (by omega)
     have j2:(48:Int)+(dd:Int)≤57:=by omega
     have hm:(dd:Int) % 256=(dd:Int):=by omega
     have hm2:(dd:Int)<10:=by omega
     obtain ⟨z,hz⟩:∃ z,10*v+dgv s[k]=z:=⟨_,rfl⟩
     have HD2:=Lib.hid (HD.out.trans (dgsX_go hdr ⟨hv,by rw [hgv];omega⟩ hz))
     have hzi:10*(v:Int)+((dd:Int))=(z:Int):=by rw [hgv] at hz;omega
     have HZL:=Lib.hid (show z≤1100000 by rw [hgv] at hz;omega)
     have HIK2:=Lib.hid (show i≤k+1 by have:=HIK.out;omega)
     have HVV:=Lib.hid hv
     clear hz hdr hv hgv hx hdd
     try clear i1 i2
     go_upto_region 4 with fail
     clear hvi
     go_wp2_with fail
     go_roundw
     case rel=>exact ⟨k+1,z,by go_num,by rw [← hzi];have hv9:=HVV.out;congr 1;unfold wrap64;omega,HIK2,by omega,HZL,HD2,(by first | exact Lib.hid rfl | exact Lib.hid trivial)⟩
     case measure=>simp [intOf];omega
    ·by_cases hd2:97≤s[k].toNat∧s[k].toNat≤102
     ·have hgv:=dgv_let hd2
      obtain ⟨i1,i2⟩:=hd2
      obtain ⟨dd,hdd⟩:∃ dd,s[k].toNat=97+dd:=⟨s[k].toNat-97,by omega⟩
      have hix:=idx_run s k hlt (97+(dd:Int)) (by omega)
      have j2:(97:Int)+(dd:Int)≤102:=by omega
      have j3:(57:Int)<97+(dd:Int):=by omega
      have hm:(dd:Int) % 256=(dd:Int):=by omega
      clear hd
      have hm2:10≤(dd:Int)+10:=by omega
      have HF:=Lib.hid (HD.out.trans (dgsX_stop hdr (by rw [hgv];omega)))
      try clear hdr
      try clear hgv
      try clear hv
      try clear hx
      try clear hdd i1 i2
      go_upto_region 4 with fail
      clear hvi
      go_wp2_with fail
      go_ret2
      rw [HF.out]
      refine ⟨?_,rfl⟩
      dsimp only
      rw [size_drop s k (by omega)]
      rfl
     ·have hgv:=dgv_no hd hd2
      have HFF:=Lib.hid (dgsX_stop hdr (show ¬ (v<65536∧dgv s[k]<10) by rw [hgv];omega))
      obtain ⟨x,hxx⟩:∃ x:Nat,s[k].toNat=x:=⟨_,rfl⟩
      have hix:=idx_run s k hlt (x:Int) (by omega)
      have h3:(x:Int)<48∨(57<(x:Int)∧(x:Int)<97)∨102<(x:Int):=by omega
      clear hd hd2 hgv hdr hxx
      rcases h3 with h3 | ⟨h3,h4⟩ | h3
      all_goals
       have HF:=Lib.hid (HD.out.trans (HFF.out))
       try clear hdr
       try clear hgv
       try clear hv
       try clear hx
       try clear hdd i1 i2
       go_upto_region 4 with fail
       clear hvi
       go_wp2_with fail
       go_ret2
       rw [HF.out]
       refine ⟨?_,rfl⟩
       dsimp only
       rw [size_drop s k (by omega)]
       rfl
   ·have hvi:decide ((v:Int)<65536)=false:=by rw [decide_eq_false_iff_not];omega
    have HF:=Lib.hid (HD.out.trans (dgsX_stop hdr (by omega)))
    try clear hdr
    try clear hgv
    try clear hv
    try clear hx
    try clear hdd i1 i2
    go_wp2_with fail
    go_ret2
    rw [HF.out]
    refine ⟨?_,rfl⟩
    dsimp only
    rw [size_drop s k (by omega)]
    rfl
  ·obtain rfl:k=s.size:=by omega
   have HFF:=Lib.hid (show dgs 10 (s.data.toList.drop s.size) v=(v,s.data.toList.drop s.size) by rw [List.drop_eq_nil_of_le (by rw [Array.length_toList];exact Nat.le_refl _)];rfl)
   clear hlt
   have HF:=Lib.hid (HD.out.trans HFF.out)
   go_wp2_with fail
   go_ret2
   rw [HF.out]
   refine ⟨?_,rfl⟩
   dsimp only
   rw [size_drop s s.size (by omega)]
   rfl
set_option maxRecDepth 100000 in
set_option maxHeartbeats 2000000 in
theorem RAdigits16_at (s:ByteArray) (hs:s.size≤3000) (i:Nat) (hi:i≤s.size) (w:World):
  Calls Tryz.prog 142 #[.string s,.int .i64 (i:Int),.int .i64 16] w fun e w'=>e=.returned (.tuple #[.int .i64 ((dgs 16 (s.data.toList.drop i) 0).1:Nat),.int .i64 ((s.size:Int)-((dgs 16 (s.data.toList.drop i) 0).2.length:Nat))])∧w=w':=by
 go_enter Tryz.func142,Tryz.ntmps142
 go_wp2_with fail
 go_loopw [1,8] (fun vi vv wr=>∃ (k v:Nat),vi=.int .i64 (k:Int)∧vv=.int .i64 (v:Int)∧Hid (i≤k)∧k≤s.size∧Hid (v≤1100000)∧Hid (dgs 16 (s.data.toList.drop i) 0=dgs 16 (s.data.toList.drop k) v)∧Hid (w=wr)) (fun vi _ _=>s.size-(intOf vi).toNat)
 case atStart=>exact ⟨i,0,rfl,rfl,Lib.hid (Nat.le_refl _),hi,Lib.hid (by omega),Lib.hid rfl,Lib.hid rfl⟩
 case round=>
  obtain ⟨k,v,rfl,rfl,HIK,hk,HVL,HD,HWR⟩:=hrel
  obtain rfl:=HWR.out
  clear HWR
  by_cases hlt:k<s.size
  ·have hdr:=drop_byteA s k hlt
   have hx:=s[k].toNat_lt
   by_cases hv:v<65536
   ·have hvi:decide ((v:Int)<65536)=true:=by rw [decide_eq_true_eq];omega
    by_cases hd:48≤s[k].toNat∧s[k].toNat≤57
    ·have hgv:=dgv_dig hd
     obtain ⟨i1,i2⟩:=hd
     obtain ⟨dd,hdd⟩:∃ dd,s[k].toNat=48+dd:=⟨s[k].toNat-48,by omega⟩
     have hix:=idx_run s k hlt (48+(dd:Int)) (by omega)
     have j2:(48:Int)+(dd:Int)≤57:=by omega
     have hm:(dd:Int) % 256=(dd:Int):=by omega
     have hm2:(dd:Int)<16:=by omega
     obtain ⟨z,hz⟩:∃ z,16*v+dgv s[k]=z:=⟨_,rfl⟩
     have HD2:=Lib.hid (HD.out.trans (dgsX_go hdr ⟨hv,by rw [hgv];omega⟩ hz))
     have hzi:16*(v:Int)+((dd:Int))=(z:Int):=by rw [hgv] at hz;omega
     have HZL:=Lib.hid (show z≤1100000 by rw [hgv] at hz;omega)
     have HIK2:=Lib.hid (show i≤k+1 by have:=HIK.out;omega)
     have HVV:=Lib.hid hv
     clear hz hdr hv hgv hx hdd
     try clear i1 i2
     go_upto_region 4 with fail
     clear hvi
     go_wp2_with fail
     go_roundw
     case rel=>exact ⟨k+1,z,by go_num,by rw [← hzi];have hv9:=HVV.out;congr 1;unfold wrap64;omega,HIK2,by omega,HZL,HD2,(by first | exact Lib.hid rfl | exact Lib.hid trivial)⟩
     case measure=>simp [intOf];omega
    ·by_cases hd2:97≤s[k].toNat∧s[k].toNat≤102
     ·have hgv:=dgv_let hd2
      obtain ⟨i1,i2⟩:=hd2
      obtain ⟨dd,hdd⟩:∃ dd,s[k].toNat=97+dd:=⟨s[k].toNat-97,by omega⟩
      have hix:=idx_run s k hlt (97+(dd:Int)) (by omega)
      have j2:(97:Int)+(dd:Int)≤102:=by omega
      have j3:(57:Int)<97+(dd:Int):=by omega
      have hm:(dd:Int) % 256=(dd:Int):=by omega
      clear hd
      have hm2:(dd:Int)+10<16:=by omega
      obtain ⟨z,hz⟩:∃ z,16*v+dgv s[k]=z:=⟨_,rfl⟩
      have HD2:=Lib.hid (HD.out.trans (dgsX_go hdr ⟨hv,by rw [hgv];omega⟩ hz))
      have hzi:16*(v:Int)+((dd:Int)+10)=(z:Int):=by rw [hgv] at hz;omega
      have HZL:=Lib.hid (show z≤1100000 by rw [hgv] at hz;omega)
      have HIK2:=Lib.hid (show i≤k+1 by have:=HIK.out;omega)
      have HVV:=Lib.hid hv
      clear hz hdr hv hgv hx hdd
      try clear i1 i2
      go_upto_region 4 with fail
      clear hvi
      go_wp2_with fail
      go_roundw
      case rel=>exact ⟨k+1,z,by go_num,by rw [← hzi];have hv9:=HVV.out;congr 1;unfold wrap64;omega,HIK2,by omega,HZL,HD2,(by first | exact Lib.hid rfl | exact Lib.hid trivial)⟩
      case measure=>simp [intOf];omega
     ·have hgv:=dgv_no hd hd2
      have HFF:=Lib.hid (dgsX_stop hdr (show ¬ (v<65536∧dgv s[k]<16) by rw [hgv];omega))
      obtain ⟨x,hxx⟩:∃ x:Nat,s[k].toNat=x:=⟨_,rfl⟩
      have hix:=idx_run s k hlt (x:Int) (by omega)
      have h3:(x:Int)<48∨(57<(x:Int)∧(x:Int)<97)∨102<(x:Int):=by omega
      clear hd hd2 hgv hdr hxx
      rcases h3 with h3 | ⟨h3,h4⟩ | h3
      all_goals
       have HF:=Lib.hid (HD.out.trans (HFF.out))
       try clear hdr
       try clear hgv
       try clear hv
       try clear hx
       try clear hdd i1 i2
       go_upto_region 4 with fail
       clear hvi
       go_wp2_with fail
       go_ret2
       rw [HF.out]
       refine ⟨?_,rfl⟩
       dsimp only
       rw [size_drop s k (by omega)]
       rfl
   ·have hvi:decide ((v:Int)<65536)=false:=by rw [decide_eq_false_iff_not];omega
    have HF:=Lib.hid (HD.out.trans (dgsX_stop hdr (by omega)))
    try clear hdr
    try clear hgv
    try clear hv
    try clear hx
    try clear hdd i1 i2
    go_wp2_with fail
    go_ret2
    rw [HF.out]
    refine ⟨?_,rfl⟩
    dsimp only
    rw [size_drop s k (by omega)]
    rfl
  ·obtain rfl:k=s.size:=by omega
   have HFF:=Lib.hid (show dgs 16 (s.data.toList.drop s.size) v=(v,s.data.toList.drop s.size) by rw [List.drop_eq_nil_of_le (by rw [Array.length_toList];exact Nat.le_refl _)];rfl)
   clear hlt
   have HF:=Lib.hid (HD.out.trans HFF.out)
   go_wp2_with fail
   go_ret2
   rw [HF.out]
   refine ⟨?_,rfl⟩
   dsimp only
   rw [size_drop s s.size (by omega)]
   rfl
end Go.Proofs.YtnjmndofcpnmeaaGreatDoor
