/- Pc39. -/
import Derived.Test.YtnjmndofcpnmeaaGreatDoorPc21
import Derived.Test.YtnjmndofcpnmeaaGreatDoorPc19
import Derived.Test.YtnjmndofcpnmeaaGreatDoorPc2
import Derived.Deep.Quiet
import Derived.OrdersIn
import Derived.Test.YtnjmndofcpnmeaaGreatDoorPc3
import Derived.TacticsIn
import Derived.Test.YtnjmndofcpnmeaaGreatDoorPc20
namespace Go.Proofs.YtnjmndofcpnmeaaGreatDoor
open Go Go.RowKit Go.Maps
set_option linter.unusedVariables false
structure CD (D:DataW Unit) (l:List Fct):Prop where
 map:IsMap D
 ints:∀ kl,Maps.has D kl=true→∃ z,kl=.int .i64 z
 has:∀ z,Maps.has D (.int .i64 z)=true ↔ 0<codF l z
 at_:∀ z,D.atKey (.int .i64 z) (.lit (.int .i64 0))=.lit (.int .i64 (codF l z:Int))
theorem litI_ne {s t:Int}(h:s≠t):(Lit.int .i64 s)≠.int .i64 t:=fun e=>h (by injection e)
theorem codF_snoc (l:List Fct)(f:Fct)(c:Int):codF (l++[f]) c=codF l c+if f.co=c then 1 else 0:=by
 unfold codF
 rw [List.filter_append,List.length_append,List.filter_cons]
 by_cases h:f.co=c<;>simp [h]
theorem codF_le (l:List Fct)(c:Int):codF l c≤l.length:=List.length_filter_le _ _
theorem CD.start:CD (.map []) []:=⟨isMap_empty,fun kl h=>(by simp [Maps.has] at h),fun s=>by simp [Maps.has,codF],fun s=>by simp [codF,DataW.atKey]⟩
theorem CD.add {D:DataW Unit}{l:List Fct}(h:CD D l)(f:Fct):CD (D.put (.int .i64 f.co) (.lit (.int .i64 ((codF l f.co+1:Nat):Int)))) (l++[f]):=by
 refine ⟨h.map.put _ _,fun kl hk=>?_,fun t=>?_,fun t=>?_⟩
 ·by_cases e:kl=.int .i64 f.co
  ·exact ⟨_,e⟩
  ·rw [has_put_other e] at hk
   exact h.ints kl hk
 ·rw [codF_snoc]
  by_cases e:t=f.co
  ·subst e
   rw [has_put_same h.map (by trivial),if_pos rfl]
   simp
  ·rw [has_put_other (litI_ne e),if_neg (fun e'=>e e'.symm),Nat.add_zero]
   exact h.has t
 ·rw [codF_snoc]
  by_cases e:t=f.co
  ·subst e
   rw [atKey_put_same h.map (by trivial),if_pos rfl]
  ·rw [atKey_put_other (litI_ne e),if_neg (fun e'=>e e'.symm),Nat.add_zero]
   exact h.at_ t
theorem lawInt:Keyed Tryz.prog 3:=int_keyed Tryz.underlying3
def CMap (w:World)(m n:Nat)(D:DataW Unit):Prop:=w.ownsMap Tryz.prog 3 (plainElem Tryz.prog 3) m n D
theorem CMap.ext {w w':World}{m n:Nat}{D:DataW Unit}(h:CMap w m n D)(hx:Ext w w'):CMap w' m n D:=World.ownsMap.kept h (hx.but none) (by simp)
set_option maxRecDepth 100000 in
set_option maxHeartbeats 800000 in
theorem Codes_at (A:Option Addr) (c:Nat) (xs:List FV) (w:World) (hF:FS w (.slice A xs.length c) xs) (hn:xs.length≤1000) (hw:∀ f∈xs,i64B f.co):
  Calls Tryz.prog 22 #[.slice A xs.length c] w fun e w'=>(∃ D:DataW Unit,e=.returned (.map (some w.heap.size))∧CMap w' w.heap.size xs.length D∧CD D (xs.map FV.fct))∧Ext w w':=by
 have hmm:=@run_makeMap Tryz.prog
 have HF:=Lib.hid hF;have HW:=Lib.hid hw
 obtain ⟨_,c',he,hc1,hc2⟩:=hF.shape
 injection he with e1 _ e3
 subst e1;subst e3
 unfold maxLen at hc2
 obtain ⟨n,hn'⟩:∃ n,xs.length=n:=⟨_,rfl⟩
 have HN:=Lib.hid hn'
 have HM0:=Lib.hid (show CMap (w.alloc (.map #[] 0)) w.heap.size 0 (.map []) from World.ownsMap_made _ _ _ _)
 have HX0:=Lib.hid ((Ext.refl w).alloc (.map #[] 0))
 clear hF hw
 rw [hn'] at hc1 hn ⊢
 clear hn'
 go_enter Tryz.func22,Tryz.ntmps22
 go_wp2_with fail
 go_loopw [5,9] (fun _ i wr=>∃ (k:Nat) (D:DataW Unit),i=.int .i64 (k:Int)∧k≤n∧Hid (CMap wr w.heap.size k D)∧Hid (CD D ((xs.take k).map FV.fct))∧Hid (Ext w wr)) (fun _ i _=>n-(intOf i).toNat)
 case atStart=>exact ⟨0,.map [],rfl,by omega,HM0,Lib.hid CD.start,HX0⟩
 case round=>
  obtain ⟨k,D,rfl,hk,HM,HD,HX⟩:=hrel
  by_cases hlt:k<n
  ·have hlx:k<xs.length:=by rw [HN.out];exact hlt
   have hF:=HF.out.ext HX.out
   obtain ⟨hin,ad,rfl,u0,u1,u2,u3,u4,u5,u6,u7,u8,u9,u10,u11⟩:=hF.at_ k hlx
   have hco:=HW.out xs[k] (List.getElem_mem hlx)
   have HD2:=Lib.hid (show CD (D.put (.int .i64 xs[k].co) (.lit (.int .i64 ((codF ((xs.take k).map FV.fct) xs[k].co+1:Nat):Int)))) ((xs.take (k+1)).map FV.fct) by
    rw [List.take_succ_eq_append_getElem hlx,List.map_append,List.map_cons,List.map_nil]
    exact HD.out.add xs[k].fct)
   have HAT:=Lib.hid (HD.out.at_ xs[k].co)
   have hcl:=codF_le ((xs.take k).map FV.fct) xs[k].co
   rw [List.length_map,List.length_take] at hcl
   generalize codF ((xs.take k).map FV.fct) xs[k].co=cn at *
   generalize xs[k]=f at *
   have hcn:(cn:Int)≤1000:=by omega
   have hbx:=FBx.new wr f
   have hxa:=(Ext.refl wr).alloc (.cells #[.int .i64 f.t,.int .i64 f.mi,.int .i64 f.kd,.int .i64 f.fk,.slice f.FA f.fb.length f.fc,.slice f.CA f.cp.length f.cc,.string f.cr,.slice f.SA f.sp.length f.sc,.string f.sr,.int .i64 f.co,.int .i64 f.pr,.int .u32 (f.fl.toNat:Int)] 41)
   obtain ⟨Wa,ea⟩:∃ Wa,wr.alloc (.cells #[.int .i64 f.t,.int .i64 f.mi,.int .i64 f.kd,.int .i64 f.fk,.slice f.FA f.fb.length f.fc,.slice f.CA f.cp.length f.cc,.string f.cr,.slice f.SA f.sp.length f.sc,.string f.sr,.int .i64 f.co,.int .i64 f.pr,.int .u32 (f.fl.toNat:Int)] 41)=Wa:=⟨_,rfl⟩
   rw [ea] at hbx hxa
   obtain ⟨v0,v1,v2,v3,v4,v5,v6,v7,v8,v9,v10,v11⟩:=fv_cells hbx
   have HXA:=Lib.hid (HX.out.trans hxa)
   have hown:CMap Wa w.heap.size k D:=HM.out.ext hxa
   unfold CMap at hown
   have hkey:=keyOf_int_mk (P:=Tryz.prog) Tryz.underlying3 (WalkArith.wf_i64 hco)
   clear hbx hxa hin hF hlx hcl
   go_wp2_with (first
    | (at_lookup;refine wpList_lookup_own_int _ rfl _ _ 60 rfl 3 3 .i64 lawInt Tryz.underlying60 Tryz.underlying3 (zeroInt _) w.heap.size _ D rfl hown _ _ rfl hkey ?_;intro cv hat hwc;obtain rfl:cv=(cn:Int):=(by rw [HAT.out] at hat;injection hat with hat;injection hat with _ hat;exact hat.symm))
    | (at_mapUpdate;refine wpList_mapUpdate_own _ rfl _ _ _ 60 rfl 3 3 lawInt Tryz.underlying60 _ w.heap.size _ D rfl hown (by unfold maxLen;omega) _ _ _ rfl rfl hkey _ [] (plainElem_int Tryz.underlying3 (WalkArith.wf_i64 (by omega))) ?_;intro w3 hown1 hgrow1)
    | fail)
   have HM3:=Lib.hid (show CMap w3 w.heap.size (k+1) (D.put (.int .i64 f.co) (.lit (.int .i64 ((cn+1:Nat):Int)))) from hown1)
   have HX3:=Lib.hid (show Ext w w3 from Below.grown HXA.out hgrow1 HXA.out.size (fun j hj=>by cases hj;exact Nat.le_refl _))
   clear hown hown1 hgrow1 u0 u1 u2 u3 u4 u5 u6 u7 u8 u9 u10 u11 v0 v1 v2 v3 v4 v5 v6 v7 v8 v9 v10 v11
   go_roundw
   case rel=>exact ⟨k+1,_,by go_num,by omega,HM3,HD2,HX3⟩
   case measure=>simp [intOf];omega
  ·obtain rfl:k=n:=by omega
   have hd:=HD.out
   rw [List.take_of_length_le (by rw [HN.out];exact Nat.le_refl _)] at hd
   have HDD:=Lib.hid hd
   clear hd
   go_wp2_with fail
   go_ret
   exact ⟨⟨D,rfl,HM.out,HDD.out⟩,HX.out⟩
end Go.Proofs.YtnjmndofcpnmeaaGreatDoor
namespace Go.Proofs.YtnjmndofcpnmeaaGreatDoor
open Go Go.RowKit
set_option linter.unusedVariables false
section
variable {P:Program} {ops:Array Oper} {md:Region.Mode} {lr:Nat}
theorem defer_not {ρ:Operand→Value}{o:Oper}{w:World}(h:∃ c,o.op=.defer c):(∃ d w',(execOp ρ o).run P w=.ok (.defer d) w')∨∃ x w',(execOp ρ o).run P w=.halt x w':=by
 obtain ⟨c,ho⟩:=h
 unfold execOp
 rw [ho]
 simp only [Sem.run_bind]
 cases (resolve ρ c o.type).run P w with
 | ok d w'=>exact .inl ⟨d,w',by simp [Result.andThen]⟩
 | halt x w'=>exact .inr ⟨x,w',by simp [Result.andThen]⟩
theorem rows_round {row:String}{args:Array Value}{w:World}{R:Value→World→Prop}(h:Rows P row args w R):RowsIn (Fence.wide.inRound lr) 0 P row args w R:=by
 intro c cs _
 obtain ⟨v,w',r,s⟩:=h c cs
 exact ⟨v,w',r,stepsIn_wide.2 s⟩
theorem wpIn_of_y {w0:World} {o:Oper} {a:Act} {w:World} {V K:Value→World→Prop} {K':Act→World→Prop} {Q':Exit→Act→World→Prop} (h:Oper.yieldsK P o a w V K) (hK:∀ v w',Ext w w'→K v w'→K' (a.put o.dst v) w'):
  o.wpIn (Fence.wide.inRound lr) 0 P a w K' Q':=by
 refine ⟨fun _ _=>trivial,?_⟩
 by_cases hd:∃ c,o.op=.defer c
 ·unfold Oper.yieldsK at h
  rcases defer_not (P:=P) (ρ:=a.eval) (w:=w) hd with ⟨d,w',e⟩ | ⟨x,w',e⟩
  ·rw [e] at h;exact h.elim
  ·rw [e] at h;exact h.elim
 ·rw [Oper.semAt_eq _ _ _ (fun c e=>hd ⟨c,e⟩)]
  unfold Oper.yieldsK at h
  generalize (execOp a.eval o).run P w=r at *
  cases r with
  | ok n w'=>
   cases n<;>simp only [yUpon] at h<;>simp only [Oper.uponIn]
   case value v=>exact hK _ _ h.1 h.2
   case skip=>exact hK _ _ h.1 h.2
   case enter f args=>
    refine ⟨fun hh=>by simp [Fence.inRound,Fence.wide] at hh,CallsIn.inRound lr (callsIn_wide.2 (h.1.mono fun e w'' ⟨v,he,hx,hv⟩=>?_))⟩
    subst he
    exact hK _ _ hx (h.2 v w'' hx hv)
   case row row args=>
    obtain ⟨h1,h2⟩:=h
    refine ⟨fun hh=>by simp [Fence.inRound,Fence.wide] at hh,rows_round (h1.mono fun v w'' ⟨hx,hv⟩=>hK _ _ hx (h2 v w'' hx hv))⟩
  | halt x w'=>simp only [yUpon] at h
theorem wpAnyIn_of_E {w0:World} {Vs:Nat→Value→World→Prop} {Q:Act→World→Prop} {Q':Exit→Act→World→Prop} (hQ:∀ a w,Q a w→Q' .normal a w):∀ (fuel:Nat) (listed:Array Bool) (a:Act) (Ws:Marks') (w:World),above w0 Ws w →
  wpAnyE P md ops Vs w0 Q fuel listed a Ws→wpAnyIn (Fence.wide.inRound lr) 0 P md ops Q' fuel listed a w
 | 0,_,_,_,w,hw,h=>⟨(h ⟨w,hw⟩).1,hQ _ _ ((h ⟨w,hw⟩).2 w hw)⟩
 | fuel+1,listed,a,Ws,w,hw,h=>by
  obtain ⟨h1,h2⟩:=h ⟨w,hw⟩
  refine ⟨fun h0=>hQ _ _ (h1 h0 w hw),fun i hi=>?_⟩
  have hh:=h2 i hi
  unfold eOp at hh
  unfold wpOpIn
  split
  ·rename_i ho
   simp only [ho] at hh
   exact wpAnyIn_of_E hQ fuel _ _ _ _ hw hh
  ·rename_i o ho
   simp only [ho] at hh
   split
   ·rename_i hwd
    simp only [hwd,if_true] at hh
    exact wpIn_of_y (w0:=w0) (hh w hw.okw) (fun v w' hx hk=>wpAnyIn_of_E hQ fuel _ _ _ _ (hw.step hx) hk)
   ·rename_i hwd
    simp only [hwd] at hh
    exact ⟨fun _ _=>trivial,wpAnyIn_of_E hQ fuel _ _ _ _ hw hh⟩
theorem wp_round_ext (Vs:Nat→Value→World→Prop) {id:Nat} {Q:Exit→Act→World→Prop} {a:Act} {w:World} {l:List Oper} (hm:P.follows .mixedOrders=true) (hB:Region.lexB .any l.toArray=true)
  (h:wpE P l.toArray Vs w.drew (fun a' w'=>Q .normal a' w') 0 l a []):(Code.region id l.toArray true).wpIn (Fence.wide.inRound lr) 0 P Q a w:=by
 simp only [Region.lexB,Bool.and_eq_true] at hB
 refine wpIn_region_any hm (wpAnyIn_of_E (w0:=w.drew) (Ws:=[]) (Q:=fun a' w'=>Q .normal a' w') (Vs:=Vs) (fun _ _ h=>h) _ _ _ _ ⟨Ext.refl _,fun _ _ h=>by cases h⟩ ?_)
 have:=wpAnyE_lex (Vs:=Vs) (md:=.any) hB.1 l 0 (Array.replicate l.length false) a [] (by simp) (by simpa using hB.2) h
 simpa using this
end
end Go.Proofs.YtnjmndofcpnmeaaGreatDoor
namespace Go.Proofs.YtnjmndofcpnmeaaGreatDoor
open Go Go.RowKit
set_option linter.unusedVariables false
section
variable {P:Program} {ops:Array Oper} {md:Region.Mode} {lr:Nat}
end
end Go.Proofs.YtnjmndofcpnmeaaGreatDoor
namespace Go.Proofs.YtnjmndofcpnmeaaGreatDoor
open Go Go.RowKit
set_option linter.unusedVariables false
def PLg (B:Nat)(l:List UInt8)(e:Ending)(w':World):Prop:=
 (∃ v fs,e=.returned (.tuple #[v,.int .i64 0,.int .i64 0])∧ROW EF 41 w' B v fs∧(∀ f∈fs,f.Sz)∧plogF (splb 10 [] l) []=(fs.map FV.fct,0,0)) ∨
 (∃ n:Nat,e=.returned (.tuple #[.slice none 0 0,.int .i64 (n:Int),.int .i64 6])∧plogF (splb 10 [] l) []=([],n,6))
structure PLi (w W:World) (pre:List (ByteArray × Bool)) (fs:List FV) (v:Value):Prop where
 ex:Ext w W
 r0:RW W w.heap.size 22 #[.slice none 0 0]
 r1:RW W (w.heap.size+1) 3 #[.int .i64 0]
 r2:RW W (w.heap.size+1+1) 25 #[.int .i64 0]
 r3:RW W (w.heap.size+1+1+1) 22 #[v]
 ow:ROW EF 41 W (w.heap.size+5) v fs
 ok:∀ f∈fs,f.fct.Ok∧f.Sz
 eq:dtL pre=fs.map fun f=>(f.fct.txt,true)
theorem PLi.ext {w W W':World}{pre:List (ByteArray × Bool)}{fs:List FV}{v:Value}(h:PLi w W pre fs v)(hx:Ext W W'):PLi w W' pre fs v:=
 ⟨h.ex.trans hx,h.r0.ext hx,h.r1.ext hx,h.r2.ext hx,h.r3.ext hx,h.ow.ext hx,h.ok,h.eq⟩
def PLI (w:World)(pre:List (ByteArray × Bool))(W:World):Prop:=∃ fs v,PLi w W pre fs v
theorem PLI.stab {B0:Nat}{w:World}(h:w.heap.size≤B0)(pre:List (ByteArray × Bool)):Stab B0 (PLI w pre):=fun W W' l hl hn hg ⟨fs,v,k⟩=>
 ⟨fs,v,Stab.ext w h W W' l hl hn hg k.ex,heap_nc hn hg k.r0,heap_nc hn hg k.r1,heap_nc hn hg k.r2,heap_nc hn hg k.r3,Stab.row _ _ _ _ EF_nc W W' l hl hn hg k.ow,k.ok,k.eq⟩
def PLX (l:List UInt8)(w:World)(c:Code)(W:World):Prop:=c=.ret∧Ext w W∧∃ m:Nat,RW W w.heap.size 22 #[.slice none 0 0]∧RW W (w.heap.size+1) 3 #[.int .i64 (m:Int)]∧RW W (w.heap.size+1+1) 25 #[.int .i64 6]∧plogF (splb 10 [] l) []=([],m,6)
theorem PLX.stab {B0:Nat}{w:World}(h:w.heap.size≤B0)(l:List UInt8)(c:Code):Stab B0 (PLX l w c):=fun W W' b hl hn hg ⟨h1,h2,m,h3,h4,h5,h6⟩=>
 ⟨h1,Stab.ext w h W W' b hl hn hg h2,m,heap_nc hn hg h3,heap_nc hn hg h4,heap_nc hn hg h5,h6⟩
theorem lnP_mem:∀ (ls:List (List UInt8)) (x:List UInt8 × Bool),x∈lnP ls→x.1∈ls
 | [],x,h=>by cases h
 | [y],x,h=>by
  unfold lnP at h
  split at h
  ·cases h
  ·rw [List.mem_singleton] at h;subst h;simp
 | y::z::r,x,h=>by
  unfold lnP at h
  rcases List.mem_cons.1 h with rfl | h
  ·simp
  ·exact List.mem_cons_of_mem _ (lnP_mem (z::r) x h)
theorem splbN_len (x:UInt8):∀ (l acc:List UInt8),(splb x acc l).length≤l.length+1
 | [],acc=>by simp [splb]
 | c::r,acc=>by
  rw [splb]
  split
  ·rw [List.length_cons,List.length_cons]
   have:=splbN_len x r []
   omega
  ·have:=splbN_len x r (acc++[c])
   rw [List.length_cons]
   omega
theorem lnP_len:∀ (ls:List (List UInt8)),(lnP ls).length≤ls.length
 | []=>Nat.le_refl _
 | [y]=>by unfold lnP;split<;>simp
 | y::z::r=>by
  unfold lnP
  have:=lnP_len (z::r)
  rw [List.length_cons,List.length_cons]
  exact Nat.succ_le_succ this
theorem pre_len {s:ByteArray}{pre:List (ByteArray × Bool)}{fs:List FV}{w W:World}{v:Value}(h:PLi w W pre fs v){rest:List (List UInt8 × Bool)}(he:lnF s.data.toList=dtL pre++rest):fs.length≤s.size+1:=by
 have h1:=lnP_len (splb 10 [] s.data.toList)
 have h2:=splbN_len 10 s.data.toList []
 have h3:(lnP (splb 10 [] s.data.toList)).length=(dtL pre++rest).length:=congrArg List.length he
 rw [List.length_append,h.eq,List.length_map] at h3
 rw [size_list] at h2
 omega
theorem start_pl (w:World):∃ W,(((w.alloc (.cells #[.slice none 0 0] 22)).alloc (.cells #[.int .i64 0] 3)).alloc (.cells #[.int .i64 0] 25)).alloc (.cells #[.slice none 0 0] 22)=W∧PLi w W [] [] (.slice none 0 0)∧W.heap.size=w.heap.size+4:=by
 refine ⟨_,rfl,?_,by simp⟩
 have a0:=heap_alloc_new w (.cells #[.slice none 0 0] 22)
 have x0:=(Ext.refl w).alloc (.cells #[.slice none 0 0] 22)
 obtain ⟨W0,e0⟩:∃ W0,w.alloc (.cells #[.slice none 0 0] 22)=W0:=⟨_,rfl⟩
 have z0:W0.heap.size=w.heap.size+1:=by rw [← e0];simp
 rw [e0] at a0 x0 ⊢
 have a1:=heap_alloc_new W0 (.cells #[.int .i64 0] 3)
 have x1:=(Ext.refl W0).alloc (.cells #[.int .i64 0] 3)
 obtain ⟨W1,e1⟩:∃ W1,W0.alloc (.cells #[.int .i64 0] 3)=W1:=⟨_,rfl⟩
 have z1:W1.heap.size=w.heap.size+1+1:=by rw [← e1];simp [z0]
 rw [e1] at a1 x1 ⊢
 rw [z0] at a1
 have a2:=heap_alloc_new W1 (.cells #[.int .i64 0] 25)
 have x2:=(Ext.refl W1).alloc (.cells #[.int .i64 0] 25)
 obtain ⟨W2,e2⟩:∃ W2,W1.alloc (.cells #[.int .i64 0] 25)=W2:=⟨_,rfl⟩
 have z2:W2.heap.size=w.heap.size+1+1+1:=by rw [← e2];simp [z1]
 rw [e2] at a2 x2 ⊢
 rw [z1] at a2
 have a3:=heap_alloc_new W2 (.cells #[.slice none 0 0] 22)
 have x3:=(Ext.refl W2).alloc (.cells #[.slice none 0 0] 22)
 rw [z2] at a3
 exact ⟨((x0.trans x1).trans x2).trans x3,x3.heap (x2.heap (x1.heap a0)),x3.heap (x2.heap a1),x3.heap a2,a3,ROW.nil _ _ _,fun f hf=>(by cases hf),rfl⟩
theorem pre_ok {s:ByteArray} {pre:List (ByteArray × Bool)} {x:ByteArray × Bool} {fs:List FV} {w W:World} {v:Value} (h:PLi w W pre fs v) {rest:List (List UInt8 × Bool)} (he:lnF s.data.toList=dtL pre++(x.1.data.toList,x.2)::rest)
  (hb:prsF x.1.data.toList=none∨x.2=false):plogF (splb 10 [] s.data.toList) []=([],fs.length+1,6):=by
 have:=plog_bad (l:=s.data.toList) (fs:=fs.map FV.fct) (x:=x.1.data.toList) (b:=x.2) (rest:=rest) (fun f hf=>by obtain ⟨g,hg,rfl⟩:=List.mem_map.1 hf;exact (h.ok g hg).1) (by rw [he,h.eq,List.map_map];rfl) hb
 rwa [List.length_map] at this
theorem ROW.boxF {e:TypeId}{w:World}{B g:Nat}{T:TypeId}{v u:Value}{xs:List FV}(h:ROW EF e w B v xs)(hg:RW w g T #[u])(hs:∀ s,u≠.string s)(hn:∀ n,u≠.int .u8 n)(hlt:g<B)(u':Value):ROW EF e (w.setCell ⟨g,0,none⟩ u') B v xs:=
 h.keep (grown_set1 w g u') (fun b hb=>by
  injection hb with hb
  subst hb
  refine ⟨fun hv=>by have:=(h.lt _ hv).1;omega,NoU8.of hg fun x hx n e=>?_,fun x hx=>FV.In.notOne (h.2.2 x hx).1 hg hs⟩
  simp at hx
  exact hn n (hx ▸ e))
theorem PLi.push {w W w6:World} {pre:List (ByteArray × Bool)} {fs:List FV} {v v6:Value} {f:FV} {xl:ByteArray} (h:PLi w W pre fs v) (hg:W.grownBy w6 v.ownBlock) (ho:ROW EF 41 w6 (w.heap.size+5) v6 (fs++[f])) (hf:f.fct.Ok∧f.Sz) (hx:f.fct.txt=xl.data.toList):
  PLi w (w6.setCell ⟨w.heap.size+1+1+1,0,none⟩ v6) (pre++[(xl,true)]) (fs++[f]) v6:=by
 have hlt:∀ j,v.ownBlock=some j→w.heap.size+5≤j:=fun j hj=>(h.ow.lt j hj).1
 have hr3:RW w6 (w.heap.size+1+1+1) 22 #[v]:=own_keep hg hlt (by omega) h.r3
 obtain ⟨A,c,hv⟩:=h.ow.shape
 have g1:=grown_set1 w6 (w.heap.size+1+1+1) v6
 refine ⟨(h.ex.grown hg (fun j hj=>by have:=hlt j hj;omega)).setCell (p:=⟨w.heap.size+1+1+1,0,none⟩) (by show w.heap.size≤w.heap.size+1+1+1;omega) _,heap_far g1 (own_keep hg hlt (by omega) h.r0) (by omega),heap_far g1 (own_keep hg hlt (by omega) h.r1) (by omega),heap_far g1 (own_keep hg hlt (by omega) h.r2) (by omega),row1_set v6 hr3,ho.boxF hr3 (fun s e=>by rw [hv] at e;cases e) (fun n e=>by rw [hv] at e;cases e) (by omega) v6,fun x hx'=>?_,?_⟩
 ·rcases List.mem_append.1 hx' with hx' | hx'
  ·exact h.ok x hx'
  ·rw [List.mem_singleton] at hx';subst hx';exact hf
 ·rw [dtL_snoc,h.eq,List.map_append,List.map_cons,List.map_nil,hx]
theorem PLX_mk {w W:World} {pre:List (ByteArray × Bool)} {fs:List FV} {v:Value} {l:List UInt8} (h:PLi w W pre fs v) (hp:plogF (splb 10 [] l) []=([],fs.length+1,6)):
  PLX l w .ret (((W.setCell ⟨w.heap.size,0,none⟩ (.slice none 0 0)).setCell ⟨w.heap.size+1,0,none⟩ (.int .i64 ((fs.length:Int)+1))).setCell ⟨w.heap.size+1+1,0,none⟩ (.int .i64 6)):=by
 have g0:=grown_set1 W w.heap.size (.slice none 0 0)
 have a0:=row1_set (.slice none 0 0) h.r0
 have a1:=heap_far g0 h.r1 (by omega)
 have a2:=heap_far g0 h.r2 (by omega)
 have x0:=h.ex.setCell (p:=⟨w.heap.size,0,none⟩) (Nat.le_refl _) (.slice none 0 0)
 obtain ⟨W1,e1⟩:∃ W1,W.setCell ⟨w.heap.size,0,none⟩ (.slice none 0 0)=W1:=⟨_,rfl⟩
 rw [e1] at a0 a1 a2 x0 ⊢
 have g1:=grown_set1 W1 (w.heap.size+1) (.int .i64 ((fs.length:Int)+1))
 have b0:=heap_far g1 a0 (by omega)
 have b1:=row1_set (.int .i64 ((fs.length:Int)+1)) a1
 have b2:=heap_far g1 a2 (by omega)
 have x1:=x0.setCell (p:=⟨w.heap.size+1,0,none⟩) (by show w.heap.size≤w.heap.size+1;omega) (.int .i64 ((fs.length:Int)+1))
 obtain ⟨W2,e2⟩:∃ W2,W1.setCell ⟨w.heap.size+1,0,none⟩ (.int .i64 ((fs.length:Int)+1))=W2:=⟨_,rfl⟩
 rw [e2] at b0 b1 b2 x1 ⊢
 have g2:=grown_set1 W2 (w.heap.size+1+1) (.int .i64 6)
 exact ⟨rfl,x1.setCell (p:=⟨w.heap.size+1+1,0,none⟩) (by show w.heap.size≤w.heap.size+1+1;omega) _,fs.length+1,heap_far g2 b0 (by omega),heap_far g2 b1 (by omega),row1_set _ b2,hp⟩
theorem PLX.ext {l:List UInt8}{w W W':World}{c:Code}(h:PLX l w c W)(hx:Ext W W'):PLX l w c W':=by
 obtain ⟨h1,h2,m,h3,h4,h5,h6⟩:=h
 exact ⟨h1,h2.trans hx,m,h3.ext hx,h4.ext hx,h5.ext hx,h6⟩
theorem wrap64_small {x:Int}(h0:-9223372036854775808≤x)(h1:x≤9223372036854775807):IntKind.i64.wrap x=x:=by
 simp [IntKind.wrap,IntKind.bits,IntKind.signed]
 omega
theorem KO3 (W:World)(a b c:Addr)(u v x:Value):KeepsOthers W (((W.setCell a u).setCell b v).setCell c x):=((KeepsOthers.setCell W a u).trans (KeepsOthers.setCell _ b v)).trans (KeepsOthers.setCell _ c x)
attribute [local go_sem] Oper.semAt_some
set_option maxRecDepth 100000 in
set_option maxHeartbeats 8000000 in
theorem LParseLog_at (s:ByteArray) (hs:s.size≤1000000) (hp:∀ x∈splb 10 [] s.data.toList,x.length≤3000) (w:World) (hE:EnvA w):
  Calls Tryz.prog 12 #[.string s] w fun e w'=>PLg w.heap.size s.data.toList e w'∧Ext w w':=by
 have HS:=Lib.hid hs;have HPC:=Lib.hid hp;have HE:=Lib.hid hE
 obtain ⟨Wa,hWa,hI0,hza⟩:=start_pl w
 have HWA:=Lib.hid hWa;have HI0:=Lib.hid hI0;have HZA:=Lib.hid hza
 clear hs hp hE hWa hI0 hza
 obtain ⟨i0,hi,iz0,iz1,iz2⟩:=fact_info
 refine calls_of_marks Tryz.func12 rfl ?_
 simp only [Tryz.ntmps12,List.size_toArray,List.length_cons,List.length_nil,Nat.reduceAdd,Nat.reduceSub,Array.replicate_succ,Array.replicate_zero,List.push_toArray,List.append_toArray,List.nil_append,List.cons_append]
 go_wp2_with fail
 rw [HWA.out]
 clear HWA
 have HIT0:=Lib.hid ((HE.out).env.maxl)
 refine (lines_at s Wa).mono ?_
 rintro _ Wb ⟨rfl,hWb⟩
 have hxb:Ext Wa Wb:=hWb ▸ (Ext.refl Wa).alloc _
 have hit:LnIt s Wa.heap.size Wb:=⟨hWb ▸ heap_alloc_new Wa _,((HE.out.ext HI0.out.ex).env.maxl).ext hxb⟩
 have hzb:Wb.heap.size=w.heap.size+5:=by rw [hWb,World.size_alloc,HZA.out]
 have HIB:=Lib.hid (HI0.out.ext hxb);have HIT:=Lib.hid hit;have HZB:=Lib.hid hzb
 clear hWb hxb hit hzb
 go_wp2_with fail
 have hw5:w.heap.size≤Wb.heap.size:=HIB.out.ex.size
 refine wpIn_wide.1 (wp_range (gf:=99) (lb:=#[.pointer (some ⟨Wa.heap.size,0,none⟩)]) rfl (Go.Proofs.enters_of Tryz.func99 (by kernel_rfl) rfl)
  (lines_iter s (by have:=HS.out;omega) Wa.heap.size) (fun _=>rfl) (fun k hk=>hk.elim) HIT.out (LnIt.stab _ _ _)
  (fun pre W=>PLI w pre W) (fun cd pre W=>PLX s.data.toList w cd W) (fun pre=>PLI.stab hw5 pre) (fun cd pre=>PLX.stab hw5 _ _)
  (fun pre X Y r hr hg h=>?_) (fun cd pre X Y r hr hg h=>?_) ⟨[],_,HIB.out⟩ ?_ ?_ ?_)
 ·obtain ⟨fs,v,k⟩:=h
  cases r with
  | none=>exact ⟨fs,v,k.ext (grown_of_ext hg)⟩
  | some b=>exact (hr b rfl).elim
 ·cases r with
  | none=>
   have hx:=grown_of_ext hg
   exact h.ext hx
  | some b=>exact (hr b rfl).elim
 ·intro L pre x W hL hnL hzW hIW hitW hGW
  gi_wp2_with fail
  refine ⟨KeepsFrom.refl _ _,fun W2 hg2 hn2 hz2=>?_⟩
  obtain ⟨fs,v,hI2⟩:=(PLI.stab hw5 pre) W W2 L hL hn2 hg2 hIW
  have hit2:=(LnIt.stab Wb.heap.size s Wa.heap.size) W W2 L hL hn2 hg2 hitW
  obtain ⟨⟨rest,hrest⟩,hxs⟩:=hGW
  have hx3:x.1.size≤3000:=by
   have hm:(x.1.data.toList,x.2)∈lnP (splb 10 [] s.data.toList):=by
    show _∈lnF s.data.toList
    rw [hrest];simp
   have:=HPC.out _ (lnP_mem _ _ hm)
   rwa [size_list] at this
  obtain ⟨xl,xe⟩:=x
  dsimp only at hx3 hrest ⊢
  have HZ20:=Lib.hid (show Wb.heap.size≤W2.heap.size from Nat.le_trans hzW hg2.size)
  have HR:=Lib.hid hrest;have HI2:=Lib.hid hI2;have HIT2:=Lib.hid hit2
  have HPR:=Lib.hid (LParse_at xl hx3 W2 (HE.out.ext hI2.ex))
  clear hIW hitW hg2 hn2 hnL hI2 hit2 hrest hxs hx3
  gi_wp2_with fail
  refine wide_callR HPR.out ?_
  rintro en W3 ⟨⟨f,hok,htx,rfl,hin,hsz,hca,hsa⟩ | ⟨hno,rfl⟩,hx3⟩
  ·have HZ2:=Lib.hid (show Wb.heap.size≤W3.heap.size from Nat.le_trans HZ20.out hx3.size)
   have HI3:=Lib.hid (HI2.out.ext hx3);have HIT3:=Lib.hid (HIT2.out.ext hx3);have HFI:=Lib.hid hin
   have HFK:=Lib.hid (show f.fct.Ok∧f.Sz from ⟨hok,hsz⟩);have HTX:=Lib.hid htx
   have HFB:=Lib.hid (show ∀ b,v.ownBlock=some b→¬ f.Blk b from fun b hb hB=>by
    have hlt:=(HI2.out.ow.lt b hb).2
    rcases hB with ⟨_,ad,ha,rfl⟩ | ⟨_,ad,ha,rfl⟩
    ·have:=hca ad ha;omega
    ·have:=hsa ad ha;omega)
   have HFL:=Lib.hid (pre_len HI2.out HR.out)
   have HK3:=Lib.hid (hx3.keepsOthers)
   have hbx:=FBx.new W3 f
   have hxa:=(Ext.refl W3).alloc (.cells #[.int .i64 f.t,.int .i64 f.mi,.int .i64 f.kd,.int .i64 f.fk,.slice f.FA f.fb.length f.fc,.slice f.CA f.cp.length f.cc,.string f.cr,.slice f.SA f.sp.length f.sc,.string f.sr,.int .i64 f.co,.int .i64 f.pr,.int .u32 (f.fl.toNat:Int)] 41)
   obtain ⟨W4,e4⟩:∃ W4,W3.alloc (.cells #[.int .i64 f.t,.int .i64 f.mi,.int .i64 f.kd,.int .i64 f.fk,.slice f.FA f.fb.length f.fc,.slice f.CA f.cp.length f.cc,.string f.cr,.slice f.SA f.sp.length f.sc,.string f.sr,.int .i64 f.co,.int .i64 f.pr,.int .u32 (f.fl.toNat:Int)] 41)=W4:=⟨_,rfl⟩
   rw [e4] at hbx hxa
   obtain ⟨v0,v1,v2,v3,v4,v5,v6,v7,v8,v9,v10,v11⟩:=fv_cells hbx
   have k3:=(row1 (HI3.out.ext hxa).r3).1
   have HI4:=Lib.hid (HI3.out.ext hxa);have HX4:=Lib.hid hxa;have HIT4:=Lib.hid (HIT3.out.ext hxa)
   unfold FV.val
   clear hok htx hin hsz hca hsa hx3 hbx hxa
   cases xe with
   | true=>
    have hb5:=FBx.new W4 f
    have hx5:=(Ext.refl W4).alloc (.cells #[.int .i64 f.t,.int .i64 f.mi,.int .i64 f.kd,.int .i64 f.fk,.slice f.FA f.fb.length f.fc,.slice f.CA f.cp.length f.cc,.string f.cr,.slice f.SA f.sp.length f.sc,.string f.sr,.int .i64 f.co,.int .i64 f.pr,.int .u32 (f.fl.toNat:Int)] 41)
    obtain ⟨W5,e5⟩:∃ W5,W4.alloc (.cells #[.int .i64 f.t,.int .i64 f.mi,.int .i64 f.kd,.int .i64 f.fk,.slice f.FA f.fb.length f.fc,.slice f.CA f.cp.length f.cc,.string f.cr,.slice f.SA f.sp.length f.sc,.string f.sr,.int .i64 f.co,.int .i64 f.pr,.int .u32 (f.fl.toNat:Int)] 41)=W5:=⟨_,rfl⟩
    rw [e5] at hb5 hx5
    have HI5:=Lib.hid (HI4.out.ext hx5);have HB5:=Lib.hid hb5;have HX5:=Lib.hid hx5;have HIT5:=Lib.hid (HIT4.out.ext hx5);have HFI5:=Lib.hid ((HFI.out.ext HX4.out).ext hx5);have HZ5:=Lib.hid (Nat.le_trans HZ2.out (Nat.le_trans HX4.out.size hx5.size))
    have HLT:=Lib.hid (show ∀ j,v.ownBlock=some j→w.heap.size+5≤j from fun j hj=>(HI5.out.ow.lt j hj).1)
    have HYS:=Lib.hid (show ∀ y∈[f],EF.In W5 y∧∀ b,v.ownBlock=some b→¬ EF.Blk y b from fun y hy=>by rw [List.mem_singleton] at hy;subst hy;exact ⟨HFI5.out,HFB.out⟩)
    have HBY:=Lib.hid (show (fs.length + [f].length)*160≤140737488355328 by have:=HFL.out;have:=HS.out;simp;omega)
    have HBS:=Lib.hid (show w.heap.size+5≤W5.heap.size from Nat.le_trans (Nat.le_of_eq HZB.out.symm) HZ5.out)
    clear hb5 hx5
    gi_wp2_with (gi_at_builtin;refine wpListIn_append_row (E:=EF) W5 rfl (.tmp 28) (.tmp 30) 22 rfl (w.heap.size+5) 41 i0 factZ 160 Tryz.underlying22 hi iz0 iz1 iz2 fact_zs fact_zn' v fs rfl HI5.out.ow ⟨W4.heap.size,0,none⟩ 1 [f] rfl (by show 0<1;decide) HB5.out.news HYS.out HBY.out (by decide) HBS.out ?_;intro v6 w6 hown6 hg6 ho6;obtain ⟨A6,cc6,rfl⟩:=hown6.shape;have HO6:=Lib.hid hown6;have HG6:=Lib.hid hg6;have c6:=(row1 (own_keep hg6 HLT.out (by omega) HI5.out.r3)).1;have f6:=(row1 (own_keep hg6 HLT.out (by omega) HI5.out.r3)).2;clear hown6 hg6 ho6)
    have hps:=HI5.out.push HG6.out HO6.out HFK.out HTX.out
    rw [show (fs++[f]).length=fs.length+1 by simp] at hps
    have HPS:=Lib.hid hps
    exact ⟨((HK3.out.trans (HX4.out.keepsOthers.trans (HX5.out.keepsOthers.trans (HI5.out.ow.keepsOthers HG6.out)))).trans (KeepsOthers.setCell _ _ _)).from _,⟨heap_far (grown_set1 _ _ _) (own_keep HG6.out HLT.out (by have:=HZA.out;omega) HIT5.out.1) (by have:=HZA.out;omega),MaxL.ext HIT0.out (HPS.out).ex⟩,fs++[f],_,HPS.out⟩
   | false=>
    have HBAD:=Lib.hid (pre_ok (x:=(xl,false)) HI4.out HR.out (.inr rfl))
    obtain ⟨A4,cc4,hv4⟩:=HI4.out.ow.shape
    have hfl:(fs.length:Int)≤2000000:=by have:=HFL.out;have:=HS.out;omega
    subst hv4
    gi_wp2_with fail
    have p3:=(row1 HI4.out.r3).1;have p0:=(row1 HI4.out.r0).1;have p1:=(row1 HI4.out.r1).1;have p2:=(row1 HI4.out.r2).1
    have q0:=(row1 HI4.out.r0).2;have q1:=(row1 HI4.out.r1).2;have q2:=(row1 HI4.out.r2).2
    have HWR:=Lib.hid (show IntKind.i64.wrap ((fs.length:Int)+1)=(fs.length:Int)+1 from wrap64_small (by omega) (by omega))
    gi_region
    all_goals rw [HWR.out]
    all_goals gi_wp2_with fail
    all_goals exact ⟨((HK3.out.trans HX4.out.keepsOthers).trans ((KO3 _ _ _ _ _ _ _).trans (KeepsOthers.drew _))).from _,(PLX_mk HI4.out HBAD.out).ext (Ext.drew _)⟩
  ·obtain ⟨f,hf0⟩:∃ f,fv0=f:=⟨_,rfl⟩
   have HI3:=Lib.hid (HI2.out.ext hx3)
   have HK3:=Lib.hid (hx3.keepsOthers)
   have HNP:=Lib.hid (show prsF xl.data.toList=none from (prsF_spec xl.data.toList).uniq (.inr ⟨rfl,hno⟩))
   have hbx:=FBx.new W3 f
   have hxa:=(Ext.refl W3).alloc (.cells #[.int .i64 f.t,.int .i64 f.mi,.int .i64 f.kd,.int .i64 f.fk,.slice f.FA f.fb.length f.fc,.slice f.CA f.cp.length f.cc,.string f.cr,.slice f.SA f.sp.length f.sc,.string f.sr,.int .i64 f.co,.int .i64 f.pr,.int .u32 (f.fl.toNat:Int)] 41)
   obtain ⟨W4,e4⟩:∃ W4,W3.alloc (.cells #[.int .i64 f.t,.int .i64 f.mi,.int .i64 f.kd,.int .i64 f.fk,.slice f.FA f.fb.length f.fc,.slice f.CA f.cp.length f.cc,.string f.cr,.slice f.SA f.sp.length f.sc,.string f.sr,.int .i64 f.co,.int .i64 f.pr,.int .u32 (f.fl.toNat:Int)] 41)=W4:=⟨_,rfl⟩
   rw [e4] at hbx hxa
   have HI4:=Lib.hid (HI3.out.ext hxa);have HX4:=Lib.hid hxa
   have HFL:=Lib.hid (pre_len HI2.out HR.out)
   rw [hf0]
   unfold FV.val
   clear hno hx3 hbx hxa hf0
   have HBAD:=Lib.hid (pre_ok (x:=(xl,xe)) HI4.out HR.out (.inl HNP.out))
   obtain ⟨A4,cc4,hv4⟩:=HI4.out.ow.shape
   have hfl:(fs.length:Int)≤2000000:=by have:=HFL.out;have:=HS.out;omega
   subst hv4
   gi_wp2_with fail
   have p3:=(row1 HI4.out.r3).1;have p0:=(row1 HI4.out.r0).1;have p1:=(row1 HI4.out.r1).1;have p2:=(row1 HI4.out.r2).1
   have q0:=(row1 HI4.out.r0).2;have q1:=(row1 HI4.out.r1).2;have q2:=(row1 HI4.out.r2).2
   have HWR:=Lib.hid (show IntKind.i64.wrap ((fs.length:Int)+1)=(fs.length:Int)+1 from wrap64_small (by omega) (by omega))
   gi_region
   all_goals rw [HWR.out]
   all_goals gi_wp2_with fail
   all_goals exact ⟨((HK3.out.trans HX4.out.keepsOthers).trans ((KO3 _ _ _ _ _ _ _).trans (KeepsOthers.drew _))).from _,(PLX_mk HI4.out HBAD.out).ext (Ext.drew _)⟩
 ·rintro D xs W hDw hS ⟨fs,v,hi⟩ hIt hD
  have hpl:plogF (splb 10 [] s.data.toList) []=(fs.map FV.fct,0,0):=plog_all (fun f hf=>by obtain ⟨g,hg,rfl⟩:=List.mem_map.1 hf;exact (hi.ok g hg).1) (by rw [hS,hi.eq,List.map_map];rfl)
  obtain ⟨A,cc,rfl⟩:=hi.ow.shape
  have hz:=HZB.out
  have p3:=(row1 hi.r3).1;have p0:=(row1 hi.r0).1;have p1:=(row1 hi.r1).1;have p2:=(row1 hi.r2).1
  have q0:=(row1 hi.r0).2;have q1:=(row1 hi.r1).2;have q2:=(row1 hi.r2).2
  have g0:=grown_set1 W w.heap.size (.slice A fs.length cc)
  have a0:=row1_set (.slice A fs.length cc) hi.r0
  have a1:=heap_far g0 hi.r1 (by omega)
  have a2:=heap_far g0 hi.r2 (by omega)
  have aD:=heap_far g0 hD (by omega)
  have aw:=hi.ow.boxF hi.r0 (fun s e=>by cases e) (fun n e=>by cases e) (by omega) (.slice A fs.length cc)
  have x0:=hi.ex.setCell (p:=⟨w.heap.size,0,none⟩) (Nat.le_refl _) (.slice A fs.length cc)
  obtain ⟨W1,e1⟩:∃ W1,W.setCell ⟨w.heap.size,0,none⟩ (.slice A fs.length cc)=W1:=⟨_,rfl⟩
  rw [e1] at a0 a1 a2 aD aw x0
  have g1:=grown_set1 W1 (w.heap.size+1) (.int .i64 0)
  have b0:=heap_far g1 a0 (by omega)
  have b1:=row1_set (.int .i64 0) a1
  have b2:=heap_far g1 a2 (by omega)
  have bD:=heap_far g1 aD (by omega)
  have bw:=aw.boxF a1 (fun s e=>by cases e) (fun n e=>by cases e) (by omega) (.int .i64 0)
  have x1:=x0.setCell (p:=⟨w.heap.size+1,0,none⟩) (by show w.heap.size≤w.heap.size+1;omega) (.int .i64 0)
  have r1:=(row1 a1).1;have s1:=(row1 a1).2
  obtain ⟨W2,e2⟩:∃ W2,W1.setCell ⟨w.heap.size+1,0,none⟩ (.int .i64 0)=W2:=⟨_,rfl⟩
  rw [e2] at b0 b1 b2 bD bw x1
  have r2:=(row1 b2).1;have s2:=(row1 b2).2
  have g2:=grown_set1 W2 (w.heap.size+1+1) (.int .i64 0)
  have c0:=heap_far g2 b0 (by omega)
  have c1:=heap_far g2 b1 (by omega)
  have c2:=row1_set (.int .i64 0) b2
  have cD:=heap_far g2 bD (by omega)
  have cw:=bw.boxF b2 (fun s e=>by cases e) (fun n e=>by cases e) (by omega) (.int .i64 0)
  have x2:=x1.setCell (p:=⟨w.heap.size+1+1,0,none⟩) (by show w.heap.size≤w.heap.size+1+1;omega) (.int .i64 0)
  obtain ⟨W3,e3⟩:∃ W3,W2.setCell ⟨w.heap.size+1+1,0,none⟩ (.int .i64 0)=W3:=⟨_,rfl⟩
  rw [e3] at c0 c1 c2 cD cw x2
  have HC0:=Lib.hid c0;have HC1:=Lib.hid c1;have HC2:=Lib.hid c2;have HCD:=Lib.hid cD;have HCW:=Lib.hid cw;have HX2:=Lib.hid x2;have HPL:=Lib.hid hpl
  have HOK:=Lib.hid (fun f hf=>(hi.ok f hf).2)
  clear hi hIt hD g0 a0 a1 a2 aD aw x0 g1 b0 b1 b2 bD bw x1 g2 c0 c1 c2 cD cw x2 hpl hS
  go_wp2_with fail
  have z0:(W3.putObj D (.deferred none)).heap[w.heap.size]? = some (.cells #[.slice A fs.length cc] 22 (0,0)):=(World.putObj_heap_other (by omega)).trans HC0.out
  have z1:(W3.putObj D (.deferred none)).heap[w.heap.size+1]? = some (.cells #[.int .i64 0] 3 (0,0)):=(World.putObj_heap_other (by omega)).trans HC1.out
  have z2:(W3.putObj D (.deferred none)).heap[w.heap.size+1+1]? = some (.cells #[.int .i64 0] 25 (0,0)):=(World.putObj_heap_other (by omega)).trans HC2.out
  have hxp:Ext w (W3.putObj D (.deferred none)):=Ext.of_grown HX2.out (grown_put HCD.out) (by omega)
  have hwp:ROW EF 41 (W3.putObj D (.deferred none)) (w.heap.size+5) (.slice A fs.length cc) fs:=Stab.row _ _ _ _ EF_nc W3 _ D (Nat.zero_le _) (NC.of HCD.out rfl) (grown_put HCD.out) HCW.out
  have d0:=(row1 z0).1;have d1:=(row1 z1).1;have d2:=(row1 z2).1
  refine ⟨by simp,.inl ⟨_,_,rfl,run_takeDeferred HCD.out,?_⟩⟩
  exact ⟨.tuple #[.slice A fs.length cc,.int .i64 0,.int .i64 0],by simp [results,Tryz.results12,go_sem,d0,d1,d2],.inl ⟨_,fs,rfl,hwp.down (by omega),HOK.out,HPL.out⟩,hxp⟩
 ·rintro D cd pre W hDw hS ⟨rfl,hx,m,h0,h1,h2,hp⟩ hD
  refine wpIn_wide.2 ?_
  have hz:=HZB.out
  have z0:(W.putObj D (.deferred none)).heap[w.heap.size]? = some (.cells #[.slice none 0 0] 22 (0,0)):=(World.putObj_heap_other (by omega)).trans h0
  have z1:(W.putObj D (.deferred none)).heap[w.heap.size+1]? = some (.cells #[.int .i64 (m:Int)] 3 (0,0)):=(World.putObj_heap_other (by omega)).trans h1
  have z2:(W.putObj D (.deferred none)).heap[w.heap.size+1+1]? = some (.cells #[.int .i64 6] 25 (0,0)):=(World.putObj_heap_other (by omega)).trans h2
  have hxp:Ext w (W.putObj D (.deferred none)):=Ext.of_grown hx (grown_put hD) (by omega)
  have HD:=Lib.hid hD;have HXP:=Lib.hid hxp;have HZ0:=Lib.hid z0;have HZ1:=Lib.hid z1;have HZ2:=Lib.hid z2;have HP:=Lib.hid hp
  clear hD hxp z0 z1 z2 hx h0 h1 h2 hp hS
  go_wp2_with fail
  have d0:=(row1 HZ0.out).1;have d1:=(row1 HZ1.out).1;have d2:=(row1 HZ2.out).1
  refine ⟨by simp,.inl ⟨_,_,rfl,run_takeDeferred HD.out,?_⟩⟩
  exact ⟨.tuple #[.slice none 0 0,.int .i64 (m:Int),.int .i64 6],by simp [results,Tryz.results12,go_sem,d0,d1,d2],.inr ⟨m,rfl,HP.out⟩,HXP.out⟩
end Go.Proofs.YtnjmndofcpnmeaaGreatDoor
