/- Pc41. -/
import Derived.Test.YtnjmndofcpnmeaaGreatDoorPc0
import Derived.Test.YtnjmndofcpnmeaaGreatDoorPc30
import Derived.Test.YtnjmndofcpnmeaaGreatDoorPc26
import Derived.Test.YtnjmndofcpnmeaaGreatDoorPc33
import Derived.Test.YtnjmndofcpnmeaaGreatDoorPc40
import Derived.Test.YtnjmndofcpnmeaaGreatDoorPc36
namespace Go.Proofs.YtnjmndofcpnmeaaGreatDoor
open Go Go.RowKit Go.Maps
set_option linter.unusedVariables false
structure BD (D:DataW Unit) (js:List Nat) (K:Nat→List UInt8):Prop where
 map:IsMap D
 strs:∀ kl,Maps.has D kl=true→∃ s,kl=.string s
 has:∀ s,Maps.has D (.string s)=true ↔ ∃ j∈js,K j=s
theorem BD.start (K:Nat→List UInt8):BD (.map []) [] K:=⟨isMap_empty,fun kl h=>(by simp [Maps.has] at h),fun s=>by simp [Maps.has]⟩
theorem BD.add {D:DataW Unit}{js:List Nat}{K:Nat→List UInt8}(h:BD D js K)(j:Nat)(d:DataW Unit):BD (D.put (.string (K j)) d) (js++[j]) K:=by
 refine ⟨h.map.put _ _,fun kl hk=>?_,fun t=>?_⟩
 ·by_cases e:kl=.string (K j)
  ·exact ⟨_,e⟩
  ·rw [has_put_other e] at hk
   exact h.strs kl hk
 ·by_cases e:t=K j
  ·subst e
   rw [has_put_same h.map (by trivial)]
   simp
  ·rw [has_put_other (litS_ne e),h.has]
   constructor
   ·rintro ⟨i,hi,e'⟩;exact ⟨i,by simp [hi],e'⟩
   ·rintro ⟨i,hi,e'⟩
    rcases List.mem_append.1 hi with hi | hi
    ·exact ⟨i,hi,e'⟩
    ·rw [List.mem_singleton] at hi
     subst hi
     exact absurd e'.symm e
theorem BD.size {D:DataW Unit}{js:List Nat}{K:Nat→List UInt8}(h:BD D js K)(he:∃ es,D=.map es∧es.Pairwise (fun p q=>p.1≠q.1)∧∀ p∈es,WideAt.IsKeyLit p.1):Maps.size D=difK js K:=by
 classical
 obtain ⟨hn,hk⟩:=fold_addK K js [] List.nodup_nil
 obtain ⟨es,rfl,h1,h2⟩:=he
 have a1:(es.map Prod.fst).Nodup:=List.pairwise_map.2 h1
 have a2:((js.foldl (fun ks j=>addK ks (K j)) []).map Lit.string).Nodup:=List.pairwise_map.2 (hn.imp fun hab=>litS_ne hab)
 have:=mem_eq_len a1 a2 fun kl=>by
  constructor
  ·intro hm
   obtain ⟨p,hp,rfl⟩:=List.mem_map.1 hm
   have hh:Maps.has (.map es) p.1=true:=List.any_eq_true.2 ⟨p,hp,WideAt.sameKey_self (h2 p hp)⟩
   obtain ⟨s,hs⟩:=h.strs _ hh
   rw [hs] at hh ⊢
   exact List.mem_map.2 ⟨s,(hk s).2 (.inr ((h.has s).1 hh)),rfl⟩
  ·intro hm
   obtain ⟨s,hs,rfl⟩:=List.mem_map.1 hm
   rcases (hk s).1 hs with h0 | h0
   ·simp at h0
   ·obtain ⟨p,hp,e⟩:=List.any_eq_true.1 ((h.has s).2 h0)
    exact List.mem_map.2 ⟨p,hp,WideAt.sameKey_eq e⟩
 rw [List.length_map,List.length_map] at this
 exact this
def BMap (w:World)(m:Nat)(D:DataW Unit):Prop:=w.ownsMap Tryz.prog 9 (plainElem Tryz.prog 4) m (Maps.size D) D
theorem BMap.of {w:World}{m n:Nat}{D:DataW Unit}(h:w.ownsMap Tryz.prog 9 (plainElem Tryz.prog 4) m n D):BMap w m D:=by
 obtain ⟨es,clock,hb,F,_,rfl⟩:=h
 exact ⟨es,clock,hb,F,by simp [Maps.size,length_sorted],rfl⟩
theorem BMap.kept {w w':World}{m:Nat}{D:DataW Unit}{r:Option Nat}(h:BMap w m D)(hg:w.grownBy w' r)(hne:some m≠r):BMap w' m D:=World.ownsMap.kept h hg hne
theorem BMap.ext {w w':World}{m:Nat}{D:DataW Unit}(h:BMap w m D)(hx:Ext w w'):BMap w' m D:=h.kept (hx.but none) (by simp)
theorem BMap.nc {w:World}{m:Nat}{D:DataW Unit}(h:BMap w m D):NC w m:=by
 obtain ⟨es,clock,hb,_⟩:=h
 intro cs t fr e
 rw [hb] at e
 cases e
theorem stb_own {w:World}{B n:Nat}{A:Option Addr}{k c:Nat}{xs:List Value}(h:w.ownsRow B 9 1 (.slice A k c) n xs):STB w A:=fun ad hA=>by
 rcases h.2 with ⟨h0,_⟩ | ⟨g,cap,cur,hv,_,hh,_⟩
 ·injection h0 with h0 _ _
  rw [hA] at h0
  cases h0
 ·injection hv with e1 _ _
  rw [hA] at e1
  injection e1 with e1
  subst e1
  exact ⟨cur,hh⟩
theorem stb_nev {w:World}{A:Option Addr}{g:Nat}{m:VV}(h:STB w A)(hg:V8 w g m):∀ ad,A=some ad→ad.block≠g:=fun ad hA e=>by
 obtain ⟨cs',e'⟩:=h ad hA
 unfold V8 RW at hg
 rw [e,hg] at e'
 injection e' with e'
 injection e' with _ e' _
 exact absurd e' (by decide)
theorem stb_nc {w:World}{A:Option Addr}{g:Nat}(h:STB w A)(hg:NC w g):∀ ad,A=some ad→ad.block≠g:=fun ad hA e=>by
 obtain ⟨cs',e'⟩:=h ad hA
 exact hg _ _ _ (e ▸ e')
theorem stb_zero {w:World}{A:Option Addr}{g:Nat}(h:STB w A)(hg:RW w g 58 #[.slice none 0 0,.string ⟨#[]⟩,.int .i64 0,.int .i64 0,.int .i64 0,.int .i64 0,.int .i64 0,.int .i64 0]):∀ ad,A=some ad→ad.block≠g:=fun ad hA e=>by
 obtain ⟨cs',e'⟩:=h ad hA
 unfold RW at hg
 rw [e,hg] at e'
 injection e' with e'
 injection e' with _ e' _
 exact absurd e' (by decide)
structure ACV (w W:World) (g6 gm:Nat) (m:VV) (D:DataW Unit):Prop where
 ex:Ext w W
 r0:RW W w.heap.size 58 #[.slice none 0 0,.string ⟨#[]⟩,.int .i64 0,.int .i64 0,.int .i64 0,.int .i64 0,.int .i64 0,.int .i64 0]
 b6:V8 W g6 m
 mi:m.In W
 st:STB W m.CA
 mp:BMap W gm D
 l6:w.heap.size<g6
 lm:w.heap.size<gm
 ne:gm≠g6
theorem ACV.ext {w W W':World}{g6 gm:Nat}{m:VV}{D:DataW Unit}(h:ACV w W g6 gm m D)(hx:Ext W W'):ACV w W' g6 gm m D:=⟨h.ex.trans hx,h.r0.ext hx,h.b6.ext hx,h.mi.ext hx,h.st.ext hx,h.mp.ext hx,h.l6,h.lm,h.ne⟩
theorem ACV.put {w W:World}{g6 gm:Nat}{m m':VV}{D:DataW Unit}(h:ACV w W g6 gm m D)(k:Nat)(v:Value)(hb:V8 (W.setCell ⟨g6,k,none⟩ v) g6 m')(h1:m'.CA=m.CA)(h2:m'.cp=m.cp)(h3:m'.cc=m.cc):ACV w (W.setCell ⟨g6,k,none⟩ v) g6 gm m' D:=by
 have hg:=grown_set (grown_refl W (some g6)) k v
 refine ⟨h.ex.setCell (p:=⟨g6,k,none⟩) (Nat.le_of_lt h.l6) v,heap_set_ne h.r0 (show w.heap.size≠g6 by have:=h.l6;omega),hb,?_,?_,h.mp.kept hg (fun e=>h.ne (by injection e)),h.l6,h.lm,h.ne⟩
 ·unfold VV.In
  rw [h1,h2,h3]
  exact RS.off h.mi (fun _ ad hA e=>stb_nev h.st h.b6 ad hA (by injection e with e;exact e.symm)) hg
 ·intro ad hA
  rw [h1] at hA
  obtain ⟨cs,e⟩:=h.st ad hA
  exact ⟨cs,heap_set_ne e (stb_nev h.st h.b6 ad hA)⟩
theorem ACV.upd {w W W':World}{g6 gm n:Nat}{m:VV}{D D':DataW Unit}(h:ACV w W g6 gm m D)(hg:W.grownBy W' (some gm))(hm:W'.ownsMap Tryz.prog 9 (plainElem Tryz.prog 4) gm n D'):ACV w W' g6 gm m D':=by
 have hnc:=stb_nc h.st h.mp.nc
 refine ⟨h.ex.grown hg (fun j hj=>by cases hj;exact Nat.le_of_lt h.lm),?_,?_,RS.off h.mi (fun _ ad hA e=>hnc ad hA (by injection e with e;exact e.symm)) hg,?_,BMap.of hm,h.l6,h.lm,h.ne⟩
 ·exact (hg.block w.heap.size (Array.getElem?_eq_some_iff.1 h.r0).1 (fun e=>by injection e with e;have:=h.lm;omega)).trans h.r0
 ·exact (hg.block g6 (Array.getElem?_eq_some_iff.1 h.b6).1 (fun e=>by injection e with e;exact h.ne e.symm)).trans h.b6
 ·intro ad hA
  obtain ⟨cs,e⟩:=h.st ad hA
  exact ⟨cs,(hg.block ad.block (Array.getElem?_eq_some_iff.1 e).1 (fun e2=>by injection e2 with e2;exact hnc ad hA e2)).trans e⟩
theorem boolElem (b:Bool):plainElem (H:=Unit) Tryz.prog 4 (.bool b)=some (.lit (.bool b),[]):=by
 unfold plainElem
 rw [Tryz.underlying4]
theorem grpA_mem {l:List Fct}{x:Who}{i:Nat}:i∈grpA l x ↔ i<l.length∧wantB (atF l i)=true∧who false (atF l i)=x:=by
 unfold grpA
 rw [List.mem_filter,List.mem_range,Bool.and_eq_true,decide_eq_true_eq]
theorem want_kd {f:Fct}(h:wantB f=true):f.kd≠0:=fun e=>by
 unfold wantB at h
 rw [e] at h
 simp at h
theorem adr_dif {l:List Fct}(js:List Nat):difK js (fun j=>keyF true (atF l j))=(js.foldl (fun ks j=>addK ks (who true (atF l j))) []).length:=by
 obtain ⟨h1,h2⟩:=fold_addK (fun j=>who true (atF l j)) js [] List.nodup_nil
 let kw:Who→List UInt8:=fun x=>match x with | .client p r=>keyN p r | .from k b=>keyA k b
 have hkw:∀ j,kw (who true (atF l j))=keyF true (atF l j):=fun j=>rfl
 rw [← List.length_map kw]
 refine difK_any (List.pairwise_map.2 (h1.imp_of_mem fun {a b} ha hb hab e=>?_)) fun s=>?_
 ·rcases (h2 a).1 ha with h | ⟨ja,_,ea⟩
  ·simp at h
  ·rcases (h2 b).1 hb with h | ⟨jb,_,eb⟩
   ·simp at h
   ·rw [← ea,← eb,hkw,hkw] at e
    exact hab (by rw [← ea,← eb];exact keyF_inj.1 e)
 ·constructor
  ·intro hm
   obtain ⟨x,hx,rfl⟩:=List.mem_map.1 hm
   rcases (h2 x).1 hx with h | ⟨j,hj,rfl⟩
   ·simp at h
   ·exact ⟨j,hj,rfl⟩
  ·rintro ⟨j,hj,rfl⟩
   exact List.mem_map.2 ⟨_,(h2 _).2 (.inr ⟨j,hj,rfl⟩),rfl⟩
def sufN (l:List Fct)(g:List Nat):Nat:=(g.filter fun j=>sucB (atF l j)).length
def plnN (l:List Fct)(g:List Nat):Nat:=(g.filter fun j=>plnB (atF l j)).length
theorem filt_snoc (P:Nat→Bool)(g:List Nat)(i:Nat):(((g++[i]).filter P).length:Int)=((g.filter P).length:Int)+if P i then 1 else 0:=by
 rw [List.filter_append,List.length_append,List.filter_cons]
 cases P i<;>simp
theorem addr_zero (a:Addr):a.add 0=a:=by unfold Addr.add;simp
def ACR (l:List Fct)(i0:Nat)(w:World)(e:Ending)(w':World):Prop:=∃ m:VV,e=.returned m.val∧m.In w'∧m.Is (actF l i0)∧m.cp.length≤1000∧STB w' m.CA
set_option maxRecDepth 100000 in
set_option maxHeartbeats 8000000 in
theorem Activity_at (A:Option Addr) (c:Nat) (xs:List FV) (G:Option Addr) (gc:Nat) (g:List Nat) (x:Who) (i0:Nat) (w:World) (hF:FS w (.slice A xs.length c) xs) (hn:xs.length≤1000) (hz:∀ f∈xs,f.Sz) (hwf:∀ f∈xs,i64B f.fk) (hp:Pow w)
  (hg:g=grpA (xs.map FV.fct) x) (hi0:g[0]? = some i0) (hG:RS w (.slice G g.length gc) (iv g)):
  Calls Tryz.prog 72 #[.slice A xs.length c,.slice G g.length gc] w fun e w'=>ACR (xs.map FV.fct) i0 w e w'∧Ext w w':=by
 have hmm:=@run_makeMap Tryz.prog
 have HMEM:=Lib.hid (fun i (hi:i∈g)=>(show i<xs.length∧wantB (atF (xs.map FV.fct) i)=true∧who false (atF (xs.map FV.fct) i)=x from by
  rw [hg] at hi
  have:=grpA_mem.1 hi
  rwa [List.length_map] at this))
 have hgl0:0<g.length:=(List.getElem?_eq_some_iff.1 hi0).1
 have hgl:g.length≤1000:=by
  rw [hg]
  have h1:=List.length_filter_le (fun j=>wantB (atF (xs.map FV.fct) j)&&decide (who false (atF (xs.map FV.fct) j)=x)) (List.range (xs.map FV.fct).length)
  rw [List.length_range,List.length_map] at h1
  unfold grpA
  rw [List.length_map]
  omega
 obtain ⟨p,hpl⟩:∃ p,p+1=g.length:=⟨g.length-1,by omega⟩
 obtain ⟨iL,hiL⟩:∃ i,g[p]? = some i:=⟨_,List.getElem?_eq_getElem (by omega)⟩
 have HM0:=Lib.hid (HMEM.out i0 (List.mem_of_getElem? hi0));have HML:=Lib.hid (HMEM.out iL (List.mem_of_getElem? hiL))
 obtain ⟨gad,rfl,hg0⟩:=iv_at hG hi0
 obtain ⟨_,hgad,hgL⟩:=iv_at hG hiL
 injection hgad with hgad
 subst hgad
 obtain ⟨hgc1,hgc2⟩:=iv_cap hG
 obtain ⟨hin0,ad,rfl,hq0⟩:=hF.f12 i0 HM0.out.1
 obtain ⟨hinL,ad',hadr,hqL⟩:=hF.f12 iL HML.out.1
 injection hadr with hadr
 subst hadr
 have HAT0:=Lib.hid (atF_xs HM0.out.1);have HATL:=Lib.hid (atF_xs HML.out.1)
 have HSZ0:=Lib.hid (hz _ (List.getElem_mem HM0.out.1))
 have hi0n:=HM0.out.1;have hiLn:=HML.out.1
 obtain ⟨f0,hf0⟩:∃ f,xs[i0]'HM0.out.1=f:=⟨_,rfl⟩
 obtain ⟨fL,hfL⟩:∃ f,xs[iL]'HML.out.1=f:=⟨_,rfl⟩
 rw [hf0] at hin0 hq0 HAT0 HSZ0
 rw [hfL] at hqL HATL
 have HF:=Lib.hid hF;have HZ:=Lib.hid hz;have HWF:=Lib.hid hwf;have HP:=Lib.hid hp;have HGR:=Lib.hid hG;have HG:=Lib.hid hg
 have HACT:=Lib.hid (show ∀ m:VV,dat m.cp=dat f0.cp→m.cr=f0.cr→m.rq=(g.length:Int)→m.su=(sufN (xs.map FV.fct) g:Int)→m.pl=(plnN (xs.map FV.fct) g:Int)→m.ad=(difK g (fun j=>keyF true (atF (xs.map FV.fct) j)):Int)→m.f=f0.t→m.l=fL.t→m.Is (actF (xs.map FV.fct) i0) from fun m a1 a2 a3 a4 a5 a6 a7 a8=>by
  have hx:who false (atF (xs.map FV.fct) i0)=x:=HM0.out.2.2
  have hgg:grpA (xs.map FV.fct) (who false (atF (xs.map FV.fct) i0))=g:=by rw [hx,hg]
  have hla:g.getLast?.getD i0=iL:=by
   rw [List.getLast?_eq_getElem?,show g.length-1=p by omega,hiL]
   rfl
  refine ⟨?_,?_,?_,?_,?_,?_,?_,?_⟩
  ·rw [a1];unfold actF;rw [HAT0.out];rfl
  ·rw [a2];unfold actF;rw [HAT0.out];rfl
  ·rw [a3];unfold actF;rw [hgg]
  ·rw [a4];unfold actF sufN;rw [hgg]
  ·rw [a5];unfold actF plnN;rw [hgg]
  ·rw [a6,adr_dif];unfold actF;rw [hgg]
  ·rw [a7];unfold actF;rw [HAT0.out];rfl
  ·rw [a8];unfold actF;rw [hgg,hla,HATL.out];rfl)
 obtain ⟨n,hn'⟩:∃ n,xs.length=n:=⟨_,rfl⟩
 obtain ⟨gl,hgl'⟩:∃ n,g.length=n:=⟨_,rfl⟩
 have HN:=Lib.hid hn';have HGL:=Lib.hid hgl'
 rw [hn'] at hn hi0n hiLn HF ⊢
 rw [hgl'] at hgl hgl0 hpl hgc1 HACT ⊢
 have HPL:=Lib.hid (show p<gl by omega);have HIL:=Lib.hid hiLn
 have hsub:wrap64 ((gl:Int)-1)=(p:Int):=by rw [IntWalk.wrap64_in _ (by omega)];omega
 have hsub2:(gl:Int)-1=(p:Int):=by omega
 have z0:RW (w.alloc (.cells #[.slice none 0 0,.string ⟨#[]⟩,.int .i64 0,.int .i64 0,.int .i64 0,.int .i64 0,.int .i64 0,.int .i64 0] 58)) w.heap.size 58 #[.slice none 0 0,.string ⟨#[]⟩,.int .i64 0,.int .i64 0,.int .i64 0,.int .i64 0,.int .i64 0,.int .i64 0]:=heap_alloc_new w _
 have x0:=(Ext.refl w).alloc (.cells #[.slice none 0 0,.string ⟨#[]⟩,.int .i64 0,.int .i64 0,.int .i64 0,.int .i64 0,.int .i64 0,.int .i64 0] 58)
 obtain ⟨W0,e0⟩:∃ W,w.alloc (.cells #[.slice none 0 0,.string ⟨#[]⟩,.int .i64 0,.int .i64 0,.int .i64 0,.int .i64 0,.int .i64 0,.int .i64 0] 58)=W:=⟨_,rfl⟩
 have s0:W0.heap.size=w.heap.size+1:=by rw [← e0,World.size_alloc]
 rw [e0] at z0 x0
 have z5:=heap_alloc_new W0 (.cells #[.int .i64 0,.int .i64 0,.int .i64 0,.int .i64 0,.slice none 0 0,.slice none 0 0,.string ⟨#[]⟩,.slice none 0 0,.string ⟨#[]⟩,.int .i64 0,.int .i64 0,.int .u32 0] 41)
 have x5:=(Ext.refl W0).alloc (.cells #[.int .i64 0,.int .i64 0,.int .i64 0,.int .i64 0,.slice none 0 0,.slice none 0 0,.string ⟨#[]⟩,.slice none 0 0,.string ⟨#[]⟩,.int .i64 0,.int .i64 0,.int .u32 0] 41)
 obtain ⟨W5,e5⟩:∃ W,W0.alloc (.cells #[.int .i64 0,.int .i64 0,.int .i64 0,.int .i64 0,.slice none 0 0,.slice none 0 0,.string ⟨#[]⟩,.slice none 0 0,.string ⟨#[]⟩,.int .i64 0,.int .i64 0,.int .u32 0] 41)=W:=⟨_,rfl⟩
 rw [e5] at z5 x5
 have hgc0:W0.cell? gad=some (.int .i64 (i0:Int)):=by have:=x0.cell hg0;rwa [addr_zero] at this
 obtain ⟨u0,u1,u2,u3,u4,u5,u6,u7,u8,u9,u10,u11⟩:=(hq0.ext x0).cells
 have HZ0:=Lib.hid (RW.ext z0 x5);have HX5:=Lib.hid (x0.trans x5);have HQL0:=Lib.hid hqL;have HIN0:=Lib.hid hin0;have HGC:=Lib.hid hgL;have HS0:=Lib.hid s0
 clear hF hz hwf hp hg hG hi0 hiL hin0 hinL hq0 hqL hf0 hfL hn' hgl' z0 x0 x5 hgL s0 hgc2
 go_enter Tryz.func72,Tryz.ntmps72
 go_upto_region 2 with (first | (refine wpList_store_var W5 rfl (.tmp 5) (.tmp 16) 41 rfl W0.heap.size 41 #[.int .i64 0,.int .i64 0,.int .i64 0,.int .i64 0,.slice none 0 0,.slice none 0 0,.string ⟨#[]⟩,.slice none 0 0,.string ⟨#[]⟩,.int .i64 0,.int .i64 0,.int .u32 0] #[.int .i64 f0.t,.int .i64 f0.mi,.int .i64 f0.kd,.int .i64 f0.fk,.slice f0.FA f0.fb.length f0.fc,.slice f0.CA f0.cp.length f0.cc,.string f0.cr,.slice f0.SA f0.sp.length f0.sc,.string f0.sr,.int .i64 f0.co,.int .i64 f0.pr,.int .u32 (f0.fl.toNat:Int)] rfl rfl (Tryz.sizeOf41 W5) z5 rfl (one8 rfl) ?_;intro wt b3 hg3) | fail)
 have hx3:Ext W0 W5:=e5 ▸ (Ext.refl W0).alloc _
 have hlt0:w.heap.size<W0.heap.size:=by rw [HS0.out];omega
 have HXT:=Lib.hid (show Ext w wt from HX5.out.grown hg3 (fun j hj=>by cases hj;omega))
 have HZT:=Lib.hid (show RW wt w.heap.size 58 #[.slice none 0 0,.string ⟨#[]⟩,.int .i64 0,.int .i64 0,.int .i64 0,.int .i64 0,.int .i64 0,.int .i64 0] from (hg3.block w.heap.size (Array.getElem?_eq_some_iff.1 HZ0.out).1 (fun e=>by injection e with e;omega)).trans HZ0.out)
 have HB5:=Lib.hid (show FQ wt W0.heap.size f0 from b3)
 have HLT:=Lib.hid (show w.heap.size<wt.heap.size from (Array.getElem?_eq_some_iff.1 HZT.out).1)
 have HGL2:=Lib.hid (HXT.out.cell HGC.out);have HQL:=Lib.hid (HQL0.out.ext HXT.out)
 have HCP:=Lib.hid (fun W (hW:Ext wt W)=>NCopy_at f0.CA f0.cc f0.cp f0.cr HSZ0.out.cp W (HIN0.out.cp.ext (HXT.out.trans hW)))
 clear e0 e5 z5 b3 hg3 hx3 hlt0 hgc0 u0 u1 u2 u3 u4 u5 u6 u7 u8 u9 u10 u11
 refine wp_region_ext_tail 19 (fun i v' w'=>match i with | 2=>∃ A2 c2,v'=.agg #[.slice A2 f0.cp.length c2,.string f0.cr]∧RS w' (.slice A2 f0.cp.length c2) (sv f0.cp)∧STB w' A2 | 18=>∃ g,v'=.pointer (some ⟨g,0,none⟩)∧wt.heap.size≤g∧w'.heap[g]? = some (.cells #[.slice none 0 0,.string ⟨#[]⟩,.int .i64 0,.int .i64 0,.int .i64 0,.int .i64 0,.int .i64 0,.int .i64 0] 58 (0,0)) | _=>False) (by kernel_rfl) (by kernel_rfl) ?_
 refine wpE_op rfl rfl (fun w' hw' K' hK'=>?_)
 have hE:=hw'.1
 go_step
 refine hK' _ ⟨_,rfl⟩ ?_
 clear hK' K' hE hw' w'
 refine wpE_op rfl rfl (fun w' hw' K' hK'=>?_)
 have hE:=hw'.1
 obtain ⟨u0,u1,u2,u3,u4,u5,u6,u7,u8,u9,u10,u11⟩:=(HB5.out.ext ((Ext.drew wt).trans hE)).cells
 go_step
 refine hK' _ ⟨_,rfl⟩ ?_
 clear hK' K' u0 u1 u2 u3 u4 u5 u6 u7 u8 u9 u10 u11 hE hw' w'
 refine wpE_call 19 rfl (by simp) rfl (fun w' hw' K' hK'=>?_) ?_
 ·have hE:=hw'.1
  go_step
  refine (HCP.out w' ((Ext.drew wt).trans hE)).mono ?_
  rintro _ w2 ⟨A2,c2,rfl,how,hx⟩
  exact hK' _ _ ⟨_,rfl,A2,c2,rfl,RS.of_own how,stb_own how⟩ hx
 rintro _ w19 hE19 ⟨A2,c2,rfl,hrs19,hst19⟩
 simp only [Act.put,sT1,sT2,sT3]
 refine wpE_op rfl rfl (fun w' hw' K' hK'=>?_)
 have hE:=hw'.1
 go_step
 refine hK' _ ⟨_,rfl⟩ ?_
 clear hK' K' hE hw' w'
 refine wpE_op rfl rfl (fun w' hw' K' hK'=>?_)
 have hE:=hw'.1
 go_step
 refine hK' _ ⟨_,rfl⟩ ?_
 clear hK' K' hE hw' w'
 refine wpE_op rfl rfl (fun w' hw' K' hK'=>?_)
 have hE:=hw'.1
 go_step
 refine hK' _ ⟨_,rfl⟩ ?_
 clear hK' K' hE hw' w'
 refine wpE_op rfl rfl (fun w' hw' K' hK'=>?_)
 have hE:=hw'.1
 obtain ⟨u0,u1,u2,u3,u4,u5,u6,u7,u8,u9,u10,u11⟩:=(HB5.out.ext ((Ext.drew wt).trans hE)).cells
 go_step
 refine hK' _ ⟨_,rfl⟩ ?_
 clear hK' K' u0 u1 u2 u3 u4 u5 u6 u7 u8 u9 u10 u11 hE hw' w'
 refine wpE_op rfl rfl (fun w' hw' K' hK'=>?_)
 have hE:=hw'.1
 go_step
 refine hK' _ ⟨_,rfl⟩ ?_
 clear hK' K' hE hw' w'
 refine wpE_op rfl rfl (fun w' hw' K' hK'=>?_)
 have hE:=hw'.1
 go_step
 refine hK' _ ⟨_,rfl⟩ ?_
 clear hK' K' hE hw' w'
 refine wpE_op rfl rfl (fun w' hw' K' hK'=>?_)
 have hE:=hw'.1
 go_step
 refine hK' _ ⟨_,rfl⟩ ?_
 clear hK' K' hE hw' w'
 refine wpE_op rfl rfl (fun w' hw' K' hK'=>?_)
 have hE:=hw'.1
 go_step
 refine hK' _ ⟨_,rfl⟩ ?_
 clear hK' K' hE hw' w'
 refine wpE_op rfl rfl (fun w' hw' K' hK'=>?_)
 have hE:=hw'.1
 go_step
 refine hK' _ ⟨_,rfl⟩ ?_
 clear hK' K' hE hw' w'
 refine wpE_op rfl rfl (fun w' hw' K' hK'=>?_)
 have hE:=hw'.1
 have hpl:=HPL.out
 go_step
 refine hK' _ ⟨_,rfl⟩ ?_
 clear hK' K' hpl hE hw' w'
 refine wpE_op rfl rfl (fun w' hw' K' hK'=>?_)
 have hE:=hw'.1
 have hgc:=((Ext.drew wt).trans hE).cell HGL2.out
 go_step
 refine hK' _ ⟨_,rfl⟩ ?_
 clear hK' K' hgc hE hw' w'
 refine wpE_op rfl rfl (fun w' hw' K' hK'=>?_)
 have hE:=hw'.1
 have hil:=HIL.out
 go_step
 refine hK' _ ⟨_,rfl⟩ ?_
 clear hK' K' hil hE hw' w'
 refine wpE_op rfl rfl (fun w' hw' K' hK'=>?_)
 have hE:=hw'.1
 go_step
 refine hK' _ ⟨_,rfl⟩ ?_
 clear hK' K' hE hw' w'
 refine wpE_op rfl rfl (fun w' hw' K' hK'=>?_)
 have hE:=hw'.1
 obtain ⟨u0,u1,u2,u3,u4,u5,u6,u7,u8,u9,u10,u11⟩:=(HQL.out.ext ((Ext.drew wt).trans hE)).cells
 go_step
 refine hK' _ ⟨_,rfl⟩ ?_
 clear hK' K' u0 u1 u2 u3 u4 u5 u6 u7 u8 u9 u10 u11 hE hw' w'
 refine wpE_op rfl rfl (fun w' hw' K' hK'=>?_)
 have hE:=hw'.1
 go_step
 refine hK' _ ⟨_,rfl⟩ ?_
 clear hK' K' hE hw' w'
 refine wpE_call 6 rfl (by simp) rfl (fun w' hw' K' hK'=>?_) ?_
 ·have hE:=hw'.1
  go_step
  have hg:=heap_alloc_new w' (.cells #[.slice none 0 0,.string ⟨#[]⟩,.int .i64 0,.int .i64 0,.int .i64 0,.int .i64 0,.int .i64 0,.int .i64 0] 58)
  have hxa:=(Ext.refl w').alloc (.cells #[.slice none 0 0,.string ⟨#[]⟩,.int .i64 0,.int .i64 0,.int .i64 0,.int .i64 0,.int .i64 0,.int .i64 0] 58)
  have hle:=((Ext.drew wt).trans hE).size
  exact hK' _ _ ⟨_,rfl,_,rfl,hle,hg⟩ hxa
 rintro _ wgx hEg ⟨g6,rfl,hle6,hg6⟩
 simp only [Act.put,sT1,sT2,sT3]
 refine wpE_nil (fun W hW=>?_)
 have HXW:=Lib.hid ((Ext.drew wt).trans hW.1)
 have HRS:=Lib.hid (hrs19.ext (hW.2 19 w19 (by simp [adds])));have HST:=Lib.hid (hst19.ext (hW.2 19 w19 (by simp [adds])))
 have HG6:=Lib.hid (show RW W g6 58 #[.slice none 0 0,.string ⟨#[]⟩,.int .i64 0,.int .i64 0,.int .i64 0,.int .i64 0,.int .i64 0,.int .i64 0] from (hW.2 6 wgx (by simp [adds])).heap hg6)
 have HL6:=Lib.hid hle6
 simp only [List.drop_succ_cons,List.drop_zero]
 clear hW hrs19 hst19 hg6 hle6 hE19 hEg
 obtain ⟨m0,hm0⟩:∃ m:VV,(⟨A2,f0.cp,c2,f0.cr,(gl:Int),0,0,0,f0.t,fL.t⟩:VV)=m:=⟨_,rfl⟩
 go_upto_region 4 with (first | (refine wpList_store_var W rfl (.tmp 6) (.tmp 34) 58 rfl g6 58 #[.slice none 0 0,.string ⟨#[]⟩,.int .i64 0,.int .i64 0,.int .i64 0,.int .i64 0,.int .i64 0,.int .i64 0] #[.slice A2 f0.cp.length c2,.string f0.cr,.int .i64 (gl:Int),.int .i64 0,.int .i64 0,.int .i64 0,.int .i64 f0.t,.int .i64 fL.t] rfl rfl (Tryz.sizeOf58 W) HG6.out rfl (one8 rfl) ?_;intro WB b6 hg6) | fail)
 have HNM:=Lib.hid (show w.heap.size<g6 from Nat.lt_of_lt_of_le HLT.out HL6.out)
 have HXB:=Lib.hid (show Ext w WB from (HXT.out.trans HXW.out).grown hg6 (fun j hj=>by cases hj;exact Nat.le_of_lt HNM.out))
 have hm1:BMap (WB.alloc (.map #[] 0)) WB.heap.size (.map []):=BMap.of (World.ownsMap_made _ _ _ _)
 have hxm:=(Ext.refl WB).alloc (.map #[] 0)
 obtain ⟨WM,eM⟩:∃ W,WB.alloc (.map #[] 0)=W:=⟨_,rfl⟩
 rw [eM] at hm1 hxm
 have HAC:=Lib.hid (show ACV w WM g6 WB.heap.size m0 (.map []) from by
  have hz:RW WB w.heap.size 58 #[.slice none 0 0,.string ⟨#[]⟩,.int .i64 0,.int .i64 0,.int .i64 0,.int .i64 0,.int .i64 0,.int .i64 0]:=(hg6.block w.heap.size (Array.getElem?_eq_some_iff.1 (HZT.out.ext HXW.out)).1 (fun e=>by injection e with e;have:=HNM.out;omega)).trans (HZT.out.ext HXW.out)
  have hne:=stb_zero HST.out HG6.out
  subst hm0
  refine ⟨HXB.out.trans hxm,hz.ext hxm,V8.ext b6 hxm,RS.ext (RS.off HRS.out (fun _ ad hA e=>hne ad hA (by injection e with e;exact e.symm)) hg6) hxm,?_,hm1,HNM.out,Nat.lt_of_lt_of_le HLT.out (Nat.le_trans HXW.out.size hg6.size),fun e=>?_⟩
  ·intro ad hA
   obtain ⟨cs,e⟩:=HST.out ad hA
   exact ⟨cs,hxm.heap ((hg6.block ad.block (Array.getElem?_eq_some_iff.1 e).1 (fun e2=>by injection e2 with e2;exact hne ad hA e2)).trans e)⟩
  ·have h1:=(Array.getElem?_eq_some_iff.1 b6).1
   omega)
 have HM0C:=Lib.hid hm0
 obtain ⟨gm,hgm⟩:∃ gm,WB.heap.size=gm:=⟨_,rfl⟩
 rw [hgm] at HAC ⊢
 clear hg6 b6 hm1 hxm hgm hm0 hsub hsub2
 go_wp2_with fail
 go_loopw [9,10,38] (fun _ _ v wr=>∃ (k:Nat) (m:VV) (D:DataW Unit),v=.int .i64 k∧k≤gl∧Hid (ACV w wr g6 gm m D)∧Hid (m={ m0 with su:=(sufN (xs.map FV.fct) (g.take k):Int),pl:=(plnN (xs.map FV.fct) (g.take k):Int) })∧Hid (BD D (g.take k) (fun j=>keyF true (atF (xs.map FV.fct) j)))) (fun _ _ v _=>gl-(intOf v).toNat)
 case atStart=>exact ⟨0,m0,.map [],rfl,Nat.zero_le _,HAC,Lib.hid (by rw [← HM0C.out];rfl),Lib.hid (BD.start _)⟩
 case round=>
  obtain ⟨k,m,D,rfl,hk,HA,HME,HBD⟩:=hrel
  obtain ⟨wo,rfl⟩:∃ wo:World,wo=wr:=⟨_,rfl⟩
  by_cases hlt:k<gl
  ·obtain ⟨i,hi⟩:∃ i,g[k]? = some i:=⟨_,List.getElem?_eq_getElem (by rw [HGL.out];exact hlt)⟩
   have hmi:=HMEM.out i (List.mem_of_getElem? hi)
   have HWA:=Lib.hid hmi.2.1
   have hin:=hmi.1
   rw [HN.out] at hin
   obtain ⟨_,e1,hgk⟩:=iv_at HGR.out hi
   injection e1 with e1
   subst e1
   have hgk':=HA.out.ex.cell hgk
   obtain ⟨hinf,ad',hadr,hq⟩:=HF.out.f12 i hmi.1
   injection hadr with hadr
   subst hadr
   have HTK:=Lib.hid (show g.take (k+1)=g.take k++[i] by
    rw [List.take_add_one,hi];rfl)
   have HAI:=Lib.hid (atF_xs hmi.1)
   have hsz:=HZ.out _ (List.getElem_mem hmi.1)
   have hkf:=HWF.out _ (List.getElem_mem hmi.1)
   obtain ⟨f,hf⟩:∃ f,xs[i]'hmi.1=f:=⟨_,rfl⟩
   rw [hf] at hinf hq HAI hsz hkf
   have HINF:=Lib.hid hinf;have HSZF:=Lib.hid hsz;have HKF:=Lib.hid hkf
   have HKD:=Lib.hid (want_kd (by rw [← HAI.out];exact HWA.out):f.fct.kd≠0)
   have HKY:=Lib.hid (show (fun j=>keyF true (atF (xs.map FV.fct) j)) i=keyA f.fk f.fb by show keyF true (atF (xs.map FV.fct) i)=_;rw [HAI.out];rfl)
   have HSN:=Lib.hid (show (sufN (xs.map FV.fct) (g.take (k+1)):Int)=(sufN (xs.map FV.fct) (g.take k):Int)+if sucB f.fct then 1 else 0 by unfold sufN;rw [HTK.out,filt_snoc,HAI.out])
   have HPN:=Lib.hid (show (plnN (xs.map FV.fct) (g.take (k+1)):Int)=(plnN (xs.map FV.fct) (g.take k):Int)+if plnB f.fct then 1 else 0 by unfold plnN;rw [HTK.out,filt_snoc,HAI.out])
   have HB1:=Lib.hid (show (sufN (xs.map FV.fct) (g.take k):Int)≤1000∧(plnN (xs.map FV.fct) (g.take k):Int)≤1000∧(0:Int)≤(sufN (xs.map FV.fct) (g.take k):Int)∧(0:Int)≤(plnN (xs.map FV.fct) (g.take k):Int) from by
    have h1:=List.length_filter_le (fun j=>sucB (atF (xs.map FV.fct) j)) (g.take k)
    have h2:=List.length_filter_le (fun j=>plnB (atF (xs.map FV.fct) j)) (g.take k)
    rw [List.length_take] at h1 h2
    unfold sufN plnN
    omega)
   obtain ⟨u0,u1,u2,u3,u4,u5,u6,u7,u8,u9,u10,u11⟩:=(hq.ext HA.out.ex).cells
   have zZ:=heap_alloc_new wo (.cells #[.int .i64 0,.int .i64 0,.int .i64 0,.int .i64 0,.slice none 0 0,.slice none 0 0,.string ⟨#[]⟩,.slice none 0 0,.string ⟨#[]⟩,.int .i64 0,.int .i64 0,.int .u32 0] 41)
   have xZ:=(Ext.refl wo).alloc (.cells #[.int .i64 0,.int .i64 0,.int .i64 0,.int .i64 0,.slice none 0 0,.slice none 0 0,.string ⟨#[]⟩,.slice none 0 0,.string ⟨#[]⟩,.int .i64 0,.int .i64 0,.int .u32 0] 41)
   obtain ⟨WZ,eZ⟩:∃ W,wo.alloc (.cells #[.int .i64 0,.int .i64 0,.int .i64 0,.int .i64 0,.slice none 0 0,.slice none 0 0,.string ⟨#[]⟩,.slice none 0 0,.string ⟨#[]⟩,.int .i64 0,.int .i64 0,.int .u32 0] 41)=W:=⟨_,rfl⟩
   rw [eZ] at zZ xZ
   clear hi hmi hf hinf hq hsz hkf hgk
   go_upto_region 8 with (first | (refine wpList_store_var WZ rfl (.tmp 10) (.tmp 45) 41 rfl wo.heap.size 41 #[.int .i64 0,.int .i64 0,.int .i64 0,.int .i64 0,.slice none 0 0,.slice none 0 0,.string ⟨#[]⟩,.slice none 0 0,.string ⟨#[]⟩,.int .i64 0,.int .i64 0,.int .u32 0] #[.int .i64 f.t,.int .i64 f.mi,.int .i64 f.kd,.int .i64 f.fk,.slice f.FA f.fb.length f.fc,.slice f.CA f.cp.length f.cc,.string f.cr,.slice f.SA f.sp.length f.sc,.string f.sr,.int .i64 f.co,.int .i64 f.pr,.int .u32 (f.fl.toNat:Int)] rfl rfl (Tryz.sizeOf41 WZ) zZ rfl (one8 rfl) ?_;intro WC b3 hg3) | fail)
   have x3:Ext wo WC:=Below.grown xZ hg3 xZ.size (fun j hj=>by cases hj;exact Nat.le_refl _)
   have HA3:=Lib.hid (HA.out.ext x3)
   have HB3:=Lib.hid (show FQ WC wo.heap.size f from b3)
   have HLTB:=Lib.hid (show g6<wo.heap.size∧gm<wo.heap.size from ⟨(Array.getElem?_eq_some_iff.1 HA.out.b6).1,by
    obtain ⟨es,clock,hb,_⟩:=HA.out.mp
    exact (Array.getElem?_eq_some_iff.1 hb).1⟩)
   clear zZ xZ eZ hg3 b3 x3 u0 u1 u2 u3 u4 u5 u6 u7 u8 u9 u10 u11 hgk'
   have HKC:=Lib.hid (keyFrom_at f WC (HINF.out.ext HA3.out.ex) HSZF.out HKF.out (HP.out.ext HA3.out.ex))
   rw [show keyA f.fct.fk f.fct.fb=keyA f.fk f.fb from rfl] at HKC
   unfold FV.val at HKC
   have HKL:=Lib.hid (keyA_len HKF.out HSZF.out.fb)
   obtain ⟨KY,hKY⟩:∃ K,keyA f.fk f.fb=K:=⟨_,rfl⟩
   rw [hKY] at HKC HKL HKY
   obtain ⟨u0,u1,u2,u3,u4,u5,u6,u7,u8,u9,u10,u11⟩:=HB3.out.cells
   clear hKY
   go_wp2_with fail
   refine HKC.out.mono ?_
   rintro _ w4 ⟨rfl,hx4⟩
   have HA4:=Lib.hid (HA3.out.ext hx4);have HB4:=Lib.hid (HB3.out.ext hx4)
   have hown:=HA4.out.mp
   have hkey:=keyLit KY (by have:=HKL.out;unfold maxLen;omega)
   have hsl:Maps.size D<maxLen:=by
    have h1:=HBD.out.size (World.ownsMap.entries HA4.out.mp lawStr)
    have h2:=difK_le (g.take k) (fun j=>keyF true (atF (xs.map FV.fct) j))
    rw [List.length_take] at h2
    unfold maxLen
    omega
   unfold BMap at hown
   clear hx4 u0 u1 u2 u3 u4 u5 u6 u7 u8 u9 u10 u11
   go_upto_region 9 with (first
    | (at_mapUpdate;refine wpList_mapUpdate_own _ rfl _ _ _ 176 rfl 9 4 lawStr Tryz.underlying176 _ gm _ D rfl hown hsl _ _ _ rfl rfl hkey _ [] (boolElem true) ?_;intro W5 hown5 hgr5)
    | fail)
   have HA5:=Lib.hid (HA4.out.upd hgr5 hown5)
   have HB5':=Lib.hid (show FQ W5 wo.heap.size f from (hgr5.block wo.heap.size (Array.getElem?_eq_some_iff.1 HB4.out).1 (fun e=>by injection e with e;have:=HLTB.out.2;omega)).trans HB4.out)
   have HBD5:=Lib.hid (show BD (D.put (.string KY) (.lit (.bool true))) (g.take (k+1)) (fun j=>keyF true (atF (xs.map FV.fct) j)) by
    rw [HTK.out,← HKY.out]
    exact HBD.out.add i _)
   generalize D.put (.string KY) (.lit (.bool true))=D5 at *
   have HSC:=Lib.hid (success_at f W5)
   rw [show (sucB f.fct && !decide (f.kd=0))=sucB f.fct by rw [decide_eq_false (show ¬ f.kd=0 from HKD.out)];cases sucB f.fct<;>rfl] at HSC
   unfold FV.val at HSC
   obtain ⟨u0,u1,u2,u3,u4,u5,u6,u7,u8,u9,u10,u11⟩:=HB5'.out.cells
   clear hown hsl hkey hown5 hgr5 HA4 HB4 HA3 HB3
   cases hs:sucB f.fct with
   | false=>
    rw [hs] at HSC
    have hpl:plnB f.fct=false:=by unfold plnB;unfold sucB at hs;rw [hs];rfl
    have HM2:=Lib.hid (show m={ m0 with su:=(sufN (xs.map FV.fct) (g.take (k+1)):Int),pl:=(plnN (xs.map FV.fct) (g.take (k+1)):Int) } by rw [HSN.out,HPN.out,hs,hpl,HME.out];simp)
    clear hs hpl
    go_wp2_with fail
    refine HSC.out.mono ?_
    rintro _ w6 ⟨rfl,hx6⟩
    have HA6:=Lib.hid (HA5.out.ext hx6)
    clear hx6
    go_wp2_with fail
    go_roundw
    case rel=>exact ⟨k+1,m,D5,by go_num,by omega,HA6,HM2,HBD5⟩
    case measure=>simp [intOf];omega
   | true=>
    rw [hs] at HSC
    have HS:=Lib.hid hs
    clear hs
    go_wp2_with fail
    refine HSC.out.mono ?_
    rintro _ w6 ⟨rfl,hx6⟩
    have HA6:=Lib.hid (HA5.out.ext hx6);have HB6:=Lib.hid (HB5'.out.ext hx6)
    clear hx6 u0 u1 u2 u3 u4 u5 u6 u7 u8 u9 u10 u11
    have hc3:w6.cell? ⟨g6,3,none⟩=some (.int .i64 (sufN (xs.map FV.fct) (g.take k):Int)):=by
     have h:=HA6.out.b6.cells.2.2.2.1
     rw [HME.out] at h
     exact h
    have hz3:w6.frozen? ⟨g6,3,none⟩=false:=RW.soft HA6.out.b6 3
    have hwr:wrap64 ((sufN (xs.map FV.fct) (g.take k):Int)+1)=(sufN (xs.map FV.fct) (g.take k):Int)+1:=by have:=HB1.out;exact IntWalk.wrap64_in _ (by omega)
    have HA7:=Lib.hid (HA6.out.put (m':={ m with su:=(sufN (xs.map FV.fct) (g.take k):Int)+1 }) 3 (.int .i64 ((sufN (xs.map FV.fct) (g.take k):Int)+1)) (RW.set HA6.out.b6 3 _) rfl rfl rfl)
    have HB7:=Lib.hid (show FQ (w6.setCell ⟨g6,3,none⟩ (.int .i64 ((sufN (xs.map FV.fct) (g.take k):Int)+1))) wo.heap.size f from heap_set_ne HB6.out (show wo.heap.size≠g6 by have:=HLTB.out.1;omega))
    have hsu0:=HB1.out.2.2.1;have hsu1:=HB1.out.1
    obtain ⟨sN,hsN⟩:∃ s:Int,(sufN (xs.map FV.fct) (g.take k):Int)=s:=⟨_,rfl⟩
    rw [hsN] at hc3 hwr HA7 HB7 hsu0 hsu1
    have HSN2:=Lib.hid hsN
    obtain ⟨W7,e7⟩:∃ W,w6.setCell ⟨g6,3,none⟩ (.int .i64 (sN+1))=W:=⟨_,rfl⟩
    rw [e7] at HA7 HB7
    clear hsN
    obtain ⟨u0,u1,u2,u3,u4,u5,u6,u7,u8,u9,u10,u11⟩:=HB7.out.cells
    have hc4:W7.cell? ⟨g6,4,none⟩=some (.int .i64 (plnN (xs.map FV.fct) (g.take k):Int)):=by
     have h:=HA7.out.b6.cells.2.2.2.2.1
     have h2:m.pl=(plnN (xs.map FV.fct) (g.take k):Int):=by rw [HME.out]
     rw [← h2]
     exact h
    have hz4:W7.frozen? ⟨g6,4,none⟩=false:=RW.soft HA7.out.b6 4
    have hpn0:=HB1.out.2.2.2;have hpn1:=HB1.out.2.1
    obtain ⟨pN,hpN⟩:∃ s:Int,(plnN (xs.map FV.fct) (g.take k):Int)=s:=⟨_,rfl⟩
    rw [hpN] at hc4 hpn0 hpn1
    have HPN2:=Lib.hid hpN
    clear hpN
    by_cases h10:f.kd=10∧f.pr=0
    ·have q1:(f.kd==10)=true:=by rw [h10.1];rfl
     have q2:(f.pr==0)=true:=by rw [h10.2];rfl
     have hpl:plnB f.fct=true:=by
      unfold plnB
      have h1:=HS.out
      unfold sucB at h1
      rw [h1,decide_eq_true (show f.fct.kd=10 from h10.1),decide_eq_true (show f.fct.pr=0 from h10.2)]
      rfl
     have hwp:wrap64 (pN+1)=pN+1:=IntWalk.wrap64_in _ (by omega)
     have HA8:=Lib.hid (HA7.out.put (m':={ m with su:=sN+1,pl:=pN+1 }) 4 (.int .i64 (pN+1)) (RW.set HA7.out.b6 4 _) rfl rfl rfl)
     have HM2:=Lib.hid (show ({ m with su:=sN+1,pl:=pN+1 }:VV)={ m0 with su:=(sufN (xs.map FV.fct) (g.take (k+1)):Int),pl:=(plnN (xs.map FV.fct) (g.take (k+1)):Int) } by rw [HSN.out,HPN.out,HS.out,hpl,HSN2.out,HPN2.out,HME.out];rfl)
     clear h10 hpl
     go_wp2_with fail
     go_roundw
     case rel=>exact ⟨k+1,_,D5,by go_num,by omega,HA8,HM2,HBD5⟩
     case measure=>simp [intOf];omega
    ·have hpl:plnB f.fct=false:=by
      unfold plnB
      by_cases h1:f.kd=10
      ·have h2:¬ f.fct.pr=0:=fun e=>h10 ⟨h1,e⟩
       rw [decide_eq_false h2,Bool.and_false]
      ·rw [decide_eq_false (show ¬ f.fct.kd=10 from h1),Bool.and_false,Bool.false_and]
     have HM2:=Lib.hid (show ({ m with su:=sN+1 }:VV)={ m0 with su:=(sufN (xs.map FV.fct) (g.take (k+1)):Int),pl:=(plnN (xs.map FV.fct) (g.take (k+1)):Int) } by rw [HSN.out,HPN.out,HS.out,hpl,HSN2.out,HME.out];simp)
     by_cases h1:f.kd=10
     ·have q1:(f.kd==10)=true:=by rw [h1];rfl
      have q2:(f.pr==0)=false:=by rw [beq_eq_false_iff_ne];exact fun e=>h10 ⟨h1,e⟩
      clear h10 hpl h1
      go_wp2_with fail
      go_roundw
      case rel=>exact ⟨k+1,_,D5,by go_num,by omega,HA7,HM2,HBD5⟩
      case measure=>simp [intOf];omega
     ·have q1:(f.kd==10)=false:=by rw [beq_eq_false_iff_ne];exact h1
      clear h10 hpl h1
      go_wp2_with fail
      go_roundw
      case rel=>exact ⟨k+1,_,D5,by go_num,by omega,HA7,HM2,HBD5⟩
      case measure=>simp [intOf];omega
  ·obtain rfl:k=gl:=by omega
   have htk:g.take k=g:=List.take_of_length_le (by rw [HGL.out];exact Nat.le_refl _)
   rw [htk] at HME HBD
   have hown:=HA.out.mp
   have HSI:=Lib.hid (HBD.out.size (World.ownsMap.entries HA.out.mp lawStr))
   unfold BMap at hown
   obtain ⟨sz,hsz⟩:∃ n,Maps.size D=n:=⟨_,rfl⟩
   rw [hsz] at hown HSI
   have HA5:=Lib.hid (HA.out.put (m':={ m with ad:=(sz:Int) }) 5 (.int .i64 (sz:Int)) (RW.set HA.out.b6 5 _) rfl rfl rfl)
   have hz5:wo.frozen? ⟨g6,5,none⟩=false:=RW.soft HA.out.b6 5
   have hc5:=HA.out.b6.cells.2.2.2.2.2.1
   obtain ⟨W5,e5⟩:∃ W,wo.setCell ⟨g6,5,none⟩ (.int .i64 (sz:Int))=W:=⟨_,rfl⟩
   rw [e5] at HA5
   obtain ⟨mF,hmF⟩:∃ mF:VV,{ m with ad:=(sz:Int) }=mF:=⟨_,rfl⟩
   rw [hmF] at HA5
   have HMF:=Lib.hid hmF
   obtain ⟨y0,y1,y2,y3,y4,y5,y6,y7⟩:=HA5.out.b6.cells
   clear htk hmF
   go_wp2_with (first
    | (at_len;refine wpList_len_own _ rfl _ 176 rfl 9 4 Tryz.underlying176 _ gm _ D rfl hown ?_;rw [hsz])
    | (refine wpList_store_var _ rfl (.tmp 4) (.tmp 71) 58 rfl w.heap.size 58 #[.slice none 0 0,.string ⟨#[]⟩,.int .i64 0,.int .i64 0,.int .i64 0,.int .i64 0,.int .i64 0,.int .i64 0] #[.slice mF.CA mF.cp.length mF.cc,.string mF.cr,.int .i64 mF.rq,.int .i64 mF.su,.int .i64 mF.pl,.int .i64 mF.ad,.int .i64 mF.f,.int .i64 mF.l] rfl rfl (Tryz.sizeOf58 _) HA5.out.r0 rfl (one8 rfl) ?_;intro W9 b9 hg9;obtain ⟨d0,d1,d2,d3,d4,d5,d6,d7⟩:=V8.cells (show V8 W9 w.heap.size mF from b9))
    | fail)
   refine bodyPost_ret (v:=mF.val) (by simp [results,Tryz.results72,go_sem,d0,d1,d2,d3,d4,d5,d6,d7,VV.val];try rfl) rfl ?_
   have hne:=stb_zero HA5.out.st HA5.out.r0
   refine ⟨⟨mF,rfl,RS.off HA5.out.mi (fun _ ad hA e=>hne ad hA (by injection e with e;exact e.symm)) hg9,HACT.out mF ?_ ?_ ?_ ?_ ?_ ?_ ?_ ?_,?_,fun ad hA=>?_⟩,HA5.out.ex.grown hg9 (fun j hj=>by cases hj;exact Nat.le_refl _)⟩
   ·rw [← HMF.out,HME.out,← HM0C.out]
   ·rw [← HMF.out,HME.out,← HM0C.out]
   ·rw [← HMF.out,HME.out,← HM0C.out]
   ·rw [← HMF.out,HME.out]
   ·rw [← HMF.out,HME.out]
   ·rw [← HMF.out,← HSI.out]
   ·rw [← HMF.out,HME.out,← HM0C.out]
   ·rw [← HMF.out,HME.out,← HM0C.out]
   ·rw [← HMF.out,HME.out,← HM0C.out];exact HSZ0.out.cp
   ·obtain ⟨cs,e⟩:=HA5.out.st ad hA
    exact ⟨cs,(hg9.block ad.block (Array.getElem?_eq_some_iff.1 e).1 (fun e2=>by injection e2 with e2;exact hne ad hA e2)).trans e⟩
end Go.Proofs.YtnjmndofcpnmeaaGreatDoor
