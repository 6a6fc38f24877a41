/- Pc1. -/
import Derived.Test.YtnjmndofcpnmeaaGreatDoorPc0
import Derived.OpenShut
import Derived.Deep.RegionHeld
import Derived.Test.YtnjmndofcpnmeaaGreatDoorShelf
import Derived.WalkSmall
import Derived.Lib.ItoaLen
import Derived.Lib.AtoiAllCases
import Derived.Lib.ItoaMem
import Derived.Lib.Split
import Derived.Lib.ConvBytes
import Derived.Test.YtnjmndofcpnmeaaGreatDoorRows
import Derived.ProofKit
import Derived.LaidMore
import Derived.Stop.Joined
import Derived.Stop.LaidErr
import Derived.Lib.LaidTab
import Derived.Shelf.Vars
import Derived.HandedShaped
import Derived.ChangeSame
import Derived.Carry
import Derived.Deep.Matrix
import Derived.Deep.Slices
import Derived.Deep.Fields
import Derived.Lib.SmallJoins
namespace Go.Proofs.YtnjmndofcpnmeaaGreatDoor
open Go Go.RowKit
set_option linter.unusedVariables false
section
variable {w w':World} {T R:Nat} {a s e r f t n l m now skew:Int} {B:Option Addr}
end
def bp (B:Option Nat):Option Addr:=B.map fun b=>⟨b,0,none⟩
end Go.Proofs.YtnjmndofcpnmeaaGreatDoor
namespace Go.Proofs.YtnjmndofcpnmeaaGreatDoor
open Go Go.RowKit
theorem BS.apart {w w':World}{v:Value}{l:List UInt8}{k:Option Nat}(h:BS w v l)(hk:l≠[]→∀ b,v.ownBlock=some b→k≠some b)(hb:w.grownBy w' k):BS w' v l:=by
 obtain ⟨A,c,rfl,h1,h2,h3⟩:=h.open_
 refine ⟨A,c,by rw [bv_length],by rw [bv_length];exact h1,h2,fun hp=>?_⟩
 rw [bv_length] at hp
 obtain ⟨ad,rfl,hlt,hc⟩:=h3 hp
 have hne:l≠[]:=by intro e;rw [e] at hp;simp at hp
 have hk':=hk hne ad.block rfl
 refine ⟨ad,rfl,Nat.lt_of_lt_of_le hlt hb.size,fun j u hu=>?_⟩
 have hj:j<l.length:=by
  have:=(List.getElem?_eq_some_iff.1 hu).1
  rwa [bv_length] at this
 rw [bv_get l j hj] at hu
 rw [← hu]
 exact (World.cell?_of_block (hb.block _ (by rw [block_of_add];exact hlt) (by rw [block_of_add];exact fun e=>hk' e.symm))).trans (hc j hj)
theorem BS.blockLt {w:World}{v:Value}{l:List UInt8}(h:BS w v l)(hne:l≠[]):∀ b,v.ownBlock=some b→b<w.heap.size:=by
 obtain ⟨A,c,rfl,h1,h2,h3⟩:=h.open_
 obtain ⟨ad,rfl,hlt,_⟩:=h3 (List.length_pos_iff.2 hne)
 intro b hb
 simp only [Value.ownBlock,Option.some.injEq] at hb
 rw [← hb];exact hlt
theorem RS.one (w:World)(e:TypeId)(v:Value){z:Nat}(hz:z=w.heap.size:=by first | rfl | simp):RS (w.alloc (.cells #[v] e)) (.slice (some ⟨z,0,none⟩) 1 1) [v]:=by
 subst hz
 exact RS.new w e [v] (by simp [maxLen])
section
variable {P:Program}
end
end Go.Proofs.YtnjmndofcpnmeaaGreatDoor
namespace Go.Proofs.YtnjmndofcpnmeaaGreatDoor
open Go Go.RowKit
theorem ext_grow {w w':World}(h:Ext w w')(k:Nat)(os:Array Obj):Ext w (Go.Sort.grow (w'.drewN k) os):=
 ⟨h.os,h.tape,h.output,Nat.le_trans h.size (by simp [Go.Sort.grow,World.drewN]),fun j hj=>by
  have h1:j<w'.heap.size:=Nat.lt_of_lt_of_le hj h.size
  rw [← h.block j hj]
  show ((w'.drewN k).heap++os)[j]? = _
  rw [Array.getElem?_append_left (by simpa [World.drewN] using h1)]
  rfl⟩
def Pow (w : World) : Prop := Lib.TabIs Tryz.prog w "internal/strconv.uint64pow10" .u64 Lib.pow10Tab
theorem gPow : (Tryz.prog.globalNamed "internal/strconv.uint64pow10").isSome = true := by kernel_rfl
theorem Pow.ext {w w':World}(h:Pow w)(hx:Ext w w'):Pow w':=by
 obtain ⟨g,hg⟩:=Option.isSome_iff_exists.1 gPow
 unfold Pow Lib.TabIs at h ⊢
 have hlt:g<w.heap.size:=by
  unfold World.var? at h
  simp only [hg,Option.bind_some] at h
  by_cases hh:g<w.heap.size
  ·exact hh
  ·rw [Array.getElem?_eq_none (by omega)] at h
   cases h
 exact var?_below hx hg hlt h
theorem ownsRow_ext {w w':World}{B:Nat}{e:TypeId}{v:Value}{n:Nat}{xs:List Value}(h:w.ownsRow B e 1 v n xs)(he:Ext w w'):w'.ownsRow B e 1 v n xs:=
 h.kept (he.but none) (by cases hv:v.ownBlock<;>simp)
def stv (ls:List (List UInt8)):List Value:=ls.map fun l=>.string ⟨l.toArray⟩
theorem stv_length (ls:List (List UInt8)):(stv ls).length=ls.length:=by simp [stv]
theorem strinfo:(Tryz.prog.info? 9).map (fun i=>(i.zero,i.size,i.bytes))=some (some (.string ⟨#[]⟩),1,16):=by kernel_rfl
end Go.Proofs.YtnjmndofcpnmeaaGreatDoor
namespace Go.Proofs.YtnjmndofcpnmeaaGreatDoor
open Go.Lib
theorem u8_dig (d:Nat)(h:d<10):(UInt8.ofNat (48+d)).toNat=48+d:=by
 simp [UInt8.toNat_ofNat'];omega
theorem dec_lo (u:Nat)(h:u<10):decDigits u=[UInt8.ofNat (48+u)]:=by rw [decDigits,dif_pos h]
theorem dec_hi (u:Nat)(h:¬ u<10):decDigits u=decDigits (u / 10)++[UInt8.ofNat (48+u % 10)]:=by rw [decDigits,dif_neg h]
theorem dec_dig (u:Nat):∀ c∈decDigits u,48≤c.toNat∧c.toNat≤57:=by
 induction u using Nat.strongRecOn with
 | _ u ih=>
  intro c hc
  by_cases h:u<10
  ·rw [dec_lo u h] at hc
   simp only [List.mem_singleton] at hc
   subst hc
   rw [u8_dig u h];omega
  ·rw [dec_hi u h] at hc
   rcases List.mem_append.1 hc with hc | hc
   ·exact ih (u / 10) (by omega) c hc
   ·simp only [List.mem_singleton] at hc
    subst hc
    rw [u8_dig _ (by omega)];omega
theorem dec_ne (u:Nat):decDigits u≠[]:=by
 by_cases h:u<10
 ·rw [dec_lo u h];simp
 ·rw [dec_hi u h];simp
def valD (acc:Nat):List UInt8→Nat
 | []=>acc
 | c::r=>valD (10*acc+(c.toNat-48)) r
theorem valD_append (acc:Nat)(a b:List UInt8):valD acc (a++b)=valD (valD acc a) b:=by
 induction a generalizing acc with
 | nil=>rfl
 | cons c r ih=>exact ih _
theorem valD_one (acc:Nat)(c:UInt8):valD acc [c]=10*acc+(c.toNat-48):=rfl
theorem valD_dec (u:Nat):valD 0 (decDigits u)=u:=by
 induction u using Nat.strongRecOn with
 | _ u ih=>
  by_cases h:u<10
  ·rw [dec_lo u h,valD_one,u8_dig u h];omega
  ·rw [dec_hi u h,valD_append,ih (u / 10) (by omega),valD_one,u8_dig _ (by omega)];omega
theorem dec_inj {u v:Nat}(h:decDigits u=decDigits v):u=v:=by rw [← valD_dec u,h,valD_dec]
theorem parse_dec (u:Nat)(h:u<1844674407370955162)(r:List UInt8):parseUint10 0 (decDigits u++r)=parseUint10 u r:=by
 induction u using Nat.strongRecOn generalizing r with
 | _ u ih=>
  by_cases h10:u<10
  ·rw [dec_lo u h10,List.singleton_append,parseUint10,u8_dig u h10,if_pos (by omega),if_neg (by omega),if_neg (by omega)]
   congr 1;omega
  ·rw [dec_hi u h10,List.append_assoc,ih (u / 10) (by omega) (by omega),List.singleton_append,parseUint10,u8_dig _ (by omega),if_pos (by omega),if_neg (by omega),if_neg (by omega)]
   congr 1;omega
theorem atoi_dec (u:Nat)(h:u<1844674407370955162):atoiAll (decDigits u)=.ok (u:Int):=by
 have hp:parseMag (decDigits u)=.ok u:=by
  have:=parse_dec u h []
  rw [List.append_nil] at this
  rw [parseMag,if_neg (dec_ne u),this];rfl
 obtain ⟨c,r,hcr⟩:∃ c r,decDigits u=c::r:=by
  cases hd:decDigits u with
  | nil=>exact absurd hd (dec_ne u)
  | cons c r=>exact ⟨c,r,rfl⟩
 have hc:=dec_dig u c (by rw [hcr];simp)
 have hne:¬ (c.toNat=43∨c.toNat=45):=by omega
 rw [hcr] at hp ⊢
 rw [atoiAll_plain c r (by omega) (by omega),hp]
 unfold signless
 simp only
 rw [if_neg (by omega)]
theorem index_hit (c:UInt8):∀ (l r:List UInt8),c ∉ l→index (l++c::r) [c]=(l.length:Int)
 | [],r,_=>by simp [index,List.isPrefixOf]
 | b::l,r,h=>by
  have hb:c≠b:=fun e=>h (by simp [e])
  have ih:=index_hit c l r (fun e=>h (by simp [e]))
  rw [List.cons_append,index,if_neg (by simp [List.isPrefixOf,hb]),ih,if_neg (by simp)]
  simp
theorem index_miss (c:UInt8):∀ (l:List UInt8),c ∉ l→index l [c] = -1
 | [],_=>by simp [index]
 | b::l,h=>by
  have hb:c≠b:=fun e=>h (by simp [e])
  rw [index,if_neg (by simp [List.isPrefixOf,hb]),index_miss c l (fun e=>h (by simp [e]))];rfl
theorem splitK_hit (c:UInt8)(k:Nat)(l r:List UInt8)(h:c ∉ l):splitK [c] 0 (k+1) (l++c::r)=l::splitK [c] 0 k r:=by
 rw [splitK,index_hit c l r h,if_neg (by simp)]
 simp
theorem splitK_miss (c:UInt8)(k:Nat)(l:List UInt8)(h:c ∉ l):splitK [c] 0 k l=[l]:=by
 cases k with
 | zero=>rfl
 | succ k=>rw [splitK,index_miss c l h];rfl
theorem dec_no (u:Nat)(c:UInt8)(hc:c.toNat<48∨57<c.toNat):c ∉ decDigits u:=fun h=>by
 have:=dec_dig u c h;omega
end Go.Proofs.YtnjmndofcpnmeaaGreatDoor
namespace Go.Proofs.YtnjmndofcpnmeaaGreatDoor
open Go Go.RowKit
set_option linter.unusedVariables false
theorem itoa_of {x:Int}(h:0≤x):Lib.itoa x=Lib.decDigits x.toNat:=by unfold Lib.itoa;rw [if_neg (by omega)]
def MaxL (w : World) : Prop := ∀ g, Tryz.prog.globalNamed "internal/bytealg.MaxLen" = some g → ∃ m, w.cell? ⟨g, 0, none⟩ = some (.int .i64 m)
theorem MaxL.ext {w w':World}(h:MaxL w)(hx:Ext w w'):MaxL w':=fun g hg=>let ⟨m,hm⟩:=h g hg;⟨m,hx.cell hm⟩
def IfVar (n:String)(w:World):Prop:=∃ tp p,w.var? Tryz.prog n=some #[.iface tp p]
theorem IfVar.ext {n:String}{w w':World}(h:IfVar n w)(hx:Ext w w'):IfVar n w':=by
 obtain ⟨tp,p,h⟩:=h
 refine ⟨tp,p,?_⟩
 unfold World.var? at h
 cases hg:Tryz.prog.globalNamed n with
 | none=>rw [hg] at h;simp at h
 | some g=>
  have h':w.var? Tryz.prog n=some #[.iface tp p]:=by unfold World.var?;exact h
  rw [hg] at h
  simp only [Option.bind_some] at h
  have hlt:g<w.heap.size:=by
   by_cases hh:g<w.heap.size
   ·exact hh
   ·rw [Array.getElem?_eq_none (by omega)] at h
    cases h
  exact var?_below hx hg hlt h'
structure Env (w:World):Prop where
 pow:Pow w
 maxl:MaxL w
 syn : IfVar "strconv.ErrSyntax" w
 rng : IfVar "strconv.ErrRange" w
theorem Env.ext {w w':World}(h:Env w)(hx:Ext w w'):Env w':=⟨h.pow.ext hx,h.maxl.ext hx,h.syn.ext hx,h.rng.ext hx⟩
theorem ext_bytesWorld (w:World)(e:TypeId)(s:ByteArray):Ext w (Lib.bytesWorld w e s):=
 ⟨rfl,rfl,rfl,by rw [Lib.bytesWorld_size];omega,fun k hk=>Lib.bytesWorld_at_old w e s k (by omega)⟩
end Go.Proofs.YtnjmndofcpnmeaaGreatDoor
namespace Go.Proofs.YtnjmndofcpnmeaaGreatDoor
open Go Go.RowKit Go.WideShapes Go.ChangeShapes Go.ChangeAt
set_option linter.unusedVariables false
section
variable {H:Type} {enc:TypeId × Value→H}
theorem returnsInHanded_and_shaped {a:Assume} {C:Checked} {os:Os} {f:FuncId} {fn:Func} {s:ChangeSpec} {conds:List PathCond} {apart fresh handsOn again:Bool} {X:World→Array Value→Prop}
  (hX:∀ (w w':World) (args:Array Value),w.heap=w'.heap→X w args→X w' args)
  (own:ownKnob C.prog.godebug=none) (started:os.Started) (noInit:C.prog.inits.idxOf? f=none) (hfn:C.prog.funcs[f]? = some fn)
  (witness:∃ (w:World) (tape:Tape) (i:Input),w.os=os∧(w.forCall tape i).Shaped C.prog∧i.vars=[]∧Input.okWide C.prog (w.forCall tape i) .any w.heap.size f i ∧
   ((s.pre enc C.prog fn conds apart (w.forCall tape i).memory i.args∧X (w.forCall tape i).memory i.args)∧sizedMet enc C.prog fn (OpenSpec.ofChange s) apart (w.forCall tape i).memory i.args)∧a.holds C.prog (lone (Frame.enter C.prog f i.args .normal) [] (w.forCall tape i)))
  (contract:∀ (W:World) (base:Nat) (args:Array Value) (ds gs:List (DataW H)) (before:List MemPlace),
   (∀ (j:Nat) t v,fn.params[j]? = some t→args[j]? = some v→Value.okWide C.prog W .any base t v) →
   DataW.Whole enc C.prog fn.params.toList s.vars apart W args.toList ds gs before→X W args→W.ShapedOpen C.prog →
   Calls C.prog f args W fun e W'=>∃ v,e=.returned v∧s.post enc C.prog fn apart fresh handsOn again W args v W'):
  ReturnsInHanded a C os f .any (fun w args=>(s.pre enc C.prog fn conds apart w args∧X w args)∧sizedMet enc C.prog fn (OpenSpec.ofChange s) apart w args) (s.post enc C.prog fn apart fresh handsOn again):=by
 refine returnsInHanded_of_calls own started noInit witness ?_
 intro w tape i _ hsh _ hok hpre _
 obtain ⟨_,_,_,fn',hfn',_,_,_,_,hval⟩:=hok
 have e:fn'=fn:=Option.some.inj (hfn'.symm.trans hfn)
 subst e
 obtain ⟨⟨⟨ds,gs,before,hw,hc⟩,hx⟩,_⟩:=hpre
 have hw':=DataW.Whole.of_heap (w':=w.forCall tape i) (by rfl) hw
 refine (contract (w.forCall tape i) w.heap.size i.args ds gs before hval hw' (hX _ _ _ (by rfl) hx) hsh).mono fun e W' ⟨v,he,hp⟩=>?_
 subst he
 exact ChangeSpec.post_blind hp
end
theorem maxl_of {W:World}(h:W.ShapedOpen Tryz.prog):MaxL W:=by
 intro g hg
 obtain rfl : 0 = g := Option.some.inj ((show Tryz.prog.globalNamed "internal/bytealg.MaxLen" = some 0 by kernel_rfl).symm.trans hg)
 exact cell_of_shapedOpen_int (zero:=#[.int .i64 0]) (t:=3) h (by decide +kernel) (by kernel_rfl) rfl (by kernel_rfl) (by kernel_rfl) Tryz.underlying3
theorem star_es : "*" ++ "errors.errorString" = "*errors.errorString" := by decide
theorem row_es (u : TypeId) (h : Tryz.prog.typeName? 3 u = some "*errors.errorString") : u = 275 :=
 typeName_ptr_named (nm := "errors.errorString") (by rw [star_es]; kernel_rfl) (by kernel_rfl) (by decide) u (by rw [star_es]; exact h)
theorem ifvar_of {n : String} {text : List UInt8} {r : List (String × DataW Unit)} {W : World} {g : Nat} (h : laidMet Tryz.prog ((n, .iface "*errors.errorString" (.ptr (.agg [.lit (.string text)]))) :: r) W)
  (hg:Tryz.prog.globalNamed n=some g) (ht:(Tryz.prog.globals[g]?).map (·.type)=some 83):IfVar n W:=by
 obtain ⟨a,s,hv,_⟩:=laid_sentinel h hg ht Tryz.underlying83 row_es Tryz.underlying275 Tryz.underlying277 rfl rfl Tryz.underlying9 (by kernel_rfl) (by kernel_rfl)
 exact ⟨_,_,hv⟩
theorem pow_at {r : List (String × DataW Unit)} {W : World} (h : laidMet Tryz.prog (("internal/strconv.uint64pow10", (Rows.laid_internal_strconv_uint64pow10 : DataW Unit)) :: r) W) : Pow W := by
 have e:(Rows.laid_internal_strconv_uint64pow10:DataW Unit)=Lib.tabData .u64 Lib.pow10Tab:=by kernel_rfl
 rw [e] at h
 obtain ⟨g,hg⟩:=Option.isSome_iff_exists.1 gPow
 have hgt : ((Tryz.prog.globalNamed "internal/strconv.uint64pow10").bind fun g => (Tryz.prog.globals[g]?).map (·.type)) = some 269 := by kernel_rfl
 rw [hg] at hgt
 exact Lib.tabIs_of_head hg hgt Tryz.underlying269 Tryz.underlying198 (by kernel_rfl) (by kernel_rfl) h
end Go.Proofs.YtnjmndofcpnmeaaGreatDoor
namespace Go.Proofs.YtnjmndofcpnmeaaGreatDoor
open Go Go.RowKit Go.WideShapes Go.ChangeShapes
section
variable {H:Type} {enc:TypeId × Value→H} {P:Program}
theorem post_of_below {f:Func} {s:ChangeSpec} {apart fresh handsOn again:Bool} {W W':World} {args:Array Value} {v:Value} {ds gs:List (DataW H)} {before pa pv:List MemPlace}
  (hW:DataW.Whole enc P f.params.toList s.vars apart W args.toList ds gs before)
  (hres:∀ (b:Nat) (sp:Nat→Bool) (hd:Bool),DataW.TrodAll enc P W' b sp hd f.resultTypes.toList (v.resultList f.resultTypes.size) (s.fn H (ds++gs)).results [])
  (hargs:∀ sp:Nat→Bool,(∀ p∈before,sp p.block=true)→DataW.TrodAll enc P W' 0 sp true f.params.toList args.toList (s.fn H (ds++gs)).args pa)
  (hvars:∀ sp:Nat→Bool,(∀ p∈before,sp p.block=true)→DataW.TrodVars enc P W' sp s.vars (s.fn H (ds++gs)).vars pv)
  (hps:before=pa++pv) (hb:Below W.heap.size W W')
  (hok:∀ (j:Nat) (t:TypeId) (r:Value),f.resultTypes[j]? = some t→(v.resultList f.resultTypes.size)[j]? = some r→Value.okWide P W' .any 0 t r):
  s.post enc P f apart fresh handsOn again W args v W':=by
 have hlt:∀ p∈before,p.block<W.heap.size:=fun p hp=>hW.lt p hp
 have hold:∀ p∈before,(fun b=>decide (b<W.heap.size)) p.block=true:=fun p hp=>by simpa using hlt p hp
 refine ⟨ds,gs,before,[],pa,pv,hW,hres _ _ _,hargs _ hold,hvars _ hold,World.keptBut_mono (fun p hp=>⟨hp,?_⟩) (hb.frame (· ∈ before)),fun _=>?_⟩
 ·rw [hps,List.mem_append] at hp
  exact Or.inr hp
 ·obtain ⟨_,_,_,_,_,hz,hn⟩:=hW
  refine ⟨hok,_,_,([]++pa)++pv,⟨[]++pa,pv,trodAll_append (hargs _ (fun _ _=>rfl)) (hres _ _ _),hvars _ (fun _ _=>rfl),rfl,?_,?_⟩,?_⟩
  ·intro b off hp
   have hin:MemPlace.cell b off∈before:=by rw [hps];simpa using hp
   rw [hb.frozen (hlt _ hin)]
   exact hz b off hin
  ·intro ha
   have:=hn ha
   rw [hps] at this
   simpa using this
  ·intro p hp _
   rw [hps]
   simpa using hp
theorem trod_stays {t:TypeId} (hl:laidOutB P=true) (hr:P.readableRec t=true) (hrow:t<P.types.size) {W W':World} {v:Value} {d:DataW H} {ps:List MemPlace}
  (h:DataW.Trod enc P W 0 (fun _=>true) true t v d ps) (hb:Ext W W') (hlt:∀ x∈ps,x.block<W.heap.size) (sp:Nat→Bool) (hsp:∀ p∈ps,sp p.block=true):
  DataW.Trod enc P W' 0 sp true t v d ps:=
 WideElems.Trod_stays hl hr hrow h (fun x hx=>Below.same hb (hlt x hx)) hsp
end
end Go.Proofs.YtnjmndofcpnmeaaGreatDoor
namespace Go.Proofs.YtnjmndofcpnmeaaGreatDoor
open Go Go.RowKit
theorem cell_add1 (w:World)(a:Addr):w.cell? ⟨a.block,a.off+1,none⟩=w.cell? (a.add 1):=by
 unfold Addr.add
 rw [if_neg (by decide)]
def DS (w:World)(v:Value)(xs:List (Int × List UInt8)):Prop:=
 ∃ A c,v=.slice A xs.length c∧xs.length≤c∧c≤maxLen∧∀ i (h:i<xs.length),∃ ad B d,A=some ad ∧
  w.cell? (ad.add (i*2))=some (.int .i64 xs[i].1)∧w.cell? (ad.add (i*2+1))=some (.slice B xs[i].2.length d)∧BS w (.slice B xs[i].2.length d) xs[i].2
theorem DS.ext {w w':World}{v:Value}{xs:List (Int × List UInt8)}(h:DS w v xs)(hx:Ext w w'):DS w' v xs:=by
 obtain ⟨A,c,h1,h2,h3,h4⟩:=h
 refine ⟨A,c,h1,h2,h3,fun i hi=>?_⟩
 obtain ⟨ad,B,d,e1,e2,e3,e4⟩:=h4 i hi
 exact ⟨ad,B,d,e1,hx.cell e2,hx.cell e3,e4.ext hx⟩
end Go.Proofs.YtnjmndofcpnmeaaGreatDoor
namespace Go.Proofs.YtnjmndofcpnmeaaGreatDoor
open Go Go.RowKit Go.WideShapes Go.ChangeShapes Go.Deep
theorem bs_of_field {H:Type} {enc:TypeId × Value→H} {P:Program} {t e:TypeId} (ht:P.underlying t=some (.slice e)) (he:P.underlying e=some (.int .u8)) (hc:P.cellsOf e=1) {W:World} {v:Value} {n:Nat} {y:DataW H × List MemPlace}
  (hf:DataW.trod enc P W 0 (fun _=>true) true n t [v]=some y):∃ A c l,v=.slice A (l:List UInt8).length c∧BS W (.slice A l.length c) l:=by
 rcases open_ints ht he hc hf with ⟨hcs,_⟩ | ⟨a,len,cap,zs,hcs,_,hl,hm,hz,_,hcell,hwf⟩
 ·simp only [List.cons.injEq,and_true] at hcs
  subst hcs
  exact ⟨none,0,[],rfl,BS.nil W⟩
 ·simp only [List.cons.injEq,and_true] at hcs
  subst hcs
  simp only [if_true] at hz
  have hlen:((zs.take len).map fun z=>UInt8.ofNat z.toNat).length=len:=by simp;omega
  refine ⟨some a,cap,(zs.take len).map fun z=>UInt8.ofNat z.toNat,by rw [hlen],?_⟩
  rw [hlen]
  refine ⟨some a,cap,by rw [bv_length,hlen],by rw [bv_length,hlen];exact hl,hm,fun hp=>⟨a,rfl,?_,fun j u hu=>?_⟩⟩
  ·simp only [bv_length,hlen] at hp
   have:=World.block_lt_of_cell? W (a.add 0) (hcell 0 (by omega))
   rwa [block_of_add] at this
  ·have hj:j<len:=by
    have:=(List.getElem?_eq_some_iff.1 hu).1
    rwa [bv_length,hlen] at this
   rw [hcell j (by omega)]
   rw [bv_get _ j (by rw [hlen];exact hj)] at hu
   rw [← hu]
   have hmem:zs.getD j 0∈zs:=by
    rw [List.getD_eq_getElem?_getD,List.getElem?_eq_getElem (by omega)]
    exact List.getElem_mem _
   have hw:=hwf _ hmem
   simp only [Lit.wf,IntKind.min,IntKind.max,IntKind.signed,IntKind.bits,Bool.and_eq_true] at hw
   simp only [List.getElem_map,List.getElem_take,UInt8.toNat_ofNat',Option.some.injEq,Value.int.injEq,true_and]
   rw [List.getD_eq_getElem?_getD,List.getElem?_eq_getElem (by omega)] at hw ⊢
   simp only [Option.getD_some] at hw ⊢
   simp at hw
   omega
section
open Go.Deep
variable {H:Type} {enc:TypeId × Value→H} {P:Program} {w:World} {base:Nat} {spare:Nat→Bool} {held:Bool}
end
end Go.Proofs.YtnjmndofcpnmeaaGreatDoor
