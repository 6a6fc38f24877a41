/- Address: groups of bytes and their strings. (wip/tools/genad1.py printed this.) -/
import Derived.Test.YthpfomjibfbiiaaGreatDoorMg4
import Derived.Test.YthpfomjibfbiiaaGreatDoorMg7
import Derived.Test.YthpfomjibfbiiaaGreatDoorMg2
import Derived.Laws.BitsAllLaws
import Derived.Laws.BitsLemmas
namespace Go.Proofs.YthpfomjibfbiiaaGreatDoor
open Go Go.RowKit
set_option linter.unusedVariables false

theorem u64_or (a b : Nat) (ha : a < 256) (hb : b < 256) : bits .or .u64 ((a : Int) * 256) (b : Int) = ((256 * a + b : Nat) : Int) := by
  show IntKind.u64.wrap ((BitVec.ofInt 64 ((a : Int) * 256) ||| BitVec.ofInt 64 (b : Int)).toNat : Int) = _
  have hX : (BitVec.ofInt 64 ((a : Int) * 256)).toNat = 2 ^ 8 * a := by
    rw [BitVec.toNat_ofInt]
    have : ((a : Int) * 256) % ((2 ^ 64 : Nat) : Int) = (a : Int) * 256 := Int.emod_eq_of_lt (by omega) (by omega)
    rw [this]
    omega
  have hY : (BitVec.ofInt 64 (b : Int)).toNat = b := by
    rw [BitVec.toNat_ofInt]
    have : (b : Int) % ((2 ^ 64 : Nat) : Int) = b := Int.emod_eq_of_lt (by omega) (by omega)
    rw [this]
    omega
  rw [BitVec.toNat_or, hX, hY, ← Nat.two_pow_add_eq_or_of_lt (by omega : b < 2 ^ 8), IntKind.wrap_u64]
  omega
theorem u8inf : (Tryz.prog.info? 5).map (fun i => (i.zero, i.size, i.bytes)) = some (some (.int .u8 0), 1, 1) := by kernel_rfl
theorem AItoa_at (c : UInt8) (w : World) (hp : Pow w) :
    Calls Tryz.prog 111 #[.int .i64 (c.toNat : Int)] w fun e w' => e = .returned (.string ⟨(Lib.decDigits c.toNat).toArray⟩) ∧ Ext w w' := by
  have hc := c.toNat_lt
  refine (Tryz.strconv_Itoa (c.toNat : Int) (by omega) (by omega) w hp).mono ?_
  rintro e w' ⟨rfl, nn, os, hw⟩
  exact ⟨by rw [itoa_of (by omega)]; rfl, hw ▸ ext_grow (Ext.refl w) nn os⟩
set_option maxRecDepth 100000 in
/-- The string of a group of one byte. -/
theorem tx4_at (c : UInt8) (A : Option Addr) (k : Nat) (w : World) (hb : BS w (.slice A 1 k) [c]) (hp : Pow w) :
    Calls Tryz.prog 110 #[.slice A 1 k] w fun e w' => e = .returned (.string ⟨(Lib.decDigits c.toNat).toArray⟩) ∧ Ext w w' := by
  obtain ⟨A', k', he, h1, h2, h3⟩ := hb.open_
  injection he with e1 e2 e3
  subst e1; subst e3
  obtain ⟨ad, rfl, hlt, hcell⟩ := h3 (by simp)
  have c0 : w.cell? ad = some (.int .u8 (c.toNat : Int)) := by
    have h := hcell 0 (by simp)
    rwa [show ad.add 0 = ad by simp [Addr.add]] at h
  have HI := Lib.hid (AItoa_at c w hp)
  have hc := c.toNat_lt
  obtain ⟨D, hD⟩ : ∃ D, Lib.decDigits c.toNat = D := ⟨_, rfl⟩
  rw [hD] at HI ⊢
  clear hcell hb hp h1 h2 h3 hD e2
  go_enter Tryz.func110, Tryz.ntmps110
  go_wp2_with fail
  refine HI.out.mono ?_
  rintro _ w1 ⟨rfl, hx⟩
  have HX := Lib.hid hx
  clear hx
  go_wp2_with fail
  go_ret
  exact ⟨rfl, HX.out⟩
set_option maxRecDepth 100000 in
set_option maxHeartbeats 1000000 in
/-- The string of a group of two bytes. -/
theorem tx6_at (a b : UInt8) (A : Option Addr) (k : Nat) (w : World) (hb : BS w (.slice A 2 k) [a, b]) (hd : DeB w) :
    Calls Tryz.prog 112 #[.slice A 2 k] w fun e w' => e = .returned (.string ⟨(hexD (256 * a.toNat + b.toNat)).toArray⟩) ∧ Ext w w' := by
  obtain ⟨A', k', he, h1, h2, h3⟩ := hb.open_
  injection he with e1 e2 e3
  subst e1; subst e3
  obtain ⟨ad, rfl, hlt, hcell⟩ := h3 (by simp)
  have c0 : w.cell? ad = some (.int .u8 (a.toNat : Int)) := by
    have h := hcell 0 (by simp)
    rwa [show ad.add 0 = ad by simp [Addr.add]] at h
  have c1 : w.cell? ⟨ad.block, ad.off + 1, none⟩ = some (.int .u8 (b.toNat : Int)) := by
    have h := hcell 1 (by simp)
    rwa [show ad.add 1 = ⟨ad.block, ad.off + 1, none⟩ by unfold Addr.add; rw [if_neg (by decide)]] at h
  have ha := a.toNat_lt
  have hbb := b.toNat_lt
  have hor := u64_or a.toNat b.toNat ha hbb
  have HFM := Lib.hid (fun W h => Format_at (256 * a.toNat + b.toNat) (by omega) W h)
  have HD := Lib.hid hd
  clear hcell hb hd h3
  go_enter Tryz.func112, Tryz.ntmps112
  go_wp2_with fail
  refine wp_region_ext (fun i v' w' => match i with | 10 => v' = .string ⟨(hexD (256 * a.toNat + b.toNat)).toArray⟩ | _ => False) (by kernel_rfl) (by kernel_rfl) ?_
  refine wpE_op rfl rfl (fun w' hw' K' hK' => ?_)
  have hE := hw'.1
  go_step
  refine hK' _ ⟨_, rfl⟩ ?_
  clear hK' K' hE hw' w'
  refine wpE_op rfl rfl (fun w' hw' K' hK' => ?_)
  have hE := hw'.1
  go_step
  refine hK' _ ⟨_, rfl⟩ ?_
  clear hK' K' hE hw' w'
  refine wpE_op rfl rfl (fun w' hw' K' hK' => ?_)
  have hE := hw'.1
  have u0 := ((Ext.drew w).trans hE).cell c0
  go_step
  refine hK' _ ⟨_, rfl⟩ ?_
  clear hK' K' u0 hE hw' w'
  refine wpE_op rfl rfl (fun w' hw' K' hK' => ?_)
  have hE := hw'.1
  go_step
  refine hK' _ ⟨_, rfl⟩ ?_
  clear hK' K' hE hw' w'
  refine wpE_op rfl rfl (fun w' hw' K' hK' => ?_)
  have hE := hw'.1
  go_step
  refine hK' _ ⟨_, rfl⟩ ?_
  clear hK' K' hE hw' w'
  refine wpE_op rfl rfl (fun w' hw' K' hK' => ?_)
  have hE := hw'.1
  go_step
  refine hK' _ ⟨_, rfl⟩ ?_
  clear hK' K' hE hw' w'
  refine wpE_op rfl rfl (fun w' hw' K' hK' => ?_)
  have hE := hw'.1
  go_step
  refine hK' _ ⟨_, rfl⟩ ?_
  clear hK' K' hE hw' w'
  refine wpE_op rfl rfl (fun w' hw' K' hK' => ?_)
  have hE := hw'.1
  have u1 := ((Ext.drew w).trans hE).cell c1
  go_step
  refine hK' _ ⟨_, rfl⟩ ?_
  clear hK' K' u1 hE hw' w'
  refine wpE_op rfl rfl (fun w' hw' K' hK' => ?_)
  have hE := hw'.1
  go_step
  refine hK' _ ⟨_, rfl⟩ ?_
  clear hK' K' hE hw' w'
  refine wpE_op rfl rfl (fun w' hw' K' hK' => ?_)
  have hE := hw'.1
  go_step
  refine hK' _ ⟨_, rfl⟩ ?_
  clear hK' K' hE hw' w'
  refine wpE_call 13 rfl (by simp) rfl (fun w' hw' K' hK' => ?_) ?_
  · have hE := hw'.1
    go_step
    refine (HFM.out w' (HD.out.ext ((Ext.drew _).trans hE))).mono ?_
    rintro _ w2 ⟨rfl, hx⟩
    exact hK' _ _ ⟨_, rfl, rfl⟩ hx
  rintro _ w6 _ rfl
  simp only [Act.put, List.setIfInBounds_toArray, List.set_cons_succ, List.set_cons_zero]
  refine wpE_op rfl rfl (fun w' hw' K' hK' => ?_)
  have hE := hw'.1
  go_step
  refine hK' _ ⟨_, rfl⟩ ?_
  clear hK' K' hE hw' w'
  refine wpE_nil (fun w2 hw2 => ?_)
  have HX2 := Lib.hid ((Ext.drew w).trans hw2.1)
  clear hw2
  go_wp2_with fail
  go_ret
  exact ⟨rfl, HX2.out⟩
section
variable {P : Program}
/-- 'b[:hi:hi]'. -/
theorem run_slice23 (w : World) (t : TypeId) (A : Option Addr) (c : Nat) (l : List UInt8) (hi : Nat) (m : List UInt8) (hm : l.take hi = m) (h1 : hi ≤ l.length) (ht : P.underlying t = some (.slice (P.elem t))) (hs : ∃ i, P.info? (P.elem t) = some i ∧ i.size = 1)
    (h : BS w (.slice A l.length c) l) :
    ∃ A' c', BS w (.slice A' m.length c') m ∧ ∀ w' : World, (Instr.slice t (.slice A l.length c) none (some (.int .i64 (hi : Int))) (some (.int .i64 (hi : Int)))).run P w' = .ok (.slice A' m.length c') w' := by
  obtain ⟨i, hi0, hi1⟩ := hs
  obtain ⟨A0, c0, he, k1, k2, k3⟩ := h.open_
  injection he with e1 e2 e3
  subst e1; subst e3
  have hml : m.length = hi := by subst hm; simp; omega
  refine ⟨if hi = 0 then A else A.map (·.add (0 * 1)), hi, ?_, fun w' => ?_⟩
  · refine ⟨if hi = 0 then A else A.map (·.add (0 * 1)), hi, by simp, by simp [hml], by omega, fun hp => ?_⟩
    simp only [bv_length, hml] at hp
    rw [if_neg (by omega)]
    obtain ⟨ad, rfl, hb, hc⟩ := k3 (by omega)
    refine ⟨ad.add (0 * 1), rfl, by rw [block_of_add]; exact hb, fun j u hu => ?_⟩
    have hj : j < m.length := by
      have := (List.getElem?_eq_some_iff.1 hu).1
      simpa using this
    rw [add_of_add, Nat.zero_mul, Nat.zero_add, hc j (by omega)]
    rw [bv_get m j hj] at hu
    rw [← hu]
    subst hm
    simp
  · rw [run_slice_hm w' t A l.length c ht .i64 .i64 hi hi (by omega) (by omega) (by omega)]
    simp [sizeOf, typeInfo, hi0, hi1, sliced, hml]
end
/-- The first k groups of sz bytes. -/
def chk (sz : Nat) : Nat → List UInt8 → List (List UInt8)
  | 0, _ => []
  | k + 1, l => l.take sz :: chk sz k (l.drop sz)
theorem chk_length (sz : Nat) : ∀ (k : Nat) (l : List UInt8), (chk sz k l).length = k
  | 0, _ => rfl
  | k + 1, l => by rw [chk, List.length_cons, chk_length sz k]
theorem chk_snoc (sz : Nat) : ∀ (k : Nat) (l : List UInt8), chk sz (k + 1) l = chk sz k l ++ [(l.drop (sz * k)).take sz]
  | 0, l => by simp [chk]
  | k + 1, l => by
    rw [chk, chk_snoc sz k (l.drop sz), List.drop_drop, chk, List.cons_append, show sz + sz * k = sz * (k + 1) by rw [Nat.mul_add, Nat.mul_one, Nat.add_comm]]
def gst (tx : List UInt8 → List UInt8) (sz k : Nat) (l : List UInt8) : List Value := stv ((chk sz k l).map tx)
theorem gst_length (tx : List UInt8 → List UInt8) (sz k : Nat) (l : List UInt8) : (gst tx sz k l).length = k := by rw [gst, stv_length, List.length_map, chk_length]
theorem gst_snoc (tx : List UInt8 → List UInt8) (sz k : Nat) (l : List UInt8) : gst tx sz (k + 1) l = gst tx sz k l ++ [.string ⟨(tx ((l.drop (sz * k)).take sz)).toArray⟩] := by
  rw [gst, chk_snoc, List.map_append]; simp [gst, stv]
set_option maxRecDepth 100000 in
set_option maxHeartbeats 1000000 in
theorem groups_at (sz : Nat) (fn : Nat) (tx : List UInt8 → List UInt8) (hsz : 1 ≤ sz ∧ sz ≤ 2) (l : List UInt8) (A : Option Addr) (c : Nat) (w : World) (hb : BS w (.slice A l.length c) l) (n : Nat) (hl : l.length = sz * n) (hn : n ≤ 16)
    (eg : ∀ args w, (callFunc fn args).run Tryz.prog w = .ok (.enter fn args) w)
    (HF : ∀ (m : List UInt8) (A : Option Addr) (c : Nat) (W : World), m.length = sz → Ext w W → BS W (.slice A sz c) m → Calls Tryz.prog fn #[.slice A sz c] W fun e W' => e = .returned (.string ⟨(tx m).toArray⟩) ∧ Ext W W') :
    Calls Tryz.prog 109 #[.slice A l.length c, .int .i64 (sz : Int), .func (.func fn) #[] #[]] w fun e w' => ∃ v, e = .returned v ∧ w'.ownsRow w.heap.size 9 1 v n (gst tx sz n l) ∧ Ext w w' := by
  obtain ⟨i0, hi, hz0, hz1, hz2⟩ := info_parts strinfo
  have HF := Lib.hid HF
  have HB := Lib.hid hb
  clear hb
  go_enter Tryz.func109, Tryz.ntmps109
  go_wp2_with fail
  go_loopw [0, 7] (fun b v wr => ∃ (k r : Nat) (Ak : Option Addr) (ck : Nat), k + r = n ∧ b = .slice Ak (sz * r) ck ∧ Hid (BS w (.slice Ak (sz * r) ck) (l.drop (sz * k))) ∧ Hid (wr.ownsRow w.heap.size 9 1 v (gst tx sz k l).length (gst tx sz k l)) ∧ Hid (Ext w wr)) (fun b _ _ => match b with | .slice _ n _ => n | _ => 0)
  case atStart => exact ⟨0, n, A, c, by omega, by rw [hl], Lib.hid (by rw [Nat.mul_zero, List.drop_zero, ← hl]; exact HB.out), Lib.hid (World.ownsRow_nil _ _ _ _), Lib.hid (Ext.refl _)⟩
  case round =>
    obtain ⟨k, r, Ak, ck, hk, rfl, HBk, HO, HX⟩ := hrel
    have hlk : (l.drop (sz * k)).length = sz * r := by
      rw [List.length_drop, hl, ← hk, Nat.mul_add]; omega
    rcases Nat.eq_zero_or_pos r with rfl | hr
    · have hlt : ((sz * 0 : Nat) : Int) < (sz : Int) := by omega
      obtain rfl : k = n := by omega
      have ho := HO.out
      rw [gst_length] at ho
      have HOO := Lib.hid ho
      clear ho hlk hl
      simp only [Nat.mul_zero] at hlt ⊢
      go_wp2_with fail
      go_ret
      exact ⟨_, rfl, HOO.out, HX.out⟩
    · obtain ⟨r, rfl⟩ : ∃ r', r = r' + 1 := ⟨r - 1, by omega⟩
      have hge : sz ≤ sz * (r + 1) := by rw [Nat.mul_add]; omega
      have hgi : (sz : Int) ≤ (sz : Int) * ((r : Int) + 1) := by have : ((sz * (r + 1) : Nat) : Int) = (sz : Int) * ((r : Int) + 1) := by simp
                                                                 omega
      have hbk := HBk.out
      rw [← hlk] at hbk
      obtain ⟨A2, c2, hb2, hs2⟩ := run_slice23 (P := Tryz.prog) w 23 Ak ck (l.drop (sz * k)) sz ((l.drop (sz * k)).take sz) rfl (by omega) Tryz.underlying23 (info_parts u8inf |>.elim fun i hi => ⟨i, hi.1, hi.2.2.1⟩) hbk
      obtain ⟨A3, c3, hb3, hs3⟩ := run_slice1 (P := Tryz.prog) w 23 Ak ck (l.drop (sz * k)) sz ((l.drop (sz * k)).drop sz) rfl (by omega) Tryz.underlying23 (info_parts u8inf |>.elim fun i hi => ⟨i, hi.1, hi.2.2.1⟩) hbk
      have hm2 : ((l.drop (sz * k)).take sz).length = sz := by rw [List.length_take]; omega
      have hm3 : ((l.drop (sz * k)).drop sz).length = sz * r := by rw [List.length_drop, hlk, Nat.mul_add]; omega
      have hm4 : (l.drop (sz * k)).drop sz = l.drop (sz * (k + 1)) := by rw [List.drop_drop, Nat.mul_add, Nat.mul_one]
      rw [hm2, hlk] at hs2
      rw [hm2] at hb2
      rw [hm3, hlk] at hs3
      rw [hm3, hm4] at hb3
      have HF1 := Lib.hid (fun W hx => HF.out ((l.drop (sz * k)).take sz) A2 c2 W hm2 hx (hb2.ext hx))
      have HG := Lib.hid (gst_snoc tx sz k l)
      have HB3 := Lib.hid hb3
      have hbl : ((gst tx sz k l).length + 1) * 16 ≤ 140737488355328 := by rw [gst_length]; omega
      have HBL := Lib.hid hbl
      clear hb2 hb3 hm2 hm3 hm4 hbk hlk hl HBk HF HB hbl
      go_wp2_with fail
      refine (HF1.out _ HX.out).mono ?_
      rintro _ w2 ⟨rfl, hx2⟩
      have HX2 := Lib.hid hx2
      clear hx2
      go_wp2_with (at_builtin; refine wpList_append_rs _ rfl (.tmp 15) (.tmp 22) 109 rfl w.heap.size 9 i0 (.string ⟨#[]⟩) 16 Tryz.underlying109 hi hz0 hz1 hz2 rfl _ (gst tx sz k l) rfl (ownsRow_ext (ownsRow_ext HO.out HX2.out) ((Ext.refl w2).alloc _)) _ [.string ⟨(tx ((l.drop (sz * k)).take sz)).toArray⟩] rfl (RS.one _ _ _) (by simp [Value.oneCell']) HBL.out (by omega) ?hm ?_; rotate_right; intro v4 w4 hown4 hg4 _)
      case hm => have h1 := HX.out.size; have h2 := HX2.out.size; simp; omega
      rw [← HG.out] at hown4
      have HO4 := Lib.hid hown4; have HX4 := Lib.hid (((HX.out.trans HX2.out).alloc _).grown hg4 (fun j hj => (World.ownsRow.lt HO.out j hj).1))
      clear hown4 hg4
      go_wp2_with fail
      go_roundw
      case rel => exact ⟨k + 1, r, A3, c3, by omega, rfl, HB3, HO4, HX4⟩
      case measure => show sz * r < sz * (r + 1); rw [Nat.mul_add]; omega
end Go.Proofs.YthpfomjibfbiiaaGreatDoor
