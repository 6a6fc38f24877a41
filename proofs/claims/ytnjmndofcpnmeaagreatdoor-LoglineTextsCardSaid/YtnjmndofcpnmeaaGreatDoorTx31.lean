/- Texts laid together (wip/tools/automerge.py): Lg15, Rf2, Rf3, LgPure4, LgPure6, LgPure7, LgPure9. -/
import Derived.Test.YtnjmndofcpnmeaaGreatDoorTx30
import Derived.Test.YtnjmndofcpnmeaaGreatDoorTx29
import Derived.Test.YtnjmndofcpnmeaaGreatDoorTx12
import Derived.Test.YtnjmndofcpnmeaaGreatDoorTx25
import Derived.Test.YtnjmndofcpnmeaaGreatDoorTx8
namespace Go.Proofs.YtnjmndofcpnmeaaGreatDoor
open Go Go.RowKit
set_option linter.unusedVariables false

/-- Strings at a place, while another block turns. -/
theorem RS.off {w w' : World} {A : Option Addr} {n c : Nat} {row : Option Nat} {xs : List Value} (h : RS w (.slice A n c) xs) (hA : xs ≠ [] → ∀ ad, A = some ad → row ≠ some ad.block) (hg : w.grownBy w' row) : RS w' (.slice A n c) xs := by
  obtain ⟨A', c', he, h1, h2, h3⟩ := h
  injection he with e1 e2 e3
  subst e1; subst e3
  refine ⟨A, c, by rw [e2], h1, h2, fun hp => ?_⟩
  obtain ⟨ad, ha, hb, hc⟩ := h3 hp
  refine ⟨ad, ha, Nat.lt_of_lt_of_le hb hg.size, fun j u hu => ?_⟩
  have hblk : (ad.add j).block = ad.block := block_of_add ad j
  have := hg.block ad.block hb (fun e => hA (List.ne_nil_of_length_pos hp) ad ha e.symm)
  rw [← hc j u hu]
  exact World.cell?_of_block (by rw [hblk]; exact this)
theorem RS.lt {w : World} {A : Option Addr} {n c : Nat} {xs : List Value} (h : RS w (.slice A n c) xs) (hne : xs ≠ []) {ad : Addr} (ha : A = some ad) : ad.block < w.heap.size ∧ ∃ cs t fr, w.heap[ad.block]? = some (.cells cs t fr) := by
  obtain ⟨A', c', he, h1, h2, h3⟩ := h
  injection he with e1 e2 e3
  subst e1
  obtain ⟨ad', ha', hb, hc⟩ := h3 (List.length_pos_iff.2 hne)
  rw [ha] at ha'
  injection ha' with ha'
  subst ha'
  refine ⟨hb, ?_⟩
  have hpos := List.length_pos_iff.2 hne
  have h0 := hc 0 xs[0] (List.getElem?_eq_getElem hpos)
  unfold World.cell? at h0
  rw [block_of_add] at h0
  cases ho : w.heap[ad.block]? with
  | none => rw [ho] at h0; simp at h0
  | some o =>
    rw [ho] at h0
    cases o <;> simp at h0
    case cells cs t fr => exact ⟨cs, t, fr, rfl⟩
theorem BS.offRow {w w' : World} {v : Value} {l : List UInt8} {row : Option Nat} (h : BS w v l) (hn : ∀ b, row = some b → NoU8 w b) (hg : w.grownBy w' row) : BS w' v l := by
  cases row with
  | none => exact h.ext (grown_of_ext hg)
  | some b => exact h.but (hn b rfl) hg
/-- The blocks of a fact's strings. -/
def FV.Blk (f : FV) (b : Nat) : Prop := (f.cp ≠ [] ∧ ∃ ad, f.CA = some ad ∧ ad.block = b) ∨ (f.sp ≠ [] ∧ ∃ ad, f.SA = some ad ∧ ad.block = b)
theorem sv_ne {ps : List ByteArray} (h : ps ≠ []) : sv ps ≠ [] := by cases ps with | nil => exact absurd rfl h | cons a b => simp [sv]
theorem ne_sv {ps : List ByteArray} (h : sv ps ≠ []) : ps ≠ [] := fun e => h (by rw [e]; rfl)
theorem FV.In.off {w w' : World} {f : FV} {row : Option Nat} (h : f.In w) (hg : w.grownBy w' row) (hr : ∀ b, row = some b → NoU8 w b ∧ ¬ f.Blk b) : f.In w' :=
  ⟨h.fb.offRow (fun b hb => (hr b hb).1) hg, h.cp.off (fun hne ad ha e => (hr _ e).2 (.inl ⟨ne_sv hne, ad, ha, rfl⟩)) hg, h.sp.off (fun hne ad ha e => (hr _ e).2 (.inr ⟨ne_sv hne, ad, ha, rfl⟩)) hg⟩
theorem FV.In.blk {w : World} {f : FV} (h : f.In w) {b : Nat} (hb : f.Blk b) : b < w.heap.size ∧ ∃ cs t fr, w.heap[b]? = some (.cells cs t fr) := by
  rcases hb with ⟨hne, ad, ha, rfl⟩ | ⟨hne, ad, ha, rfl⟩
  · exact h.cp.lt (sv_ne hne) ha
  · exact h.sp.lt (sv_ne hne) ha
/-- A block of one cell that is no string holds no names. -/
theorem FV.In.notOne {w : World} {f : FV} (h : f.In w) {b : Nat} {v : Value} {t : TypeId} (hb : w.heap[b]? = some (.cells #[v] t (0, 0))) (hv : ∀ s, v ≠ .string s) : ¬ f.Blk b := by
  have key : ∀ {A : Option Addr} {n c : Nat} {ps : List ByteArray} {ad : Addr}, RS w (.slice A n c) (sv ps) → ps ≠ [] → A = some ad → ad.block = b → False := by
    intro A n c ps ad hr hne ha hbk
    obtain ⟨A', c', he, _, _, h3⟩ := hr
    injection he with e1 _ _
    subst e1
    obtain ⟨ad', ha', _, hc⟩ := h3 (List.length_pos_iff.2 (sv_ne hne))
    rw [ha] at ha'
    injection ha' with ha'
    subst ha'
    cases ps with
    | nil => exact hne rfl
    | cons p r =>
      have h0 := hc 0 (.string p) rfl
      unfold World.cell? at h0
      rw [block_of_add, hbk, hb] at h0
      simp only at h0
      split at h0
      · cases h0
      · obtain ⟨hlt, he⟩ := Array.getElem?_eq_some_iff.1 h0
        have hz : (ad.add 0).off = 0 := by simp at hlt; omega
        simp only [hz] at he
        exact hv p he
  rintro (⟨hne, ad, ha, hbk⟩ | ⟨hne, ad, ha, hbk⟩)
  · exact key h.cp hne ha hbk
  · exact key h.sp hne ha hbk
def EF : Ek FV where
  k := 12
  kp := by decide
  cs := FV.cs
  len := fun _ => rfl
  one := fun x u hu => by
    unfold FV.cs at hu
    simp only [List.mem_cons, List.not_mem_nil, or_false] at hu
    rcases hu with rfl | rfl | rfl | rfl | rfl | rfl | rfl | rfl | rfl | rfl | rfl | rfl <;> rfl
  no8 := fun x u hu n e => by
    subst e
    unfold FV.cs at hu
    simp at hu
  In := fun w f => f.In w
  Blk := fun f b => f.Blk b
  blt := fun w x b h hb => (h.blk hb).1
  keep := fun w w' x row h hg hr => h.off hg hr
theorem EF_nc (w : World) (l : Nat) (x : FV) (hn : NC w l) (h : x.In w) : ¬ x.Blk l := fun hb => by
  obtain ⟨_, cs, t, fr, e⟩ := h.blk hb
  exact hn _ _ _ e
theorem ROW.fs {e : TypeId} {w : World} {B : Nat} {v : Value} {xs : List FV} (h : ROW EF e w B v xs) : FS w v xs := by
  obtain ⟨A, c, h1, h2, h3, h4⟩ := h.cells
  exact ⟨A, c, h1, h2, h3, fun i hi => ⟨(h4 i hi).1, (h4 i hi).2⟩⟩
theorem finfo : (Tryz.prog.info? 41).map (fun i => (i.zero, i.size, i.bytes)) = some (some (.agg #[.int .i64 0, .int .i64 0, .int .i64 0, .int .i64 0, .slice none 0 0, .slice none 0 0, .string ⟨#[]⟩, .slice none 0 0, .string ⟨#[]⟩, .int .i64 0, .int .i64 0, .int .u32 0]), 12, 160) := by kernel_rfl
theorem fact_zn : ∀ x ∈ (Value.agg #[.int .i64 0, .int .i64 0, .int .i64 0, .int .i64 0, .slice none 0 0, .slice none 0 0, .string ⟨#[]⟩, .slice none 0 0, .string ⟨#[]⟩, .int .i64 0, .int .i64 0, .int .u32 0]).cells.toList, ∀ n, x ≠ .int .u8 n := by
  intro x hx n e
  subst e
  simp [Value.cells] at hx
def factZ : Value := .agg #[.int .i64 0, .int .i64 0, .int .i64 0, .int .i64 0, .slice none 0 0, .slice none 0 0, .string ⟨#[]⟩, .slice none 0 0, .string ⟨#[]⟩, .int .i64 0, .int .i64 0, .int .u32 0]
theorem fact_zs : factZ.cells.size = EF.k := rfl
theorem fact_zn' : ∀ x ∈ factZ.cells.toList, ∀ n, x ≠ .int .u8 n := fact_zn
theorem fact_info : ∃ i : TypeInfo, Tryz.prog.info? 41 = some i ∧ i.zero = some factZ ∧ i.size = EF.k ∧ i.bytes = 160 := by
  obtain ⟨i0, hi, hz0, hz1, hz2⟩ := info_parts finfo
  exact ⟨i0, hi, hz0, hz1, hz2⟩
theorem add0 (g : Nat) (j : Nat) : (⟨g, 0, none⟩ : Addr).add j = ⟨g, j, none⟩ := by unfold Addr.add; split <;> simp_all
/-- The block of one fact, as an append reads it. -/
theorem FBx.news {w : World} {g : Nat} {f : FV} (h : FBx w g f) : ∀ j u, (EF.all [f])[j]? = some u → w.cell? ((⟨g, 0, none⟩ : Addr).add j) = some u := fun j u hu => by
  rw [Ek.all_one] at hu
  rw [add0, cell_of_row _ _ j _ _ (0, 0) h]
  rw [← hu]
  show _ = (FV.cs f)[j]?
  unfold FV.cs
  rw [← List.getElem?_toArray]
end Go.Proofs.YtnjmndofcpnmeaaGreatDoor
namespace Go.Proofs.YtnjmndofcpnmeaaGreatDoor
open Go Go.RowKit
set_option linter.unusedVariables false

theorem decB_len {n : Nat} (h : n ≤ 2000000000000000) : (Lib.decDigits n).length ≤ 21 := by
  have := Lib.itoa_length_le (n : Int) (by omega) (by omega)
  rwa [Lib.itoa_nonneg] at this
set_option maxRecDepth 100000 in
theorem RDecB_at (n : Nat) (h1 : n ≤ 2000000000000000) (w : World) :
    Calls Tryz.prog 86 #[.int .i64 (n : Int)] w fun e w' => e = .returned (.string ⟨(Lib.decDigits n).toArray⟩) ∧ Ext w w' := by
  induction n using Nat.strongRecOn generalizing w with
  | _ n ih =>
    by_cases hlt : n < 10
    · obtain ⟨d, hd⟩ : ∃ d, UInt8.ofNat (48 + n) = d := ⟨_, rfl⟩
      have hdn : (d.toNat : Int) = 48 + (n : Int) := by rw [← hd, u8_dig _ (by omega)]; omega
      have hcv : (convert 32 9 (.slice (some ⟨w.heap.size, 0, none⟩) 1 1)).run Tryz.prog (w.alloc (.cells #[.int .u8 (48 + (n : Int))] 5)) = .ok (.string ⟨#[d]⟩) (w.alloc (.cells #[.int .u8 (48 + (n : Int))] 5)) :=
        run_str _ _ _ 5 _ [d] Tryz.underlying32 Tryz.underlying5 Tryz.underlying9 (OB.lit w 5 0 [.int .u8 (48 + (n : Int))] [d] (by simp [bv, hdn]) 1 rfl (by simp [maxLen]) (by omega)).bs
      have hm : (48 + (n : Int)) % 256 = 48 + (n : Int) := by omega
      have HD := Lib.hid (show Lib.decDigits n = [d] by rw [dec_lo _ hlt, hd])
      have hlt' : (n : Int) < 10 := by omega
      clear hd hdn ih hlt
      go_enter Tryz.func86, Tryz.ntmps86
      go_wp2_with fail
      go_ret
      refine ⟨?_, (Ext.refl w).alloc _⟩
      rw [HD.out]; rfl
    · have i1 := ih (n / 10) (by omega) (by omega) w
      have i2 := fun (W : World) => ih (n % 10) (by omega) (by omega) W
      rw [show ((n / 10 : Nat) : Int) = (n : Int) / 10 by omega] at i1
      simp only [show ((n % 10 : Nat) : Int) = (n : Int) % 10 by omega] at i2
      have I1 := Lib.hid i1; have I2 := Lib.hid i2
      have HD := Lib.hid (show Lib.decDigits n = Lib.decDigits (n / 10) ++ Lib.decDigits (n % 10) by rw [dec_hi _ (by omega), dec_lo (n % 10) (by omega)])
      have l1 : (Lib.decDigits (n / 10)).length ≤ 21 := decB_len (by omega)
      have l2 : (Lib.decDigits (n % 10)).length ≤ 21 := decB_len (by omega)
      have hlt' : 10 ≤ (n : Int) := by omega
      clear ih i1 i2 hlt
      go_enter Tryz.func86, Tryz.ntmps86
      go_wp2_with fail
      refine I1.out.mono ?_
      rintro e w2 ⟨rfl, hx2⟩
      have HX2 := Lib.hid hx2; clear hx2
      go_wp2_with fail
      refine (I2.out w2).mono ?_
      rintro e w3 ⟨rfl, hx3⟩
      have HX3 := Lib.hid (HX2.out.trans hx3); clear hx3
      go_wp2_with fail
      go_ret
      refine ⟨?_, HX3.out⟩
      rw [HD.out, ← baA_append]; rfl
theorem conv_one (w : World) (d : UInt8) (x : Int) (h : (d.toNat : Int) = x) : (convert 32 9 (.slice (some ⟨w.heap.size, 0, none⟩) 1 1)).run Tryz.prog (w.alloc (.cells #[.int .u8 x] 5)) = .ok (.string ⟨#[d]⟩) (w.alloc (.cells #[.int .u8 x] 5)) :=
  run_str _ _ _ 5 _ [d] Tryz.underlying32 Tryz.underlying5 Tryz.underlying9 (OB.lit w 5 0 [.int .u8 x] [d] (by simp [bv, h]) 1 rfl (by simp [maxLen]) (by omega)).bs
theorem baR_list (S : ByteArray) : (⟨S.data.toList.toArray⟩ : ByteArray) = S := by apply ByteArray.ext; simp
set_option maxRecDepth 100000 in
set_option maxHeartbeats 1600000 in
theorem RName_at2 (A : Option Addr) (c : Nat) (ps : List ByteArray) (r : ByteArray) (w : World) (hR : RS w (.slice A ps.length c) (sv ps)) (hv : nameB (dat ps) r.data.toList = true) :
    Calls Tryz.prog 139 #[.agg #[.slice A ps.length c, .string r]] w fun e w' => e = .returned (.string ⟨(textN (dat ps) r.data.toList).toArray⟩) ∧ Ext w w' := by
  obtain ⟨v1, v2, v3, v4⟩ := nameB_parts hv
  rw [dat_length] at v2 v3
  have hr32 : r.size ≤ 32 := by rw [← size_list]; exact realmB_len v4
  have HV1 := Lib.hid v1
  have hT : RW (w.alloc (.cells #[.slice A ps.length c, .string r] 37)) w.heap.size 37 #[.slice A ps.length c, .string r] := heap_alloc_new w _
  have hX := (Ext.refl w).alloc (.cells #[.slice A ps.length c, .string r] 37)
  obtain ⟨wb, hwb⟩ : ∃ wb, w.alloc (.cells #[.slice A ps.length c, .string r] 37) = wb := ⟨_, rfl⟩
  rw [hwb] at hT hX
  have HX := Lib.hid hX; have HT := Lib.hid hT
  have HRS := Lib.hid (hR.ext hX)
  clear hT hX hR hv v1 v4
  go_enter Tryz.func139, Tryz.ntmps139
  go_wp2_with fail
  clear hwb
  go_loopw [3, 4, 5, 6] (fun s i _ _ wr => ∃ (k : Nat) (S : ByteArray), k ≤ ps.length ∧ i = .int .i64 k ∧ s = .string S ∧ Hid (S.data.toList = partsT ((dat ps).take k)) ∧ Hid (Ext wb wr)) (fun _ i _ _ _ => ps.length - (intOf i).toNat)
  case atStart => exact ⟨0, ⟨#[]⟩, Nat.zero_le _, rfl, rfl, Lib.hid (by simp [partsT]), Lib.hid (Ext.refl wb)⟩
  case round =>
    obtain ⟨k, S, hk, rfl, rfl, HS, HXK⟩ := hrel
    obtain ⟨wo, rfl⟩ : ∃ wo : World, wo = wr := ⟨_, rfl⟩
    have hS : S.size ≤ 260 := by
      have h1 := partsT_len ((dat ps).take k) (by
        rw [List.all_eq_true]
        intro x hx
        exact List.all_eq_true.1 HV1.out x (List.mem_of_mem_take hx))
      rw [List.length_take, dat_length] at h1
      rw [← size_list, HS.out]
      omega
    obtain ⟨q0, q1⟩ := rwp (HT.out.ext HXK.out)
    by_cases hlt : k < ps.length
    · obtain ⟨p, hp⟩ : ∃ p, ps[k] = p := ⟨_, rfl⟩
      have hp32 : p.size ≤ 32 := by rw [← hp]; exact part_len HV1.out hlt
      have HPR := Lib.hid (show partsT ((dat ps).take (k + 1)) = (if k = 0 then [] else partsT ((dat ps).take k) ++ [47]) ++ esc p.data.toList by
        rw [text_step _ k (by rw [dat_length]; exact hlt)]
        simp [dat, hp])
      have HCK := Lib.hid (show ∃ ad, A = some ad ∧ ∀ W, Ext wb W → W.cell? (ad.add k) = some (.string p) by
        obtain ⟨A', c', he, e1, e2, e3⟩ := HRS.out
        rw [sv_length] at e1 e3 he
        injection he with z1 _ z3
        subst z1; subst z3
        obtain ⟨ad, rfl, hblt, hcell⟩ := e3 (by omega)
        exact ⟨ad, rfl, fun W hW => hW.cell (by rw [hcell k _ (sv_get ps k hlt), hp])⟩)
      obtain ⟨ad, hA, hcl⟩ := HCK.out
      have HCL := Lib.hid hcl
      clear HCK hcl
      subst hA
      have hck := HCL.out _ HXK.out
      clear hp
      by_cases hk0 : k = 0
      · have hgt : (k : Int) ≤ 0 := by omega
        rw [if_pos hk0] at HPR
        obtain ⟨pref, hpref⟩ : ∃ pref : List UInt8, pref = [] := ⟨_, rfl⟩
        rw [← hpref] at HPR
        have HPF := Lib.hid (show S.data.toList = pref by have := HS.out; rw [hk0, List.take_zero] at this; rw [hpref]; exact this)
        have HPL := Lib.hid (show pref.length ≤ 300 by rw [hpref]; simp)
        clear hpref hk0
        go_wp2_with fail
        go_loopw [3, 5, 6] (fun s i _ wr => ∃ (j : Nat) (S : ByteArray), j ≤ p.size ∧ i = .int .i64 j ∧ s = .string S ∧ Hid (S.data.toList = pref ++ esc (p.data.toList.take j)) ∧ Hid (Ext wb wr)) (fun _ i _ _ => p.size - (intOf i).toNat)
        case atStart => exact ⟨0, _, Nat.zero_le _, rfl, rfl, Lib.hid (by simp [HPF.out, esc]), HXK⟩
        case round =>
          obtain ⟨j, Z, hj, rfl, rfl, HZ, HXJ⟩ := hrel
          clear hck q0 q1
          have hck := HCL.out _ HXJ.out
          obtain ⟨q0, q1⟩ := rwp (HT.out.ext HXJ.out)
          have hZ : Z.size ≤ 400 := by
            have hle := esc_len (p.data.toList.take j)
            have hlt2 : (p.data.toList.take j).length ≤ 32 := by rw [List.length_take, size_list]; omega
            rw [← size_list, HZ.out, List.length_append]
            have := HPL.out
            omega
          by_cases hlj : j < p.size
          · have hcv0 := conv_one wr p[j] _ rfl
            have hcv1 := conv_one wr 92 92 rfl
            have hcv2 := conv_one (wr.alloc (.cells #[.int .u8 92] 5)) p[j] _ rfl
            rw [World.size_alloc] at hcv2
            by_cases h1 : p[j].toNat = 47
            · have e1 : ((p[j].toNat : Int) == 47) = true := by rw [h1]; rfl
              have HTK := Lib.hid (show esc (p.data.toList.take (j + 1)) = esc (p.data.toList.take j) ++ [92, p[j]] by rw [take_at p j hlj, esc_append, esc_spc (by unfold spc; exact decide_eq_true (.inl h1))])
              clear h1
              clear hcv0
              go_wp2_with fail
              go_roundw
              case rel => exact ⟨j + 1, _, by omega, by go_num, rfl, Lib.hid (by rw [HTK.out]; simp [HZ.out]), Lib.hid ((HXJ.out.alloc _).alloc _)⟩
              case measure => simp [intOf]; omega
            · have e1 : ((p[j].toNat : Int) == 47) = false := by rw [beq_eq_false_iff_ne]; omega
              by_cases h2 : p[j].toNat = 64
              · have e2 : ((p[j].toNat : Int) == 64) = true := by rw [h2]; rfl
                have HTK := Lib.hid (show esc (p.data.toList.take (j + 1)) = esc (p.data.toList.take j) ++ [92, p[j]] by rw [take_at p j hlj, esc_append, esc_spc (by unfold spc; exact decide_eq_true (.inr (.inl h2)))])
                clear h1 h2
                clear hcv0
                go_wp2_with fail
                go_roundw
                case rel => exact ⟨j + 1, _, by omega, by go_num, rfl, Lib.hid (by rw [HTK.out]; simp [HZ.out]), Lib.hid ((HXJ.out.alloc _).alloc _)⟩
                case measure => simp [intOf]; omega
              · have e2 : ((p[j].toNat : Int) == 64) = false := by rw [beq_eq_false_iff_ne]; omega
                by_cases h3 : p[j].toNat = 92
                · have e3 : ((p[j].toNat : Int) == 92) = true := by rw [h3]; rfl
                  have HTK := Lib.hid (show esc (p.data.toList.take (j + 1)) = esc (p.data.toList.take j) ++ [92, p[j]] by rw [take_at p j hlj, esc_append, esc_spc (by unfold spc; exact decide_eq_true (.inr (.inr h3)))])
                  clear h1 h2 h3
                  clear hcv0
                  go_wp2_with fail
                  go_roundw
                  case rel => exact ⟨j + 1, _, by omega, by go_num, rfl, Lib.hid (by rw [HTK.out]; simp [HZ.out]), Lib.hid ((HXJ.out.alloc _).alloc _)⟩
                  case measure => simp [intOf]; omega
                · have e3 : ((p[j].toNat : Int) == 92) = false := by rw [beq_eq_false_iff_ne]; omega
                  have HTK := Lib.hid (show esc (p.data.toList.take (j + 1)) = esc (p.data.toList.take j) ++ [p[j]] by rw [take_at p j hlj, esc_append, esc_one (by rw [show spc p[j] = false from (by unfold spc; exact decide_eq_false (by omega))]; simp)])
                  clear h1 h2 h3 hcv1 hcv2
                  go_wp2_with fail
                  go_roundw
                  case rel => exact ⟨j + 1, _, by omega, by go_num, rfl, Lib.hid (by rw [HTK.out]; simp [HZ.out]), Lib.hid (HXJ.out.alloc _)⟩
                  case measure => simp [intOf]; omega
          · have HFE := Lib.hid (show esc (p.data.toList.take j) = esc p.data.toList by rw [List.take_of_length_le (by rw [size_list]; omega)])
            go_wp2_with fail
            go_roundw
            case rel => exact ⟨k + 1, _, by omega, by go_num, rfl, Lib.hid (by rw [HPR.out, ← HFE.out, HZ.out]), HXJ⟩
            case measure => simp [intOf]; omega
      · have hgt : 0 < (k : Int) := by omega
        rw [if_neg hk0] at HPR
        obtain ⟨pref, hpref⟩ : ∃ pref : List UInt8, pref = partsT ((dat ps).take k) ++ [47] := ⟨_, rfl⟩
        rw [← hpref] at HPR
        have HPF := Lib.hid (show (S ++ ⟨#[47]⟩ : ByteArray).data.toList = pref by rw [hpref, ← HS.out]; simp)
        have HPL := Lib.hid (show pref.length ≤ 300 by rw [hpref, ← HS.out, List.length_append, size_list]; simp; omega)
        clear hpref hk0
        go_wp2_with fail
        go_loopw [3, 5, 6] (fun s i _ wr => ∃ (j : Nat) (S : ByteArray), j ≤ p.size ∧ i = .int .i64 j ∧ s = .string S ∧ Hid (S.data.toList = pref ++ esc (p.data.toList.take j)) ∧ Hid (Ext wb wr)) (fun _ i _ _ => p.size - (intOf i).toNat)
        case atStart => exact ⟨0, _, Nat.zero_le _, rfl, rfl, Lib.hid (by rw [HPF.out]; simp [esc]), HXK⟩
        case round =>
          obtain ⟨j, Z, hj, rfl, rfl, HZ, HXJ⟩ := hrel
          clear hck q0 q1
          have hck := HCL.out _ HXJ.out
          obtain ⟨q0, q1⟩ := rwp (HT.out.ext HXJ.out)
          have hZ : Z.size ≤ 400 := by
            have hle := esc_len (p.data.toList.take j)
            have hlt2 : (p.data.toList.take j).length ≤ 32 := by rw [List.length_take, size_list]; omega
            rw [← size_list, HZ.out, List.length_append]
            have := HPL.out
            omega
          by_cases hlj : j < p.size
          · have hcv0 := conv_one wr p[j] _ rfl
            have hcv1 := conv_one wr 92 92 rfl
            have hcv2 := conv_one (wr.alloc (.cells #[.int .u8 92] 5)) p[j] _ rfl
            rw [World.size_alloc] at hcv2
            by_cases h1 : p[j].toNat = 47
            · have e1 : ((p[j].toNat : Int) == 47) = true := by rw [h1]; rfl
              have HTK := Lib.hid (show esc (p.data.toList.take (j + 1)) = esc (p.data.toList.take j) ++ [92, p[j]] by rw [take_at p j hlj, esc_append, esc_spc (by unfold spc; exact decide_eq_true (.inl h1))])
              clear h1
              clear hcv0
              go_wp2_with fail
              go_roundw
              case rel => exact ⟨j + 1, _, by omega, by go_num, rfl, Lib.hid (by rw [HTK.out]; simp [HZ.out]), Lib.hid ((HXJ.out.alloc _).alloc _)⟩
              case measure => simp [intOf]; omega
            · have e1 : ((p[j].toNat : Int) == 47) = false := by rw [beq_eq_false_iff_ne]; omega
              by_cases h2 : p[j].toNat = 64
              · have e2 : ((p[j].toNat : Int) == 64) = true := by rw [h2]; rfl
                have HTK := Lib.hid (show esc (p.data.toList.take (j + 1)) = esc (p.data.toList.take j) ++ [92, p[j]] by rw [take_at p j hlj, esc_append, esc_spc (by unfold spc; exact decide_eq_true (.inr (.inl h2)))])
                clear h1 h2
                clear hcv0
                go_wp2_with fail
                go_roundw
                case rel => exact ⟨j + 1, _, by omega, by go_num, rfl, Lib.hid (by rw [HTK.out]; simp [HZ.out]), Lib.hid ((HXJ.out.alloc _).alloc _)⟩
                case measure => simp [intOf]; omega
              · have e2 : ((p[j].toNat : Int) == 64) = false := by rw [beq_eq_false_iff_ne]; omega
                by_cases h3 : p[j].toNat = 92
                · have e3 : ((p[j].toNat : Int) == 92) = true := by rw [h3]; rfl
                  have HTK := Lib.hid (show esc (p.data.toList.take (j + 1)) = esc (p.data.toList.take j) ++ [92, p[j]] by rw [take_at p j hlj, esc_append, esc_spc (by unfold spc; exact decide_eq_true (.inr (.inr h3)))])
                  clear h1 h2 h3
                  clear hcv0
                  go_wp2_with fail
                  go_roundw
                  case rel => exact ⟨j + 1, _, by omega, by go_num, rfl, Lib.hid (by rw [HTK.out]; simp [HZ.out]), Lib.hid ((HXJ.out.alloc _).alloc _)⟩
                  case measure => simp [intOf]; omega
                · have e3 : ((p[j].toNat : Int) == 92) = false := by rw [beq_eq_false_iff_ne]; omega
                  have HTK := Lib.hid (show esc (p.data.toList.take (j + 1)) = esc (p.data.toList.take j) ++ [p[j]] by rw [take_at p j hlj, esc_append, esc_one (by rw [show spc p[j] = false from (by unfold spc; exact decide_eq_false (by omega))]; simp)])
                  clear h1 h2 h3 hcv1 hcv2
                  go_wp2_with fail
                  go_roundw
                  case rel => exact ⟨j + 1, _, by omega, by go_num, rfl, Lib.hid (by rw [HTK.out]; simp [HZ.out]), Lib.hid (HXJ.out.alloc _)⟩
                  case measure => simp [intOf]; omega
          · have HFE := Lib.hid (show esc (p.data.toList.take j) = esc p.data.toList by rw [List.take_of_length_le (by rw [size_list]; omega)])
            go_wp2_with fail
            go_roundw
            case rel => exact ⟨k + 1, _, by omega, by go_num, rfl, Lib.hid (by rw [HPR.out, ← HFE.out, HZ.out]), HXJ⟩
            case measure => simp [intOf]; omega
    · have HFE := Lib.hid (show S.data.toList = partsT (dat ps) by rw [HS.out, List.take_of_length_le (by rw [dat_length]; omega)])
      go_wp2_with fail
      go_ret
      refine ⟨?_, HX.out.trans HXK.out⟩
      rw [textN, ← HFE.out, ← cat_realm, baR_list]; rfl
set_option maxRecDepth 100000 in
theorem RWord_at (A : Option Addr) (c : Nat) (ps : List ByteArray) (r : ByteArray) (w : World) (hR : RS w (.slice A ps.length c) (sv ps)) (hv : prsB (dat ps) r.data.toList = true) :
    Calls Tryz.prog 87 #[.agg #[.slice A ps.length c, .string r]] w fun e w' => e = .returned (.string ⟨(prsW (dat ps) r.data.toList).toArray⟩) ∧ Ext w w' := by
  have hT : RW (w.alloc (.cells #[.slice A ps.length c, .string r] 37)) w.heap.size 37 #[.slice A ps.length c, .string r] := heap_alloc_new w _
  have hX := (Ext.refl w).alloc (.cells #[.slice A ps.length c, .string r] 37)
  obtain ⟨wb, hwb⟩ : ∃ wb, w.alloc (.cells #[.slice A ps.length c, .string r] 37) = wb := ⟨_, rfl⟩
  rw [hwb] at hT hX
  have HX := Lib.hid hX; have HT := Lib.hid hT
  have HNO := Lib.hid (RNone_at A ps.length c r wb)
  rw [none_dec] at HNO
  obtain ⟨q0, q1⟩ := rwp hT
  unfold prsW
  obtain ⟨a, ha⟩ : ∃ a, noneN (dat ps) r.data.toList = a := ⟨_, rfl⟩
  rw [ha] at HNO ⊢
  have HNM := Lib.hid (fun (h : a = false) W (hx : Ext wb W) => RName_at2 A c ps r W (hR.ext (hX.trans hx)) (by unfold prsB at hv; rw [ha, h, Bool.false_or] at hv; exact hv))
  clear ha hT hX hR hv
  go_enter Tryz.func87, Tryz.ntmps87
  go_wp2_with fail
  refine HNO.out.mono ?_
  rintro _ w2 ⟨rfl, hx2⟩
  have HX2 := Lib.hid hx2
  clear hx2 q0 q1
  obtain ⟨q0, q1⟩ := rwp (HT.out.ext HX2.out)
  cases a with
  | true =>
    go_wp2_with fail
    go_ret
    exact ⟨rfl, HX.out.trans HX2.out⟩
  | false =>
    go_wp2_with fail
    refine (HNM.out (by first | rfl | trivial) _ HX2.out).mono ?_
    rintro _ w3 ⟨rfl, hx3⟩
    have HX3 := Lib.hid (HX2.out.trans hx3)
    clear hx3
    go_wp2_with fail
    go_ret
    exact ⟨rfl, HX.out.trans HX3.out⟩
theorem flag_row : ∀ k, k < 12 → (#[.string ⟨#[102, 111, 114, 119, 97, 114, 100, 97, 98, 108, 101]⟩, .string ⟨#[102, 111, 114, 119, 97, 114, 100, 101, 100]⟩, .string ⟨#[112, 114, 111, 120, 105, 97, 98, 108, 101]⟩, .string ⟨#[112, 114, 111, 120, 121]⟩, .string ⟨#[109, 97, 121, 45, 112, 111, 115, 116, 100, 97, 116, 101]⟩, .string ⟨#[112, 111, 115, 116, 100, 97, 116, 101, 100]⟩, .string ⟨#[105, 110, 118, 97, 108, 105, 100]⟩, .string ⟨#[114, 101, 110, 101, 119, 97, 98, 108, 101]⟩, .string ⟨#[105, 110, 105, 116, 105, 97, 108]⟩, .string ⟨#[112, 114, 101, 45, 97, 117, 116, 104]⟩, .string ⟨#[116, 114, 97, 110, 115, 105, 116, 101, 100]⟩, .string ⟨#[100, 101, 108, 101, 103, 97, 116, 101]⟩] : Array Value)[k]? = some (.string (nmS k)) := by
  intro k hk
  rcases (show k = 0 ∨ k = 1 ∨ k = 2 ∨ k = 3 ∨ k = 4 ∨ k = 5 ∨ k = 6 ∨ k = 7 ∨ k = 8 ∨ k = 9 ∨ k = 10 ∨ k = 11 by omega) with rfl | rfl | rfl | rfl | rfl | rfl | rfl | rfl | rfl | rfl | rfl | rfl <;> kernel_rfl
set_option maxRecDepth 100000 in
theorem RFlag_at (k : Nat) (hk : k < 12) (w : World) :
    Calls Tryz.prog 94 #[.int .i64 (k : Int)] w fun e w' => e = .returned (.string (nmS k)) ∧ Ext w w' := by
  have hg := heap_alloc_new w (.cells #[.string ⟨#[102, 111, 114, 119, 97, 114, 100, 97, 98, 108, 101]⟩, .string ⟨#[102, 111, 114, 119, 97, 114, 100, 101, 100]⟩, .string ⟨#[112, 114, 111, 120, 105, 97, 98, 108, 101]⟩, .string ⟨#[112, 114, 111, 120, 121]⟩, .string ⟨#[109, 97, 121, 45, 112, 111, 115, 116, 100, 97, 116, 101]⟩, .string ⟨#[112, 111, 115, 116, 100, 97, 116, 101, 100]⟩, .string ⟨#[105, 110, 118, 97, 108, 105, 100]⟩, .string ⟨#[114, 101, 110, 101, 119, 97, 98, 108, 101]⟩, .string ⟨#[105, 110, 105, 116, 105, 97, 108]⟩, .string ⟨#[112, 114, 101, 45, 97, 117, 116, 104]⟩, .string ⟨#[116, 114, 97, 110, 115, 105, 116, 101, 100]⟩, .string ⟨#[100, 101, 108, 101, 103, 97, 116, 101]⟩] 9)
  have hx := (Ext.refl w).alloc (.cells #[.string ⟨#[102, 111, 114, 119, 97, 114, 100, 97, 98, 108, 101]⟩, .string ⟨#[102, 111, 114, 119, 97, 114, 100, 101, 100]⟩, .string ⟨#[112, 114, 111, 120, 105, 97, 98, 108, 101]⟩, .string ⟨#[112, 114, 111, 120, 121]⟩, .string ⟨#[109, 97, 121, 45, 112, 111, 115, 116, 100, 97, 116, 101]⟩, .string ⟨#[112, 111, 115, 116, 100, 97, 116, 101, 100]⟩, .string ⟨#[105, 110, 118, 97, 108, 105, 100]⟩, .string ⟨#[114, 101, 110, 101, 119, 97, 98, 108, 101]⟩, .string ⟨#[105, 110, 105, 116, 105, 97, 108]⟩, .string ⟨#[112, 114, 101, 45, 97, 117, 116, 104]⟩, .string ⟨#[116, 114, 97, 110, 115, 105, 116, 101, 100]⟩, .string ⟨#[100, 101, 108, 101, 103, 97, 116, 101]⟩] 9)
  obtain ⟨W, eW⟩ : ∃ W, w.alloc (.cells #[.string ⟨#[102, 111, 114, 119, 97, 114, 100, 97, 98, 108, 101]⟩, .string ⟨#[102, 111, 114, 119, 97, 114, 100, 101, 100]⟩, .string ⟨#[112, 114, 111, 120, 105, 97, 98, 108, 101]⟩, .string ⟨#[112, 114, 111, 120, 121]⟩, .string ⟨#[109, 97, 121, 45, 112, 111, 115, 116, 100, 97, 116, 101]⟩, .string ⟨#[112, 111, 115, 116, 100, 97, 116, 101, 100]⟩, .string ⟨#[105, 110, 118, 97, 108, 105, 100]⟩, .string ⟨#[114, 101, 110, 101, 119, 97, 98, 108, 101]⟩, .string ⟨#[105, 110, 105, 116, 105, 97, 108]⟩, .string ⟨#[112, 114, 101, 45, 97, 117, 116, 104]⟩, .string ⟨#[116, 114, 97, 110, 115, 105, 116, 101, 100]⟩, .string ⟨#[100, 101, 108, 101, 103, 97, 116, 101]⟩] 9) = W := ⟨_, rfl⟩
  rw [eW] at hg hx
  have hc : W.cell? ⟨w.heap.size, k, none⟩ = some (.string (nmS k)) := by rw [cell_of_row _ _ _ _ _ (0, 0) hg]; exact flag_row k hk
  have hc2 : W.cell? ((⟨w.heap.size, 0, none⟩ : Addr).add k) = some (.string (nmS k)) := by rw [add0]; exact hc
  have HX := Lib.hid hx
  have hk12 : (k : Int) < 12 := by omega
  clear hg hx
  go_enter Tryz.func94, Tryz.ntmps94
  go_wp2_with fail
  go_ret
  exact ⟨rfl, HX.out⟩
end Go.Proofs.YtnjmndofcpnmeaaGreatDoor
namespace Go.Proofs.YtnjmndofcpnmeaaGreatDoor
open Go Go.RowKit Go.Lib
set_option linter.unusedVariables false

/-- The names of the first bits. -/
def jnTo (f : W32) (k : Nat) : List UInt8 := Lib.join ((nmL (bitsTo f k)).map (·.data.toList)) [44]
theorem nm_pos : ((List.range 12).all fun k => !(nmS k).data.toList.isEmpty) = true := by kernel_rfl
theorem nm_pos' {k : Nat} (hk : k < 12) : (nmS k).data.toList ≠ [] := fun e => by
  have := List.all_eq_true.1 nm_pos k (List.mem_range.2 hk)
  rw [e] at this
  cases this
theorem jnTo_no {f : W32} {k : Nat} (h : isF f k = false) : jnTo f (k + 1) = jnTo f k := by unfold jnTo; rw [bitsTo_no h]
theorem jn_snoc44 : ∀ (ls : List (List UInt8)) (x : List UInt8), Lib.join (ls ++ [x]) [44] = if ls = [] then x else Lib.join ls [44] ++ [44] ++ x
  | [], x => by simp [join_one]
  | [y], x => by simp [join_cons, joinTail]
  | y :: z :: r, x => by
    rw [if_neg (by simp), List.cons_append, join_cons, join_cons]
    unfold joinTail
    simp
theorem jnTo_yes {f : W32} {k : Nat} (h : isF f k = true) : jnTo f (k + 1) = if bitsTo f k = [] then (nmS k).data.toList else jnTo f k ++ [44] ++ (nmS k).data.toList := by
  unfold jnTo
  rw [bitsTo_yes h]
  unfold nmL
  rw [List.map_append, List.map_append, List.map_cons, List.map_nil, List.map_cons, List.map_nil, jn_snoc44]
  simp
theorem jnTo_nil {f : W32} {k : Nat} (hk : k ≤ 12) : jnTo f k = [] ↔ bitsTo f k = [] := by
  constructor
  · intro h
    cases hb : bitsTo f k with
    | nil => rfl
    | cons x r =>
      have hx : x < 12 := by
        have : x ∈ bitsTo f k := by rw [hb]; simp
        unfold bitsTo at this
        have := (List.mem_filter.1 this).1
        have := List.mem_range.1 this
        omega
      unfold jnTo nmL at h
      rw [hb, List.map_cons, List.map_cons, join_cons] at h
      exact absurd (List.append_eq_nil_iff.1 h).1 (nm_pos' hx)
  · intro h
    unfold jnTo
    rw [h]; rfl
theorem jnTo_len (f : W32) (k : Nat) (hk : k ≤ 12) : (jnTo f k).length ≤ 200 := by
  unfold jnTo
  have h := join_len ((nmL (bitsTo f k)).map (·.data.toList)) (fun l hl => by
    obtain ⟨s, hs, rfl⟩ := List.mem_map.1 hl
    unfold nmL at hs
    obtain ⟨j, _, rfl⟩ := List.mem_map.1 hs
    rw [size_list]
    exact nmS_len j)
  have h2 := bitsTo_len f k
  unfold nmL at h ⊢
  rw [List.length_map, List.length_map] at h
  omega
theorem bitsTo_12 {f : W32} (hv : tkB f = true) : bitsTo f 12 = bitsF f := by
  have h4 : ∀ k, 12 ≤ k → k < 32 → isF f k = false := fun k h1 h2 => by
    rw [isF_bit (tk_nm hv) k h2]
    cases hb : f.getLsbD k with
    | false => rfl
    | true =>
      have h3 := (hasB_iff tkM f).1 hv k h2 hb
      have h4 : ((List.range 32).all fun k => decide (k < 12) || !tkM.getLsbD k) = true := by decide
      have h5 := List.all_eq_true.1 h4 k (List.mem_range.2 h2)
      rw [h3, decide_eq_false (by omega)] at h5
      cases h5
  have : ∀ n, 12 + n ≤ 32 → bitsTo f (12 + n) = bitsTo f 12 := by
    intro n
    induction n with
    | zero => intro _; rfl
    | succ n ih =>
      intro h
      rw [← Nat.add_assoc, bitsTo_no (h4 (12 + n) (by omega) (by omega)), ih (by omega)]
  exact (this 20 (by omega)).symm
theorem textF_to {f : W32} (hv : tkB f = true) : textF f = if jnTo f 12 = [] then [45] else jnTo f 12 := by
  have hj : joinF f = jnTo f 12 := by unfold joinF jnTo; rw [bitsTo_12 hv]
  unfold textF
  rw [hj]
  by_cases hz : f = 0#32
  · subst hz
    rw [if_pos rfl, if_pos ((jnTo_nil (Nat.le_refl _)).2 (by rw [bitsTo_12 hv]; rfl))]
  · rw [if_neg hz, if_neg (fun h => bitsF_ne (tk_nm hv) hz (by
      have := (jnTo_nil (Nat.le_refl _)).1 h
      rw [bitsTo_12 hv] at this
      rw [this]; rfl))]
/-- A bit, told by a shift. -/
theorem shr_bit (f : W32) (k : Nat) : f.toNat / 2 ^ k % 2 = if f.getLsbD k then 1 else 0 := by
  rw [BitVec.getLsbD, Nat.testBit_eq_decide_div_mod_eq]
  split
  · next h => exact of_decide_eq_true h
  · next h => have : ¬ f.toNat / 2 ^ k % 2 = 1 := fun e => h (decide_eq_true e); omega
theorem and_bit (f : W32) (k : Nat) : (bits .and .u32 ((f.toNat : Int) / 2 ^ k) 1 == 1) = f.getLsbD k := by
  have hx : (BitVec.ofNat 32 (f.toNat / 2 ^ k)).toNat = f.toNat / 2 ^ k := by
    rw [BitVec.toNat_ofNat]
    exact Nat.mod_eq_of_lt (Nat.lt_of_le_of_lt (Nat.div_le_self _ _) f.isLt)
  have h := u32_and (BitVec.ofNat 32 (f.toNat / 2 ^ k)) 1#32
  have e1 : (((1#32 : W32).toNat : Nat) : Int) = 1 := rfl
  have e : ((f.toNat / 2 ^ k : Nat) : Int) = (f.toNat : Int) / 2 ^ k := by simp
  have e2 : (andW (BitVec.ofNat 32 (f.toNat / 2 ^ k)) 1#32).toNat = if f.getLsbD k then 1 else 0 := by
    rw [← shr_bit]
    unfold andW
    rw [BitVec.toNat_and, hx]
    show f.toNat / 2 ^ k &&& 1 = _
    exact Nat.and_one_is_mod _
  rw [hx, e, e1, e2] at h
  rw [h]
  cases f.getLsbD k <;> rfl
set_option maxRecDepth 100000 in
set_option maxHeartbeats 1600000 in
theorem RFlags_at (f : W32) (hv : tkB f = true) (w : World) :
    Calls Tryz.prog 89 #[.int .u32 (f.toNat : Int)] w fun e w' => e = .returned (.string ⟨(textF f).toArray⟩) ∧ Ext w w' := by
  have HV := Lib.hid hv
  obtain ⟨L, hL⟩ : ∃ L, textF f = L := ⟨_, rfl⟩
  have HL := Lib.hid (show (if jnTo f 12 = [] then [45] else jnTo f 12) = L by rw [← textF_to hv]; exact hL)
  rw [hL]
  clear hv hL
  go_enter Tryz.func89, Tryz.ntmps89
  go_wp2_with fail
  go_loopw [3, 4] (fun s i wr => ∃ (k : Nat) (S : ByteArray), k ≤ 12 ∧ i = .int .i64 k ∧ s = .string S ∧ Hid (S.data.toList = jnTo f k) ∧ Hid (Ext w wr)) (fun _ i _ => 12 - (intOf i).toNat)
  case atStart => exact ⟨0, ⟨#[]⟩, Nat.zero_le _, rfl, rfl, Lib.hid rfl, Lib.hid (Ext.refl w)⟩
  case round =>
    obtain ⟨k, S, hk, rfl, rfl, HS, HX⟩ := hrel
    have hSz : S.size ≤ 200 := by rw [← size_list, HS.out]; exact jnTo_len f k hk
    by_cases hlt : k < 12
    · have hand := and_bit f k
      have hbb := isF_bit (tk_nm HV.out) k (by omega)
      rw [← hbb] at hand
      clear hbb
      have HFL := Lib.hid (RFlag_at k hlt wr)
      have hn12 := nmS_len k
      cases hb : isF f k with
      | false =>
        have HT := Lib.hid (jnTo_no hb)
        rw [hb] at hand
        clear hb
        go_wp2_with fail
        go_roundw
        case rel => exact ⟨k + 1, S, by omega, by go_num, rfl, Lib.hid (by rw [HT.out]; exact HS.out), HX⟩
        case measure => simp [intOf]; omega
      | true =>
        have HT := Lib.hid (jnTo_yes hb)
        rw [hb] at hand
        have HB := Lib.hid (jnTo_nil (f := f) hk)
        clear hb
        generalize nmS k = N at *
        by_cases he : S.data.toList = []
        · obtain rfl : S = ⟨#[]⟩ := by rw [← baR_list S, he]
          have HE := Lib.hid (show jnTo f (k + 1) = N.data.toList by rw [HT.out, if_pos (HB.out.1 (HS.out.symm.trans he))])
          clear he
          go_wp2_with fail
          refine HFL.out.mono ?_
          rintro _ w2 ⟨rfl, hx2⟩
          have HX2 := Lib.hid (HX.out.trans hx2)
          clear hx2
          go_wp2_with fail
          go_roundw
          case rel => exact ⟨k + 1, _, by omega, by go_num, rfl, Lib.hid (by rw [HE.out]; simp), HX2⟩
          case measure => simp [intOf]; omega
        · have q1 : S.toList ≠ [] := by rw [ByteArray.toList_eq]; exact he
          have q2 : S.toList.isEmpty = false := by cases hh : S.toList with | nil => exact absurd hh q1 | cons a b => rfl
          have HE := Lib.hid (show jnTo f (k + 1) = S.data.toList ++ [44] ++ N.data.toList by rw [HT.out, if_neg (fun h => he (by rw [HS.out]; exact HB.out.2 h)), HS.out])
          clear he
          go_wp2_with fail
          refine (HFL.out).mono ?_
          rintro _ w2 ⟨rfl, hx2⟩
          have HX2 := Lib.hid (HX.out.trans hx2)
          clear hx2
          go_wp2_with fail
          go_roundw
          case rel => exact ⟨k + 1, _, by omega, by go_num, rfl, Lib.hid (by rw [HE.out]; simp), HX2⟩
          case measure => simp [intOf]; omega
    · obtain rfl : k = 12 := by omega
      by_cases he : S.data.toList = []
      · obtain rfl : S = ⟨#[]⟩ := by rw [← baR_list S, he]
        have HE := Lib.hid (show jnTo f 12 = [] by rw [← HS.out])
        clear he
        go_wp2_with fail
        go_ret
        refine ⟨?_, HX.out⟩
        rw [← HL.out, if_pos HE.out]; rfl
      · have q1 : S.toList ≠ [] := by rw [ByteArray.toList_eq]; exact he
        have q2 : S.toList.isEmpty = false := by cases hh : S.toList with | nil => exact absurd hh q1 | cons a b => rfl
        have HE := Lib.hid (show jnTo f 12 ≠ [] by rw [← HS.out]; exact he)
        clear he
        go_wp2_with fail
        go_ret
        refine ⟨?_, HX.out⟩
        rw [← HL.out, if_neg HE.out, ← HS.out, baR_list]; rfl
end Go.Proofs.YtnjmndofcpnmeaaGreatDoor
namespace Go.Proofs.YtnjmndofcpnmeaaGreatDoor
open Go Go.Lib
set_option linter.unusedVariables false

theorem nodup_le {α : Type} [DecidableEq α] : ∀ {a b : List α}, a.Nodup → (∀ x ∈ a, x ∈ b) → a.length ≤ b.length
  | [], b, _, _ => Nat.zero_le _
  | x :: a, b, hd, hs => by
    rw [List.nodup_cons] at hd
    have hx := hs x (by simp)
    have h1 : ∀ y ∈ a, y ∈ b.erase x := fun y hy => by
      rw [List.mem_erase_of_ne (fun (e : y = x) => hd.1 (by rw [← e]; exact hy))]
      exact hs y (List.mem_cons_of_mem _ hy)
    have h2 := nodup_le hd.2 h1
    rw [List.length_erase_of_mem hx] at h2
    have h3 := List.length_pos_of_mem hx
    rw [List.length_cons]
    omega
theorem nodup_filt {l : List Nat} (p : Nat → Bool) (h : l.Nodup) : (l.filter p).Nodup := List.Pairwise.filter p h
theorem nodup_mapK {κ : Type} {l : List Nat} {K : Nat → κ} (h : l.Nodup) (hk : ∀ i ∈ l, ∀ j ∈ l, K i = K j → i = j) : (l.map K).Nodup := by
  induction l with
  | nil => exact List.nodup_nil
  | cons x l ih =>
    rw [List.nodup_cons] at h
    rw [List.map_cons, List.nodup_cons]
    refine ⟨fun hm => ?_, ih h.2 (fun i hi j hj => hk i (List.mem_cons_of_mem _ hi) j (List.mem_cons_of_mem _ hj))⟩
    obtain ⟨y, hy, e⟩ := List.mem_map.1 hm
    have := hk y (List.mem_cons_of_mem _ hy) x (by simp) e
    exact h.1 (this ▸ hy)
section
variable {κ : Type} [DecidableEq κ]
/-- The first index of each key, among those that are wanted. -/
def fstK (n : Nat) (P : Nat → Bool) (K : Nat → κ) : List Nat := (List.range n).filter fun i => P i && (List.range i).all fun j => !(P j && decide (K j = K i))
theorem fstK_mem {n : Nat} {P : Nat → Bool} {K : Nat → κ} {i : Nat} : i ∈ fstK n P K ↔ i < n ∧ P i = true ∧ ∀ j, j < i → P j = true → K j ≠ K i := by
  unfold fstK
  rw [List.mem_filter, List.mem_range, Bool.and_eq_true, List.all_eq_true]
  constructor
  · rintro ⟨h1, h2, h3⟩
    refine ⟨h1, h2, fun j hj hp e => ?_⟩
    have := h3 j (List.mem_range.2 hj)
    rw [hp, decide_eq_true e] at this
    exact absurd this (by decide)
  · rintro ⟨h1, h2, h3⟩
    refine ⟨h1, h2, fun j hj => ?_⟩
    have := h3 j (List.mem_range.1 hj)
    cases hp : P j with
    | false => rfl
    | true => rw [decide_eq_false (this hp)]; rfl
theorem fstK_ex {n : Nat} {P : Nat → Bool} {K : Nat → κ} : ∀ (i : Nat), i < n → P i = true → ∃ j ∈ fstK n P K, K j = K i ∧ j ≤ i := by
  intro i
  induction i using Nat.strongRecOn with
  | _ i ih =>
    intro hi hp
    by_cases h : ∃ j, j < i ∧ P j = true ∧ K j = K i
    · obtain ⟨j, hj, hpj, hk⟩ := h
      obtain ⟨m, hm, hmk, hle⟩ := ih j hj (by omega) hpj
      exact ⟨m, hm, hmk.trans hk, by omega⟩
    · exact ⟨i, fstK_mem.2 ⟨hi, hp, fun j hj hpj e => h ⟨j, hj, hpj, e⟩⟩, rfl, Nat.le_refl _⟩
theorem fstK_one {n : Nat} {P : Nat → Bool} {K : Nat → κ} {i j : Nat} (hi : i ∈ fstK n P K) (hj : j ∈ fstK n P K) (e : K i = K j) : i = j := by
  obtain ⟨_, pi, fi⟩ := fstK_mem.1 hi
  obtain ⟨_, pj, fj⟩ := fstK_mem.1 hj
  rcases Nat.lt_trichotomy i j with h | h | h
  · exact absurd e (fj i h pi)
  · exact h
  · exact absurd e.symm (fi j h pj)
theorem fstK_nodup {n : Nat} {P : Nat → Bool} {K : Nat → κ} : (fstK n P K).Nodup := nodup_filt _ List.nodup_range
end
/-- A failure. -/
def failB (f : Fct) : Bool := decide (f.kd = 10) && decide (f.co = 24) && !noneN f.cp f.cr
/-- Who a fact tells of: the address, or the client. -/
inductive Who where
  | from (k : Int) (b : List UInt8)
  | client (p : List (List UInt8)) (r : List UInt8)
  deriving DecidableEq
def who (ad : Bool) (f : Fct) : Who := if ad then .from f.fk f.fb else .client f.cp f.cr
def dftF : Fct := ⟨0, 0, 0, 0, [], [], [], [], [], 0, 0, 0#32⟩
def atF (l : List Fct) (i : Nat) : Fct := l[i]?.getD dftF
/-- The failures of the same one in the window that ends at i. -/
def winF (l : List Fct) (w : Int) (ad : Bool) (i : Nat) : List Nat := (List.range (i + 1)).filter fun j => failB (atF l j) && decide (who ad (atF l j) = who ad (atF l i)) && decide ((atF l i).t - w ≤ (atF l j).t)
/-- How many they are: failures, or different clients. -/
def cntF (l : List Fct) (w : Int) (ad : Bool) (i : Nat) : Nat := if ad then (fstK (i + 1) (fun j => (winF l w ad i).contains j) (fun j => who false (atF l j))).length else (winF l w ad i).length
def hitF (l : List Fct) (w lim : Int) (ad : Bool) (i : Nat) : Bool := failB (atF l i) && decide (lim ≤ (cntF l w ad i : Int))
/-- Where the alarms are. -/
def almF (l : List Fct) (w lim : Int) (ad : Bool) : List Nat := fstK l.length (hitF l w lim ad) (fun i => who ad (atF l i))
end Go.Proofs.YtnjmndofcpnmeaaGreatDoor
namespace Go.Proofs.YtnjmndofcpnmeaaGreatDoor
open Go Go.Lib
set_option linter.unusedVariables false

theorem filt_succ (n : Nat) (Q : Nat → Bool) : (List.range (n + 1)).filter Q = (List.range n).filter Q ++ (if Q n then [n] else []) := by
  rw [List.range_succ, List.filter_append]
  congr 1
  cases h : Q n
  · rw [List.filter_cons, h]; rfl
  · rw [List.filter_cons, h]; rfl
/-- What lies ahead of an index of a group, and it. -/
theorem filt_take {Q : Nat → Bool} : ∀ (n p i : Nat), ((List.range n).filter Q)[p]? = some i → ((List.range n).filter Q).take (p + 1) = (List.range (i + 1)).filter Q
  | 0, p, i, h => by simp at h
  | n + 1, p, i, h => by
    rw [filt_succ] at h ⊢
    by_cases hp : p < ((List.range n).filter Q).length
    · rw [List.getElem?_append_left hp] at h
      rw [List.take_append_of_le_length (by omega)]
      exact filt_take n p i h
    · rw [List.getElem?_append_right (by omega)] at h
      cases hq : Q n with
      | false => rw [hq] at h; simp at h
      | true =>
        rw [hq, if_pos rfl] at h
        obtain ⟨h1, h2⟩ : p - ((List.range n).filter Q).length = 0 ∧ n = i := by
          cases hx : p - ((List.range n).filter Q).length with
          | zero => rw [hx] at h; exact ⟨rfl, by simpa using h⟩
          | succ m => rw [hx] at h; simp at h
        subst h2
        rw [if_pos rfl, List.take_of_length_le (by rw [List.length_append, List.length_singleton]; omega), filt_succ, hq, if_pos rfl]
theorem filt_drop {α : Type} {R : α → Bool} : ∀ (h : List α) (low : Nat), low ≤ h.length → (∀ q (hq : q < h.length), q < low → R h[q] = false) → (∀ q (hq : q < h.length), low ≤ q → R h[q] = true) → h.filter R = h.drop low
  | [], low, _, _, _ => by simp
  | x :: h, 0, _, _, k => by
    have h0 := k 0 (by simp) (by omega)
    rw [List.drop_zero, List.filter_cons, show R x = true from h0, if_pos rfl]
    have := filt_drop h 0 (by omega) (fun q hq hl => absurd hl (by omega)) (fun q hq _ => k (q + 1) (by simpa using hq) (by omega))
    rw [this, List.drop_zero]
  | x :: h, low + 1, hle, m, k => by
    have h0 := m 0 (by simp) (by omega)
    rw [List.drop_succ_cons, List.filter_cons, show R x = false from h0, if_neg (by simp)]
    exact filt_drop h low (by simpa using hle) (fun q hq hl => m (q + 1) (by simpa using hq) (by omega)) (fun q hq hl => k (q + 1) (by simpa using hq) (by omega))
/-- The group of one. -/
def grpF (l : List Fct) (ad : Bool) (x : Who) : List Nat := (List.range l.length).filter fun j => failB (atF l j) && decide (who ad (atF l j) = x)
theorem grp_mem {l : List Fct} {ad : Bool} {x : Who} {i : Nat} : i ∈ grpF l ad x ↔ i < l.length ∧ failB (atF l i) = true ∧ who ad (atF l i) = x := by
  unfold grpF
  rw [List.mem_filter, List.mem_range, Bool.and_eq_true, decide_eq_true_eq]
/-- The facts stand in the order of their times. -/
def ordT (l : List Fct) : Prop := ∀ i j, i ≤ j → j < l.length → (atF l i).t ≤ (atF l j).t
theorem grp_sorted {l : List Fct} {ad : Bool} {x : Who} : (grpF l ad x).Pairwise (· < ·) := List.Pairwise.filter _ List.pairwise_lt_range
/-- The window that ends at an element of a group. -/
theorem win_slice {l : List Fct} (ho : ordT l) {w : Int} {ad : Bool} {x : Who} {p low i : Nat} (hp : (grpF l ad x)[p]? = some i) (hlow : low ≤ p + 1)
    (h1 : ∀ q j, q < low → (grpF l ad x)[q]? = some j → (atF l j).t < (atF l i).t - w)
    (h2 : ∀ j, (grpF l ad x)[low]? = some j → low ≤ p → (atF l i).t - w ≤ (atF l j).t) : winF l w ad i = ((grpF l ad x).take (p + 1)).drop low := by
  have hi := grp_mem.1 (List.mem_of_getElem? hp)
  have hpl : p < (grpF l ad x).length := (List.getElem?_eq_some_iff.1 hp).1
  have ht := filt_take (Q := fun j => failB (atF l j) && decide (who ad (atF l j) = x)) l.length p i hp
  have hw : winF l w ad i = ((grpF l ad x).take (p + 1)).filter fun j => decide ((atF l i).t - w ≤ (atF l j).t) := by
    unfold winF
    rw [show (grpF l ad x).take (p + 1) = (List.range (i + 1)).filter (fun j => failB (atF l j) && decide (who ad (atF l j) = x)) from ht, List.filter_filter, hi.2.2]
    congr 1
    funext j
    rw [Bool.and_comm]
  rw [hw]
  have hlen : ((grpF l ad x).take (p + 1)).length = p + 1 := by rw [List.length_take]; omega
  refine filt_drop _ low (by omega) (fun q hq hl => ?_) (fun q hq hl => ?_)
  · rw [decide_eq_false_iff_not]
    have := h1 q (((grpF l ad x).take (p + 1))[q]) hl (by rw [List.getElem_take]; exact List.getElem?_eq_getElem _)
    omega
  · rw [decide_eq_true_eq]
    have hlp : low ≤ p := by omega
    have h3 := h2 ((grpF l ad x)[low]'(by omega)) (List.getElem?_eq_getElem _) hlp
    have h4 : (grpF l ad x)[low]'(by omega) ≤ (grpF l ad x)[q]'(by omega) := by
      rcases Nat.lt_or_eq_of_le hl with h | rfl
      · exact Nat.le_of_lt (List.pairwise_iff_getElem.1 grp_sorted low q (by omega) (by omega) h)
      · exact Nat.le_refl _
    have h5 := ho _ _ h4 (grp_mem.1 (List.getElem_mem (by omega : q < (grpF l ad x).length))).1
    rw [List.getElem_take]
    omega
end Go.Proofs.YtnjmndofcpnmeaaGreatDoor
namespace Go.Proofs.YtnjmndofcpnmeaaGreatDoor
open Go Go.Lib
set_option linter.unusedVariables false

theorem hit_fail {l : List Fct} {w lim : Int} {ad : Bool} {i : Nat} (h : hitF l w lim ad i = true) : failB (atF l i) = true := by
  unfold hitF at h
  rw [Bool.and_eq_true] at h
  exact h.1
theorem alm_lt {l : List Fct} {w lim : Int} {ad : Bool} {i : Nat} (h : i ∈ almF l w lim ad) : i < l.length := (fstK_mem.1 h).1
/-- The first hit of a group is its alarm. -/
theorem find_alm {l : List Fct} {w lim : Int} {ad : Bool} {x : Who} {i : Nat} : (grpF l ad x).find? (hitF l w lim ad) = some i ↔ i ∈ almF l w lim ad ∧ who ad (atF l i) = x := by
  rw [List.find?_eq_some_iff_getElem]
  constructor
  · rintro ⟨hh, p, hp, rfl, hb⟩
    have hm := grp_mem.1 (List.getElem_mem hp)
    refine ⟨fstK_mem.2 ⟨hm.1, hh, fun j hj hhj e => ?_⟩, hm.2.2⟩
    have hjm : j ∈ grpF l ad x := grp_mem.2 ⟨by omega, hit_fail hhj, e.trans hm.2.2⟩
    obtain ⟨q, hq, rfl⟩ := List.getElem_of_mem hjm
    have hqp : q < p := by
      rcases Nat.lt_trichotomy q p with h | h | h
      · exact h
      · subst h; omega
      · have := List.pairwise_iff_getElem.1 (grp_sorted (l := l) (ad := ad) (x := x)) p q hp hq h
        omega
    have := hb q hqp
    rw [hhj] at this
    exact absurd this (by decide)
  · rintro ⟨hm, rfl⟩
    obtain ⟨h1, h2, h3⟩ := fstK_mem.1 hm
    have hmem : i ∈ grpF l ad (who ad (atF l i)) := grp_mem.2 ⟨h1, hit_fail h2, rfl⟩
    obtain ⟨p, hp, hpi⟩ := List.getElem_of_mem hmem
    refine ⟨h2, p, hp, hpi, fun q hq => ?_⟩
    have hql : q < (grpF l ad (who ad (atF l i))).length := by omega
    have hlt := List.pairwise_iff_getElem.1 (grp_sorted (l := l) (ad := ad) (x := who ad (atF l i))) q p hql hp hq
    rw [hpi] at hlt
    cases hh : hitF l w lim ad ((grpF l ad (who ad (atF l i)))[q]) with
    | false => rfl
    | true => exact absurd (grp_mem.1 (List.getElem_mem hql)).2.2 (h3 _ hlt hh)
/-- Two rising lists with the same members are one. -/
theorem rise_eq : ∀ {a b : List Nat}, a.Pairwise (· < ·) → b.Pairwise (· < ·) → (∀ x, x ∈ a ↔ x ∈ b) → a = b
  | [], [], _, _, _ => rfl
  | [], y :: b, _, _, h => absurd ((h y).2 (by simp)) (by simp)
  | x :: a, [], _, _, h => absurd ((h x).1 (by simp)) (by simp)
  | x :: a, y :: b, ha, hb, h => by
    rw [List.pairwise_cons] at ha hb
    have hxy : x = y := by
      rcases List.mem_cons.1 ((h x).1 (by simp)) with e | e
      · exact e
      · rcases List.mem_cons.1 ((h y).2 (by simp)) with e' | e'
        · exact e'.symm
        · have h1 := hb.1 x e
          have h2 := ha.1 y e'
          omega
    subst hxy
    have : a = b := rise_eq ha.2 hb.2 fun z => by
      constructor
      · intro hz
        rcases List.mem_cons.1 ((h z).1 (List.mem_cons_of_mem _ hz)) with e | e
        · have := ha.1 z hz; omega
        · exact e
      · intro hz
        rcases List.mem_cons.1 ((h z).2 (List.mem_cons_of_mem _ hz)) with e | e
        · have := hb.1 z hz; omega
        · exact e
    rw [this]
theorem alm_sorted {l : List Fct} {w lim : Int} {ad : Bool} : (almF l w lim ad).Pairwise (· < ·) := List.Pairwise.filter _ List.pairwise_lt_range
/-- What the groups give, put in order, are the alarms. -/
theorem alms_of {l : List Fct} {w lim : Int} {ad : Bool} {f : List Nat} (hs : f.Pairwise (· < ·)) (h : ∀ i, i ∈ f ↔ ∃ x, (grpF l ad x).find? (hitF l w lim ad) = some i) : f = almF l w lim ad :=
  rise_eq hs alm_sorted fun i => by
    rw [h]
    constructor
    · rintro ⟨x, hx⟩; exact (find_alm.1 hx).1
    · intro hi; exact ⟨_, find_alm.2 ⟨hi, rfl⟩⟩
end Go.Proofs.YtnjmndofcpnmeaaGreatDoor
namespace Go.Proofs.YtnjmndofcpnmeaaGreatDoor
open Go Go.Lib
set_option linter.unusedVariables false

theorem mem_eq_len {α : Type} [DecidableEq α] {a b : List α} (ha : a.Nodup) (hb : b.Nodup) (h : ∀ x, x ∈ a ↔ x ∈ b) : a.length = b.length :=
  Nat.le_antisymm (nodup_le ha fun x hx => (h x).1 hx) (nodup_le hb fun x hx => (h x).2 hx)
/-- The different clients of a window, however they are told. -/
theorem cnt_any {l : List Fct} {w : Int} {i : Nat} {ks : List Who} (hd : ks.Nodup) (h : ∀ x, x ∈ ks ↔ ∃ j ∈ winF l w true i, who false (atF l j) = x) : cntF l w true i = ks.length := by
  unfold cntF
  rw [if_pos rfl]
  have h1 : ((fstK (i + 1) (fun j => (winF l w true i).contains j) (fun j => who false (atF l j))).map (fun j => who false (atF l j))).Nodup := nodup_mapK fstK_nodup fun a ha b hb => fstK_one ha hb
  have := mem_eq_len h1 hd fun x => by
    rw [h]
    constructor
    · intro hx
      obtain ⟨j, hj, e⟩ := List.mem_map.1 hx
      have := (fstK_mem.1 hj).2.1
      rw [List.contains_iff_mem] at this
      exact ⟨j, this, e⟩
    · rintro ⟨j, hj, rfl⟩
      have hji : j < i + 1 := by
        unfold winF at hj
        exact List.mem_range.1 (List.mem_filter.1 hj).1
      obtain ⟨m, hm, e, _⟩ := fstK_ex (n := i + 1) (P := fun j => (winF l w true i).contains j) (K := fun j => who false (atF l j)) j hji (by rw [List.contains_iff_mem]; exact hj)
      exact List.mem_map.2 ⟨m, hm, e⟩
  rw [← this, List.length_map]
theorem cnt_win {l : List Fct} {w : Int} {i : Nat} : cntF l w false i = (winF l w false i).length := by unfold cntF; rw [if_neg (by decide)]
/-- A list of different ones, one after the other. -/
def addK {α : Type} [DecidableEq α] (ks : List α) (x : α) : List α := if x ∈ ks then ks else ks ++ [x]
theorem addK_mem {α : Type} [DecidableEq α] {ks : List α} {x y : α} : y ∈ addK ks x ↔ y ∈ ks ∨ y = x := by
  unfold addK
  split
  · next h => exact ⟨.inl, fun k => k.elim id fun e => e ▸ h⟩
  · simp
theorem addK_nodup {α : Type} [DecidableEq α] {ks : List α} {x : α} (h : ks.Nodup) : (addK ks x).Nodup := by
  unfold addK
  split
  · exact h
  · next hx =>
    rw [List.nodup_append]
    refine ⟨h, by simp, fun a ha b hb => ?_⟩
    rw [List.mem_singleton] at hb
    subst hb
    exact fun e => hx (e ▸ ha)
/-! Activities. -/
/-- How many facts have a code. -/
def codF (l : List Fct) (c : Int) : Nat := (l.filter fun f => decide (f.co = c)).length
end Go.Proofs.YtnjmndofcpnmeaaGreatDoor
