/- Texts laid together (wip/tools/automerge.py): Ls2, Pure3, Der5, Gr11. -/
import Derived.Test.YtnjmndofcpnmeaaGreatDoorBa47
import Derived.Test.YtnjmndofcpnmeaaGreatDoorBa48
import Derived.Test.YtnjmndofcpnmeaaGreatDoorBa49
import Derived.Test.YtnjmndofcpnmeaaGreatDoorBa44
import Derived.Test.YtnjmndofcpnmeaaGreatDoorBa1
import Derived.Lib.SliceRun
import Derived.Deep.QuietTactic
import Derived.BigQuiet
import Derived.Test.YtnjmndofcpnmeaaGreatDoorBa41
import Derived.Test.YtnjmndofcpnmeaaGreatDoorBa45
import Derived.Test.YtnjmndofcpnmeaaGreatDoorBa5
namespace Go.Proofs.YtnjmndofcpnmeaaGreatDoor
open Go Go.RowKit Go.Maps
set_option linter.unusedVariables false

theorem fE_ok : fE.ok = true := by kernel_rfl
theorem fE_txt : fE.txt = [49, 48, 48, 46, 48, 48, 48, 48, 48, 53, 32, 105, 110, 105, 116, 105, 97, 108, 32, 117, 64, 82, 32, 107, 114, 98, 116, 103, 116, 47, 82, 64, 82, 32, 49, 48, 46, 48, 46, 48, 46, 49, 32, 48, 32, 50, 32, 102, 111, 114, 119, 97, 114, 100, 97, 98, 108, 101, 44, 105, 110, 105, 116, 105, 97, 108] := by kernel_rfl
theorem fE_log : plogF (splb 10 [] ([49, 48, 48, 46, 48, 48, 48, 48, 48, 53, 32, 105, 110, 105, 116, 105, 97, 108, 32, 117, 64, 82, 32, 107, 114, 98, 116, 103, 116, 47, 82, 64, 82, 32, 49, 48, 46, 48, 46, 48, 46, 49, 32, 48, 32, 50, 32, 102, 111, 114, 119, 97, 114, 100, 97, 98, 108, 101, 44, 105, 110, 105, 116, 105, 97, 108] ++ [10] ++ [49, 48, 48, 46, 48, 48, 48, 48, 48, 53, 32, 105, 110, 105, 116, 105, 97, 108, 32, 117, 64, 82, 32, 107, 114, 98, 116, 103, 116, 47, 82, 64, 82, 32, 49, 48, 46, 48, 46, 48, 46, 49, 32, 48, 32, 50, 32, 102, 111, 114, 119, 97, 114, 100, 97, 98, 108, 101, 44, 105, 110, 105, 116, 105, 97, 108])) [] = ([], 2, 6) := by
  have hs : splb 10 [] ([49, 48, 48, 46, 48, 48, 48, 48, 48, 53, 32, 105, 110, 105, 116, 105, 97, 108, 32, 117, 64, 82, 32, 107, 114, 98, 116, 103, 116, 47, 82, 64, 82, 32, 49, 48, 46, 48, 46, 48, 46, 49, 32, 48, 32, 50, 32, 102, 111, 114, 119, 97, 114, 100, 97, 98, 108, 101, 44, 105, 110, 105, 116, 105, 97, 108] ++ [10] ++ [49, 48, 48, 46, 48, 48, 48, 48, 48, 53, 32, 105, 110, 105, 116, 105, 97, 108, 32, 117, 64, 82, 32, 107, 114, 98, 116, 103, 116, 47, 82, 64, 82, 32, 49, 48, 46, 48, 46, 48, 46, 49, 32, 48, 32, 50, 32, 102, 111, 114, 119, 97, 114, 100, 97, 98, 108, 101, 44, 105, 110, 105, 116, 105, 97, 108]) = [[49, 48, 48, 46, 48, 48, 48, 48, 48, 53, 32, 105, 110, 105, 116, 105, 97, 108, 32, 117, 64, 82, 32, 107, 114, 98, 116, 103, 116, 47, 82, 64, 82, 32, 49, 48, 46, 48, 46, 48, 46, 49, 32, 48, 32, 50, 32, 102, 111, 114, 119, 97, 114, 100, 97, 98, 108, 101, 44, 105, 110, 105, 116, 105, 97, 108], [49, 48, 48, 46, 48, 48, 48, 48, 48, 53, 32, 105, 110, 105, 116, 105, 97, 108, 32, 117, 64, 82, 32, 107, 114, 98, 116, 103, 116, 47, 82, 64, 82, 32, 49, 48, 46, 48, 46, 48, 46, 49, 32, 48, 32, 50, 32, 102, 111, 114, 119, 97, 114, 100, 97, 98, 108, 101, 44, 105, 110, 105, 116, 105, 97, 108]] := by kernel_rfl
  have hp : prsF [49, 48, 48, 46, 48, 48, 48, 48, 48, 53, 32, 105, 110, 105, 116, 105, 97, 108, 32, 117, 64, 82, 32, 107, 114, 98, 116, 103, 116, 47, 82, 64, 82, 32, 49, 48, 46, 48, 46, 48, 46, 49, 32, 48, 32, 50, 32, 102, 111, 114, 119, 97, 114, 100, 97, 98, 108, 101, 44, 105, 110, 105, 116, 105, 97, 108] = some fE := by rw [← fE_txt]; exact prsF_txt ((Fct.ok_iff _).1 fE_ok)
  rw [hs, plog_some hp, plog_one, if_neg (by simp)]
  rfl
theorem fE_lines : ∀ x ∈ splb 10 [] ([49, 48, 48, 46, 48, 48, 48, 48, 48, 53, 32, 105, 110, 105, 116, 105, 97, 108, 32, 117, 64, 82, 32, 107, 114, 98, 116, 103, 116, 47, 82, 64, 82, 32, 49, 48, 46, 48, 46, 48, 46, 49, 32, 48, 32, 50, 32, 102, 111, 114, 119, 97, 114, 100, 97, 98, 108, 101, 44, 105, 110, 105, 116, 105, 97, 108] ++ [10] ++ [49, 48, 48, 46, 48, 48, 48, 48, 48, 53, 32, 105, 110, 105, 116, 105, 97, 108, 32, 117, 64, 82, 32, 107, 114, 98, 116, 103, 116, 47, 82, 64, 82, 32, 49, 48, 46, 48, 46, 48, 46, 49, 32, 48, 32, 50, 32, 102, 111, 114, 119, 97, 114, 100, 97, 98, 108, 101, 44, 105, 110, 105, 116, 105, 97, 108]), x.length ≤ 3000 := by
  have hs : splb 10 [] ([49, 48, 48, 46, 48, 48, 48, 48, 48, 53, 32, 105, 110, 105, 116, 105, 97, 108, 32, 117, 64, 82, 32, 107, 114, 98, 116, 103, 116, 47, 82, 64, 82, 32, 49, 48, 46, 48, 46, 48, 46, 49, 32, 48, 32, 50, 32, 102, 111, 114, 119, 97, 114, 100, 97, 98, 108, 101, 44, 105, 110, 105, 116, 105, 97, 108] ++ [10] ++ [49, 48, 48, 46, 48, 48, 48, 48, 48, 53, 32, 105, 110, 105, 116, 105, 97, 108, 32, 117, 64, 82, 32, 107, 114, 98, 116, 103, 116, 47, 82, 64, 82, 32, 49, 48, 46, 48, 46, 48, 46, 49, 32, 48, 32, 50, 32, 102, 111, 114, 119, 97, 114, 100, 97, 98, 108, 101, 44, 105, 110, 105, 116, 105, 97, 108]) = [[49, 48, 48, 46, 48, 48, 48, 48, 48, 53, 32, 105, 110, 105, 116, 105, 97, 108, 32, 117, 64, 82, 32, 107, 114, 98, 116, 103, 116, 47, 82, 64, 82, 32, 49, 48, 46, 48, 46, 48, 46, 49, 32, 48, 32, 50, 32, 102, 111, 114, 119, 97, 114, 100, 97, 98, 108, 101, 44, 105, 110, 105, 116, 105, 97, 108], [49, 48, 48, 46, 48, 48, 48, 48, 48, 53, 32, 105, 110, 105, 116, 105, 97, 108, 32, 117, 64, 82, 32, 107, 114, 98, 116, 103, 116, 47, 82, 64, 82, 32, 49, 48, 46, 48, 46, 48, 46, 49, 32, 48, 32, 50, 32, 102, 111, 114, 119, 97, 114, 100, 97, 98, 108, 101, 44, 105, 110, 105, 116, 105, 97, 108]] := by kernel_rfl
  rw [hs]
  intro x hx
  simp only [List.mem_cons, List.not_mem_nil, or_false, or_self] at hx
  subst hx
  decide
/-- How many codes there are. -/
theorem CD.size {D : DataW Unit} {l : List Fct} (h : CD D l) (he : ∃ es, D = .map es ∧ es.Pairwise (fun p q => p.1 ≠ q.1) ∧ ∀ p ∈ es, WideAt.IsKeyLit p.1) {ks : List Int} (hn : ks.Nodup) (hk : ∀ z, z ∈ ks ↔ 0 < codF l z) : Maps.size D = ks.length := by
  classical
  obtain ⟨es, rfl, h1, h2⟩ := he
  have a1 : (es.map Prod.fst).Nodup := List.pairwise_map.2 h1
  have a2 : (ks.map (Lit.int .i64)).Nodup := List.pairwise_map.2 (hn.imp fun hab => litI_ne hab)
  have := mem_eq_len a1 a2 fun kl => by
    constructor
    · intro hm
      obtain ⟨p, hp, rfl⟩ := List.mem_map.1 hm
      have hh : Maps.has (.map es) p.1 = true := List.any_eq_true.2 ⟨p, hp, WideAt.sameKey_self (h2 p hp)⟩
      obtain ⟨s, hs⟩ := h.ints _ hh
      rw [hs] at hh ⊢
      exact List.mem_map.2 ⟨s, (hk s).2 ((h.has s).1 hh), rfl⟩
    · intro hm
      obtain ⟨s, hs, rfl⟩ := List.mem_map.1 hm
      obtain ⟨p, hp, e⟩ := List.any_eq_true.1 ((h.has s).2 ((hk s).1 hs))
      exact List.mem_map.2 ⟨p, hp, WideAt.sameKey_eq e⟩
  rw [List.length_map, List.length_map] at this
  exact this
theorem cod2 (z : Int) : codF [fE, gE] z = if z = 0 ∨ z = 24 then 1 else 0 := by
  show codF ([fE] ++ [gE]) z = _
  rw [codF_snoc]
  show codF ([] ++ [fE]) z + _ = _
  rw [codF_snoc]
  show (0 + if (0 : Int) = z then 1 else 0) + (if (24 : Int) = z then 1 else 0) = _
  by_cases h0 : z = 0
  · subst h0; rfl
  · by_cases h1 : z = 24
    · subst h1; rfl
    · rw [if_neg (by omega), if_neg (by omega), if_neg (by omega)]
/-- What Codes answers in the example. -/
theorem codes2_at (b : Nat) (A : Option Addr) (w : World) (hF : FS w (.slice A 2 2) [fX b, gX 103 b]) :
    Calls Tryz.prog 22 #[.slice A 2 2] w fun e w' => (∃ (m : Nat) (D : DataW Unit), e = .returned (.map (some m)) ∧ CMap w' m 2 D ∧ Maps.size D = 2 ∧ D.atKey (.int .i64 0) (.lit (.int .i64 0)) = .lit (.int .i64 1) ∧ D.atKey (.int .i64 24) (.lit (.int .i64 0)) = .lit (.int .i64 1)) ∧ Ext w w' := by
  refine (Codes_at A 2 [fX b, gX 103 b] w hF (show 2 ≤ 1000 by decide) (fun f hf => by
    simp at hf
    rcases hf with rfl | rfl
    · exact ⟨(by decide : (-9223372036854775808 : Int) ≤ 0), (by decide : (0 : Int) ≤ 9223372036854775807)⟩
    · exact ⟨(by decide : (-9223372036854775808 : Int) ≤ 24), (by decide : (24 : Int) ≤ 9223372036854775807)⟩)).mono ?_
  rintro e w' ⟨⟨D, rfl, hm, hd⟩, hx⟩
  rw [l2_fct] at hd
  refine ⟨⟨_, D, rfl, hm, ?_, ?_, ?_⟩, hx⟩
  · refine (hd.size (World.ownsMap.entries hm lawInt) (ks := [0, 24]) (by decide) fun z => ?_).trans rfl
    rw [cod2]
    constructor
    · intro h; simp at h; rw [if_pos h]; decide
    · intro h
      by_cases hz : z = 0 ∨ z = 24
      · simpa using hz
      · rw [if_neg hz] at h; cases h
  · rw [hd.at_ 0, cod2, if_pos (.inl rfl)]; rfl
  · rw [hd.at_ 24, cod2, if_pos (.inr rfl)]; rfl
theorem plog2_at (S s : ByteArray) (hSL : S.data.toList = [49, 48, 48, 46, 48, 48, 48, 48, 48, 53, 32, 105, 110, 105, 116, 105, 97, 108, 32, 117, 64, 82, 32, 107, 114, 98, 116, 103, 116, 47, 82, 64, 82, 32, 49, 48, 46, 48, 46, 48, 46, 49, 32, 48, 32, 50, 32, 102, 111, 114, 119, 97, 114, 100, 97, 98, 108, 101, 44, 105, 110, 105, 116, 105, 97, 108]) (hs : s.data.toList = S.data.toList ++ [10] ++ S.data.toList) (W : World) (hE : EnvA W) :
    Calls Tryz.prog 12 #[.string s] W fun e w' => e = .returned (.tuple #[.slice none 0 0, .int .i64 2, .int .i64 6]) ∧ Ext W w' := by
  rw [hSL] at hs
  refine (LParseLog_at s (by rw [← size_list, hs]; exact of_decide_eq_true (by kernel_rfl)) (by rw [hs]; exact fE_lines) W hE).mono ?_
  rintro e w' ⟨h, hx⟩
  unfold PLg at h
  rw [hs, fE_log] at h
  rcases h with ⟨v, fs, _, _, _, h⟩ | ⟨n, he, h⟩
  · injection h with _ h; injection h with _ h; cases h
  · injection h with _ h; injection h with h _; subst h
    exact ⟨he, hx⟩
theorem conv_lit (w : World) (d : UInt8) (x : Int) (h : (d.toNat : Int) = x) : (convert 32 9 (.slice (some ⟨w.heap.size, 0, none⟩) 1 1)).run Tryz.prog (w.alloc (.cells #[.int .u8 x] 5)) = .ok (.string ⟨#[d]⟩) (w.alloc (.cells #[.int .u8 x] 5)) :=
  run_str _ _ _ 5 _ [d] Tryz.underlying32 Tryz.underlying5 Tryz.underlying9 (OB.lit w 5 0 [.int .u8 x] [d] (by simp [bv, h]) 1 rfl (by simp [maxLen]) (by omega)).bs
set_option maxRecDepth 100000 in
set_option maxHeartbeats 1600000 in
theorem LKnown_at (w : World) (hE : EnvA w) :
    Calls Tryz.prog 10 #[] w fun e w' => e = .returned (.bool true) ∧ Ext w w' := by
  have HS := Lib.hid (sample_at w)
  unfold FV.val at HS
  have HE := Lib.hid hE
  obtain ⟨S, hS⟩ : ∃ S : ByteArray, (⟨fE.txt.toArray⟩ : ByteArray) = S := ⟨_, rfl⟩
  have hSL : S.data.toList = [49, 48, 48, 46, 48, 48, 48, 48, 48, 53, 32, 105, 110, 105, 116, 105, 97, 108, 32, 117, 64, 82, 32, 107, 114, 98, 116, 103, 116, 47, 82, 64, 82, 32, 49, 48, 46, 48, 46, 48, 46, 49, 32, 48, 32, 50, 32, 102, 111, 114, 119, 97, 114, 100, 97, 98, 108, 101, 44, 105, 110, 105, 116, 105, 97, 108] := by rw [← hS]; exact fE_txt
  have HT := Lib.hid (fun b W (h : SX W b) (hE : EnvA W) => (LText_yes (fX b) W h.f (fX_sz b) hE fE_ok))
  unfold FV.val at HT
  simp only [fX_fct] at HT
  rw [hS] at HT
  have HA1 := Lib.hid (fun W (h : EnvA W) => alarm_one 5 2 2 103 103 (by decide) (by decide) (by decide) (by decide) (by decide) a_alm W h)
  have HA2 := Lib.hid (fun W (h : EnvA W) => alarm_none 5 3 (by decide) (by decide) (by decide) (by decide) l3_b 0 0 W h)
  have HA3 := Lib.hid (fun W (h : EnvA W) => alarm_one 6 3 3 103 109 (by decide) (by decide) (by decide) (by decide) (by decide) c_alm W h)
  have HPL := Lib.hid (fun (s : ByteArray) (hs : s.data.toList = S.data.toList ++ [10] ++ S.data.toList) W (hE : EnvA W) => plog2_at S s hSL hs W hE)
  have hSE : (S.toList == [49, 48, 48, 46, 48, 48, 48, 48, 48, 53, 32, 105, 110, 105, 116, 105, 97, 108, 32, 117, 64, 82, 32, 107, 114, 98, 116, 103, 116, 47, 82, 64, 82, 32, 49, 48, 46, 48, 46, 48, 46, 49, 32, 48, 32, 50, 32, 102, 111, 114, 119, 97, 114, 100, 97, 98, 108, 101, 44, 105, 110, 105, 116, 105, 97, 108]) = true := by rw [ByteArray.toList_eq, hSL]; rfl
  have hSZ : (S.size : Int) ≤ 1000 := by rw [← size_list, hSL]; decide
  clear hE hS hSL
  go_enter Tryz.func10, Tryz.ntmps10
  go_wp2_with fail
  refine HS.out.mono ?_
  rintro _ w1 ⟨⟨b, rfl, hS⟩, hx1⟩
  have HX1 := Lib.hid hx1
  obtain ⟨W2, e2, z1, z2, hx2⟩ := two_vars w1
  have HSX := Lib.hid hS; have HX2 := Lib.hid hx2
  clear hS hx1 hx2
  go_upto_region 2 with (first
    | (refine wpList_store_var W2 rfl (.tmp 1) (.tmp 11) 41 rfl w1.heap.size 41 #[.int .i64 0, .int .i64 0, .int .i64 0, .int .i64 0, .slice none 0 0, .slice none 0 0, .string ⟨#[]⟩, .slice none 0 0, .string ⟨#[]⟩, .int .i64 0, .int .i64 0, .int .u32 0] #[.int .i64 100, .int .i64 5, .int .i64 10, .int .i64 2, .slice (some ⟨b, 0, none⟩) 4 4, .slice (some ⟨b + 1, 0, none⟩) 1 1, .string ⟨#[82]⟩, .slice (some ⟨b + 1 + 1, 0, none⟩) 2 2, .string ⟨#[82]⟩, .int .i64 0, .int .i64 2, .int .u32 257] rfl rfl (Tryz.sizeOf41 W2) z1 rfl (one8 rfl) ?_; intro WA hA hgA; have z2A := (hgA.block (w1.heap.size + 1) (Array.getElem?_eq_some_iff.1 z2).1 (by simp)).trans z2)
    | (refine wpList_store_var _ rfl (.tmp 2) (.tmp 12) 41 rfl (w1.heap.size + 1) 41 #[.int .i64 0, .int .i64 0, .int .i64 0, .int .i64 0, .slice none 0 0, .slice none 0 0, .string ⟨#[]⟩, .slice none 0 0, .string ⟨#[]⟩, .int .i64 0, .int .i64 0, .int .u32 0] #[.int .i64 103, .int .i64 5, .int .i64 10, .int .i64 2, .slice (some ⟨b, 0, none⟩) 4 4, .slice (some ⟨b + 1, 0, none⟩) 1 1, .string ⟨#[82]⟩, .slice (some ⟨b + 1 + 1, 0, none⟩) 2 2, .string ⟨#[82]⟩, .int .i64 24, .int .i64 0, .int .u32 0] rfl rfl (Tryz.sizeOf41 _) z2A rfl (one8 rfl) ?_; intro WB bG hgB)
    | fail)
  have hxB : Ext w1 WB := Below.grown (Below.grown HX2.out hgA HX2.out.size (fun j hj => by cases hj; exact Nat.le_refl _)) hgB (Nat.le_trans HX2.out.size hgA.size) (fun j hj => by cases hj; exact Nat.le_succ _)
  have hSB := HSX.out.ext hxB
  have bF : FBx WB w1.heap.size (fX b) := (hgB.block w1.heap.size (Array.getElem?_eq_some_iff.1 hA).1 (by simp)).trans hA
  have HBF := Lib.hid bF; have HBG := Lib.hid (show FBx WB (w1.heap.size + 1) (gX 103 b) from bG); have HSB := Lib.hid hSB; have HXB := Lib.hid (HX1.out.trans hxB)
  clear e2 z1 z2 z2A hA hgA hgB bF bG hSB hxB
  obtain ⟨u0, u1, u2, u3, u4, u5, u6, u7, u8, u9, u10, u11⟩ := HBF.out.cells
  go_wp2_with fail
  refine (HT.out b _ HSB.out (HE.out.ext HXB.out)).mono ?_
  rintro _ w2 ⟨rfl, hx2⟩
  have HX2 := Lib.hid hx2; have HE2 := Lib.hid (HE.out.ext (HXB.out.trans hx2))
  clear hx2 u0 u1 u2 u3 u4 u5 u6 u7 u8 u9 u10 u11
  go_wp2_with fail
  refine (HA1.out _ HE2.out).mono ?_
  rintro _ w3 ⟨rfl, hx3⟩
  have HX3 := Lib.hid (HX2.out.trans hx3); have HE3 := Lib.hid (HE2.out.ext hx3)
  clear hx3
  go_wp2_with fail
  refine (HA2.out _ HE3.out).mono ?_
  rintro _ w4 ⟨rfl, hx4⟩
  have HX4 := Lib.hid (HX3.out.trans hx4); have HE4 := Lib.hid (HE3.out.ext hx4)
  clear hx4
  go_wp2_with fail
  refine (HA3.out _ HE4.out).mono ?_
  rintro _ w5 ⟨rfl, hx5⟩
  have HX5 := Lib.hid (HX4.out.trans hx5); have HE5 := Lib.hid (HE4.out.ext hx5)
  clear hx5
  have hcv := conv_lit w5 10 10 rfl
  have HXA := Lib.hid (HX5.out.alloc (.cells #[.int .u8 10] 5))
  have HEA := Lib.hid (HE5.out.ext ((Ext.refl w5).alloc (.cells #[.int .u8 10] 5)))
  have hcat : (S ++ ⟨#[10]⟩ ++ S : ByteArray).data.toList = S.data.toList ++ [10] ++ S.data.toList := by simp
  have HPS := Lib.hid (HPL.out (S ++ ⟨#[10]⟩ ++ S) hcat _ HEA.out)
  clear hcat
  go_wp2_with fail
  refine HPS.out.mono ?_
  rintro _ w6 ⟨rfl, hx6⟩
  have HX6 := Lib.hid (HXA.out.trans hx6)
  clear hx6 hcv
  obtain ⟨u0, u1, u2, u3, u4, u5, u6, u7, u8, u9, u10, u11⟩ := (HBF.out.ext HX6.out).cells
  obtain ⟨v0, v1, v2, v3, v4, v5, v6, v7, v8, v9, v10, v11⟩ := (HBG.out.ext HX6.out).cells
  have f7 := FS.new w6 [fX b, gX 103 b] (show 2 ≤ maxLen by decide) (l2_in (HSB.out.ext HX6.out))
  have x7 := (Ext.refl w6).alloc (.cells #[.int .i64 100, .int .i64 5, .int .i64 10, .int .i64 2, .slice (some ⟨b, 0, none⟩) 4 4, .slice (some ⟨b + 1, 0, none⟩) 1 1, .string ⟨#[82]⟩, .slice (some ⟨b + 1 + 1, 0, none⟩) 2 2, .string ⟨#[82]⟩, .int .i64 0, .int .i64 2, .int .u32 257, .int .i64 103, .int .i64 5, .int .i64 10, .int .i64 2, .slice (some ⟨b, 0, none⟩) 4 4, .slice (some ⟨b + 1, 0, none⟩) 1 1, .string ⟨#[82]⟩, .slice (some ⟨b + 1 + 1, 0, none⟩) 2 2, .string ⟨#[82]⟩, .int .i64 24, .int .i64 0, .int .u32 0] 41)
  change FS (w6.alloc (.cells #[.int .i64 100, .int .i64 5, .int .i64 10, .int .i64 2, .slice (some ⟨b, 0, none⟩) 4 4, .slice (some ⟨b + 1, 0, none⟩) 1 1, .string ⟨#[82]⟩, .slice (some ⟨b + 1 + 1, 0, none⟩) 2 2, .string ⟨#[82]⟩, .int .i64 0, .int .i64 2, .int .u32 257, .int .i64 103, .int .i64 5, .int .i64 10, .int .i64 2, .slice (some ⟨b, 0, none⟩) 4 4, .slice (some ⟨b + 1, 0, none⟩) 1 1, .string ⟨#[82]⟩, .slice (some ⟨b + 1 + 1, 0, none⟩) 2 2, .string ⟨#[82]⟩, .int .i64 24, .int .i64 0, .int .u32 0] 41)) (.slice (some ⟨w6.heap.size, 0, none⟩) 2 2) _ at f7
  obtain ⟨W7, e7⟩ : ∃ W, w6.alloc (.cells #[.int .i64 100, .int .i64 5, .int .i64 10, .int .i64 2, .slice (some ⟨b, 0, none⟩) 4 4, .slice (some ⟨b + 1, 0, none⟩) 1 1, .string ⟨#[82]⟩, .slice (some ⟨b + 1 + 1, 0, none⟩) 2 2, .string ⟨#[82]⟩, .int .i64 0, .int .i64 2, .int .u32 257, .int .i64 103, .int .i64 5, .int .i64 10, .int .i64 2, .slice (some ⟨b, 0, none⟩) 4 4, .slice (some ⟨b + 1, 0, none⟩) 1 1, .string ⟨#[82]⟩, .slice (some ⟨b + 1 + 1, 0, none⟩) 2 2, .string ⟨#[82]⟩, .int .i64 24, .int .i64 0, .int .u32 0] 41) = W := ⟨_, rfl⟩
  rw [e7] at f7 x7
  have HX7 := Lib.hid ((HXB.out.trans HX6.out).trans x7)
  have HC := Lib.hid (codes2_at b _ W7 f7)
  clear f7 x7
  go_wp2_with fail
  refine HC.out.mono ?_
  rintro _ w8 ⟨⟨m, D, rfl, hm, hsz, h0, h24⟩, hx8⟩
  have HX8 := Lib.hid (HX7.out.trans hx8)
  have H0 := Lib.hid h0; have H24 := Lib.hid h24; have HSZ := Lib.hid hsz
  unfold CMap at hm
  have hk0 := keyOf_int_mk (P := Tryz.prog) Tryz.underlying3 (WalkArith.wf_i64 (show i64B 0 by unfold i64B; decide))
  have hk24 := keyOf_int_mk (P := Tryz.prog) Tryz.underlying3 (WalkArith.wf_i64 (show i64B 24 by unfold i64B; decide))
  clear hx8 e7 h0 h24 hsz u0 u1 u2 u3 u4 u5 u6 u7 u8 u9 u10 u11 v0 v1 v2 v3 v4 v5 v6 v7 v8 v9 v10 v11
  obtain ⟨c0, hr0, ha0, _⟩ := hm.lookup_int lawInt Tryz.underlying60 Tryz.underlying3 (zeroInt _) hk0
  obtain ⟨c1, hr1, ha1, _⟩ := hm.lookup_int lawInt Tryz.underlying60 Tryz.underlying3 (zeroInt _) hk24
  obtain rfl : c0 = 1 := (by rw [H0.out] at ha0; injection ha0 with ha0; injection ha0 with _ ha0; exact ha0.symm)
  obtain rfl : c1 = 1 := (by rw [H24.out] at ha1; injection ha1 with ha1; injection ha1 with _ ha1; exact ha1.symm)
  have hl := hm.len Tryz.underlying60 3
  rw [HSZ.out] at hl
  clear ha0 ha1 hk0 hk24
  go_wp2_with fail
  go_ret
  exact ⟨rfl, HX8.out⟩
end Go.Proofs.YtnjmndofcpnmeaaGreatDoor
namespace Go.Proofs.YtnjmndofcpnmeaaGreatDoor

end Go.Proofs.YtnjmndofcpnmeaaGreatDoor
namespace Go.Proofs.YtnjmndofcpnmeaaGreatDoor
open Go Go.RowKit

set_option maxRecDepth 100000 in
theorem Clone_at (A : Option Addr) (c : Nat) (l : List UInt8) (w : World) (h : BS w (.slice A l.length c) l) (hl : l.length ≤ 140737488355328) :
    Calls Tryz.prog 68 #[.slice A l.length c] w fun e w' => ∃ A c, e = .returned (.slice A l.length c) ∧ OB 5 w' w.heap.size (.slice A l.length c) l ∧ Ext w w' := by
  obtain ⟨i0, hi, hz0, hz1, hz2⟩ := info_parts u8info
  rcases A with _ | ad
  · have h0 : l = [] := by
      obtain ⟨A', c', he, _, _, hc⟩ := h.open_
      injection he with e1 _ _
      subst e1
      rcases Nat.eq_zero_or_pos l.length with h0 | h0
      · exact List.eq_nil_of_length_eq_zero h0
      · obtain ⟨ad, ha, _⟩ := hc h0; cases ha
    subst h0
    have qT : ∀ (w : World), (binOp .eql 32 (.slice none 0 c) (.slice none 0 0)).run Tryz.prog w = .ok (.bool true) w := fun w => Lib.run_eql_slice_nil w _ _ none 0 c 0 0 Tryz.underlying32
    go_enter Tryz.func68, Tryz.ntmps68
    go_wp2
    go_ret
    exact ⟨none, 0, rfl, OB.nil _ _ _, Ext.refl _⟩
  · have qT : ∀ (w : World), (binOp .eql 32 (.slice (some ad) l.length c) (.slice none 0 0)).run Tryz.prog w = .ok (.bool false) w := fun w => Lib.run_eql_slice_nil w _ _ (some ad) l.length c 0 0 Tryz.underlying32
    have HO := Lib.hid (OB.lit w 5 w.heap.size [] [] rfl 0 rfl (by simp [maxLen]) (Nat.le_refl _) (z := w.heap.size) rfl)
    have HL := Lib.hid hl; clear hl
    go_enter Tryz.func68, Tryz.ntmps68
    go_wp2_with (at_builtin; refine wpList_append_bs _ rfl (.tmp 5) (.tmp 6) 32 rfl w.heap.size 5 i0 (.int .u8 0) Tryz.underlying32 hi hz0 hz1 hz2 rfl _ [] rfl HO.out _ l rfl (h.ext ((Ext.refl w).alloc _)) ?hd ?he ?_; rotate_right; intro v3 w3 hown3 hg3 hat3)
    case hd => have := HL.out; simp; omega
    case he => simp
    go_ret
    have hb : OB 5 w3 w.heap.size v3 l := by simpa using hown3
    obtain ⟨A3, c3, rfl⟩ := hb.shape
    exact ⟨_, _, rfl, hb, ((Ext.refl w).alloc _).grown hg3 (fun j hj => OB.lt HO.out j hj)⟩

end Go.Proofs.YtnjmndofcpnmeaaGreatDoor
namespace Go.Proofs.YtnjmndofcpnmeaaGreatDoor
open Go Go.RowKit Go.Maps
set_option linter.unusedVariables false

theorem keyA_len {k : Int} (hk : i64B k) {b : List UInt8} (hb : b.length ≤ 1000) : (keyA k b).length ≤ 2000000 := by
  have h5 := itoa_len20 k hk.1 hk.2
  unfold keyA
  rw [List.length_append, List.length_cons]
  omega
set_option maxRecDepth 100000 in
set_option maxHeartbeats 800000 in
theorem Addresses_at (A : Option Addr) (c : Nat) (xs : List FV) (win lim : Int) (w : World) (hF : FS w (.slice A xs.length c) xs) (hn : xs.length ≤ 1000) (hz : ∀ f ∈ xs, f.Sz) (hwf : ∀ f ∈ xs, i64B f.fk) (hE : EnvA w) (hl : i64B lim) :
    Calls Tryz.prog 18 #[.slice A xs.length c, .int .i64 win, .int .i64 lim] w fun e w' => ALM (xs.map FV.fct) win lim true w e w' ∧ Ext w w' := by
  have HV := Lib.hid (Lvalid_at A c xs win lim w hF hn hz hE)
  have HA := Lib.hid (fun (W : World) (hx : Ext w W) (hb : argB (xs.map FV.fct) win lim) => alarms_at true 66 67 A c xs win lim W (hF.ext hx) hn hz (ok_times hb) (hE.ext hx).env.pow (ordTo_T hb.2.2.2) hb.1 hb.2.1 hl
    (enters_of Tryz.func66 (by kernel_rfl) rfl) (enters_of Tryz.func67 (by kernel_rfl) rfl)
    (fun f hf W' hM hx' => keyFrom_at f W' hM (hz f hf) (hwf f hf) ((hE.ext hx).env.pow.ext hx'))
    (fun f hf => keyA_len (hwf f hf) (hz f hf).fb)
    (fun W' B b m D js h => different_at W' B b m D js _ h))
  have HF := Lib.hid hF; have HZ := Lib.hid hz
  obtain ⟨_, c', he, hc1, hc2⟩ := hF.shape
  injection he with e1 _ e3
  subst e1; subst e3
  obtain ⟨i0, hi, iz0, iz1, iz2⟩ := alm7_info
  obtain ⟨n, hn'⟩ : ∃ n, xs.length = n := ⟨_, rfl⟩
  have HN := Lib.hid hn'
  clear hF hz hE hl hwf
  rw [hn'] at hc1 hn ⊢ HA HV
  clear hn'
  go_enter Tryz.func18, Tryz.ntmps18
  go_wp2_with fail
  refine HV.out.mono ?_
  rintro _ w1 ⟨b, rfl, hb, hx1⟩
  have HX1 := Lib.hid hx1
  cases b with
  | false =>
    have hno : ¬ argB (xs.map FV.fct) win lim := fun h => Bool.noConfusion (hb.2 h)
    have HNO := Lib.hid hno
    clear hno hb hx1
    go_wp2_with fail
    go_ret2
    exact ⟨.inl ⟨HNO.out, rfl⟩, HX1.out⟩
  | true =>
    have hyes := hb.1 rfl
    have HYES := Lib.hid hyes
    have HA1 := Lib.hid (HA.out w1 hx1 hyes)
    clear hyes hb hx1
    go_wp2_with fail
    refine HA1.out.mono ?_
    rintro _ w2 ⟨⟨v, rfl, hrd⟩, hx2⟩
    have HX2 := Lib.hid (HX1.out.trans hx2)
    obtain ⟨AA, ac, rfl, ha1, ha2⟩ := hrd.shape
    unfold maxLen at ha2
    have HRD := Lib.hid hrd
    have hal : (almF (xs.map FV.fct) win lim true).length ≤ 1000 := by
      have h1 := List.length_filter_le (fun i => hitF (xs.map FV.fct) win lim true i && (List.range i).all fun j => !(hitF (xs.map FV.fct) win lim true j && decide (who true (atF (xs.map FV.fct) j) = who true (atF (xs.map FV.fct) i)))) (List.range (xs.map FV.fct).length)
      rw [List.length_range] at h1
      have h2 : (almF (xs.map FV.fct) win lim true).length ≤ (xs.map FV.fct).length := h1
      have := HN.out
      rw [List.length_map] at h2
      omega
    have HLT := Lib.hid (fun i (hi : i ∈ almF (xs.map FV.fct) win lim true) => alm_lt hi)
    clear hx2 hrd
    generalize hALF : almF (xs.map FV.fct) win lim true = al at *
    have HALF := Lib.hid hALF
    clear hALF
    obtain ⟨N, hN⟩ : ∃ N, al.length = N := ⟨_, rfl⟩
    have HNA := Lib.hid hN
    rw [hN] at ha1 hal ⊢ HRD
    clear hN
    go_wp2_with fail
    go_loopw [8, 10, 11, 22] (fun v8 _ _ v21 wr => ∃ (k : Nat) (ms : List MV) (oA : Option Addr) (oc : Nat), v21 = .int .i64 (k : Int) ∧ k ≤ N ∧ v8 = .slice oA ms.length oc ∧ Hid (ms.length = k) ∧ Hid (ROW EM 50 wr w2.heap.size (.slice oA ms.length oc) ms) ∧ Hid (ms.map MV.alm = (al.take k).map (almO (xs.map FV.fct) win true)) ∧ Hid (Ext w2 wr)) (fun _ _ _ v _ => N - (intOf v).toNat)
    case atStart => exact ⟨0, [], none, 0, rfl, by omega, rfl, Lib.hid rfl, Lib.hid (ROW.nil _ _ _), Lib.hid rfl, Lib.hid (Ext.refl _)⟩
    case round =>
      obtain ⟨k, ms, oA, oc, rfl, hk, rfl, HML, HR, HMS, HX⟩ := hrel
      by_cases hlt : k < N
      · have hka : k < al.length := by rw [HNA.out]; exact hlt
        obtain ⟨p, rfl, y0, y1, y2, y3, y4, y5, y6, y7⟩ := (HRD.out.ext HX.out).alm_at k hka
        have hix := HLT.out _ (List.getElem_mem hka)
        rw [List.length_map] at hix
        have HTK := Lib.hid (show (al.take (k + 1)).map (almO (xs.map FV.fct) win true) = (al.take k).map (almO (xs.map FV.fct) win true) ++ [almO (xs.map FV.fct) win true al[k]] by rw [List.take_succ_eq_append_getElem hka, List.map_append, List.map_cons, List.map_nil])
        generalize al[k] = i at *
        have hin : i < n := by rw [← HN.out]; exact hix
        obtain ⟨hIn, lad, rfl, u0, u1, u2, u3, u4, u5, u6, u7, u8, u9, u10, u11⟩ := (HF.out.ext (HX2.out.trans HX.out)).at_ i hix
        have hsz := HZ.out _ (List.getElem_mem hix)
        have HATX := Lib.hid (show (atF (xs.map FV.fct) i).fk = xs[i].fk ∧ (atF (xs.map FV.fct) i).fb = xs[i].fb by rw [atF_xs hix]; exact ⟨rfl, rfl⟩)
        generalize xs[i] = f at *
        -- the box
        have b4 : RW (wr.alloc (.cells #[.slice none 0 0, .string ⟨#[]⟩, .int .i64 0, .slice none 0 0, .int .i64 (cntF (xs.map FV.fct) win true i : Int), .int .i64 (begF (xs.map FV.fct) win true i), .int .i64 (atF (xs.map FV.fct) i).t, .int .i64 (i : Int)] 120)) wr.heap.size 120 #[.slice none 0 0, .string ⟨#[]⟩, .int .i64 0, .slice none 0 0, .int .i64 (cntF (xs.map FV.fct) win true i : Int), .int .i64 (begF (xs.map FV.fct) win true i), .int .i64 (atF (xs.map FV.fct) i).t, .int .i64 (i : Int)] := heap_alloc_new wr _
        have x4 := (Ext.refl wr).alloc (.cells #[.slice none 0 0, .string ⟨#[]⟩, .int .i64 0, .slice none 0 0, .int .i64 (cntF (xs.map FV.fct) win true i : Int), .int .i64 (begF (xs.map FV.fct) win true i), .int .i64 (atF (xs.map FV.fct) i).t, .int .i64 (i : Int)] 120)
        obtain ⟨W4, e4⟩ : ∃ W, wr.alloc (.cells #[.slice none 0 0, .string ⟨#[]⟩, .int .i64 0, .slice none 0 0, .int .i64 (cntF (xs.map FV.fct) win true i : Int), .int .i64 (begF (xs.map FV.fct) win true i), .int .i64 (atF (xs.map FV.fct) i).t, .int .i64 (i : Int)] 120) = W := ⟨_, rfl⟩
        have s4 : W4.heap.size = wr.heap.size + 1 := by rw [← e4, World.size_alloc]
        rw [e4] at b4 x4
        obtain ⟨⟨q0, q1, q2, q3, q4, q5, q6, q7⟩, _⟩ := rw8 b4
        have u3' := x4.cell u3
        have u4' := x4.cell u4
        have b5 := AB.new W4 f.fk f.FA f.fb.length f.fc
        have x5 := (Ext.refl W4).alloc (.cells #[.int .i64 f.fk, .slice f.FA f.fb.length f.fc] 34)
        obtain ⟨W5, e5⟩ : ∃ W, W4.alloc (.cells #[.int .i64 f.fk, .slice f.FA f.fb.length f.fc] 34) = W := ⟨_, rfl⟩
        rw [e5] at b5 x5
        have HB5 := Lib.hid (show AB W5 W4.heap.size f.fk f.FA f.fb.length f.fc from b5)
        have HCL := Lib.hid (fun W' (hw : Ext W5 W') => Clone_at f.FA f.fc f.fb W' (hIn.fb.ext ((x4.trans x5).trans hw)) (by have := hsz.fb; omega))
        have HB4 := Lib.hid (b4.ext x5); have HX4 := Lib.hid (x4.trans x5)
        clear b4 x4 s4 b5 x5 u0 u1 u2 u3 u4 u5 u6 u7 u8 u9 u10 u11 hIn hsz hix hka
        go_wp2_with fail
        refine wp_region_ext_tail 8 (fun i v' w' => match i with | 4 => ∃ A2 c2, v' = .slice A2 f.fb.length c2 ∧ BS w' (.slice A2 f.fb.length c2) f.fb | _ => False) (by kernel_rfl) (by kernel_rfl) ?_
        refine wpE_val (.pointer (some ⟨W4.heap.size, 0, none⟩)) rfl rfl (fun w' hw' K' hK' => ?_) ?_
        · have hE := hw'.1
          go_step
          exact hK'
        simp only [Act.put, List.setIfInBounds_toArray, List.set_cons_succ, List.set_cons_zero]
        refine wpE_val (.int .i64 f.fk) rfl rfl (fun w' hw' K' hK' => ?_) ?_
        · have hE := hw'.1
          obtain ⟨u0, u1⟩ := (HB5.out.ext ((Ext.drew W5).trans hE)).cells
          go_step
          exact hK'
        simp only [Act.put, List.setIfInBounds_toArray, List.set_cons_succ, List.set_cons_zero]
        refine wpE_val (.pointer (some ⟨W4.heap.size, 1, none⟩)) rfl rfl (fun w' hw' K' hK' => ?_) ?_
        · have hE := hw'.1
          go_step
          exact hK'
        simp only [Act.put, List.setIfInBounds_toArray, List.set_cons_succ, List.set_cons_zero]
        refine wpE_val (.slice f.FA f.fb.length f.fc) rfl rfl (fun w' hw' K' hK' => ?_) ?_
        · have hE := hw'.1
          obtain ⟨u0, u1⟩ := (HB5.out.ext ((Ext.drew W5).trans hE)).cells
          go_step
          exact hK'
        simp only [Act.put, List.setIfInBounds_toArray, List.set_cons_succ, List.set_cons_zero]
        refine wpE_call 36 rfl (by simp) rfl (fun w' hw' K' hK' => ?_) ?_
        · have hE := hw'.1
          go_step
          refine (HCL.out w' ((Ext.drew _).trans hE)).mono ?_
          rintro e w2' ⟨A2, c2, rfl, hb, hx⟩
          exact hK' _ _ ⟨_, rfl, A2, c2, rfl, hb.bs⟩ hx
        rintro _ w9x hE9 ⟨A2, c2, rfl, hbs⟩
        simp only [Act.put, List.setIfInBounds_toArray, List.set_cons_succ, List.set_cons_zero]
        refine wpE_val (.agg #[.int .i64 f.fk, .slice A2 f.fb.length c2]) rfl rfl (fun w' hw' K' hK' => ?_) ?_
        · go_step
          exact hK'
        simp only [Act.put, List.setIfInBounds_toArray, List.set_cons_succ, List.set_cons_zero]
        refine wpE_val (.pointer (some ⟨wr.heap.size, 0, none⟩)) rfl rfl (fun w' hw' K' hK' => ?_) ?_
        · go_step
          exact hK'
        simp only [Act.put, List.setIfInBounds_toArray, List.set_cons_succ, List.set_cons_zero]
        refine wpE_val (.pointer (some ⟨wr.heap.size, 2, none⟩)) rfl rfl (fun w' hw' K' hK' => ?_) ?_
        · go_step
          exact hK'
        simp only [Act.put, List.setIfInBounds_toArray, List.set_cons_succ, List.set_cons_zero]
        refine wpE_nil (fun w5 hW => ?_)
        have hx5 := (Ext.drew W5).trans hW.1
        have hbs5 : BS w5 (.slice A2 f.fb.length c2) f.fb := hbs.ext (hW.2 36 w9x (by simp [adds]))
        have b5 := HB4.out.ext hx5
        obtain ⟨⟨d0, d1, d2, d3, d4, d5, d6, d7⟩, _, _, g2, g3⟩ := rw8 b5
        have b6 := (b5.set 2 (.int .i64 f.fk)).set 3 (.slice A2 f.fb.length c2)
        have hbs6 : BS ((w5.setCell ⟨wr.heap.size, 2, none⟩ (.int .i64 f.fk)).setCell ⟨wr.heap.size, 3, none⟩ (.slice A2 f.fb.length c2)) (.slice A2 f.fb.length c2) f.fb := hbs5.but (NoU8.of b5 (fun x hx m e => by subst e; simp at hx)) (grown_set (grown_set (grown_refl _ _) 2 _) 3 _)
        obtain ⟨W6, e6⟩ : ∃ W, (w5.setCell ⟨wr.heap.size, 2, none⟩ (.int .i64 f.fk)).setCell ⟨wr.heap.size, 3, none⟩ (.slice A2 f.fb.length c2) = W := ⟨_, rfl⟩
        rw [e6] at b6 hbs6
        change RW W6 wr.heap.size 120 #[.slice none 0 0, .string ⟨#[]⟩, .int .i64 f.fk, .slice A2 f.fb.length c2, .int .i64 (cntF (xs.map FV.fct) win true i : Int), .int .i64 (begF (xs.map FV.fct) win true i), .int .i64 (atF (xs.map FV.fct) i).t, .int .i64 (i : Int)] at b6
        obtain ⟨⟨h0, h1, h2, h3, h4, h5, h6, h7⟩, _⟩ := rw8 b6
        have x6 : Ext wr W6 := by rw [← e6]; exact ((HX4.out.trans hx5).setCell (p := ⟨wr.heap.size, 2, none⟩) (Nat.le_refl _) _).setCell (p := ⟨wr.heap.size, 3, none⟩) (Nat.le_refl _) _
        have m7 : M7 (W6.alloc (.cells #[.slice none 0 0, .string ⟨#[]⟩, .int .i64 f.fk, .slice A2 f.fb.length c2, .int .i64 (cntF (xs.map FV.fct) win true i : Int), .int .i64 (begF (xs.map FV.fct) win true i), .int .i64 (atF (xs.map FV.fct) i).t] 50)) W6.heap.size ⟨none, [], 0, ⟨#[]⟩, f.fk, A2, f.fb, c2, (cntF (xs.map FV.fct) win true i : Int), begF (xs.map FV.fct) win true i, (atF (xs.map FV.fct) i).t⟩ := heap_alloc_new W6 _
        have x7 := (Ext.refl W6).alloc (.cells #[.slice none 0 0, .string ⟨#[]⟩, .int .i64 f.fk, .slice A2 f.fb.length c2, .int .i64 (cntF (xs.map FV.fct) win true i : Int), .int .i64 (begF (xs.map FV.fct) win true i), .int .i64 (atF (xs.map FV.fct) i).t] 50)
        obtain ⟨W7, e7⟩ : ∃ W, W6.alloc (.cells #[.slice none 0 0, .string ⟨#[]⟩, .int .i64 f.fk, .slice A2 f.fb.length c2, .int .i64 (cntF (xs.map FV.fct) win true i : Int), .int .i64 (begF (xs.map FV.fct) win true i), .int .i64 (atF (xs.map FV.fct) i).t] 50) = W := ⟨_, rfl⟩
        rw [e7] at m7 x7
        have HM7 := Lib.hid m7
        have HR7 := Lib.hid (HR.out.ext (x6.trans x7))
        have HX7 := Lib.hid (HX.out.trans (x6.trans x7))
        have HS7 := Lib.hid (show w2.heap.size ≤ W7.heap.size from HX7.out.size)
        have HIN := Lib.hid (show ∀ y ∈ [(⟨none, [], 0, ⟨#[]⟩, f.fk, A2, f.fb, c2, (cntF (xs.map FV.fct) win true i : Int), begF (xs.map FV.fct) win true i, (atF (xs.map FV.fct) i).t⟩ : MV)], EM.In W7 y ∧ ∀ b, (Value.slice oA ms.length oc).ownBlock = some b → ¬ EM.Blk y b from fun y hy => by
          rw [List.mem_singleton] at hy
          subst hy
          exact ⟨⟨RS.nil W7, hbs6.ext x7⟩, fun b hb hB => hB.1 rfl⟩)
        have HBY := Lib.hid (show (ms.length + [(⟨none, [], 0, ⟨#[]⟩, f.fk, A2, f.fb, c2, (cntF (xs.map FV.fct) win true i : Int), begF (xs.map FV.fct) win true i, (atF (xs.map FV.fct) i).t⟩ : MV)].length) * 96 ≤ 140737488355328 by have := HML.out; simp only [List.length_singleton]; omega)
        have HMS2 := Lib.hid (show (ms ++ [(⟨none, [], 0, ⟨#[]⟩, f.fk, A2, f.fb, c2, (cntF (xs.map FV.fct) win true i : Int), begF (xs.map FV.fct) win true i, (atF (xs.map FV.fct) i).t⟩ : MV)]).map MV.alm = (al.take (k + 1)).map (almO (xs.map FV.fct) win true) by
          rw [List.map_append, HMS.out, HTK.out]
          congr 1
          show [(_ : Alm)] = [almO (xs.map FV.fct) win true i]
          unfold almO
          rw [if_pos rfl, HATX.out.1, HATX.out.2]
          rfl)
        have HML2 := Lib.hid (show (ms ++ [(⟨none, [], 0, ⟨#[]⟩, f.fk, A2, f.fb, c2, (cntF (xs.map FV.fct) win true i : Int), begF (xs.map FV.fct) win true i, (atF (xs.map FV.fct) i).t⟩ : MV)]).length = k + 1 by rw [List.length_append, HML.out]; rfl)
        clear b5 b6 m7 x6 x7 hx5 hbs5 hbs6 hbs
        dsimp only [List.drop]
        go_wp2_with (first
          | (at_builtin; refine wpList_append_row (E := EM) W7 rfl (.tmp 40) (.tmp 43) 45 rfl w2.heap.size 50 i0 almZ7 96 Tryz.underlying45 hi iz0 iz1 iz2 alm7_zs alm7_zn _ ms rfl HR7.out ⟨W6.heap.size, 0, none⟩ 1 [⟨none, [], 0, ⟨#[]⟩, f.fk, A2, f.fb, c2, (cntF (xs.map FV.fct) win true i : Int), begF (xs.map FV.fct) win true i, (atF (xs.map FV.fct) i).t⟩] rfl (by show 0 < 1; decide) HM7.out.news HIN.out HBY.out (by decide) HS7.out ?_; intro v8 w8 hown8 hg8 ho8; obtain ⟨A8, c8, rfl⟩ := hown8.shape)
          | fail)
        have HX8 := Lib.hid (show Ext w2 w8 from Below.grown HX7.out hg8 HX7.out.size (fun j hj => (HR7.out.lt j hj).1))
        have HR8 := Lib.hid hown8
        clear hown8 hg8 ho8
        go_roundw
        case rel => exact ⟨k + 1, _, A8, c8, by go_num, by omega, by rw [List.length_append]; rfl, HML2, HR8, HMS2, HX8⟩
        case measure => simp [intOf]; omega
      · obtain rfl : k = N := by omega
        have hms := HMS.out
        rw [List.take_of_length_le (by rw [HNA.out]; exact Nat.le_refl _)] at hms
        have HMF := Lib.hid hms
        clear hms
        go_wp2_with fail
        go_ret2
        exact ⟨.inr ⟨HYES.out, _, ms, rfl, HR.out.down HX2.out.size, by rw [HALF.out]; exact HMF.out⟩, HX2.out.trans HX.out⟩
end Go.Proofs.YtnjmndofcpnmeaaGreatDoor
