/- The reference's way of writing: Tlv, Int, Oct, Seq, Tag. -/
import Derived.Test.YthpfomjibfbiiaaGreatDoorGt2
import Derived.Test.YthpfomjibfbiiaaGreatDoorAdD1
namespace Go.Proofs.YthpfomjibfbiiaaGreatDoor
open Go Go.RowKit
set_option linter.unusedVariables false

set_option maxRecDepth 100000 in
set_option maxHeartbeats 2000000 in
theorem RTlv_at (tg : Nat) (ht : tg < 256) (A : Option Addr) (c : Nat) (l : List UInt8) (w : World) (hb : BS w (.slice A l.length c) l) (hl : l.length ≤ 2000) :
    Calls Tryz.prog 83 #[.int .i64 (tg : Int), .slice A l.length c] w fun e w' => ∃ A' c', e = .returned (.slice A' (elem (UInt8.ofNat tg) l).length c') ∧ OB 5 w' w.heap.size (.slice A' (elem (UInt8.ofNat tg) l).length c') (elem (UInt8.ofNat tg) l) ∧ Ext w w' := by
  obtain ⟨i0, hi, hz0, hz1, hz2⟩ := info_parts u8inf
  have hti : (tg : Int) % 256 = (tg : Int) := by omega
  have htn : (UInt8.ofNat tg).toNat = tg := by rw [UInt8.toNat_ofNat']; omega
  have hs := elem_shape (UInt8.ofNat tg) l (by omega)
  obtain ⟨n, hn⟩ : ∃ n, l.length = n := ⟨_, rfl⟩
  rw [hn] at hs hb hl ⊢
  obtain ⟨R, hR⟩ : ∃ R, elem (UInt8.ofNat tg) l = R := ⟨_, rfl⟩
  rw [hR] at hs ⊢
  have h655 : decide ((n : Int) < 65536) = true := by rw [decide_eq_true_eq]; omega
  have hxa := (Ext.refl w).alloc (.cells #[.int .u8 (tg : Int)] 5)
  have hob := OB.lit w 5 w.heap.size [.int .u8 (tg : Int)] [UInt8.ofNat tg] (by simp only [bv, List.map_cons, List.map_nil, htn]) 1 rfl (by simp [maxLen]) (Nat.le_refl _) (z := w.heap.size) rfl
  obtain ⟨W1, e1⟩ : ∃ W, w.alloc (.cells #[.int .u8 (tg : Int)] 5) = W := ⟨_, rfl⟩
  have hob' : OB 5 W1 w.heap.size (.slice (some ⟨w.heap.size, 0, none⟩) 1 1) [UInt8.ofNat tg] := by rw [← e1]; exact hob
  rw [e1] at hxa
  have HO := Lib.hid hob'; have HX := Lib.hid hxa; have HB := Lib.hid hb; have HN := Lib.hid hn; have HL := Lib.hid hl
  clear hb hob hob' hxa hn hR htn
  by_cases h1 : n < 128
  · have h1i : decide ((n : Int) < 128) = true := by rw [decide_eq_true_eq]; omega
    have hni : (n : Int) % 256 = (n : Int) := by omega
    have HR := Lib.hid (show R = ([UInt8.ofNat tg] ++ [UInt8.ofNat n]) ++ l by rw [hs]; unfold encLen; rw [if_pos h1]; simp)
    have hxb := (Ext.refl W1).alloc (.cells #[.int .u8 (n : Int)] 5)
    have HX2 := Lib.hid (HX.out.trans hxb)
    have HO2 := Lib.hid (HO.out.ext hxb)
    have HB2 := Lib.hid (show BS (W1.alloc (.cells #[.int .u8 (n : Int)] 5)) (.slice (some ⟨W1.heap.size, 0, none⟩) 1 1) [UInt8.ofNat n] from BS.new' W1 5 [.int .u8 (n : Int)] _ (by simp only [bv, List.map_cons, List.map_nil]; rw [show (UInt8.ofNat n).toNat = n by rw [UInt8.toNat_ofNat']; omega]) 1 rfl (by simp [maxLen]))
    clear hs hxb h1
    go_enter Tryz.func83, Tryz.ntmps83
    go_upto_region 10 with (at_builtin; refine wpList_append_bs _ rfl (.tmp 28) (.tmp 31) 23 rfl w.heap.size 5 i0 (.int .u8 0) Tryz.underlying23 hi hz0 hz1 hz2 rfl _ [UInt8.ofNat tg] rfl HO2.out _ [UInt8.ofNat n] rfl HB2.out ?hd ?he ?_; rotate_right; intro v3 w3 ho3 hg3 _)
    case hd => simp
    case he => exact HX2.out.size
    have HO3 := Lib.hid ho3
    have HX3 := Lib.hid (show Ext w w3 from HX2.out.grown hg3 (fun j hj => by injection hj with hj; exact Nat.le_of_eq hj))
    have HB3 := Lib.hid (show BS w3 (.slice A n c) l from HB.out.ext HX3.out)
    clear ho3 hg3
    go_wp2_with (at_builtin; refine wpList_append_bs _ rfl (.tmp 53) (.tmp 54) 23 rfl w.heap.size 5 i0 (.int .u8 0) Tryz.underlying23 hi hz0 hz1 hz2 rfl _ ([UInt8.ofNat tg] ++ [UInt8.ofNat n]) rfl HO3.out _ l rfl HB3.out ?hd ?he ?_; rotate_right; intro v4 w4 ho4 hg4 _)
    case hd => have := HL.out; have := HN.out; simp; omega
    case he => exact HX3.out.size
    rw [← HR.out] at ho4
    obtain ⟨A4, c4, rfl⟩ := OB.shape ho4
    have HO4 := Lib.hid ho4; have HX4 := Lib.hid (show Ext w w4 from HX3.out.grown hg4 (fun j hj => OB.lt HO3.out j hj))
    clear ho4 hg4
    go_wp2_with fail
    go_ret
    exact ⟨A4, c4, rfl, HO4.out, HX4.out⟩
  by_cases h2 : n < 256
  · have h1i : decide ((n : Int) < 128) = false := by rw [decide_eq_false_iff_not]; omega
    have h2i : decide ((n : Int) < 256) = true := by rw [decide_eq_true_eq]; omega
    have hni : (n : Int) % 256 = (n : Int) := by omega
    have HR := Lib.hid (show R = ([UInt8.ofNat tg] ++ [129, UInt8.ofNat n]) ++ l by rw [hs]; unfold encLen; rw [if_neg h1, if_pos h2]; simp)
    have hxb := (Ext.refl W1).alloc (.cells #[.int .u8 129, .int .u8 (n : Int)] 5)
    have HX2 := Lib.hid (HX.out.trans hxb)
    have HO2 := Lib.hid (HO.out.ext hxb)
    have HB2 := Lib.hid (show BS (W1.alloc (.cells #[.int .u8 129, .int .u8 (n : Int)] 5)) (.slice (some ⟨W1.heap.size, 0, none⟩) 2 2) [129, UInt8.ofNat n] from BS.new' W1 5 [.int .u8 129, .int .u8 (n : Int)] _ (by simp only [bv, List.map_cons, List.map_nil]; rw [show (UInt8.ofNat n).toNat = n by rw [UInt8.toNat_ofNat']; omega]; rfl) 2 rfl (by simp [maxLen]))
    clear hs hxb h1 h2
    go_enter Tryz.func83, Tryz.ntmps83
    go_upto_region 10 with (at_builtin; refine wpList_append_bs _ rfl (.tmp 36) (.tmp 39) 23 rfl w.heap.size 5 i0 (.int .u8 0) Tryz.underlying23 hi hz0 hz1 hz2 rfl _ [UInt8.ofNat tg] rfl HO2.out _ [129, UInt8.ofNat n] rfl HB2.out ?hd ?he ?_; rotate_right; intro v3 w3 ho3 hg3 _)
    case hd => simp
    case he => exact HX2.out.size
    have HO3 := Lib.hid ho3
    have HX3 := Lib.hid (show Ext w w3 from HX2.out.grown hg3 (fun j hj => by injection hj with hj; exact Nat.le_of_eq hj))
    have HB3 := Lib.hid (show BS w3 (.slice A n c) l from HB.out.ext HX3.out)
    clear ho3 hg3
    go_wp2_with (at_builtin; refine wpList_append_bs _ rfl (.tmp 53) (.tmp 54) 23 rfl w.heap.size 5 i0 (.int .u8 0) Tryz.underlying23 hi hz0 hz1 hz2 rfl _ ([UInt8.ofNat tg] ++ [129, UInt8.ofNat n]) rfl HO3.out _ l rfl HB3.out ?hd ?he ?_; rotate_right; intro v4 w4 ho4 hg4 _)
    case hd => have := HL.out; have := HN.out; simp; omega
    case he => exact HX3.out.size
    rw [← HR.out] at ho4
    obtain ⟨A4, c4, rfl⟩ := OB.shape ho4
    have HO4 := Lib.hid ho4; have HX4 := Lib.hid (show Ext w w4 from HX3.out.grown hg4 (fun j hj => OB.lt HO3.out j hj))
    clear ho4 hg4
    go_wp2_with fail
    go_ret
    exact ⟨A4, c4, rfl, HO4.out, HX4.out⟩
  · have h1i : decide ((n : Int) < 128) = false := by rw [decide_eq_false_iff_not]; omega
    have h2i : decide ((n : Int) < 256) = false := by rw [decide_eq_false_iff_not]; omega
    obtain ⟨p, hp⟩ : ∃ p, n / 256 = p := ⟨_, rfl⟩
    obtain ⟨q, hq⟩ : ∃ q, n % 256 = q := ⟨_, rfl⟩
    have hpi : (n : Int) / 256 = (p : Int) := by omega
    have hqi : (n : Int) % 256 = (q : Int) := by omega
    have hp2 : (p : Int) % 256 = (p : Int) := by omega
    have hq2 : (q : Int) % 256 = (q : Int) := by omega
    have HR := Lib.hid (show R = ([UInt8.ofNat tg] ++ [130, UInt8.ofNat p, UInt8.ofNat q]) ++ l by
      rw [hs]; unfold encLen; rw [if_neg h1, if_neg h2, if_pos (by omega), hp, show UInt8.ofNat n = UInt8.ofNat q from UInt8.toNat_inj.1 (by rw [UInt8.toNat_ofNat', UInt8.toNat_ofNat']; omega)]; simp)
    have hxb := (Ext.refl W1).alloc (.cells #[.int .u8 130, .int .u8 (p : Int), .int .u8 (q : Int)] 5)
    have HX2 := Lib.hid (HX.out.trans hxb)
    have HO2 := Lib.hid (HO.out.ext hxb)
    have HB2 := Lib.hid (show BS (W1.alloc (.cells #[.int .u8 130, .int .u8 (p : Int), .int .u8 (q : Int)] 5)) (.slice (some ⟨W1.heap.size, 0, none⟩) 3 3) [130, UInt8.ofNat p, UInt8.ofNat q] from BS.new' W1 5 [.int .u8 130, .int .u8 (p : Int), .int .u8 (q : Int)] _ (by simp only [bv, List.map_cons, List.map_nil]; rw [show (UInt8.ofNat p).toNat = p by rw [UInt8.toNat_ofNat']; omega, show (UInt8.ofNat q).toNat = q by rw [UInt8.toNat_ofNat']; omega]; rfl) 3 rfl (by simp [maxLen]))
    clear hs hxb h1 h2 hp hq
    go_enter Tryz.func83, Tryz.ntmps83
    go_upto_region 10 with (at_builtin; refine wpList_append_bs _ rfl (.tmp 44) (.tmp 51) 23 rfl w.heap.size 5 i0 (.int .u8 0) Tryz.underlying23 hi hz0 hz1 hz2 rfl _ [UInt8.ofNat tg] rfl HO2.out _ [130, UInt8.ofNat p, UInt8.ofNat q] rfl HB2.out ?hd ?he ?_; rotate_right; intro v3 w3 ho3 hg3 _)
    case hd => simp
    case he => exact HX2.out.size
    have HO3 := Lib.hid ho3
    have HX3 := Lib.hid (show Ext w w3 from HX2.out.grown hg3 (fun j hj => by injection hj with hj; exact Nat.le_of_eq hj))
    have HB3 := Lib.hid (show BS w3 (.slice A n c) l from HB.out.ext HX3.out)
    clear ho3 hg3
    go_wp2_with (at_builtin; refine wpList_append_bs _ rfl (.tmp 53) (.tmp 54) 23 rfl w.heap.size 5 i0 (.int .u8 0) Tryz.underlying23 hi hz0 hz1 hz2 rfl _ ([UInt8.ofNat tg] ++ [130, UInt8.ofNat p, UInt8.ofNat q]) rfl HO3.out _ l rfl HB3.out ?hd ?he ?_; rotate_right; intro v4 w4 ho4 hg4 _)
    case hd => have := HL.out; have := HN.out; simp; omega
    case he => exact HX3.out.size
    rw [← HR.out] at ho4
    obtain ⟨A4, c4, rfl⟩ := OB.shape ho4
    have HO4 := Lib.hid ho4; have HX4 := Lib.hid (show Ext w w4 from HX3.out.grown hg4 (fun j hj => OB.lt HO3.out j hj))
    clear ho4 hg4
    go_wp2_with fail
    go_ret
    exact ⟨A4, c4, rfl, HO4.out, HX4.out⟩
def RetB (w : World) (R : List UInt8) (e : Ending) (w' : World) : Prop := ∃ A' c', e = .returned (.slice A' R.length c') ∧ OB 5 w' w.heap.size (.slice A' R.length c') R ∧ Ext w w'
theorem ROct_at (A : Option Addr) (c : Nat) (l : List UInt8) (w : World) (hb : BS w (.slice A l.length c) l) (hl : l.length ≤ 2000) :
    Calls Tryz.prog 61 #[.slice A l.length c] w (RetB w (encOctets l)) := by
  have H := Lib.hid (RTlv_at 4 (by decide) A c l w hb hl)
  have e4 : UInt8.ofNat 4 = 4 := rfl
  rw [e4] at H
  unfold encOctets
  generalize elem 4 l = R at *
  clear hb hl e4
  go_enter Tryz.func61, Tryz.ntmps61
  go_wp2_with fail
  refine H.out.mono ?_
  rintro _ w1 ⟨A1, c1, rfl, ho, hx⟩
  have HO := Lib.hid ho; have HX := Lib.hid hx
  clear ho hx
  go_wp2_with fail
  go_ret
  exact ⟨A1, c1, rfl, HO.out, HX.out⟩
theorem RTag_at (n : Nat) (hn : n ≤ 30) (A : Option Addr) (c : Nat) (l : List UInt8) (w : World) (hb : BS w (.slice A l.length c) l) (hl : l.length ≤ 2000) (hne : l ≠ []) :
    Calls Tryz.prog 59 #[.int .i64 (n : Int), .slice A l.length c] w (RetB w (encTag n l)) := by
  have H := Lib.hid (RTlv_at (160 + n) (by omega) A c l w hb hl)
  rw [show UInt8.ofNat (160 + n) = tagB n from rfl, ← encTag_shape n l hn hne, Int.natCast_add] at H
  have hl0 : ((l.length : Int) == 0) = false := by rw [beq_eq_false_iff_ne]; have := List.length_pos_iff.2 hne; omega
  generalize encTag n l = R at *
  obtain ⟨m, hm⟩ : ∃ m, l.length = m := ⟨_, rfl⟩
  rw [hm] at H hl0 ⊢
  clear hb hl hne hm
  go_enter Tryz.func59, Tryz.ntmps59
  go_wp2_with fail
  refine H.out.mono ?_
  rintro _ w1 ⟨A1, c1, rfl, ho, hx⟩
  have HO := Lib.hid ho; have HX := Lib.hid hx
  clear ho hx
  go_wp2_with fail
  go_ret
  exact ⟨A1, c1, rfl, HO.out, HX.out⟩
set_option maxRecDepth 100000 in
set_option maxHeartbeats 2000000 in
theorem RInt15_at (k : Nat) (hk : k < 128) (w : World) :
    Calls Tryz.prog 60 #[.int .i64 (k : Int)] w (RetB w (elem 2 [UInt8.ofNat k])) := by
  have hki : (k : Int) % 256 = (k : Int) := by omega
  have hk0 : (k : Int) / 256 = 0 := by omega
  have hk128 : (k : Int) < 128 := by omega
  have htn : (UInt8.ofNat k).toNat = k := by rw [UInt8.toNat_ofNat']; omega
  have hxa := (Ext.refl w).alloc (.cells #[.int .u8 (k : Int)] 5)
  have hg := heap_alloc_new w (.cells #[.int .u8 (k : Int)] 5)
  have hbs := BS.new' w 5 [.int .u8 (k : Int)] [UInt8.ofNat k] (by simp only [bv, List.map_cons, List.map_nil, htn]) 1 rfl (by simp [maxLen])
  obtain ⟨W1, e1⟩ : ∃ W, w.alloc (.cells #[.int .u8 (k : Int)] 5) = W := ⟨_, rfl⟩
  have hbs' : BS W1 (.slice (some ⟨w.heap.size, 0, none⟩) ([UInt8.ofNat k] : List UInt8).length 1) [UInt8.ofNat k] := by rw [← e1]; exact hbs
  rw [e1] at hxa hg
  have H := Lib.hid (RTlv_at 2 (by decide) (some ⟨w.heap.size, 0, none⟩) 1 [UInt8.ofNat k] W1 hbs' (by simp))
  have e2 : UInt8.ofNat 2 = 2 := rfl
  rw [e2] at H
  have c0 := (row1 hg).1
  have HX := Lib.hid hxa
  simp only [List.length_cons, List.length_nil, Nat.zero_add] at H
  generalize elem 2 [UInt8.ofNat k] = R at *
  clear hbs hbs' hxa hg htn e2
  go_enter Tryz.func60, Tryz.ntmps60
  go_wp2_with fail
  go_loopw [0, 3] (fun v0 v3 wr => v0 = .int .i64 0 ∧ v3 = .slice (some ⟨w.heap.size, 0, none⟩) 1 1 ∧ W1 = wr) (fun _ _ _ => 0)
  case atStart => exact ⟨rfl, rfl, rfl⟩
  case round =>
    obtain ⟨rfl, rfl, rfl⟩ := hrel
    go_wp2_with fail
    refine H.out.mono ?_
    rintro _ w1 ⟨A1, c1, rfl, ho, hx⟩
    have HO := Lib.hid ho; have HX2 := Lib.hid (HX.out.trans hx); have HSZ := Lib.hid HX.out.size
    clear ho hx
    go_wp2_with fail
    go_ret
    exact ⟨A1, c1, rfl, HO.out.mono HSZ.out, HX2.out⟩
set_option maxRecDepth 100000 in
set_option maxHeartbeats 2000000 in
theorem RSeq15_at (A : Option Addr) (c : Nat) (ls : List (List UInt8)) (w : World) (hb : BSS w (.slice A ls.length c) ls) (hn : ls.length ≤ 1000) (hl : ls.flatten.length ≤ 2000) :
    Calls Tryz.prog 58 #[.slice A ls.length c] w (RetB w (encSeq ls)) := by
  obtain ⟨i0, hi, hz0, hz1, hz2⟩ := info_parts u8inf
  have HBS := Lib.hid hb
  obtain ⟨n, hn'⟩ : ∃ n, ls.length = n := ⟨_, rfl⟩
  rw [hn'] at hn ⊢
  have HN := Lib.hid hn'
  have HL := Lib.hid hl
  obtain ⟨F, hF⟩ : ∃ F, ls.flatten = F := ⟨_, rfl⟩
  have HFL := Lib.hid hF
  have HT := Lib.hid (fun (A : Option Addr) (c : Nat) (W : World) (h : BS W (.slice A F.length c) F) => RTlv_at 48 (by decide) A c F W h (by rw [← hF]; exact hl))
  have e48 : UInt8.ofNat 48 = 48 := rfl
  have e48i : ((48 : Nat) : Int) = 48 := rfl
  rw [e48, e48i] at HT
  unfold encSeq
  rw [hF]
  clear hb hn' hl e48 e48i hF
  go_enter Tryz.func58, Tryz.ntmps58
  go_wp2_with fail
  go_loopw [3, 4] (fun v i wr => ∃ k : Nat, i = .int .i64 (k : Int) ∧ k ≤ n ∧ Hid (OB 5 wr w.heap.size v (ls.take k).flatten) ∧ Hid (Ext w wr)) (fun _ i _ => n - (intOf i).toNat)
  case atStart => exact ⟨0, rfl, by omega, Lib.hid (OB.nil _ _ _), Lib.hid (Ext.refl _)⟩
  case round =>
    obtain ⟨k, rfl, hk, HV, HX⟩ := hrel
    by_cases hlt : k < n
    · have hlx : k < ls.length := by rw [HN.out]; exact hlt
      obtain ⟨ad, B, d, rfl, hc0, hbk⟩ := bss_at (by rw [HN.out] at HBS; exact HBS.out) HN.out k hlx
      have HTK := Lib.hid (show (ls.take (k + 1)).flatten = (ls.take k).flatten ++ ls[k] by rw [List.take_succ_eq_append_getElem hlx, List.flatten_append]; simp)
      have hle : ((ls.take k).flatten ++ ls[k]).length ≤ 2000 := by
        rw [← HTK.out]
        have h1 : ls.flatten = (ls.take (k + 1)).flatten ++ (ls.drop (k + 1)).flatten := by rw [← List.flatten_append, List.take_append_drop]
        have h2 := congrArg List.length h1
        rw [List.length_append] at h2
        have := HL.out
        omega
      rw [List.length_append] at hle
      have HLE := Lib.hid hle
      have g0 := HX.out.cell hc0
      have HBK := Lib.hid (hbk.ext HX.out)
      generalize ls[k] = x at *
      clear hc0 hbk hle hlx
      go_wp2_with (at_builtin; refine wpList_append_bs _ rfl (.tmp 11) (.tmp 15) 23 rfl w.heap.size 5 i0 (.int .u8 0) Tryz.underlying23 hi hz0 hz1 hz2 rfl _ (ls.take k).flatten rfl HV.out _ x rfl HBK.out ?hd ?he ?_; rotate_right; intro v3 w3 ho3 hg3 _)
      case hd => have := HLE.out; omega
      case he => exact HX.out.size
      have HO3 := Lib.hid (show OB 5 w3 w.heap.size v3 (ls.take (k + 1)).flatten by rw [HTK.out]; exact ho3)
      have HX3 := Lib.hid (show Ext w w3 from HX.out.grown hg3 (fun j hj => OB.lt HV.out j hj))
      clear ho3 hg3
      go_wp2_with fail
      go_roundw
      case rel => exact ⟨k + 1, by go_num, by omega, HO3, HX3⟩
      case measure => simp [intOf]; omega
    · obtain rfl : k = n := by omega
      have ho : OB 5 wr w.heap.size u3 F := by have h := HV.out; rwa [List.take_of_length_le (by rw [HN.out]; exact Nat.le_refl _), HFL.out] at h
      obtain ⟨A2, c2, rfl⟩ := OB.shape ho
      have HTT := Lib.hid (HT.out A2 c2 wr ho.bs)
      generalize elem 48 F = R at *
      clear ho hlt HT
      go_wp2_with fail
      refine HTT.out.mono ?_
      rintro _ w1 ⟨A1, c1, rfl, ho, hx⟩
      have HO := Lib.hid (ho.mono HX.out.size); have HX2 := Lib.hid (HX.out.trans hx)
      clear ho hx
      go_wp2_with fail
      go_ret
      exact ⟨A1, c1, rfl, HO.out, HX2.out⟩
end Go.Proofs.YthpfomjibfbiiaaGreatDoor
