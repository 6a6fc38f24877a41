/- Texts laid together (wip/tools/automerge.py): Po6, Po11, PoTx. -/
import Derived.Test.YtgfjmmdkdhodiaaGreatDoorPo5a
import Derived.Test.YtgfjmmdkdhodiaaGreatDoorPo5b
import Derived.Test.YtgfjmmdkdhodiaaGreatDoorPo5c
import Derived.Test.YtgfjmmdkdhodiaaGreatDoorMg9
import Derived.Outline
import Derived.Test.YtgfjmmdkdhodiaaGreatDoorMg4
import Derived.Test.YtgfjmmdkdhodiaaGreatDoorMg1
import Derived.Lib.Join
namespace Go.Proofs.YtgfjmmdkdhodiaaGreatDoor
open Go Go.RowKit
set_option linter.unusedVariables false

theorem PoValid_at (p : Pol) (hs : p.nm.size ≤ 4294967280) (w : World) :
    Calls Tryz.prog 10 #[p.v] w fun e w' => e = .returned (.bool p.ok) ∧ Ext w w' := by
  obtain ⟨b, hb⟩ : ∃ b, p.ok = b := ⟨_, rfl⟩
  rw [hb]
  unfold Pol.ok at hb
  cases h0 : nmB' p.nm.data.toList with
  | false => rw [h0] at hb; simp at hb; subst hb; exact Valid_c0 p hs h0 w
  | true =>
    cases h1 : inB p.len 1 64 with
    | false => rw [h0, h1] at hb; simp at hb; subst hb; exact Valid_c1 p hs h0 h1 w
    | true =>
      cases h2 : inB p.cla 1 5 with
      | false => rw [h0, h1, h2] at hb; simp at hb; subst hb; exact Valid_c2 p hs h0 h1 h2 w
      | true =>
        cases h3 : inB p.dis 0 p.len with
        | false => rw [h0, h1, h2, h3] at hb; simp at hb; subst hb; exact Valid_c3 p hs h0 h1 h2 h3 w
        | true =>
          cases h4 : inB p.his 0 16 with
          | false => rw [h0, h1, h2, h3, h4] at hb; simp at hb; subst hb; exact Valid_c4 p hs h0 h1 h2 h3 h4 w
          | true =>
            cases h5 : tmB p.mina with
            | false => rw [h0, h1, h2, h3, h4, h5] at hb; simp at hb; subst hb; exact Valid_c5 p hs h0 h1 h2 h3 h4 h5 w
            | true =>
              cases h6 : tmB p.maxa with
              | false => rw [h0, h1, h2, h3, h4, h5, h6] at hb; simp at hb; subst hb; exact Valid_c6 p hs h0 h1 h2 h3 h4 h5 h6 w
              | true =>
                by_cases h7 : p.maxa = 0
                · skip
                  cases h8 : inB p.fai 0 1000 with
                  | false => rw [h0, h1, h2, h3, h4, h5, h6, h8] at hb; simp [h7] at hb; subst hb; exact Valid_c8a p hs h0 h1 h2 h3 h4 h5 h6 h7 h8 w
                  | true =>
                    cases h9 : tmB p.win with
                    | false => rw [h0, h1, h2, h3, h4, h5, h6, h8, h9] at hb; simp [h7] at hb; subst hb; exact Valid_c9a p hs h0 h1 h2 h3 h4 h5 h6 h7 h8 h9 w
                    | true =>
                      cases h10 : tmB p.loc with
                      | false => rw [h0, h1, h2, h3, h4, h5, h6, h8, h9, h10] at hb; simp [h7] at hb; subst hb; exact Valid_c10a p hs h0 h1 h2 h3 h4 h5 h6 h7 h8 h9 h10 w
                      | true =>
                        rw [h0, h1, h2, h3, h4, h5, h6, h8, h9, h10] at hb; simp [h7] at hb; subst hb; exact Valid_c11a p hs h0 h1 h2 h3 h4 h5 h6 h7 h8 h9 h10 w
                · by_cases h7b : p.mina ≤ p.maxa
                  · skip
                    cases h8 : inB p.fai 0 1000 with
                    | false => rw [h0, h1, h2, h3, h4, h5, h6, h8] at hb; simp [h7, h7b] at hb; subst hb; exact Valid_c8b p hs h0 h1 h2 h3 h4 h5 h6 h7 h7b h8 w
                    | true =>
                      cases h9 : tmB p.win with
                      | false => rw [h0, h1, h2, h3, h4, h5, h6, h8, h9] at hb; simp [h7, h7b] at hb; subst hb; exact Valid_c9b p hs h0 h1 h2 h3 h4 h5 h6 h7 h7b h8 h9 w
                      | true =>
                        cases h10 : tmB p.loc with
                        | false => rw [h0, h1, h2, h3, h4, h5, h6, h8, h9, h10] at hb; simp [h7, h7b] at hb; subst hb; exact Valid_c10b p hs h0 h1 h2 h3 h4 h5 h6 h7 h7b h8 h9 h10 w
                        | true =>
                          rw [h0, h1, h2, h3, h4, h5, h6, h8, h9, h10] at hb; simp [h7, h7b] at hb; subst hb; exact Valid_c11b p hs h0 h1 h2 h3 h4 h5 h6 h7 h7b h8 h9 h10 w
                  · rw [h0, h1, h2, h3, h4, h5, h6] at hb; simp [h7, h7b] at hb; subst hb; exact Valid_c7 p hs h0 h1 h2 h3 h4 h5 h6 h7 h7b w
end Go.Proofs.YtgfjmmdkdhodiaaGreatDoor
namespace Go.Proofs.YtgfjmmdkdhodiaaGreatDoor
open Go Go.RowKit
set_option linter.unusedVariables false

/-- What Broken finds. -/
def brkP (p : Pol) (ps : List (List UInt8)) (b : List UInt8) : List Nat := if p.ok then brk p.len p.cla p.dis ps b else []
theorem brkP_len (p : Pol) (ps : List (List UInt8)) (b : List UInt8) : (brkP p ps b).length ≤ 7 := by
  unfold brkP
  cases p.ok
  · exact Nat.zero_le _
  · exact brk_len _ _ _ _ _
def RetSeq (L : List Nat) (w : World) (e : Ending) (w' : World) : Prop := (∃ g A c, e = .returned (.func (.func 38) #[] #[.pointer (some ⟨g, 0, none⟩)]) ∧ ItR g A c L w' ∧ w.heap.size ≤ g ∧ ∀ ad, A = some ad → w.heap.size ≤ ad.block) ∧ Ext w w'
set_option maxRecDepth 100000 in
set_option maxHeartbeats 2000000 in
theorem Broken_at (p : Pol) (hs : p.nm.size ≤ 4294967280) (A1 : Option Addr) (c1 : Nat) (ps : List ByteArray) (r : ByteArray) (hn : ps.length ≤ 1000) (hps : ∀ p ∈ ps, p.size ≤ 1000) (A : Option Addr) (c : Nat) (b : List UInt8) (hb : b.length ≤ 1000) (w : World)
    (hR : RS w (.slice A1 ps.length c1) (svP ps)) (hB : BS w (.slice A b.length c) b) :
    Calls Tryz.prog 18 #[p.v, .agg #[.slice A1 ps.length c1, .string r], .slice A b.length c] w (RetSeq (brkP p (datP ps) b) w) := by
  have hmf : ∀ (fn : Fn) (first cap : Array Value) (w : World), (Instr.makeFunc fn first cap).run Tryz.prog w = .ok (.func fn first cap) w := fun _ _ _ _ => rfl
  have HV := Lib.hid (PoValid_at p hs)
  have h0 := heap_alloc_new w (.cells p.cs 23)
  obtain ⟨W1, e1⟩ : ∃ W, w.alloc (.cells p.cs 23) = W := ⟨_, rfl⟩
  have x1 : Ext w W1 := e1 ▸ (Ext.refl w).alloc _
  have z1 : W1.heap.size = w.heap.size + 1 := by rw [← e1]; simp
  rw [e1] at h0
  have h1 := heap_alloc_new W1 (.cells #[.slice A1 ps.length c1, .string r] 30)
  obtain ⟨W2, e2⟩ : ∃ W, W1.alloc (.cells #[.slice A1 ps.length c1, .string r] 30) = W := ⟨_, rfl⟩
  have x2 : Ext W1 W2 := e2 ▸ (Ext.refl W1).alloc _
  have z2 : W2.heap.size = w.heap.size + 1 + 1 := by rw [← e2]; simp [z1]
  rw [e2, z1] at h1
  have h2 := heap_alloc_new W2 (.cells #[.slice none 0 0] 38)
  obtain ⟨W3, e3⟩ : ∃ W, W2.alloc (.cells #[.slice none 0 0] 38) = W := ⟨_, rfl⟩
  have x3 : Ext W2 W3 := e3 ▸ (Ext.refl W2).alloc _
  have z3 : W3.heap.size = w.heap.size + 1 + 1 + 1 := by rw [← e3]; simp [z2]
  rw [e3, z2] at h2
  have hp3 : PL W3 w.heap.size p := (x2.trans x3).heap h0
  have hn3 : NB W3 (w.heap.size + 1) (.slice A1 ps.length c1) r := x3.heap h1
  have hx3 := x1.trans (x2.trans x3)
  have HBRK := Lib.hid (show p.ok = true → brkP p (datP ps) b = brk p.len p.cla p.dis (datP ps) b from fun h => by unfold brkP; rw [if_pos h])
  have HNO := Lib.hid (show p.ok = false → brkP p (datP ps) b = [] from fun h => by unfold brkP; rw [h]; rfl)
  obtain ⟨c0, c1', c2, c3, c4, c5, c6, c7, c8, c9⟩ := hp3.cells
  have d0 := hn3.cell0
  have d1 : W3.cell? ⟨w.heap.size + 1, 1, none⟩ = some (.string r) := by rw [cell_of_row _ _ 1 _ _ (0, 0) hn3]; rfl
  have HP := Lib.hid hp3; have HN := Lib.hid hn3; have HX := Lib.hid hx3; have HR := Lib.hid hR; have HB := Lib.hid hB; have HZ3 := Lib.hid z3; have HE := Lib.hid h2; have HPS := Lib.hid hps; have HS1 := Lib.hid z1; have HS2 := Lib.hid z2
  clear h0 h1 h2 hp3 hn3 hx3 hR hB x1 x2 x3 z1 z2 z3 hps
  cases hok : p.ok with
  | false =>
    have HL := Lib.hid (HNO.out hok)
    rw [hok] at HV
    clear hok HBRK HNO
    rw [HL.out]
    go_enter Tryz.func18, Tryz.ntmps18
    unfold Pol.v
    unfold Pol.cs at e1
    go_wp2_with fail
    rw [HS2.out, HS1.out]
    refine (HV.out W3).mono ?_
    rintro _ w1 ⟨rfl, hx1⟩
    have HX1 := Lib.hid (HX.out.trans hx1); have HE1 := Lib.hid (hx1.heap HE.out)
    clear hx1
    go_wp2_with fail
    go_ret
    exact ⟨⟨_, _, _, rfl, ⟨HE1.out, RS.nil _⟩, by omega, (fun _ h => by cases h)⟩, HX1.out⟩
  | true =>
    have HL := Lib.hid (HBRK.out hok)
    rw [hok] at HV
    clear hok HBRK HNO
    rw [HL.out]
    have HK := Lib.hid (fun (W : World) (hx : Ext w W) => broken_at p A1 c1 ps r hn HPS.out A c b hb W (HR.out.ext hx) (HB.out.ext hx))
    go_enter Tryz.func18, Tryz.ntmps18
    unfold Pol.v
    unfold Pol.cs at e1
    go_wp2_with fail
    rw [HS2.out, HS1.out]
    refine (HV.out W3).mono ?_
    rintro _ w1 ⟨rfl, hx1⟩
    have hp1 := HP.out.ext hx1
    have hn1 := HN.out.ext hx1
    obtain ⟨k0, k1, k2, k3, k4, k5, k6, k7, k8, k9⟩ := hp1.cells
    have l0 := hn1.cell0
    have l1 : w1.cell? ⟨w.heap.size + 1, 1, none⟩ = some (.string r) := by rw [cell_of_row _ _ 1 _ _ (0, 0) hn1]; rfl
    have HX1 := Lib.hid (HX.out.trans hx1); have HE1 := Lib.hid (hx1.heap HE.out)
    have HZ1 := Lib.hid (show w.heap.size + 3 ≤ w1.heap.size by have := hx1.size; have := HZ3.out; omega)
    clear hx1 hp1 hn1
    go_wp2_with fail
    refine (HK.out w1 HX1.out).mono ?_
    rintro _ w2 ⟨⟨A2, c2', rfl, hr2, ho2⟩, hx2⟩
    have he2 := hx2.heap HE1.out
    obtain ⟨q0, q1⟩ := row1 he2
    have HI2 := Lib.hid (show ItR (w.heap.size + 1 + 1) A2 c2' (brk p.len p.cla p.dis (datP ps) b) (w2.setCell ⟨w.heap.size + 1 + 1, 0, none⟩ (.slice A2 (brk p.len p.cla p.dis (datP ps) b).length c2')) from
      ⟨row1_set _ he2, hr2.far (grown_set1 _ _ _) (fun ad ha => by have := ho2 ad ha; have := HZ1.out; omega)⟩)
    have HX2 := Lib.hid ((HX1.out.trans hx2).setCell (p := ⟨w.heap.size + 1 + 1, 0, none⟩) (by show w.heap.size ≤ w.heap.size + 1 + 1; omega) (.slice A2 (brk p.len p.cla p.dis (datP ps) b).length c2'))
    have HO2 := Lib.hid (fun ad (ha : A2 = some ad) => Nat.le_trans HX1.out.size (ho2 ad ha))
    clear hr2 ho2 hx2 he2
    generalize brk p.len p.cla p.dis (datP ps) b = LL at *
    go_wp2_with fail
    go_ret
    exact ⟨⟨_, _, _, rfl, HI2.out, by omega, HO2.out⟩, HX2.out⟩
/-- The first of the rules, or 0. -/
def firstR (L : List Nat) : Int := match L with | [] => 0 | x :: _ => (x : Int)
def ChkI (g6 g7 : Nat) (w : World) (pre : List Nat) (V : World) : Prop := pre = [] ∧ V.heap[g6]? = some (.cells #[.int .i64 0] 33 (0, 0)) ∧ V.heap[g7]? = some (.cells #[.int .i64 0] 34 (0, 0)) ∧ Ext w V
def ChkX (g6 g7 : Nat) (w : World) (cd : Code) (pre : List Nat) (V : World) : Prop := cd = .ret ∧ ∃ x : Nat, pre = [x] ∧ V.heap[g6]? = some (.cells #[.int .i64 (x : Int)] 33 (0, 0)) ∧ V.heap[g7]? = some (.cells #[.int .i64 0] 34 (0, 0)) ∧ Ext w V
theorem ChkI.stab {B g6 g7 : Nat} {w : World} (h : w.heap.size ≤ B) (pre : List Nat) : Stab B (ChkI g6 g7 w pre) := (Stab.pure _).and ((Stab.heap _ _ _ _).and ((Stab.heap _ _ _ _).and (Stab.ext w h)))
theorem ChkX.stab {B g6 g7 : Nat} {w : World} (h : w.heap.size ≤ B) (cd : Code) (pre : List Nat) : Stab B (ChkX g6 g7 w cd pre) := (Stab.pure _).and (Stab.ex fun x => (Stab.pure _).and ((Stab.heap _ _ _ _).and ((Stab.heap _ _ _ _).and (Stab.ext w h))))
attribute [local go_sem] Oper.semAt_some
set_option maxRecDepth 100000 in
set_option maxHeartbeats 2000000 in
theorem Check_at (p : Pol) (hs : p.nm.size ≤ 4294967280) (A1 : Option Addr) (c1 : Nat) (ps : List ByteArray) (r : ByteArray) (hn : ps.length ≤ 1000) (hps : ∀ p ∈ ps, p.size ≤ 1000) (A : Option Addr) (c : Nat) (b : List UInt8) (hb : b.length ≤ 1000) (w : World)
    (hR : RS w (.slice A1 ps.length c1) (svP ps)) (hB : BS w (.slice A b.length c) b) (hok : p.ok = true) :
    Calls Tryz.prog 15 #[p.v, .agg #[.slice A1 ps.length c1, .string r], .slice A b.length c] w fun e w' => e = .returned (.tuple #[.int .i64 (firstR (brkP p (datP ps) b)), .int .i64 0]) ∧ Ext w w' := by
  have HV := Lib.hid (hok ▸ PoValid_at p hs)
  have HBR := Lib.hid (fun (W : World) (hx : Ext w W) => Broken_at p hs A1 c1 ps r hn hps A c b hb W (hR.ext hx) (hB.ext hx))
  have HLL := Lib.hid (brkP_len p (datP ps) b)
  clear hR hB hok hps
  generalize brkP p (datP ps) b = L at *
  have h0 := heap_alloc_new w (.cells p.cs 23)
  obtain ⟨W1, e1⟩ : ∃ W, w.alloc (.cells p.cs 23) = W := ⟨_, rfl⟩
  have x1 : Ext w W1 := e1 ▸ (Ext.refl w).alloc _
  have z1 : W1.heap.size = w.heap.size + 1 := by rw [← e1]; simp
  rw [e1] at h0
  have h1 := heap_alloc_new W1 (.cells #[.slice A1 ps.length c1, .string r] 30)
  obtain ⟨W2, e2⟩ : ∃ W, W1.alloc (.cells #[.slice A1 ps.length c1, .string r] 30) = W := ⟨_, rfl⟩
  have x2 : Ext W1 W2 := e2 ▸ (Ext.refl W1).alloc _
  have z2 : W2.heap.size = w.heap.size + 1 + 1 := by rw [← e2]; simp [z1]
  rw [e2, z1] at h1
  have h2 := heap_alloc_new W2 (.cells #[.int .i64 0] 33)
  obtain ⟨W3, e3⟩ : ∃ W, W2.alloc (.cells #[.int .i64 0] 33) = W := ⟨_, rfl⟩
  have x3 : Ext W2 W3 := e3 ▸ (Ext.refl W2).alloc _
  have z3 : W3.heap.size = w.heap.size + 1 + 1 + 1 := by rw [← e3]; simp [z2]
  rw [e3, z2] at h2
  have h3 := heap_alloc_new W3 (.cells #[.int .i64 0] 34)
  obtain ⟨W4, e4⟩ : ∃ W, W3.alloc (.cells #[.int .i64 0] 34) = W := ⟨_, rfl⟩
  have x4 : Ext W3 W4 := e4 ▸ (Ext.refl W3).alloc _
  have z4 : W4.heap.size = w.heap.size + 1 + 1 + 1 + 1 := by rw [← e4]; simp [z3]
  rw [e4, z3] at h3
  have hp4 : PL W4 w.heap.size p := ((x2.trans x3).trans x4).heap h0
  have hn4 : NB W4 (w.heap.size + 1) (.slice A1 ps.length c1) r := (x3.trans x4).heap h1
  have hx4 := x1.trans ((x2.trans x3).trans x4)
  have hr4 := x4.heap h2
  obtain ⟨c0, c1', c2, c3, c4, c5, c6, c7, c8, c9⟩ := hp4.cells
  have HP := Lib.hid hp4; have HN := Lib.hid hn4; have HX := Lib.hid hx4; have HZ4 := Lib.hid z4; have HE := Lib.hid hr4; have HF := Lib.hid h3; have HS1 := Lib.hid z1; have HS2 := Lib.hid z2; have HS3 := Lib.hid z3
  clear h0 h1 h2 h3 hp4 hn4 hx4 hr4 x1 x2 x3 x4 z1 z2 z3 z4
  refine calls_of_marks Tryz.func15 rfl ?_
  simp only [Tryz.ntmps15, List.size_toArray, List.length_cons, List.length_nil, Nat.reduceAdd, Nat.reduceSub, Array.replicate_succ, Array.replicate_zero, List.push_toArray, List.append_toArray, List.nil_append, List.cons_append]
  unfold Pol.v
  unfold Pol.cs at e1
  go_wp2_with fail
  rw [HS2.out, HS1.out, HS3.out]
  refine (HV.out W4).mono ?_
  rintro _ w1 ⟨rfl, hx1⟩
  have hp1 := HP.out.ext hx1
  have hn1 := HN.out.ext hx1
  obtain ⟨k0, k1, k2, k3, k4, k5, k6, k7, k8, k9⟩ := hp1.cells
  have l0 := hn1.cell0
  have l1 : w1.cell? ⟨w.heap.size + 1, 1, none⟩ = some (.string r) := by rw [cell_of_row _ _ 1 _ _ (0, 0) hn1]; rfl
  have HX1 := Lib.hid (HX.out.trans hx1); have HE1 := Lib.hid (hx1.heap HE.out); have HF1 := Lib.hid (hx1.heap HF.out)
  have HZ1 := Lib.hid (show w.heap.size + 4 ≤ w1.heap.size by have := hx1.size; have := HZ4.out; omega)
  clear hx1 hp1 hn1
  go_wp2_with fail
  refine (HBR.out w1 HX1.out).mono ?_
  rintro _ w2 ⟨⟨g, A2, c2', rfl, hit2, hg2⟩, hx2⟩
  have HI2 := Lib.hid hit2; have HX2 := Lib.hid (HX1.out.trans hx2); have HE2 := Lib.hid (hx2.heap HE1.out); have HF2 := Lib.hid (hx2.heap HF1.out); have HZ2 := Lib.hid (show w.heap.size + 4 ≤ w2.heap.size by have := hx2.size; have := HZ1.out; omega)
  clear hit2 hx2 hg2
  go_wp2_with fail
  refine wpIn_wide.1 (wp_rangeC (gf := 38) (lb := #[.pointer (some ⟨g, 0, none⟩)]) rfl (Go.Proofs.enters_of Tryz.func38 (by kernel_rfl) rfl)
    (brk_iter g A2 c2' L (by have := HLL.out; omega)) (fun _ => rfl) (fun k hk => hk.elim) HI2.out (ItR.stab _ _ _ _ _)
    (ChkI (w.heap.size + 1 + 1) (w.heap.size + 1 + 1 + 1) w) (ChkX (w.heap.size + 1 + 1) (w.heap.size + 1 + 1 + 1) w)
    (fun pre => ChkI.stab HX2.out.size pre) (fun cd pre => ChkX.stab HX2.out.size cd pre)
    (fun pre X Y r hr hg h => ?_) (fun cd pre X Y r hr hg h => ?_) ⟨rfl, HE2.out, HF2.out, HX2.out⟩ ?_ ?_ ?_)
  · have hn : r = none := by cases r with | none => rfl | some k => exact (hr k rfl).elim
    subst hn
    exact ⟨h.1, (grown_of_ext hg).heap h.2.1, (grown_of_ext hg).heap h.2.2.1, h.2.2.2.trans (grown_of_ext hg)⟩
  · have hn : r = none := by cases r with | none => rfl | some k => exact (hr k rfl).elim
    subst hn
    obtain ⟨h1, x, h2, h3, h4, h5⟩ := h
    exact ⟨h1, x, h2, (grown_of_ext hg).heap h3, (grown_of_ext hg).heap h4, h5.trans (grown_of_ext hg)⟩
  · intro l pre x V hl hnl hzV hIV hitV hGV
    simp only [ruleEnc]
    gi_wp2_with fail
    refine ⟨KA.refl _ _, fun V2 hg2 hn2 hsz2 => ?_⟩
    obtain ⟨rfl, h1, h2, h3⟩ := (ChkI.stab (B := w2.heap.size) HX2.out.size pre) V V2 l hl hn2 hg2 hIV
    obtain ⟨q0, q1⟩ := row1 h1
    obtain ⟨q2, q3⟩ := row1 h2
    have HA := Lib.hid h1; have HB := Lib.hid h2; have HC := Lib.hid h3
    clear hIV hitV hn2 hg2 hnl h1 h2 h3
    gi_wp2_with fail
    have hz := HZ2.out
    have ha := HA.out; have hb' := HB.out
    exact ⟨(KA.of_grown (grown_set1 _ _ _) (by omega)).trans (KA.of_grown (grown_set1 _ _ _) (by omega)), rfl, x, rfl,
      heap_far (grown_set1 _ _ _) (row1_set _ ha) (by omega), row1_set _ (heap_far (grown_set1 _ _ _) hb' (by omega)), (HC.out.setCell (p := ⟨w.heap.size + 1 + 1, 0, none⟩) (by show w.heap.size ≤ w.heap.size + 1 + 1; omega) _).setCell (p := ⟨w.heap.size + 1 + 1 + 1, 0, none⟩) (by show w.heap.size ≤ w.heap.size + 1 + 1 + 1; omega) _⟩
  · intro D xs V hD hS hIV hit hdf
    subst hS
    obtain ⟨rfl, h1, h2, h3⟩ := hIV
    obtain ⟨q0, q1⟩ := row1 h1
    obtain ⟨q2, q3⟩ := row1 h2
    have hz := HZ2.out
    have n1 := heap_far (grown_set1 (V.setCell ⟨w.heap.size + 1 + 1, 0, none⟩ (.int .i64 0)) (w.heap.size + 1 + 1 + 1) (.int .i64 0)) (row1_set (.int .i64 0) h1) (by omega)
    have n2 := row1_set (.int .i64 0) (heap_far (grown_set1 V (w.heap.size + 1 + 1) (.int .i64 0)) h2 (by omega))
    have n3 := heap_far (grown_set1 (V.setCell ⟨w.heap.size + 1 + 1, 0, none⟩ (.int .i64 0)) (w.heap.size + 1 + 1 + 1) (.int .i64 0)) (heap_far (grown_set1 V (w.heap.size + 1 + 1) (.int .i64 0)) hdf (by omega)) (by omega)
    have n4 := (h3.setCell (p := ⟨w.heap.size + 1 + 1, 0, none⟩) (by show w.heap.size ≤ w.heap.size + 1 + 1; omega) (.int .i64 0)).setCell (p := ⟨w.heap.size + 1 + 1 + 1, 0, none⟩) (by show w.heap.size ≤ w.heap.size + 1 + 1 + 1; omega) (.int .i64 0)
    have d0 := (row1 (heap_far (grown_put (o' := .deferred none) n3) n1 (by omega))).1
    have d1 := (row1 (heap_far (grown_put (o' := .deferred none) n3) n2 (by omega))).1
    have HXF := Lib.hid (Ext.of_grown n4 (grown_put (o' := .deferred none) n3) (by omega))
    have HN3 := Lib.hid n3; have HD0 := Lib.hid d0; have HD1 := Lib.hid d1
    clear h1 h2 h3 n1 n2 n3 n4 d0 d1 hdf hz hit
    go_wp2_with fail
    refine ⟨by simp, .inl ⟨_, _, rfl, run_takeDeferred HN3.out, ?_⟩⟩
    have d0 := HD0.out; have d1 := HD1.out
    exact ⟨.tuple #[.int .i64 0, .int .i64 0], by simp [results, Tryz.results15, go_sem, d0, d1]; try rfl, rfl, HXF.out⟩
  · intro D cd pre V hD hSp hIx hdf
    obtain ⟨rfl, x, rfl, h1, h2, h3⟩ := hIx
    obtain ⟨rest, rfl⟩ := hSp
    have hz := HZ2.out
    have d0 := (row1 (heap_far (grown_put (o' := .deferred none) hdf) h1 (by omega))).1
    have d1 := (row1 (heap_far (grown_put (o' := .deferred none) hdf) h2 (by omega))).1
    have HXF := Lib.hid (Ext.of_grown h3 (grown_put (o' := .deferred none) hdf) (by omega))
    have HN3 := Lib.hid hdf; have HD0 := Lib.hid d0; have HD1 := Lib.hid d1
    clear h1 h2 h3 d0 d1 hdf hz
    gi_wp2_with fail
    refine ⟨by simp, .inl ⟨_, _, rfl, run_takeDeferred HN3.out, ?_⟩⟩
    have d0 := HD0.out; have d1 := HD1.out
    exact ⟨.tuple #[.int .i64 (x : Int), .int .i64 0], by simp [results, Tryz.results15, go_sem, d0, d1]; try rfl, rfl, HXF.out⟩
set_option maxRecDepth 100000 in
theorem Check_no (p : Pol) (hs : p.nm.size ≤ 4294967280) (v : Value) (r : ByteArray) (vb : Value) (w : World) (hok : p.ok = false) :
    Calls Tryz.prog 15 #[p.v, .agg #[v, .string r], vb] w fun e w' => e = .returned (.tuple #[.int .i64 0, .int .i64 2]) ∧ Ext w w' := by
  have HV := Lib.hid (hok ▸ PoValid_at p hs)
  clear hok
  have h0 := heap_alloc_new w (.cells p.cs 23)
  obtain ⟨W1, e1⟩ : ∃ W, w.alloc (.cells p.cs 23) = W := ⟨_, rfl⟩
  have x1 : Ext w W1 := e1 ▸ (Ext.refl w).alloc _
  have z1 : W1.heap.size = w.heap.size + 1 := by rw [← e1]; simp
  rw [e1] at h0
  obtain ⟨W2, e2⟩ : ∃ W, W1.alloc (.cells #[v, .string r] 30) = W := ⟨_, rfl⟩
  have x2 : Ext W1 W2 := e2 ▸ (Ext.refl W1).alloc _
  have z2 : W2.heap.size = w.heap.size + 1 + 1 := by rw [← e2]; simp [z1]
  have h2 := heap_alloc_new W2 (.cells #[.int .i64 0] 33)
  obtain ⟨W3, e3⟩ : ∃ W, W2.alloc (.cells #[.int .i64 0] 33) = W := ⟨_, rfl⟩
  have x3 : Ext W2 W3 := e3 ▸ (Ext.refl W2).alloc _
  have z3 : W3.heap.size = w.heap.size + 1 + 1 + 1 := by rw [← e3]; simp [z2]
  rw [e3, z2] at h2
  have h3 := heap_alloc_new W3 (.cells #[.int .i64 0] 34)
  obtain ⟨W4, e4⟩ : ∃ W, W3.alloc (.cells #[.int .i64 0] 34) = W := ⟨_, rfl⟩
  have x4 : Ext W3 W4 := e4 ▸ (Ext.refl W3).alloc _
  rw [e4, z3] at h3
  have hp4 : PL W4 w.heap.size p := ((x2.trans x3).trans x4).heap h0
  have hx4 := x1.trans ((x2.trans x3).trans x4)
  have hr4 := x4.heap h2
  obtain ⟨c0, c1', c2, c3, c4, c5, c6, c7, c8, c9⟩ := hp4.cells
  have HX := Lib.hid hx4; have HE := Lib.hid hr4; have HF := Lib.hid h3; have HS1 := Lib.hid z1; have HS2 := Lib.hid z2; have HS3 := Lib.hid z3
  clear h0 h2 h3 hp4 hx4 hr4 x1 x2 x3 x4 z1 z2 z3
  go_enter Tryz.func15, Tryz.ntmps15
  unfold Pol.v
  unfold Pol.cs at e1
  go_wp2_with fail
  rw [HS2.out, HS3.out]
  refine (HV.out W4).mono ?_
  rintro _ w1 ⟨rfl, hx1⟩
  have h1 := hx1.heap HE.out
  have h2 := hx1.heap HF.out
  obtain ⟨q0, q1⟩ := row1 h1
  obtain ⟨q2, q3⟩ := row1 h2
  have n1 := (row1 (heap_far (grown_set1 (w1.setCell ⟨w.heap.size + 1 + 1, 0, none⟩ (.int .i64 0)) (w.heap.size + 1 + 1 + 1) (.int .i64 2)) (row1_set (.int .i64 0) h1) (by omega))).1
  have n2 := (row1 (row1_set (.int .i64 2) (heap_far (grown_set1 w1 (w.heap.size + 1 + 1) (.int .i64 0)) h2 (by omega)))).1
  have HXF := Lib.hid (((HX.out.trans hx1).setCell (p := ⟨w.heap.size + 1 + 1, 0, none⟩) (by show w.heap.size ≤ w.heap.size + 1 + 1; omega) (.int .i64 0)).setCell (p := ⟨w.heap.size + 1 + 1 + 1, 0, none⟩) (by show w.heap.size ≤ w.heap.size + 1 + 1 + 1; omega) (.int .i64 2))
  have HN1 := Lib.hid n1; have HN2 := Lib.hid n2
  clear h1 h2 n1 n2 hx1
  go_wp2_with fail
  have d0 := HN1.out; have d1 := HN2.out
  refine bodyPost_ret (v := .tuple #[.int .i64 0, .int .i64 2]) (by simp [results, Tryz.results15, go_sem, d0, d1]; try rfl) rfl ?_
  exact ⟨rfl, HXF.out⟩
end Go.Proofs.YtgfjmmdkdhodiaaGreatDoor
namespace Go.Proofs.YtgfjmmdkdhodiaaGreatDoor
open Go.Lib

def hLen : List UInt8 := [108, 101, 110, 103, 116, 104, 61]
def hCla : List UInt8 := [99, 108, 97, 115, 115, 101, 115, 61]
def hDis : List UInt8 := [100, 105, 115, 116, 105, 110, 99, 116, 61]
def hHis : List UInt8 := [104, 105, 115, 116, 111, 114, 121, 61]
def hAge : List UInt8 := [97, 103, 101, 61]
def hFai : List UInt8 := [102, 97, 105, 108, 115, 61]
def hLoc : List UInt8 := [108, 111, 99, 107, 61]
/-- The words of a policy's string. -/
def Pol.words (p : Pol) : List (List UInt8) :=
  [p.nm.data.toList, hLen ++ itoa p.len, hCla ++ itoa p.cla, hDis ++ itoa p.dis, hHis ++ itoa p.his, hAge ++ (itoa p.mina ++ ([46, 46] ++ itoa p.maxa)), hFai ++ itoa p.fai, hLoc ++ (itoa p.win ++ ([47] ++ itoa p.loc))]
def Pol.text (p : Pol) : List UInt8 := join p.words [32]
theorem Pol.text_eq (p : Pol) : p.text = p.nm.data.toList ++ 32 :: ((hLen ++ itoa p.len) ++ 32 :: ((hCla ++ itoa p.cla) ++ 32 :: ((hDis ++ itoa p.dis) ++ 32 :: ((hHis ++ itoa p.his) ++ 32 :: ((hAge ++ (itoa p.mina ++ ([46, 46] ++ itoa p.maxa))) ++ 32 :: ((hFai ++ itoa p.fai) ++ 32 :: (hLoc ++ (itoa p.win ++ ([47] ++ itoa p.loc))))))))) := by
  simp [Pol.text, Pol.words, join, List.intercalate]
theorem itoaP {x : Int} (h : 0 ≤ x) : itoa x = decDigits x.toNat := by unfold itoa; rw [if_neg (by omega)]
theorem atoiP {x : Int} (h0 : 0 ≤ x) (h1 : x ≤ 1099511627776) : atoiAll (itoa x) = .ok x := by
  rw [itoaP h0, atoi_dec _ (by omega)]; congr 1; omega
theorem itoaP_no {x : Int} (h : 0 ≤ x) (c : UInt8) (hc : c.toNat < 48 ∨ 57 < c.toNat) : c ∉ itoa x := by rw [itoaP h]; exact dec_no _ _ hc
/-- The words of a string. -/
def wordsP (s : ByteArray) : List ByteArray := splitB ⟨#[32]⟩ 0 (min 9 (s.size + 1) - 1) s
theorem no32 {h l : List UInt8} (hh : (32 : UInt8) ∉ h) (hl : (32 : UInt8) ∉ l) : (32 : UInt8) ∉ h ++ l := by simp [hh, hl]
theorem wordsP_text {p : Pol} (hp : p.ok = true) (s : ByteArray) (hs : p.text = s.data.toList) : (wordsP s).map (·.data.toList) = p.words := by
  have hb := (Pol.ok_iff p).1 hp
  have hsz : s.size = s.data.toList.length := by rw [Array.length_toList]; rfl
  have hL : 8 ≤ s.data.toList.length := by
    rw [← hs, Pol.text_eq]
    simp only [hLen, List.length_append, List.length_cons, List.length_nil]; omega
  have hl : min 9 (s.size + 1) - 1 = 8 := by omega
  have n0 : (32 : UInt8) ∉ p.nm.data.toList := fun h => nmc_not32 (nmB_all hb.nm _ h) rfl
  have n (x : Int) (h : 0 ≤ x) : (32 : UInt8) ∉ itoa x := itoaP_no h _ (by decide)
  unfold wordsP
  rw [splitB_data, hl, ← hs, Pol.text_eq]
  rw [show (⟨#[32]⟩ : ByteArray).data.toList = [32] from rfl, splitK_hit 32 7 _ _ n0, splitK_hit 32 6 _ _ (no32 (by decide) (n _ (by have := hb.len; omega))), splitK_hit 32 5 _ _ (no32 (by decide) (n _ (by have := hb.cla; omega))),
    splitK_hit 32 4 _ _ (no32 (by decide) (n _ (by have := hb.dis; omega))), splitK_hit 32 3 _ _ (no32 (by decide) (n _ (by have := hb.his; omega))),
    splitK_hit 32 2 _ _ (no32 (by decide) (no32 (n _ (by have := hb.mina; omega)) (no32 (by decide) (n _ (by have := hb.maxa; omega))))), splitK_hit 32 1 _ _ (no32 (by decide) (n _ (by have := hb.fai; omega))),
    splitK_miss 32 1 _ (no32 (by decide) (no32 (n _ (by have := hb.win; omega)) (no32 (by decide) (n _ (by have := hb.loc; omega)))))]
  rfl
/-- What a word says: a number behind a head; two numbers. -/
def numV (l : List UInt8) : Option Int := match atoiAll l with | .ok v => some v | _ => none
def numR (h l : List UInt8) : Option Int := if h.isPrefixOf l then numV (l.drop h.length) else none
def cutL (l sep : List UInt8) : Option (List UInt8 × List UInt8) := if index l sep < 0 then none else some (l.take (index l sep).toNat, l.drop ((index l sep).toNat + sep.length))
def pairV (sep l : List UInt8) : Option (Int × Int) := match cutL l sep with
  | none => none
  | some (a, b) => match numV a, numV b with
    | some x, some y => some (x, y)
    | _, _ => none
def pairR (h sep l : List UInt8) : Option (Int × Int) := if h.isPrefixOf l then pairV sep (l.drop h.length) else none
theorem numV_itoa {x : Int} (h0 : 0 ≤ x) (h1 : x ≤ 1099511627776) : numV (itoa x) = some x := by unfold numV; rw [atoiP h0 h1]
theorem isPref (h l : List UInt8) : h.isPrefixOf (h ++ l) = true := by rw [List.isPrefixOf_iff_prefix]; exact List.prefix_append h l
theorem numR_itoa (h : List UInt8) {x : Int} (h0 : 0 ≤ x) (h1 : x ≤ 1099511627776) : numR h (h ++ itoa x) = some x := by
  unfold numR
  rw [if_pos (isPref _ _), List.drop_left, numV_itoa h0 h1]
theorem index_two (c d : UInt8) : ∀ (l r : List UInt8), c ∉ l → index (l ++ c :: d :: r) [c, d] = (l.length : Int)
  | [], r, _ => by simp [index, List.isPrefixOf]
  | b :: l, r, h => by
    have hb : c ≠ b := fun e => h (by simp [e])
    have ih := index_two c d l r (fun e => h (by simp [e]))
    rw [List.cons_append, index, if_neg (by simp [List.isPrefixOf, hb]), ih, if_neg (by simp)]
    simp
theorem cut_two {c d : UInt8} {l r : List UInt8} (h : c ∉ l) : cutL (l ++ ([c, d] ++ r)) [c, d] = some (l, r) := by
  unfold cutL
  rw [show [c, d] ++ r = c :: d :: r from rfl, index_two c d l r h, if_neg (by omega)]
  have e1 : (l ++ c :: d :: r).take l.length = l := by rw [List.take_left']; rfl
  have e2 : (l ++ c :: d :: r).drop (l.length + 2) = r := by
    rw [show l ++ c :: d :: r = (l ++ [c, d]) ++ r by simp]
    exact List.drop_left' (by simp)
  rw [Int.toNat_natCast, e1]
  congr 2
theorem cut_one {c : UInt8} {l r : List UInt8} (h : c ∉ l) : cutL (l ++ ([c] ++ r)) [c] = some (l, r) := by
  unfold cutL
  rw [show [c] ++ r = c :: r from rfl, index_hit c l r h, if_neg (by omega)]
  have e1 : (l ++ c :: r).take l.length = l := by rw [List.take_left']; rfl
  have e2 : (l ++ c :: r).drop (l.length + 1) = r := by
    rw [show l ++ c :: r = (l ++ [c]) ++ r by simp]
    exact List.drop_left' (by simp)
  rw [Int.toNat_natCast, e1]
  congr 2
/-- A policy with a number set. -/
def Pol.set (p : Pol) (i : Nat) (v : Int) : Pol :=
  match i with
  | 1 => { p with len := v } | 2 => { p with cla := v } | 3 => { p with dis := v } | 4 => { p with his := v } | 5 => { p with mina := v } | 6 => { p with maxa := v } | 7 => { p with fai := v } | 8 => { p with win := v } | 9 => { p with loc := v }
  | _ => p
def Pol.zero : Pol := ⟨⟨#[]⟩, 0, 0, 0, 0, 0, 0, 0, 0, 0⟩
/-- What word k begins with; how its rest is read. -/
def hdP : Nat → List UInt8
  | 1 => hLen | 2 => hCla | 3 => hDis | 4 => hHis | 5 => hAge | 6 => hFai | 7 => hLoc
  | _ => []
def rdNum (i : Nat) (l : List UInt8) (q : Pol) : Option Pol := match numV l with | some v => some (q.set i v) | none => none
def rdPair (sep : List UInt8) (i j : Nat) (l : List UInt8) (q : Pol) : Option Pol := match pairV sep l with | some (x, y) => some ((q.set i x).set j y) | none => none
def rdP : Nat → List UInt8 → Pol → Option Pol
  | 0, l, q => some { q with nm := ⟨l.toArray⟩ }
  | 1, l, q => rdNum 1 l q
  | 2, l, q => rdNum 2 l q
  | 3, l, q => rdNum 3 l q
  | 4, l, q => rdNum 4 l q
  | 5, l, q => rdPair [46, 46] 5 6 l q
  | 6, l, q => rdNum 7 l q
  | 7, l, q => rdPair [47] 8 9 l q
  | _, _, _ => none
def rdW (k : Nat) (b : ByteArray) (q : Pol) : Option Pol := if (hdP k).isPrefixOf b.data.toList then rdP k (b.data.toList.drop (hdP k).length) q else none
def goP : Nat → List ByteArray → Pol → Option Pol
  | _, [], q => some q
  | k, b :: bs, q => match rdW k b q with | some q' => goP (k + 1) bs q' | none => none
/-- The policy of eight words. -/
def pw (bs : List ByteArray) : Option Pol := if bs.length = 8 then goP 0 bs Pol.zero else none
theorem rdW_head {k : Nat} {b : ByteArray} {l : List UInt8} (h : b.data.toList = hdP k ++ l) (q : Pol) : rdW k b q = rdP k l q := by
  unfold rdW
  rw [h, if_pos (isPref _ _), List.drop_left]
theorem goP_step {k : Nat} {b : ByteArray} {bs : List ByteArray} {q q' : Pol} (h : rdW k b q = some q') : goP k (b :: bs) q = goP (k + 1) bs q' := by
  simp only [goP, h]
theorem rdNum_itoa (i : Nat) (q : Pol) {x : Int} (h0 : 0 ≤ x) (h1 : x ≤ 1099511627776) : rdNum i (itoa x) q = some (q.set i x) := by
  unfold rdNum; rw [numV_itoa h0 h1]
theorem pw_text {p : Pol} (hp : p.ok = true) (s : ByteArray) (hs : p.text = s.data.toList) : pw (wordsP s) = some p := by
  have hb := (Pol.ok_iff p).1 hp
  have h := wordsP_text hp s hs
  generalize wordsP s = ws at h
  unfold Pol.words at h
  match ws, h with
  | [b0, b1, b2, b3, b4, b5, b6, b7], h =>
    simp only [List.map_cons, List.map_nil, List.cons.injEq, and_true] at h
    obtain ⟨h0, h1, h2, h3, h4, h5, h6, h7⟩ := h
    have p5 : pairV [46, 46] (itoa p.mina ++ ([46, 46] ++ itoa p.maxa)) = some (p.mina, p.maxa) := by
      unfold pairV
      rw [cut_two (itoaP_no hb.mina.1 _ (by decide))]
      simp only
      rw [numV_itoa hb.mina.1 hb.mina.2, numV_itoa hb.maxa.1 hb.maxa.2]
    have p7 : pairV [47] (itoa p.win ++ ([47] ++ itoa p.loc)) = some (p.win, p.loc) := by
      unfold pairV
      rw [cut_one (itoaP_no hb.win.1 _ (by decide))]
      simp only
      rw [numV_itoa hb.win.1 hb.win.2, numV_itoa hb.loc.1 hb.loc.2]
    unfold pw
    rw [if_pos (show [b0, b1, b2, b3, b4, b5, b6, b7].length = 8 from rfl)]
    refine (goP_step (k := 0) (q' := { Pol.zero with nm := p.nm }) (by rw [rdW_head (k := 0) (l := p.nm.data.toList) h0]; simp [rdP])).trans ?_
    refine (goP_step (k := 1) (q' := { Pol.zero with nm := p.nm, len := p.len }) (by rw [rdW_head (k := 1) h1]; exact rdNum_itoa 1 _ (by have := hb.len; omega) (by have := hb.len; omega))).trans ?_
    refine (goP_step (k := 2) (q' := { Pol.zero with nm := p.nm, len := p.len, cla := p.cla }) (by rw [rdW_head (k := 2) h2]; exact rdNum_itoa 2 _ (by have := hb.cla; omega) (by have := hb.cla; omega))).trans ?_
    refine (goP_step (k := 3) (q' := { Pol.zero with nm := p.nm, len := p.len, cla := p.cla, dis := p.dis }) (by rw [rdW_head (k := 3) h3]; exact rdNum_itoa 3 _ (by have := hb.dis; omega) (by have := hb.dis; have := hb.len; omega))).trans ?_
    refine (goP_step (k := 4) (q' := { Pol.zero with nm := p.nm, len := p.len, cla := p.cla, dis := p.dis, his := p.his }) (by rw [rdW_head (k := 4) h4]; exact rdNum_itoa 4 _ (by have := hb.his; omega) (by have := hb.his; omega))).trans ?_
    refine (goP_step (k := 5) (q' := { Pol.zero with nm := p.nm, len := p.len, cla := p.cla, dis := p.dis, his := p.his, mina := p.mina, maxa := p.maxa }) (by rw [rdW_head (k := 5) h5]; show rdPair _ _ _ _ _ = _; unfold rdPair; rw [p5]; rfl)).trans ?_
    refine (goP_step (k := 6) (q' := { Pol.zero with nm := p.nm, len := p.len, cla := p.cla, dis := p.dis, his := p.his, mina := p.mina, maxa := p.maxa, fai := p.fai }) (by rw [rdW_head (k := 6) h6]; exact rdNum_itoa 7 _ (by have := hb.fai; omega) (by have := hb.fai; omega))).trans ?_
    exact (goP_step (k := 7) (q' := p) (by rw [rdW_head (k := 7) h7]; show rdPair _ _ _ _ _ = _; unfold rdPair; rw [p7]; rfl)).trans rfl
  | [], h => simp at h
  | [_], h => simp at h
  | [_, _], h => simp at h
  | [_, _, _], h => simp at h
  | [_, _, _, _], h => simp at h
  | [_, _, _, _, _], h => simp at h
  | [_, _, _, _, _, _], h => simp at h
  | [_, _, _, _, _, _, _], h => simp at h
  | _ :: _ :: _ :: _ :: _ :: _ :: _ :: _ :: _ :: _, h => simp at h
theorem Pol.text_inj {p q : Pol} (hp : p.ok = true) (hq : q.ok = true) (h : p.text = q.text) : p = q := by
  have h1 := pw_text hp ⟨p.text.toArray⟩ (by simp)
  have h2 := pw_text hq ⟨p.text.toArray⟩ (by simp [h])
  rw [h1] at h2
  exact Option.some.inj h2
theorem itoa_len' {x : Int} (h0 : 0 ≤ x) (h1 : x ≤ 1099511627776) : (itoa x).length ≤ 21 := itoa_length_le x (by omega) (by omega)
theorem Pol.text_len {p : Pol} (hp : p.ok = true) : p.text.length ≤ 300 := by
  have hb := (Pol.ok_iff p).1 hp
  have l0 := nmB_len hb.nm
  have l1 := itoa_len' (x := p.len) (by have := hb.len; omega) (by have := hb.len; omega)
  have l2 := itoa_len' (x := p.cla) (by have := hb.cla; omega) (by have := hb.cla; omega)
  have l3 := itoa_len' (x := p.dis) (by have := hb.dis; omega) (by have := hb.dis; have := hb.len; omega)
  have l4 := itoa_len' (x := p.his) (by have := hb.his; omega) (by have := hb.his; omega)
  have l5 := itoa_len' hb.mina.1 hb.mina.2
  have l6 := itoa_len' hb.maxa.1 hb.maxa.2
  have l7 := itoa_len' (x := p.fai) hb.fai.1 (by have := hb.fai; omega)
  have l8 := itoa_len' hb.win.1 hb.win.2
  have l9 := itoa_len' hb.loc.1 hb.loc.2
  rw [Pol.text_eq]
  simp only [hLen, hCla, hDis, hHis, hAge, hFai, hLoc, List.length_append, List.length_cons, List.length_nil]
  omega
end Go.Proofs.YtgfjmmdkdhodiaaGreatDoor
