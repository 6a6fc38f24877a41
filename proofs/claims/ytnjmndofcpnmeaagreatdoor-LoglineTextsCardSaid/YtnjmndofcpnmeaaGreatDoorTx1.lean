/- Texts laid together (wip/tools/automerge.py): LtPure, Lt1, Lt2, Str, Rd. -/
import Derived.Lib.Hide
import Derived.Test.YtnjmndofcpnmeaaGreatDoorProg
import Derived.Test.YtnjmndofcpnmeaaGreatDoorTx0
import Derived.WalkLawsBesides
import Derived.WalkSpells
import Derived.Deep.LoopGhost
import Derived.StillTailTactics
import Derived.BigQuiet
import Derived.Laws.IdiomStrings
namespace Go.Proofs.YtnjmndofcpnmeaaGreatDoor

/-- The greatest time. -/
def MT : Int := 1099511627776
end Go.Proofs.YtnjmndofcpnmeaaGreatDoor
namespace Go.Proofs.YtnjmndofcpnmeaaGreatDoor
open Go Go.RowKit

/-- Bools as values. -/
def blv (bs : List Bool) : List Value := bs.map Value.bool
theorem blv_length (bs : List Bool) : (blv bs).length = bs.length := by simp [blv]
theorem blv_get (bs : List Bool) (j : Nat) (h : j < bs.length) : (blv bs)[j]? = some (.bool bs[j]) := by simp [blv, h]

set_option maxRecDepth 100000 in
theorem index_bools (A : Option Addr) (c : Nat) (bs : List Bool) (w : World) (h : RS w (.slice A bs.length c) (blv bs)) :
    Calls Tryz.prog 221 #[.slice A bs.length c, .bool false] w fun e w' => ∃ r : Int, e = .returned (.int .i64 r) ∧ (decide (0 ≤ r) = !(bs.all id)) ∧ w = w' := by
  obtain ⟨A', c', he, h1, h2, h3⟩ := h
  rw [blv_length] at h1 h3 he
  injection he with e1 _ e3
  subst e1; subst e3
  unfold maxLen at h2
  have H3 := Lib.hid h3; clear h3
  go_enter Tryz.func221, Tryz.ntmps221
  go_wp2
  go_loop [5, 8] (fun _ i => ∃ k : Nat, k ≤ bs.length ∧ i = .int .i64 k ∧ ∀ j (hj : j < bs.length), j < k → bs[j] = true) (fun _ i => bs.length - (intOf i).toNat)
  case atStart => exact ⟨0, Nat.zero_le _, rfl, fun j _ hj => absurd hj (Nat.not_lt_zero _)⟩
  case round =>
    obtain ⟨k, hk, rfl, hall⟩ := hrel
    have HA := Lib.hid hall; clear hall
    by_cases hlt : k < bs.length
    · obtain ⟨ad, rfl, hb, hc⟩ := H3.out (by omega)
      have hck := hc k _ (blv_get bs k hlt)
      have HB := Lib.hid hb; clear hb hc
      cases hbk : bs[k]
      · rw [hbk] at hck
        have HK := Lib.hid hbk; clear hbk
        go_wp2
        go_ret
        refine ⟨k, rfl, ?_, rfl⟩
        have h0 : bs.all id = false := by
          rw [List.all_eq_false]
          exact ⟨bs[k], List.getElem_mem hlt, by simp [HK.out]⟩
        rw [h0]
        simp
      · rw [hbk] at hck
        have HK := Lib.hid hbk; clear hbk
        go_wp2
        go_round
        case rel => exact ⟨k + 1, by omega, by go_num, fun j hj hj2 => by
          rcases Nat.lt_or_ge j k with h5 | h5
          · exact HA.out j hj h5
          · obtain rfl : j = k := by omega
            exact HK.out⟩
        case measure => simp [intOf]; omega
    · obtain rfl : k = bs.length := by omega
      go_wp2
      go_ret
      refine ⟨-1, rfl, ?_, rfl⟩
      have h0 : bs.all id = true := by
        rw [List.all_eq_true]
        intro b hb
        obtain ⟨j, hj, rfl⟩ := List.getElem_of_mem hb
        exact HA.out j hj hj
      rw [h0]
      decide

set_option maxRecDepth 100000 in
theorem contains_bools (A : Option Addr) (c : Nat) (bs : List Bool) (w : World) (h : RS w (.slice A bs.length c) (blv bs)) :
    Calls Tryz.prog 182 #[.slice A bs.length c, .bool false] w fun e w' => e = .returned (.bool (!(bs.all id))) ∧ w = w' := by
  obtain ⟨v, hv⟩ : ∃ v, v = bs.all id := ⟨_, rfl⟩
  have hidx := index_bools A c bs w h
  rw [← hv] at hidx ⊢
  have HI := Lib.hid hidx; clear hidx hv h
  go_enter Tryz.func182, Tryz.ntmps182
  go_wp2_with fail
  refine HI.out.mono ?_
  rintro e w' ⟨r, rfl, hr, rfl⟩
  go_wp2_with fail
  go_ret
  exact ⟨rfl, rfl⟩

end Go.Proofs.YtnjmndofcpnmeaaGreatDoor
namespace Go.Proofs.YtnjmndofcpnmeaaGreatDoor
open Go Go.RowKit

end Go.Proofs.YtnjmndofcpnmeaaGreatDoor
namespace Go.Proofs.YtnjmndofcpnmeaaGreatDoor
open Go Go.RowKit

/-- A literal row of bytes is owned. -/
theorem OB.lit (w : World) (e : TypeId) (B : Nat) (xs : List Value) (l : List UInt8) (h : xs = bv l) (n : Nat) (hn : n = l.length) (hl : l.length ≤ maxLen) (hB : B ≤ w.heap.size) {z : Nat} (hk : z = w.heap.size := by first | rfl | simp) :
    OB e (w.alloc (.cells xs.toArray e)) B (.slice (some ⟨z, 0, none⟩) n n) l := by
  subst h; subst hn; subst hk
  exact ⟨by simp, .inr ⟨w.heap.size, l.length, (bv l).toArray, rfl, hB, heap_alloc_new w _, Nat.le_refl _, hl, by simp, by
    simp only [Nat.mul_one]
    exact List.take_of_length_le (by simp)⟩⟩

section
variable {P : Program}
/-- 'string(b)'. -/
theorem run_str (w : World) (src dst e : TypeId) (v : Value) (l : List UInt8) (hs : P.underlying src = some (.slice e)) (he : P.underlying e = some (.int .u8)) (hd : P.underlying dst = some .string)
    (h : BS w v l) : (convert src dst v).run P w = .ok (.string ⟨l.toArray⟩) w := by
  obtain ⟨A, c, rfl, _, _, hc⟩ := h.open_
  rcases A with _ | ad
  · have hl : l = [] := by
      rcases Nat.eq_zero_or_pos l.length with h0 | h0
      · exact List.eq_nil_of_length_eq_zero h0
      · obtain ⟨ad, ha, _⟩ := hc h0; cases ha
    subst hl
    rw [run_convert_bytes_string w src dst e none _ c hs he hd]
    simp only [Conv.bytesToString, Sem.run_pure]
    rfl
  · refine run_convert_bytes_back w src dst e ad c l hs he hd (fun j hj => ?_)
    obtain ⟨ad', ha, _, hc'⟩ := hc (by omega)
    injection ha with ha
    subst ha
    exact hc' j hj

theorem BS.bytesRow (w : World) (l : List UInt8) (cap : Nat) (e : TypeId) (fr : Nat × Nat) (hl : l.length ≤ cap) (hm : cap ≤ maxLen) :
    BS (w.alloc (.cells (bytesRow ⟨l.toArray⟩ cap) e fr)) (.slice (some ⟨w.heap.size, 0, none⟩) l.length cap) l := by
  refine ⟨some ⟨w.heap.size, 0, none⟩, cap, by simp, by simpa using hl, hm, fun _ => ⟨⟨w.heap.size, 0, none⟩, rfl, by simp, fun j u hu => ?_⟩⟩
  have hadd : (⟨w.heap.size, 0, none⟩ : Addr).add j = ⟨w.heap.size, j, none⟩ := by unfold Addr.add; split <;> simp_all
  have hj : j < l.length := by
    have := (List.getElem?_eq_some_iff.1 hu).1
    simpa using this
  rw [hadd, World.cell?_alloc_mark, bytesRow_at _ _ _ (by simpa using hj)]
  rw [bv_get l j hj] at hu
  rw [← hu]
  simp

/-- '[]byte(s)'. -/
theorem run_bytes (w : World) (src dst e : TypeId) (l : List UInt8) (hs : P.underlying src = some .string) (hd : P.underlying dst = some (.slice e)) (he : P.underlying e = some (.int .u8)) (hl : l.length ≤ maxLen) :
    ∃ c w', (convert src dst (.string ⟨l.toArray⟩)).run P w = .ok (.slice (some ⟨w.heap.size, 0, none⟩) l.length c) w' ∧ BS w' (.slice (some ⟨w.heap.size, 0, none⟩) l.length c) l ∧ Ext w w' ∧ w'.heap.size = w.heap.size + 1 := by
  have hsz : (⟨l.toArray⟩ : ByteArray).size = l.length := by simp [ByteArray.size]
  have hr := run_bytes_of_string (P := P) w src dst e ⟨l.toArray⟩ hs hd he
  rw [hsz] at hr
  refine ⟨_, _, hr, BS.bytesRow w.drew l _ e _ (grownCap_ge w _ _ _) (grownCap_le_maxLen w _ _ _ hl), ((Ext.refl w).drew').alloc _, by simp⟩

end
end Go.Proofs.YtnjmndofcpnmeaaGreatDoor
namespace Go.Proofs.YtnjmndofcpnmeaaGreatDoor
open Go Go.RowKit

/-- Block g holds no byte. -/
def NoU8 (w : World) (g : Nat) : Prop := ∀ p : Addr, p.block = g → ∀ n, w.cell? p ≠ some (.int .u8 n)

theorem grown_refl (w : World) (g : Option Nat) : w.grownBy w g := World.grownBy.refl w g
theorem grown_trans {a b c : World} {g : Option Nat} (h : a.grownBy b g) (k : b.grownBy c g) : a.grownBy c g := World.grownBy.trans h k
theorem Ext.but {w w' : World} (h : Ext w w') (g : Option Nat) : w.grownBy w' g := ⟨h.os, h.tape, h.output, h.size, fun k hk _ => h.block k hk⟩
theorem grown_set {w w' : World} {g : Nat} (h : w.grownBy w' (some g)) (i : Nat) (u : Value) : w.grownBy (w'.setCell ⟨g, i, none⟩ u) (some g) :=
  ⟨h.os, h.tape, h.output, by simpa [World.setCell] using h.size, fun k hk hne => (Below.heap_setCell w' ⟨g, i, none⟩ u k (fun e => hne (by rw [e]))).trans (h.block k hk hne)⟩
/-- The block lies behind what was there: nothing that was there has turned. -/
theorem Ext.of_grown {w0 w w' : World} {g : Nat} (hx : Ext w0 w) (h : w.grownBy w' (some g)) (hg : w0.heap.size ≤ g) : Ext w0 w' := hx.grown h (fun k hk => by cases hk; exact hg)

theorem BS.but {w w' : World} {v : Value} {l : List UInt8} {g : Nat} (h : BS w v l) (hn : NoU8 w g) (hb : w.grownBy w' (some g)) : BS w' v l := by
  obtain ⟨A, c, hv, h1, h2, h3⟩ := h
  refine ⟨A, c, hv, h1, h2, fun hp => ?_⟩
  obtain ⟨ad, ha, hbl, hc⟩ := h3 hp
  have hne : ad.block ≠ g := by
    intro e
    have h0 := hc 0 _ (List.getElem?_eq_getElem hp)
    have hu : (bv l)[0] ∈ bv l := List.getElem_mem _
    simp only [bv, List.mem_map] at hu
    obtain ⟨b, _, hb'⟩ := hu
    rw [show (bv l)[0] = .int .u8 (b.toNat : Int) from hb'.symm] at h0
    exact hn (ad.add 0) (by rw [block_of_add]; exact e) _ h0
  refine ⟨ad, ha, Nat.lt_of_lt_of_le hbl hb.size, fun j u hu => ?_⟩
  exact (World.cell?_of_block (hb.block _ (by rw [block_of_add]; exact hbl) (by rw [block_of_add]; intro e; exact hne (by injection e)))).trans (hc j u hu)

section
variable {P : Program}
/-- 'b[lo:]'. -/
theorem run_slice1 (w : World) (t : TypeId) (A : Option Addr) (c : Nat) (l : List UInt8) (lo : Nat) (m : List UInt8) (hm : l.drop lo = m) (h1 : lo ≤ l.length) (ht : P.underlying t = some (.slice (P.elem t))) (hs : ∃ i, P.info? (P.elem t) = some i ∧ i.size = 1)
    (h : BS w (.slice A l.length c) l) :
    ∃ A' c', BS w (.slice A' m.length c') m ∧ ∀ w' : World, (Instr.slice t (.slice A l.length c) (some (.int .i64 (lo : Int))) none none).run P w' = .ok (.slice A' m.length c') w' := by
  obtain ⟨i, hi0, hi1⟩ := hs
  obtain ⟨A0, c0, he, k1, k2, k3⟩ := h.open_
  injection he with e1 e2 e3
  subst e1; subst e3
  have hml : m.length = l.length - lo := by subst hm; simp
  refine ⟨if c = lo then A else A.map (·.add (lo * 1)), c - lo, ?_, fun w' => ?_⟩
  · refine ⟨if c = lo then A else A.map (·.add (lo * 1)), c - lo, by simp, by simp [hml]; omega, by unfold maxLen at *; omega, fun hp => ?_⟩
    simp only [bv_length, hml] at hp
    rw [if_neg (by omega)]
    obtain ⟨ad, rfl, hb, hc⟩ := k3 (by omega)
    refine ⟨ad.add (lo * 1), rfl, by rw [block_of_add]; exact hb, fun j u hu => ?_⟩
    have hj : j < m.length := by
      have := (List.getElem?_eq_some_iff.1 hu).1
      simpa using this
    rw [add_of_add, Nat.mul_one, hc (lo + j) (by omega)]
    rw [bv_get m j hj] at hu
    rw [← hu]
    subst hm
    simp
  · rw [run_slice_l w' t A l.length c ht .i64 lo (by omega) (by omega)]
    simp [sizeOf, typeInfo, hi0, hi1, sliced, hml]
end
end Go.Proofs.YtnjmndofcpnmeaaGreatDoor
