/- The methods of Reader: Integer. -/
import Derived.Test.YtmbmhepmeajnoaaDer9
namespace Go.Proofs.Ytmbmhepmeajnoaa
open Go Go.RowKit

theorem intClo_says (cont : List UInt8) (B : Nat) : CloSays Try.prog 70 cont (intOk cont) (fun v _ => v = .int .i64 (sInt cont)) B := by
  intro A c w1 _ hb
  refine (IntClo_at A c cont w1 hb).mono ?_
  rintro e w' ⟨⟨v, rfl, hv⟩, hx⟩
  exact ⟨⟨_, rfl, fun h => by rw [hv h]⟩, hx⟩

set_option maxRecDepth 100000 in
theorem RdInteger_at (g : Nat) (l : List UInt8) (k : Nat) (m : List UInt8) (hm : l.drop k = m) (v : Int) (er used : Nat) (hr : readIntF m = (v, er, used)) (w : World) (h : RD 62 w g l k) :
    Calls Try.prog 40 #[.pointer (some ⟨g, 0, none⟩)] w fun e w' => e = .returned (.tuple #[.int .i64 v, .int .i64 (er : Int)]) ∧ RD 62 w' g l (k + used) ∧ w.grownBy w' (some g) := by
  have hrd := read_int_at g l k 2 2 rfl m hm (takeF 2 m).1 (takeF 2 m).2.1 (takeF 2 m).2.2 rfl _ _ w (intClo_says _ _) h
  have HRD := Lib.hid hrd; have HR := Lib.hid hr
  clear hrd hr hm
  go_enter Try.func40, Try.ntmps40
  go_wp2_with fail
  refine HRD.out.mono ?_
  have hr := HR.out
  unfold readIntF readF at hr
  rintro e w1 ⟨hg, ⟨her, rfl, hr1⟩ | ⟨her, hok, rfl, hr1⟩ | ⟨her, hok, v', rfl, hv, hr1⟩⟩
  · rw [if_pos her] at hr
    simp only [Prod.mk.injEq] at hr
    obtain ⟨rfl, rfl, rfl⟩ := hr
    go_wp2_with fail
    go_ret2
    exact ⟨rfl, hr1, hg⟩
  · rw [if_neg (by omega), if_neg (by rw [hok]; simp)] at hr
    simp only [Prod.mk.injEq] at hr
    obtain ⟨rfl, rfl, rfl⟩ := hr
    go_wp2_with fail
    go_ret2
    exact ⟨rfl, hr1, hg⟩
  · rw [if_neg (by omega), if_pos hok] at hr
    simp only [Prod.mk.injEq] at hr
    obtain ⟨rfl, rfl, rfl⟩ := hr
    subst hv
    go_wp2_with fail
    go_ret2
    exact ⟨rfl, hr1, hg⟩
#print axioms RdInteger_at
end Go.Proofs.Ytmbmhepmeajnoaa
