/- PolicyHolds: the law. (wip/tools/genlawpo.py printed this.) -/
import Derived.Test.YtgfjmmdkdhodiaaGreatDoorPoH2
import Derived.Test.YtgfjmmdkdhodiaaGreatDoorRowP
namespace Go.Proofs.YtgfjmmdkdhodiaaGreatDoor.policyHolds
open Go Go.RowKit
set_option linter.unusedVariables false
theorem law_row (p : Pol) (A1 : Option Addr) (c1 : Nat) (ps : List ByteArray) (r : ByteArray) (A : Option Addr) (c : Nat) (b : List UInt8) (D : Option Addr) (dc : Nat) (m : List UInt8) (x y z : Int) (w : World) (hs : p.nm.size ≤ maxLen) (hR : RS w (.slice A1 ps.length c1) (svP ps)) (hB : BS w (.slice A b.length c) b) (hD : BS w (.slice D m.length dc) m) (hx : 0 ≤ x ∧ x ≤ 255) (hy : 0 ≤ y ∧ y ≤ 255) (hz : 0 ≤ z ∧ z ≤ 255) (hm : Env w) :
    Calls Tryz.prog 8 #[p.v, .agg #[.slice A1 ps.length c1, .string r], .slice A b.length c, .slice D m.length dc, .agg #[.int .u8 x, .int .u8 y, .int .u8 z]] w fun e w' => e = .returned (.bool true) ∧ Ext w w' := by
  cases hok : p.ok with
  | false => exact walk_bad p A1 c1 ps r A c b D dc m x y z w hm hs hR hB hD hok
  | true =>
    have hs4 : p.nm.size ≤ 4294967280 := by
      have := (nmB_len ((Pol.ok_iff p).1 hok).nm).2
      rw [size_list] at this
      omega
    cases hsm : smlP ps with
    | false => exact walk_sm p A1 c1 ps r A c b D dc m x y z w hm hs4 hR hB hD hok hsm
    | true =>
      by_cases h2 : b.length ≤ 200
      · by_cases h3 : m.length ≤ 20
        · cases hL : brkP p (datP ps) b with
          | nil => exact walk_nil p A1 c1 ps r A c b D dc m x y z w hm hs4 hR hB hD hok hsm h2 h3 hx.1 hx.2 hy.1 hy.2 hz.1 hz.2 hL
          | cons f L => exact walk_cons p A1 c1 ps r A c b D dc m x y z w hm hs4 hR hB hD hok hsm h2 h3 hx.1 hx.2 hy.1 hy.2 hz.1 hz.2 f L hL
        · exact walk_more p A1 c1 ps r A c b D dc m x y z w hm hs4 hR hB hD hok hsm (by omega) (by omega)
      · exact walk_long p A1 c1 ps r A c b D dc m x y z w hm hs4 hR hB hD hok hsm (by omega)
end Go.Proofs.YtgfjmmdkdhodiaaGreatDoor.policyHolds
