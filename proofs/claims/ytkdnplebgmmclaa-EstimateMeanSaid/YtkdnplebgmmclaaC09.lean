/- OwnG, RFacts -/
import Derived.Test.YtkdnplebgmmclaaC08
/- A fact of a list of the call's own. -/
namespace Go.Proofs.Ytkdnplebgmmclaa
open Go.RowKit
set_option linter.unusedSimpArgs false
set_option linter.unusedVariables false

theorem ownG_at {B B' : Nat} {e ev : TypeId} {w : World} {A : Option Addr} {n cap : Nat} {X : List Fc} (h : OwnL 2 B e (RGo B' ev) w (.slice A n cap) X) {k : Nat} (hk : k < X.length) :
    ∃ b off A' cap', A = some ⟨b, off, none⟩ ∧ (X[k]).p.size ≤ 140737488351232 ∧ w.cell? ⟨b, off + k * 2, none⟩ = some (.string (X[k]).p) ∧ w.cell? ⟨b, off + k * 2 + 1, none⟩ = some (.slice A' (X[k]).a.length cap') ∧ OwnV B' ev w (.slice A' (X[k]).a.length cap') (X[k]).a := by
  obtain ⟨A1, cap1, hv, _, _, h3⟩ := h.rep
  obtain ⟨b, off, cs, hA, hl, hc, u, hr, hp, hu⟩ := h3 k _ (List.getElem?_eq_getElem hk)
  injection hv with hv _ _
  subst hr
  obtain ⟨A', cap', rfl, h4, h5⟩ := SlRep.form hu.vals
  exact ⟨b, off, A', cap', hv.trans hA, hp, hc 0 _ rfl, hc 1 _ rfl, hu⟩

end Go.Proofs.Ytkdnplebgmmclaa
/- The document's Facts: halved, sorted, joined. -/
namespace Go.Proofs.Ytkdnplebgmmclaa
open Go.RowKit
set_option linter.unusedSimpArgs false
set_option linter.unusedVariables false

end Go.Proofs.Ytkdnplebgmmclaa
