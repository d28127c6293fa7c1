/- A result that lies in a cell: a bool. -/
import Derived.Test.YtcekphjcmippoaaRelG
namespace Go.Proofs.Ytcekphjcmippoaa
open Go.RowKit
set_option linter.unusedSimpArgs false
set_option linter.unusedVariables false

theorem results_cellB {fn : Func} {p : Tmp} {tmps : Array Value} {w : World} {g : Nat} {s : Bool} (h : fn.results = #[.cell p 4]) (hp : tmps.getD p undef = .pointer (some ⟨g, 0, none⟩)) (hc : w.cell? ⟨g, 0, none⟩ = some (.bool s)) :
    (results fn tmps).run Try.prog w = .ok (.bool s) w := by
  have hp' : tmps[p]?.getD undef = .pointer (some ⟨g, 0, none⟩) := by simpa using hp
  simp [results, h, hp', asAddr]
  simp [go_sem, hc]
end Go.Proofs.Ytcekphjcmippoaa
