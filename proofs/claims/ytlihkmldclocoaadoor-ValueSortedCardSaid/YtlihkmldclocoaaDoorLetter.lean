/- The document's letter and Keyword. -/
import Derived.Test.YtlihkmldclocoaaDoorName
namespace Go.Proofs.YtlihkmldclocoaaDoor
open Go.RowKit
set_option linter.unusedSimpArgs false
set_option linter.unusedVariables false

set_option maxHeartbeats 1000000 in
theorem letter_any (c : Nat) (hc : c < 256) (w : World) : Calls Tryd.prog 132 #[.int .u8 c] w fun e w' => e = .returned (.bool (letterN c)) ∧ w' = w := by
  by_cases h95 : c = 95
  · subst h95
    go_enter Tryd.func132, Tryd.ntmps132
    go_wp2
    go_ret
    exact ⟨rfl, rfl⟩
  · have d : ((c : Int) == 95) = false := by simp; omega
    go_enter Tryd.func132, Tryd.ntmps132
    go_wp2
    all_goals go_ret
    all_goals refine ⟨?_, rfl⟩
    all_goals simp [letterN, h95]
    all_goals first | omega | (rw [Bool.eq_iff_iff]; simp; omega)
set_option maxHeartbeats 1000000 in
theorem keyword_any (s : ByteArray) (w : World) : Calls Tryd.prog 98 #[.string s] w fun e w' => e = .returned (.bool (keyB s.toList)) ∧ w' = w := by
  go_enter Tryd.func98, Tryd.ntmps98
  go_wp2
  all_goals go_ret
  all_goals refine ⟨?_, rfl⟩
  all_goals unfold keyB
  all_goals simp_all

end Go.Proofs.YtlihkmldclocoaaDoor
