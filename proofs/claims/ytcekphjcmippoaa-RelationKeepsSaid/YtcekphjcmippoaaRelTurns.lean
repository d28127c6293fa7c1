/- How lists of turns are read off the arguments. -/
import Derived.Test.YtcekphjcmippoaaRelReads
namespace Go.Proofs.Ytcekphjcmippoaa
open Go.RowKit Go.WideMaps Go.ChangeShapes Go.WideShapes Go.ChangeAt Go.Deep
set_option linter.unusedSimpArgs false
set_option linter.unusedVariables false
set_option maxRecDepth 100000

theorem rTn : Reads Try.prog 34 RTn := by
  intro H enc w base held fuel cs x h hn
  have hl := (reads_len Try.underlying34 h).trans (show Try.prog.cellsOf 34 = 25 by kernel_rfl)
  obtain ⟨b, e0⟩ := reads_field Try.underlying34 h hn 0 rfl (reads_bool Try.underlying4)
  obtain ⟨r, e1, hr⟩ := reads_field Try.underlying34 h hn 1 rfl (reads_row rowTy)
  have c0 : Try.prog.cellsOf 4 = 1 := by kernel_rfl
  have c1 : Try.prog.cellsOf 32 = 24 := by kernel_rfl
  have g0 : (cs.drop 0).take 1 = [Value.bool b] := by rw [← c0]; exact e0
  have g1 : (cs.drop 1).take 24 = r.cells := by rw [← c1]; exact e1
  clear e0 e1
  refine ⟨⟨b, r⟩, ?_, hr⟩
  cases cs with
  | nil => simp at hl
  | cons c cs =>
    simp at g0 g1 hl
    subst g0
    rw [← g1, List.take_of_length_le (by omega)]
theorem rTns : Reads Try.prog 22 (SlR 25 1407374883512 RTn) :=
  reads_slice Try.underlying22 (by kernel_rfl) (by omega) (fun c h => by
    have hb : Try.prog.bytesOf 34 = 100 := by kernel_rfl
    rw [hb] at h; unfold reachBytes at h; omega) rTn

end Go.Proofs.Ytcekphjcmippoaa
