/- Parts. -/
import Derived.Test.YtdjffkkbjbiihaaGreatDoorH02
set_option linter.unusedSimpArgs false
set_option linter.unusedVariables false
namespace Go.Proofs.YtdjffkkbjbiihaaGreatDoor
open Go.RowKit Go.WideMaps
abbrev NilB (f : FuncId) (j : Nat) : Prop := ∀ {w : World} {b : Nat}, w.cell? ⟨b, j, none⟩ = some (.slice none 0 0) → Calls Tryz.prog f #[.pointer (some ⟨b, 0, none⟩)] w fun e w' => (∃ v, e = .returned v) ∧ w' = w
abbrev NilL (f : FuncId) (j : Nat) : Prop := ∀ {w : World} {b : Nat}, w.cell? ⟨b, j, none⟩ = some (.slice none 0 0) → Calls Tryz.prog f #[.pointer (some ⟨b, 0, none⟩)] w fun e w' => e = .returned (.bool true) ∧ w' = w
theorem fillValue_nil : NilB 40 1 := by
 intro w b c
 go_enter Tryz.func40, Tryz.ntmps40
 go_wp2_with fail
 go_loopw [2] (fun i wr => i = .int .i64 0 ∧ wr = w) (fun _ _ => 0)
 case atStart => exact ⟨rfl, rfl⟩
 case round =>
  obtain ⟨rfl, rfl⟩ := hrel
  go_wp2
  go_end0
  exact ⟨⟨_, rfl⟩, rfl⟩
theorem growValue_nil : NilB 127 1 := by
 intro w b c
 go_enter Tryz.func127, Tryz.ntmps127
 go_wp2_with fail
 go_loopw [2] (fun i wr => i = .int .i64 0 ∧ wr = w) (fun _ _ => 0)
 case atStart => exact ⟨rfl, rfl⟩
 case round =>
  obtain ⟨rfl, rfl⟩ := hrel
  go_wp2
  go_end0
  exact ⟨⟨_, rfl⟩, rfl⟩
theorem lookValue_nil : NilL 158 1 := by
 intro w b c
 go_enter Tryz.func158, Tryz.ntmps158
 go_wp2_with fail
 go_loopw [3] (fun i wr => i = .int .i64 0 ∧ wr = w) (fun _ _ => 0)
 case atStart => exact ⟨rfl, rfl⟩
 case round =>
  obtain ⟨rfl, rfl⟩ := hrel
  go_wp2
  go_ret
  exact ⟨rfl, rfl⟩
theorem fillTuple_nil : NilB 41 2 := by
 intro w b c
 go_enter Tryz.func41, Tryz.ntmps41
 go_wp2_with fail
 go_loopw [2] (fun i wr => i = .int .i64 0 ∧ wr = w) (fun _ _ => 0)
 case atStart => exact ⟨rfl, rfl⟩
 case round =>
  obtain ⟨rfl, rfl⟩ := hrel
  go_wp2
  go_end0
  exact ⟨⟨_, rfl⟩, rfl⟩
theorem growTuple_nil : NilB 128 2 := by
 intro w b c
 go_enter Tryz.func128, Tryz.ntmps128
 go_wp2_with fail
 go_loopw [2] (fun i wr => i = .int .i64 0 ∧ wr = w) (fun _ _ => 0)
 case atStart => exact ⟨rfl, rfl⟩
 case round =>
  obtain ⟨rfl, rfl⟩ := hrel
  go_wp2
  go_end0
  exact ⟨⟨_, rfl⟩, rfl⟩
theorem lookTuple_nil : NilL 159 2 := by
 intro w b c
 go_enter Tryz.func159, Tryz.ntmps159
 go_wp2_with fail
 go_loopw [3] (fun i wr => i = .int .i64 0 ∧ wr = w) (fun _ _ => 0)
 case atStart => exact ⟨rfl, rfl⟩
 case round =>
  obtain ⟨rfl, rfl⟩ := hrel
  go_wp2
  go_ret
  exact ⟨rfl, rfl⟩
theorem fillFact_nil : NilB 42 3 := by
 intro w b c
 go_enter Tryz.func42, Tryz.ntmps42
 go_wp2_with fail
 go_loopw [2] (fun i wr => i = .int .i64 0 ∧ wr = w) (fun _ _ => 0)
 case atStart => exact ⟨rfl, rfl⟩
 case round =>
  obtain ⟨rfl, rfl⟩ := hrel
  go_wp2
  go_end0
  exact ⟨⟨_, rfl⟩, rfl⟩
theorem growFact_nil : NilB 129 3 := by
 intro w b c
 go_enter Tryz.func129, Tryz.ntmps129
 go_wp2_with fail
 go_loopw [2] (fun i wr => i = .int .i64 0 ∧ wr = w) (fun _ _ => 0)
 case atStart => exact ⟨rfl, rfl⟩
 case round =>
  obtain ⟨rfl, rfl⟩ := hrel
  go_wp2
  go_end0
  exact ⟨⟨_, rfl⟩, rfl⟩
theorem lookFact_nil : NilL 160 3 := by
 intro w b c
 go_enter Tryz.func160, Tryz.ntmps160
 go_wp2_with fail
 go_loopw [3] (fun i wr => i = .int .i64 0 ∧ wr = w) (fun _ _ => 0)
 case atStart => exact ⟨rfl, rfl⟩
 case round =>
  obtain ⟨rfl, rfl⟩ := hrel
  go_wp2
  go_ret
  exact ⟨rfl, rfl⟩
theorem fillTerm_nil : NilB 43 4 := by
 intro w b c
 go_enter Tryz.func43, Tryz.ntmps43
 go_wp2_with fail
 go_loopw [2] (fun i wr => i = .int .i64 0 ∧ wr = w) (fun _ _ => 0)
 case atStart => exact ⟨rfl, rfl⟩
 case round =>
  obtain ⟨rfl, rfl⟩ := hrel
  go_wp2
  go_end0
  exact ⟨⟨_, rfl⟩, rfl⟩
theorem growTerm_nil : NilB 130 4 := by
 intro w b c
 go_enter Tryz.func130, Tryz.ntmps130
 go_wp2_with fail
 go_loopw [2] (fun i wr => i = .int .i64 0 ∧ wr = w) (fun _ _ => 0)
 case atStart => exact ⟨rfl, rfl⟩
 case round =>
  obtain ⟨rfl, rfl⟩ := hrel
  go_wp2
  go_end0
  exact ⟨⟨_, rfl⟩, rfl⟩
theorem lookTerm_nil : NilL 161 4 := by
 intro w b c
 go_enter Tryz.func161, Tryz.ntmps161
 go_wp2_with fail
 go_loopw [3] (fun i wr => i = .int .i64 0 ∧ wr = w) (fun _ _ => 0)
 case atStart => exact ⟨rfl, rfl⟩
 case round =>
  obtain ⟨rfl, rfl⟩ := hrel
  go_wp2
  go_ret
  exact ⟨rfl, rfl⟩
theorem fillExpr_nil : NilB 44 5 := by
 intro w b c
 go_enter Tryz.func44, Tryz.ntmps44
 go_wp2_with fail
 go_loopw [2] (fun i wr => i = .int .i64 0 ∧ wr = w) (fun _ _ => 0)
 case atStart => exact ⟨rfl, rfl⟩
 case round =>
  obtain ⟨rfl, rfl⟩ := hrel
  go_wp2
  go_end0
  exact ⟨⟨_, rfl⟩, rfl⟩
theorem growExpr_nil : NilB 131 5 := by
 intro w b c
 go_enter Tryz.func131, Tryz.ntmps131
 go_wp2_with fail
 go_loopw [2] (fun i wr => i = .int .i64 0 ∧ wr = w) (fun _ _ => 0)
 case atStart => exact ⟨rfl, rfl⟩
 case round =>
  obtain ⟨rfl, rfl⟩ := hrel
  go_wp2
  go_end0
  exact ⟨⟨_, rfl⟩, rfl⟩
theorem lookExpr_nil : NilL 162 5 := by
 intro w b c
 go_enter Tryz.func162, Tryz.ntmps162
 go_wp2_with fail
 go_loopw [3] (fun i wr => i = .int .i64 0 ∧ wr = w) (fun _ _ => 0)
 case atStart => exact ⟨rfl, rfl⟩
 case round =>
  obtain ⟨rfl, rfl⟩ := hrel
  go_wp2
  go_ret
  exact ⟨rfl, rfl⟩
theorem fillLiteral_nil : NilB 45 6 := by
 intro w b c
 go_enter Tryz.func45, Tryz.ntmps45
 go_wp2_with fail
 go_loopw [2] (fun i wr => i = .int .i64 0 ∧ wr = w) (fun _ _ => 0)
 case atStart => exact ⟨rfl, rfl⟩
 case round =>
  obtain ⟨rfl, rfl⟩ := hrel
  go_wp2
  go_end0
  exact ⟨⟨_, rfl⟩, rfl⟩
theorem growLiteral_nil : NilB 132 6 := by
 intro w b c
 go_enter Tryz.func132, Tryz.ntmps132
 go_wp2_with fail
 go_loopw [2] (fun i wr => i = .int .i64 0 ∧ wr = w) (fun _ _ => 0)
 case atStart => exact ⟨rfl, rfl⟩
 case round =>
  obtain ⟨rfl, rfl⟩ := hrel
  go_wp2
  go_end0
  exact ⟨⟨_, rfl⟩, rfl⟩
theorem lookLiteral_nil : NilL 163 6 := by
 intro w b c
 go_enter Tryz.func163, Tryz.ntmps163
 go_wp2_with fail
 go_loopw [3] (fun i wr => i = .int .i64 0 ∧ wr = w) (fun _ _ => 0)
 case atStart => exact ⟨rfl, rfl⟩
 case round =>
  obtain ⟨rfl, rfl⟩ := hrel
  go_wp2
  go_ret
  exact ⟨rfl, rfl⟩
theorem fillArg_nil : NilB 46 7 := by
 intro w b c
 go_enter Tryz.func46, Tryz.ntmps46
 go_wp2_with fail
 go_loopw [2] (fun i wr => i = .int .i64 0 ∧ wr = w) (fun _ _ => 0)
 case atStart => exact ⟨rfl, rfl⟩
 case round =>
  obtain ⟨rfl, rfl⟩ := hrel
  go_wp2
  go_end0
  exact ⟨⟨_, rfl⟩, rfl⟩
theorem growArg_nil : NilB 133 7 := by
 intro w b c
 go_enter Tryz.func133, Tryz.ntmps133
 go_wp2_with fail
 go_loopw [2] (fun i wr => i = .int .i64 0 ∧ wr = w) (fun _ _ => 0)
 case atStart => exact ⟨rfl, rfl⟩
 case round =>
  obtain ⟨rfl, rfl⟩ := hrel
  go_wp2
  go_end0
  exact ⟨⟨_, rfl⟩, rfl⟩
theorem lookArg_nil : NilL 164 7 := by
 intro w b c
 go_enter Tryz.func164, Tryz.ntmps164
 go_wp2_with fail
 go_loopw [3] (fun i wr => i = .int .i64 0 ∧ wr = w) (fun _ _ => 0)
 case atStart => exact ⟨rfl, rfl⟩
 case round =>
  obtain ⟨rfl, rfl⟩ := hrel
  go_wp2
  go_ret
  exact ⟨rfl, rfl⟩
theorem fillRule_nil : NilB 47 8 := by
 intro w b c
 go_enter Tryz.func47, Tryz.ntmps47
 go_wp2_with fail
 go_loopw [2] (fun i wr => i = .int .i64 0 ∧ wr = w) (fun _ _ => 0)
 case atStart => exact ⟨rfl, rfl⟩
 case round =>
  obtain ⟨rfl, rfl⟩ := hrel
  go_wp2
  go_end0
  exact ⟨⟨_, rfl⟩, rfl⟩
theorem growRule_nil : NilB 134 8 := by
 intro w b c
 go_enter Tryz.func134, Tryz.ntmps134
 go_wp2_with fail
 go_loopw [2] (fun i wr => i = .int .i64 0 ∧ wr = w) (fun _ _ => 0)
 case atStart => exact ⟨rfl, rfl⟩
 case round =>
  obtain ⟨rfl, rfl⟩ := hrel
  go_wp2
  go_end0
  exact ⟨⟨_, rfl⟩, rfl⟩
theorem lookRule_nil : NilL 165 8 := by
 intro w b c
 go_enter Tryz.func165, Tryz.ntmps165
 go_wp2_with fail
 go_loopw [3] (fun i wr => i = .int .i64 0 ∧ wr = w) (fun _ _ => 0)
 case atStart => exact ⟨rfl, rfl⟩
 case round =>
  obtain ⟨rfl, rfl⟩ := hrel
  go_wp2
  go_ret
  exact ⟨rfl, rfl⟩
theorem fillPair_nil : NilB 48 9 := by
 intro w b c
 go_enter Tryz.func48, Tryz.ntmps48
 go_wp2_with fail
 go_loopw [2] (fun i wr => i = .int .i64 0 ∧ wr = w) (fun _ _ => 0)
 case atStart => exact ⟨rfl, rfl⟩
 case round =>
  obtain ⟨rfl, rfl⟩ := hrel
  go_wp2
  go_end0
  exact ⟨⟨_, rfl⟩, rfl⟩
theorem growPair_nil : NilB 135 9 := by
 intro w b c
 go_enter Tryz.func135, Tryz.ntmps135
 go_wp2_with fail
 go_loopw [2] (fun i wr => i = .int .i64 0 ∧ wr = w) (fun _ _ => 0)
 case atStart => exact ⟨rfl, rfl⟩
 case round =>
  obtain ⟨rfl, rfl⟩ := hrel
  go_wp2
  go_end0
  exact ⟨⟨_, rfl⟩, rfl⟩
theorem lookPair_nil : NilL 166 9 := by
 intro w b c
 go_enter Tryz.func166, Tryz.ntmps166
 go_wp2_with fail
 go_loopw [3] (fun i wr => i = .int .i64 0 ∧ wr = w) (fun _ _ => 0)
 case atStart => exact ⟨rfl, rfl⟩
 case round =>
  obtain ⟨rfl, rfl⟩ := hrel
  go_wp2
  go_ret
  exact ⟨rfl, rfl⟩
theorem fillBind_nil : NilB 49 10 := by
 intro w b c
 go_enter Tryz.func49, Tryz.ntmps49
 go_wp2_with fail
 go_loopw [2] (fun i wr => i = .int .i64 0 ∧ wr = w) (fun _ _ => 0)
 case atStart => exact ⟨rfl, rfl⟩
 case round =>
  obtain ⟨rfl, rfl⟩ := hrel
  go_wp2
  go_end0
  exact ⟨⟨_, rfl⟩, rfl⟩
theorem growBind_nil : NilB 136 10 := by
 intro w b c
 go_enter Tryz.func136, Tryz.ntmps136
 go_wp2_with fail
 go_loopw [2] (fun i wr => i = .int .i64 0 ∧ wr = w) (fun _ _ => 0)
 case atStart => exact ⟨rfl, rfl⟩
 case round =>
  obtain ⟨rfl, rfl⟩ := hrel
  go_wp2
  go_end0
  exact ⟨⟨_, rfl⟩, rfl⟩
theorem lookBind_nil : NilL 167 10 := by
 intro w b c
 go_enter Tryz.func167, Tryz.ntmps167
 go_wp2_with fail
 go_loopw [3] (fun i wr => i = .int .i64 0 ∧ wr = w) (fun _ _ => 0)
 case atStart => exact ⟨rfl, rfl⟩
 case round =>
  obtain ⟨rfl, rfl⟩ := hrel
  go_wp2
  go_ret
  exact ⟨rfl, rfl⟩
theorem fillBindList_nil : NilB 50 11 := by
 intro w b c
 go_enter Tryz.func50, Tryz.ntmps50
 go_wp2_with fail
 go_loopw [2] (fun i wr => i = .int .i64 0 ∧ wr = w) (fun _ _ => 0)
 case atStart => exact ⟨rfl, rfl⟩
 case round =>
  obtain ⟨rfl, rfl⟩ := hrel
  go_wp2
  go_end0
  exact ⟨⟨_, rfl⟩, rfl⟩
theorem growBindList_nil : NilB 137 11 := by
 intro w b c
 go_enter Tryz.func137, Tryz.ntmps137
 go_wp2_with fail
 go_loopw [2] (fun i wr => i = .int .i64 0 ∧ wr = w) (fun _ _ => 0)
 case atStart => exact ⟨rfl, rfl⟩
 case round =>
  obtain ⟨rfl, rfl⟩ := hrel
  go_wp2
  go_end0
  exact ⟨⟨_, rfl⟩, rfl⟩
theorem lookBindList_nil : NilL 168 11 := by
 intro w b c
 go_enter Tryz.func168, Tryz.ntmps168
 go_wp2_with fail
 go_loopw [3] (fun i wr => i = .int .i64 0 ∧ wr = w) (fun _ _ => 0)
 case atStart => exact ⟨rfl, rfl⟩
 case round =>
  obtain ⟨rfl, rfl⟩ := hrel
  go_wp2
  go_ret
  exact ⟨rfl, rfl⟩
theorem fillText_nil : NilB 51 12 := by
 intro w b c
 go_enter Tryz.func51, Tryz.ntmps51
 go_wp2_with fail
 go_loopw [2] (fun i wr => i = .int .i64 0 ∧ wr = w) (fun _ _ => 0)
 case atStart => exact ⟨rfl, rfl⟩
 case round =>
  obtain ⟨rfl, rfl⟩ := hrel
  go_wp2
  go_end0
  exact ⟨⟨_, rfl⟩, rfl⟩
theorem growText_nil : NilB 138 12 := by
 intro w b c
 go_enter Tryz.func138, Tryz.ntmps138
 go_wp2_with fail
 go_loopw [2] (fun i wr => i = .int .i64 0 ∧ wr = w) (fun _ _ => 0)
 case atStart => exact ⟨rfl, rfl⟩
 case round =>
  obtain ⟨rfl, rfl⟩ := hrel
  go_wp2
  go_end0
  exact ⟨⟨_, rfl⟩, rfl⟩
theorem lookText_nil : NilL 169 12 := by
 intro w b c
 go_enter Tryz.func169, Tryz.ntmps169
 go_wp2_with fail
 go_loopw [3] (fun i wr => i = .int .i64 0 ∧ wr = w) (fun _ _ => 0)
 case atStart => exact ⟨rfl, rfl⟩
 case round =>
  obtain ⟨rfl, rfl⟩ := hrel
  go_wp2
  go_ret
  exact ⟨rfl, rfl⟩
theorem fillTextList_nil : NilB 52 13 := by
 intro w b c
 go_enter Tryz.func52, Tryz.ntmps52
 go_wp2_with fail
 go_loopw [2] (fun i wr => i = .int .i64 0 ∧ wr = w) (fun _ _ => 0)
 case atStart => exact ⟨rfl, rfl⟩
 case round =>
  obtain ⟨rfl, rfl⟩ := hrel
  go_wp2
  go_end0
  exact ⟨⟨_, rfl⟩, rfl⟩
theorem growTextList_nil : NilB 139 13 := by
 intro w b c
 go_enter Tryz.func139, Tryz.ntmps139
 go_wp2_with fail
 go_loopw [2] (fun i wr => i = .int .i64 0 ∧ wr = w) (fun _ _ => 0)
 case atStart => exact ⟨rfl, rfl⟩
 case round =>
  obtain ⟨rfl, rfl⟩ := hrel
  go_wp2
  go_end0
  exact ⟨⟨_, rfl⟩, rfl⟩
theorem lookTextList_nil : NilL 170 13 := by
 intro w b c
 go_enter Tryz.func170, Tryz.ntmps170
 go_wp2_with fail
 go_loopw [3] (fun i wr => i = .int .i64 0 ∧ wr = w) (fun _ _ => 0)
 case atStart => exact ⟨rfl, rfl⟩
 case round =>
  obtain ⟨rfl, rfl⟩ := hrel
  go_wp2
  go_ret
  exact ⟨rfl, rfl⟩
theorem fillInt_nil : NilB 53 14 := by
 intro w b c
 go_enter Tryz.func53, Tryz.ntmps53
 go_wp2_with fail
 go_loopw [2] (fun i wr => i = .int .i64 0 ∧ wr = w) (fun _ _ => 0)
 case atStart => exact ⟨rfl, rfl⟩
 case round =>
  obtain ⟨rfl, rfl⟩ := hrel
  go_wp2
  go_end0
  exact ⟨⟨_, rfl⟩, rfl⟩
theorem growInt_nil : NilB 140 14 := by
 intro w b c
 go_enter Tryz.func140, Tryz.ntmps140
 go_wp2_with fail
 go_loopw [2] (fun i wr => i = .int .i64 0 ∧ wr = w) (fun _ _ => 0)
 case atStart => exact ⟨rfl, rfl⟩
 case round =>
  obtain ⟨rfl, rfl⟩ := hrel
  go_wp2
  go_end0
  exact ⟨⟨_, rfl⟩, rfl⟩
theorem lookInt_nil : NilL 171 14 := by
 intro w b c
 go_enter Tryz.func171, Tryz.ntmps171
 go_wp2_with fail
 go_loopw [3] (fun i wr => i = .int .i64 0 ∧ wr = w) (fun _ _ => 0)
 case atStart => exact ⟨rfl, rfl⟩
 case round =>
  obtain ⟨rfl, rfl⟩ := hrel
  go_wp2
  go_ret
  exact ⟨rfl, rfl⟩
theorem fillRow_nil : NilB 54 15 := by
 intro w b c
 go_enter Tryz.func54, Tryz.ntmps54
 go_wp2_with fail
 go_loopw [2] (fun i wr => i = .int .i64 0 ∧ wr = w) (fun _ _ => 0)
 case atStart => exact ⟨rfl, rfl⟩
 case round =>
  obtain ⟨rfl, rfl⟩ := hrel
  go_wp2
  go_end0
  exact ⟨⟨_, rfl⟩, rfl⟩
theorem growRow_nil : NilB 141 15 := by
 intro w b c
 go_enter Tryz.func141, Tryz.ntmps141
 go_wp2_with fail
 go_loopw [2] (fun i wr => i = .int .i64 0 ∧ wr = w) (fun _ _ => 0)
 case atStart => exact ⟨rfl, rfl⟩
 case round =>
  obtain ⟨rfl, rfl⟩ := hrel
  go_wp2
  go_end0
  exact ⟨⟨_, rfl⟩, rfl⟩
theorem lookRow_nil : NilL 172 15 := by
 intro w b c
 go_enter Tryz.func172, Tryz.ntmps172
 go_wp2_with fail
 go_loopw [3] (fun i wr => i = .int .i64 0 ∧ wr = w) (fun _ _ => 0)
 case atStart => exact ⟨rfl, rfl⟩
 case round =>
  obtain ⟨rfl, rfl⟩ := hrel
  go_wp2
  go_ret
  exact ⟨rfl, rfl⟩
theorem fillToken_nil : NilB 55 16 := by
 intro w b c
 go_enter Tryz.func55, Tryz.ntmps55
 go_wp2_with fail
 go_loopw [2] (fun i wr => i = .int .i64 0 ∧ wr = w) (fun _ _ => 0)
 case atStart => exact ⟨rfl, rfl⟩
 case round =>
  obtain ⟨rfl, rfl⟩ := hrel
  go_wp2
  go_end0
  exact ⟨⟨_, rfl⟩, rfl⟩
theorem growToken_nil : NilB 142 16 := by
 intro w b c
 go_enter Tryz.func142, Tryz.ntmps142
 go_wp2_with fail
 go_loopw [2] (fun i wr => i = .int .i64 0 ∧ wr = w) (fun _ _ => 0)
 case atStart => exact ⟨rfl, rfl⟩
 case round =>
  obtain ⟨rfl, rfl⟩ := hrel
  go_wp2
  go_end0
  exact ⟨⟨_, rfl⟩, rfl⟩
theorem lookToken_nil : NilL 173 16 := by
 intro w b c
 go_enter Tryz.func173, Tryz.ntmps173
 go_wp2_with fail
 go_loopw [3] (fun i wr => i = .int .i64 0 ∧ wr = w) (fun _ _ => 0)
 case atStart => exact ⟨rfl, rfl⟩
 case round =>
  obtain ⟨rfl, rfl⟩ := hrel
  go_wp2
  go_ret
  exact ⟨rfl, rfl⟩
theorem fillPred_nil : NilB 56 17 := by
 intro w b c
 go_enter Tryz.func56, Tryz.ntmps56
 go_wp2_with fail
 go_loopw [2] (fun i wr => i = .int .i64 0 ∧ wr = w) (fun _ _ => 0)
 case atStart => exact ⟨rfl, rfl⟩
 case round =>
  obtain ⟨rfl, rfl⟩ := hrel
  go_wp2
  go_end0
  exact ⟨⟨_, rfl⟩, rfl⟩
theorem growPred_nil : NilB 143 17 := by
 intro w b c
 go_enter Tryz.func143, Tryz.ntmps143
 go_wp2_with fail
 go_loopw [2] (fun i wr => i = .int .i64 0 ∧ wr = w) (fun _ _ => 0)
 case atStart => exact ⟨rfl, rfl⟩
 case round =>
  obtain ⟨rfl, rfl⟩ := hrel
  go_wp2
  go_end0
  exact ⟨⟨_, rfl⟩, rfl⟩
theorem lookPred_nil : NilL 174 17 := by
 intro w b c
 go_enter Tryz.func174, Tryz.ntmps174
 go_wp2_with fail
 go_loopw [3] (fun i wr => i = .int .i64 0 ∧ wr = w) (fun _ _ => 0)
 case atStart => exact ⟨rfl, rfl⟩
 case round =>
  obtain ⟨rfl, rfl⟩ := hrel
  go_wp2
  go_ret
  exact ⟨rfl, rfl⟩
theorem fillType_nil : NilB 57 18 := by
 intro w b c
 go_enter Tryz.func57, Tryz.ntmps57
 go_wp2_with fail
 go_loopw [2] (fun i wr => i = .int .i64 0 ∧ wr = w) (fun _ _ => 0)
 case atStart => exact ⟨rfl, rfl⟩
 case round =>
  obtain ⟨rfl, rfl⟩ := hrel
  go_wp2
  go_end0
  exact ⟨⟨_, rfl⟩, rfl⟩
theorem growType_nil : NilB 144 18 := by
 intro w b c
 go_enter Tryz.func144, Tryz.ntmps144
 go_wp2_with fail
 go_loopw [2] (fun i wr => i = .int .i64 0 ∧ wr = w) (fun _ _ => 0)
 case atStart => exact ⟨rfl, rfl⟩
 case round =>
  obtain ⟨rfl, rfl⟩ := hrel
  go_wp2
  go_end0
  exact ⟨⟨_, rfl⟩, rfl⟩
theorem lookType_nil : NilL 175 18 := by
 intro w b c
 go_enter Tryz.func175, Tryz.ntmps175
 go_wp2_with fail
 go_loopw [3] (fun i wr => i = .int .i64 0 ∧ wr = w) (fun _ _ => 0)
 case atStart => exact ⟨rfl, rfl⟩
 case round =>
  obtain ⟨rfl, rfl⟩ := hrel
  go_wp2
  go_ret
  exact ⟨rfl, rfl⟩
theorem fillSig_nil : NilB 58 19 := by
 intro w b c
 go_enter Tryz.func58, Tryz.ntmps58
 go_wp2_with fail
 go_loopw [2] (fun i wr => i = .int .i64 0 ∧ wr = w) (fun _ _ => 0)
 case atStart => exact ⟨rfl, rfl⟩
 case round =>
  obtain ⟨rfl, rfl⟩ := hrel
  go_wp2
  go_end0
  exact ⟨⟨_, rfl⟩, rfl⟩
theorem growSig_nil : NilB 145 19 := by
 intro w b c
 go_enter Tryz.func145, Tryz.ntmps145
 go_wp2_with fail
 go_loopw [2] (fun i wr => i = .int .i64 0 ∧ wr = w) (fun _ _ => 0)
 case atStart => exact ⟨rfl, rfl⟩
 case round =>
  obtain ⟨rfl, rfl⟩ := hrel
  go_wp2
  go_end0
  exact ⟨⟨_, rfl⟩, rfl⟩
theorem lookSig_nil : NilL 176 19 := by
 intro w b c
 go_enter Tryz.func176, Tryz.ntmps176
 go_wp2_with fail
 go_loopw [3] (fun i wr => i = .int .i64 0 ∧ wr = w) (fun _ _ => 0)
 case atStart => exact ⟨rfl, rfl⟩
 case round =>
  obtain ⟨rfl, rfl⟩ := hrel
  go_wp2
  go_ret
  exact ⟨rfl, rfl⟩
theorem fillLevel_nil : NilB 60 21 := by
 intro w b c
 go_enter Tryz.func60, Tryz.ntmps60
 go_wp2_with fail
 go_loopw [2] (fun i wr => i = .int .i64 0 ∧ wr = w) (fun _ _ => 0)
 case atStart => exact ⟨rfl, rfl⟩
 case round =>
  obtain ⟨rfl, rfl⟩ := hrel
  go_wp2
  go_end0
  exact ⟨⟨_, rfl⟩, rfl⟩
theorem growLevel_nil : NilB 147 21 := by
 intro w b c
 go_enter Tryz.func147, Tryz.ntmps147
 go_wp2_with fail
 go_loopw [2] (fun i wr => i = .int .i64 0 ∧ wr = w) (fun _ _ => 0)
 case atStart => exact ⟨rfl, rfl⟩
 case round =>
  obtain ⟨rfl, rfl⟩ := hrel
  go_wp2
  go_end0
  exact ⟨⟨_, rfl⟩, rfl⟩
theorem lookLevel_nil : NilL 178 21 := by
 intro w b c
 go_enter Tryz.func178, Tryz.ntmps178
 go_wp2_with fail
 go_loopw [3] (fun i wr => i = .int .i64 0 ∧ wr = w) (fun _ _ => 0)
 case atStart => exact ⟨rfl, rfl⟩
 case round =>
  obtain ⟨rfl, rfl⟩ := hrel
  go_wp2
  go_ret
  exact ⟨rfl, rfl⟩
theorem fillMask_nil : NilB 61 22 := by
 intro w b c
 go_enter Tryz.func61, Tryz.ntmps61
 go_wp2_with fail
 go_loopw [2] (fun i wr => i = .int .i64 0 ∧ wr = w) (fun _ _ => 0)
 case atStart => exact ⟨rfl, rfl⟩
 case round =>
  obtain ⟨rfl, rfl⟩ := hrel
  go_wp2
  go_end0
  exact ⟨⟨_, rfl⟩, rfl⟩
theorem growMask_nil : NilB 148 22 := by
 intro w b c
 go_enter Tryz.func148, Tryz.ntmps148
 go_wp2_with fail
 go_loopw [2] (fun i wr => i = .int .i64 0 ∧ wr = w) (fun _ _ => 0)
 case atStart => exact ⟨rfl, rfl⟩
 case round =>
  obtain ⟨rfl, rfl⟩ := hrel
  go_wp2
  go_end0
  exact ⟨⟨_, rfl⟩, rfl⟩
theorem lookMask_nil : NilL 179 22 := by
 intro w b c
 go_enter Tryz.func179, Tryz.ntmps179
 go_wp2_with fail
 go_loopw [3] (fun i wr => i = .int .i64 0 ∧ wr = w) (fun _ _ => 0)
 case atStart => exact ⟨rfl, rfl⟩
 case round =>
  obtain ⟨rfl, rfl⟩ := hrel
  go_wp2
  go_ret
  exact ⟨rfl, rfl⟩
theorem fillStep_nil : NilB 62 23 := by
 intro w b c
 go_enter Tryz.func62, Tryz.ntmps62
 go_wp2_with fail
 go_loopw [2] (fun i wr => i = .int .i64 0 ∧ wr = w) (fun _ _ => 0)
 case atStart => exact ⟨rfl, rfl⟩
 case round =>
  obtain ⟨rfl, rfl⟩ := hrel
  go_wp2
  go_end0
  exact ⟨⟨_, rfl⟩, rfl⟩
theorem growStep_nil : NilB 149 23 := by
 intro w b c
 go_enter Tryz.func149, Tryz.ntmps149
 go_wp2_with fail
 go_loopw [2] (fun i wr => i = .int .i64 0 ∧ wr = w) (fun _ _ => 0)
 case atStart => exact ⟨rfl, rfl⟩
 case round =>
  obtain ⟨rfl, rfl⟩ := hrel
  go_wp2
  go_end0
  exact ⟨⟨_, rfl⟩, rfl⟩
theorem lookStep_nil : NilL 180 23 := by
 intro w b c
 go_enter Tryz.func180, Tryz.ntmps180
 go_wp2_with fail
 go_loopw [3] (fun i wr => i = .int .i64 0 ∧ wr = w) (fun _ _ => 0)
 case atStart => exact ⟨rfl, rfl⟩
 case round =>
  obtain ⟨rfl, rfl⟩ := hrel
  go_wp2
  go_ret
  exact ⟨rfl, rfl⟩
theorem fillRanked_nil : NilB 63 24 := by
 intro w b c
 go_enter Tryz.func63, Tryz.ntmps63
 go_wp2_with fail
 go_loopw [2] (fun i wr => i = .int .i64 0 ∧ wr = w) (fun _ _ => 0)
 case atStart => exact ⟨rfl, rfl⟩
 case round =>
  obtain ⟨rfl, rfl⟩ := hrel
  go_wp2
  go_end0
  exact ⟨⟨_, rfl⟩, rfl⟩
theorem growRanked_nil : NilB 150 24 := by
 intro w b c
 go_enter Tryz.func150, Tryz.ntmps150
 go_wp2_with fail
 go_loopw [2] (fun i wr => i = .int .i64 0 ∧ wr = w) (fun _ _ => 0)
 case atStart => exact ⟨rfl, rfl⟩
 case round =>
  obtain ⟨rfl, rfl⟩ := hrel
  go_wp2
  go_end0
  exact ⟨⟨_, rfl⟩, rfl⟩
theorem lookRanked_nil : NilL 181 24 := by
 intro w b c
 go_enter Tryz.func181, Tryz.ntmps181
 go_wp2_with fail
 go_loopw [3] (fun i wr => i = .int .i64 0 ∧ wr = w) (fun _ _ => 0)
 case atStart => exact ⟨rfl, rfl⟩
 case round =>
  obtain ⟨rfl, rfl⟩ := hrel
  go_wp2
  go_ret
  exact ⟨rfl, rfl⟩
theorem fillAdorned_nil : NilB 64 25 := by
 intro w b c
 go_enter Tryz.func64, Tryz.ntmps64
 go_wp2_with fail
 go_loopw [2] (fun i wr => i = .int .i64 0 ∧ wr = w) (fun _ _ => 0)
 case atStart => exact ⟨rfl, rfl⟩
 case round =>
  obtain ⟨rfl, rfl⟩ := hrel
  go_wp2
  go_end0
  exact ⟨⟨_, rfl⟩, rfl⟩
theorem growAdorned_nil : NilB 151 25 := by
 intro w b c
 go_enter Tryz.func151, Tryz.ntmps151
 go_wp2_with fail
 go_loopw [2] (fun i wr => i = .int .i64 0 ∧ wr = w) (fun _ _ => 0)
 case atStart => exact ⟨rfl, rfl⟩
 case round =>
  obtain ⟨rfl, rfl⟩ := hrel
  go_wp2
  go_end0
  exact ⟨⟨_, rfl⟩, rfl⟩
theorem lookAdorned_nil : NilL 182 25 := by
 intro w b c
 go_enter Tryz.func182, Tryz.ntmps182
 go_wp2_with fail
 go_loopw [3] (fun i wr => i = .int .i64 0 ∧ wr = w) (fun _ _ => 0)
 case atStart => exact ⟨rfl, rfl⟩
 case round =>
  obtain ⟨rfl, rfl⟩ := hrel
  go_wp2
  go_ret
  exact ⟨rfl, rfl⟩
theorem fillTable_nil : NilB 65 26 := by
 intro w b c
 go_enter Tryz.func65, Tryz.ntmps65
 go_wp2_with fail
 go_loopw [2] (fun i wr => i = .int .i64 0 ∧ wr = w) (fun _ _ => 0)
 case atStart => exact ⟨rfl, rfl⟩
 case round =>
  obtain ⟨rfl, rfl⟩ := hrel
  go_wp2
  go_end0
  exact ⟨⟨_, rfl⟩, rfl⟩
theorem growTable_nil : NilB 152 26 := by
 intro w b c
 go_enter Tryz.func152, Tryz.ntmps152
 go_wp2_with fail
 go_loopw [2] (fun i wr => i = .int .i64 0 ∧ wr = w) (fun _ _ => 0)
 case atStart => exact ⟨rfl, rfl⟩
 case round =>
  obtain ⟨rfl, rfl⟩ := hrel
  go_wp2
  go_end0
  exact ⟨⟨_, rfl⟩, rfl⟩
theorem lookTable_nil : NilL 183 26 := by
 intro w b c
 go_enter Tryz.func183, Tryz.ntmps183
 go_wp2_with fail
 go_loopw [3] (fun i wr => i = .int .i64 0 ∧ wr = w) (fun _ _ => 0)
 case atStart => exact ⟨rfl, rfl⟩
 case round =>
  obtain ⟨rfl, rfl⟩ := hrel
  go_wp2
  go_ret
  exact ⟨rfl, rfl⟩
theorem fillProof_nil : NilB 66 27 := by
 intro w b c
 go_enter Tryz.func66, Tryz.ntmps66
 go_wp2_with fail
 go_loopw [2] (fun i wr => i = .int .i64 0 ∧ wr = w) (fun _ _ => 0)
 case atStart => exact ⟨rfl, rfl⟩
 case round =>
  obtain ⟨rfl, rfl⟩ := hrel
  go_wp2
  go_end0
  exact ⟨⟨_, rfl⟩, rfl⟩
theorem growProof_nil : NilB 153 27 := by
 intro w b c
 go_enter Tryz.func153, Tryz.ntmps153
 go_wp2_with fail
 go_loopw [2] (fun i wr => i = .int .i64 0 ∧ wr = w) (fun _ _ => 0)
 case atStart => exact ⟨rfl, rfl⟩
 case round =>
  obtain ⟨rfl, rfl⟩ := hrel
  go_wp2
  go_end0
  exact ⟨⟨_, rfl⟩, rfl⟩
theorem lookProof_nil : NilL 184 27 := by
 intro w b c
 go_enter Tryz.func184, Tryz.ntmps184
 go_wp2_with fail
 go_loopw [3] (fun i wr => i = .int .i64 0 ∧ wr = w) (fun _ _ => 0)
 case atStart => exact ⟨rfl, rfl⟩
 case round =>
  obtain ⟨rfl, rfl⟩ := hrel
  go_wp2
  go_ret
  exact ⟨rfl, rfl⟩
theorem fillSize_nil : NilB 67 28 := by
 intro w b c
 go_enter Tryz.func67, Tryz.ntmps67
 go_wp2_with fail
 go_loopw [2] (fun i wr => i = .int .i64 0 ∧ wr = w) (fun _ _ => 0)
 case atStart => exact ⟨rfl, rfl⟩
 case round =>
  obtain ⟨rfl, rfl⟩ := hrel
  go_wp2
  go_end0
  exact ⟨⟨_, rfl⟩, rfl⟩
theorem growSize_nil : NilB 154 28 := by
 intro w b c
 go_enter Tryz.func154, Tryz.ntmps154
 go_wp2_with fail
 go_loopw [2] (fun i wr => i = .int .i64 0 ∧ wr = w) (fun _ _ => 0)
 case atStart => exact ⟨rfl, rfl⟩
 case round =>
  obtain ⟨rfl, rfl⟩ := hrel
  go_wp2
  go_end0
  exact ⟨⟨_, rfl⟩, rfl⟩
theorem lookSize_nil : NilL 185 28 := by
 intro w b c
 go_enter Tryz.func185, Tryz.ntmps185
 go_wp2_with fail
 go_loopw [3] (fun i wr => i = .int .i64 0 ∧ wr = w) (fun _ _ => 0)
 case atStart => exact ⟨rfl, rfl⟩
 case round =>
  obtain ⟨rfl, rfl⟩ := hrel
  go_wp2
  go_ret
  exact ⟨rfl, rfl⟩
theorem fillFloat_nil : NilB 68 29 := by
 intro w b c
 go_enter Tryz.func68, Tryz.ntmps68
 go_wp2_with fail
 go_loopw [2] (fun i wr => i = .int .i64 0 ∧ wr = w) (fun _ _ => 0)
 case atStart => exact ⟨rfl, rfl⟩
 case round =>
  obtain ⟨rfl, rfl⟩ := hrel
  go_wp2
  go_end0
  exact ⟨⟨_, rfl⟩, rfl⟩
theorem growFloat_nil : NilB 155 29 := by
 intro w b c
 go_enter Tryz.func155, Tryz.ntmps155
 go_wp2_with fail
 go_loopw [2] (fun i wr => i = .int .i64 0 ∧ wr = w) (fun _ _ => 0)
 case atStart => exact ⟨rfl, rfl⟩
 case round =>
  obtain ⟨rfl, rfl⟩ := hrel
  go_wp2
  go_end0
  exact ⟨⟨_, rfl⟩, rfl⟩
theorem lookFloat_nil : NilL 186 29 := by
 intro w b c
 go_enter Tryz.func186, Tryz.ntmps186
 go_wp2_with fail
 go_loopw [3] (fun i wr => i = .int .i64 0 ∧ wr = w) (fun _ _ => 0)
 case atStart => exact ⟨rfl, rfl⟩
 case round =>
  obtain ⟨rfl, rfl⟩ := hrel
  go_wp2
  go_ret
  exact ⟨rfl, rfl⟩
theorem fillCommit_nil : NilB 69 30 := by
 intro w b c
 go_enter Tryz.func69, Tryz.ntmps69
 go_wp2_with fail
 go_loopw [2] (fun i wr => i = .int .i64 0 ∧ wr = w) (fun _ _ => 0)
 case atStart => exact ⟨rfl, rfl⟩
 case round =>
  obtain ⟨rfl, rfl⟩ := hrel
  go_wp2
  go_end0
  exact ⟨⟨_, rfl⟩, rfl⟩
theorem growCommit_nil : NilB 156 30 := by
 intro w b c
 go_enter Tryz.func156, Tryz.ntmps156
 go_wp2_with fail
 go_loopw [2] (fun i wr => i = .int .i64 0 ∧ wr = w) (fun _ _ => 0)
 case atStart => exact ⟨rfl, rfl⟩
 case round =>
  obtain ⟨rfl, rfl⟩ := hrel
  go_wp2
  go_end0
  exact ⟨⟨_, rfl⟩, rfl⟩
theorem lookCommit_nil : NilL 187 30 := by
 intro w b c
 go_enter Tryz.func187, Tryz.ntmps187
 go_wp2_with fail
 go_loopw [3] (fun i wr => i = .int .i64 0 ∧ wr = w) (fun _ _ => 0)
 case atStart => exact ⟨rfl, rfl⟩
 case round =>
  obtain ⟨rfl, rfl⟩ := hrel
  go_wp2
  go_ret
  exact ⟨rfl, rfl⟩
theorem fillEvent_nil : NilB 70 31 := by
 intro w b c
 go_enter Tryz.func70, Tryz.ntmps70
 go_wp2_with fail
 go_loopw [2] (fun i wr => i = .int .i64 0 ∧ wr = w) (fun _ _ => 0)
 case atStart => exact ⟨rfl, rfl⟩
 case round =>
  obtain ⟨rfl, rfl⟩ := hrel
  go_wp2
  go_end0
  exact ⟨⟨_, rfl⟩, rfl⟩
theorem growEvent_nil : NilB 157 31 := by
 intro w b c
 go_enter Tryz.func157, Tryz.ntmps157
 go_wp2_with fail
 go_loopw [2] (fun i wr => i = .int .i64 0 ∧ wr = w) (fun _ _ => 0)
 case atStart => exact ⟨rfl, rfl⟩
 case round =>
  obtain ⟨rfl, rfl⟩ := hrel
  go_wp2
  go_end0
  exact ⟨⟨_, rfl⟩, rfl⟩
theorem lookEvent_nil : NilL 188 31 := by
 intro w b c
 go_enter Tryz.func188, Tryz.ntmps188
 go_wp2_with fail
 go_loopw [3] (fun i wr => i = .int .i64 0 ∧ wr = w) (fun _ _ => 0)
 case atStart => exact ⟨rfl, rfl⟩
 case round =>
  obtain ⟨rfl, rfl⟩ := hrel
  go_wp2
  go_ret
  exact ⟨rfl, rfl⟩
theorem addEdges_any {B : Nat} {w : World} {b : Nat} {n : Int} {vs : Nat → Value} {hs : List Hd} {Al : Option Addr} {nl cl : Nat} (hb : BookAt 74 w b n vs) (hn : 0 ≤ n ∧ n < 1000) (hH : OwnL 3 B 157 RH w (vs 20) hs) (hvb : (vs 20).ownBlock ≠ some b) (hB : B ≤ w.heap.size) (hl : hs.length < 1000) :
  Calls Tryz.prog 18 #[.pointer (some ⟨b, 0, none⟩), .slice Al nl cl] w fun e w' => (∃ u, e = .returned u) ∧ ∃ v', BookAt 74 w' b (n + 1) (updV vs 20 v') ∧ OwnL 3 B 157 RH w' v' (hs ++ [⟨.slice Al nl cl, .slice none 0 0, n + 1⟩]) ∧
   Only (fun k => k = b ∨ (vs 20).ownBlock = some k) w w' ∧ ∀ x, v'.ownBlock = some x → (vs 20).ownBlock = some x ∨ w.heap.size ≤ x := by
 have HK := Lib.hid (keepEdge_any (Al := Al) (nl := nl) (cl := cl) hb hn hH hvb hB hl)
 clear hb hH
 go_enter Tryz.func18, Tryz.ntmps18
 go_wp2_with fail
 refine HK.out.mono ?_
 rintro e w2 ⟨⟨u, rfl⟩, hr⟩
 have HR := Lib.hid hr
 clear hr
 go_wp2
 go_end0
 exact ⟨⟨_, rfl⟩, HR.out⟩
def OnlyEdge (vs : Nat → Value) : Prop := ∀ j, j ≠ 20 → vs j = .slice none 0 0
theorem OnlyEdge.fill {w : World} {b f j : Nat} {n : Int} {vs : Nat → Value} (hv : OnlyEdge vs) (h : NilB f j) (hb : BookAt 74 w b n vs) (h1 : 1 ≤ j ∧ j < 32 ∧ j ≠ 20) {K : Ending → World → Prop} (k : ∀ u, K (.returned u) w) : Calls Tryz.prog f #[.pointer (some ⟨b, 0, none⟩)] w K :=
 (h (by rw [← hv j h1.2.2]; exact hb.cell h1.1 h1.2.1)).mono (by rintro e w' ⟨⟨u, rfl⟩, rfl⟩; exact k u)
theorem OnlyEdge.look {w : World} {b f j : Nat} {n : Int} {vs : Nat → Value} (hv : OnlyEdge vs) (h : NilL f j) (hb : BookAt 74 w b n vs) (h1 : 1 ≤ j ∧ j < 32 ∧ j ≠ 20) {K : Ending → World → Prop} (k : K (.returned (.bool true)) w) : Calls Tryz.prog f #[.pointer (some ⟨b, 0, none⟩)] w K :=
 (h (by rw [← hv j h1.2.2]; exact hb.cell h1.1 h1.2.1)).mono (by rintro e w' ⟨rfl, rfl⟩; exact k)
theorem OnlyEdge.cell {w : World} {b : Nat} {n : Int} {vs : Nat → Value} (h : OnlyEdge vs) (hb : BookAt 74 w b n vs) {j : Nat} (h1 : 1 ≤ j) (h2 : j < 32) (h3 : j ≠ 20) : w.cell? ⟨b, j, none⟩ = some (.slice none 0 0) := by
 rw [← h j h3]; exact hb.cell h1 h2
set_option maxHeartbeats 1600000 in
set_option maxRecDepth 100000 in
theorem lookOneEdge_any {w : World} {b : Nat} {n : Int} {vs : Nat → Value} {hs : List Hd} {ns : Nat → Nat} (hb : BookAt 74 w b n vs) (hv : OnlyEdge vs) (hI : SlRep 3 maxLen RH w (vs 20) hs) (lI : Looks 4 REd markEdgeP ns w hs)
  (bI : ∀ i, i < hs.length → ns i + 70 ≤ 2932031007402) :
  Calls Tryz.prog 72 #[.pointer (some ⟨b, 0, none⟩)] w fun e w' => e = .returned (.bool true) ∧ Fut w w' := by
 have HB := Lib.hid hb
 have HV := Lib.hid hv
 have HI := Lib.hid hI
 have LI := Lib.hid lI
 have BI := Lib.hid bI
 clear hb hv hI lI bI
 go_enter Tryz.func72, Tryz.ntmps72
 have F0 := Lib.hid (Fut.refl w)
 go_wp2_with fail
 refine HV.out.look lookValue_nil HB.out (by decide) ?_
 go_wp2_with fail
 refine HV.out.look lookTuple_nil HB.out (by decide) ?_
 go_wp2_with fail
 refine HV.out.look lookFact_nil HB.out (by decide) ?_
 go_wp2_with fail
 refine HV.out.look lookTerm_nil HB.out (by decide) ?_
 go_wp2_with fail
 refine HV.out.look lookExpr_nil HB.out (by decide) ?_
 go_wp2_with fail
 refine HV.out.look lookLiteral_nil HB.out (by decide) ?_
 go_wp2_with fail
 refine HV.out.look lookArg_nil HB.out (by decide) ?_
 go_wp2_with fail
 refine HV.out.look lookRule_nil HB.out (by decide) ?_
 go_wp2_with fail
 refine HV.out.look lookPair_nil HB.out (by decide) ?_
 go_wp2_with fail
 refine HV.out.look lookBind_nil HB.out (by decide) ?_
 go_wp2_with fail
 refine HV.out.look lookBindList_nil HB.out (by decide) ?_
 go_wp2_with fail
 refine HV.out.look lookText_nil HB.out (by decide) ?_
 go_wp2_with fail
 refine HV.out.look lookTextList_nil HB.out (by decide) ?_
 go_wp2_with fail
 refine HV.out.look lookInt_nil HB.out (by decide) ?_
 go_wp2_with fail
 refine HV.out.look lookRow_nil HB.out (by decide) ?_
 go_wp2_with fail
 refine HV.out.look lookToken_nil HB.out (by decide) ?_
 go_wp2
 go_ret
 exact ⟨rfl, F0.out⟩
set_option maxHeartbeats 1600000 in
set_option maxRecDepth 100000 in
theorem lookTwoEdge_any {w : World} {b : Nat} {n : Int} {vs : Nat → Value} {hs : List Hd} {ns : Nat → Nat} (hb : BookAt 74 w b n vs) (hv : OnlyEdge vs) (hI : SlRep 3 maxLen RH w (vs 20) hs) (lI : Looks 4 REd markEdgeP ns w hs)
  (bI : ∀ i, i < hs.length → ns i + 70 ≤ 2932031007402) :
  Calls Tryz.prog 73 #[.pointer (some ⟨b, 0, none⟩)] w fun e w' => e = .returned (.bool true) ∧ Fut w w' := by
 have HB := Lib.hid hb
 have HV := Lib.hid hv
 have HI := Lib.hid hI
 have LI := Lib.hid lI
 have BI := Lib.hid bI
 clear hb hv hI lI bI
 go_enter Tryz.func73, Tryz.ntmps73
 have F0 := Lib.hid (Fut.refl w)
 go_wp2_with fail
 refine HV.out.look lookPred_nil HB.out (by decide) ?_
 go_wp2_with fail
 refine HV.out.look lookType_nil HB.out (by decide) ?_
 go_wp2_with fail
 refine HV.out.look lookSig_nil HB.out (by decide) ?_
 go_wp2_with fail
 refine (lookEdge_any (M := 0) ((HB.out.only (S := fun _ => False) (Only.fut F0.out) (fun h => h)).cell (j := 20) (by omega) (by omega)) (HI.out.fut RH.stays F0.out) (LI.out.fut REd.stays F0.out) BI.out).mono ?_
 rintro e w1 ⟨rfl, hf1⟩
 have F1 := Lib.hid (F0.out.trans hf1)
 clear hf1
 go_wp2_with fail
 refine HV.out.look lookLevel_nil (HB.out.only (S := fun _ => False) (Only.fut F1.out) id) (by decide) ?_
 go_wp2_with fail
 refine HV.out.look lookMask_nil (HB.out.only (S := fun _ => False) (Only.fut F1.out) id) (by decide) ?_
 go_wp2_with fail
 refine HV.out.look lookStep_nil (HB.out.only (S := fun _ => False) (Only.fut F1.out) id) (by decide) ?_
 go_wp2_with fail
 refine HV.out.look lookRanked_nil (HB.out.only (S := fun _ => False) (Only.fut F1.out) id) (by decide) ?_
 go_wp2_with fail
 refine HV.out.look lookAdorned_nil (HB.out.only (S := fun _ => False) (Only.fut F1.out) id) (by decide) ?_
 go_wp2_with fail
 refine HV.out.look lookTable_nil (HB.out.only (S := fun _ => False) (Only.fut F1.out) id) (by decide) ?_
 go_wp2_with fail
 refine HV.out.look lookProof_nil (HB.out.only (S := fun _ => False) (Only.fut F1.out) id) (by decide) ?_
 go_wp2_with fail
 refine HV.out.look lookSize_nil (HB.out.only (S := fun _ => False) (Only.fut F1.out) id) (by decide) ?_
 go_wp2_with fail
 refine HV.out.look lookFloat_nil (HB.out.only (S := fun _ => False) (Only.fut F1.out) id) (by decide) ?_
 go_wp2_with fail
 refine HV.out.look lookCommit_nil (HB.out.only (S := fun _ => False) (Only.fut F1.out) id) (by decide) ?_
 go_wp2_with fail
 refine HV.out.look lookEvent_nil (HB.out.only (S := fun _ => False) (Only.fut F1.out) id) (by decide) ?_
 go_wp2
 go_ret
 exact ⟨rfl, F1.out⟩
structure B1Edge (B : Nat) (w : World) (b : Nat) (n : Int) (vs : Nat → Value) (hs : List Hd) (fi : Nat → List Ed) : Prop where
 book : BookAt 74 w b n vs
 only : OnlyEdge vs
 held : OwnL 3 B 157 RH w (vs 20) hs
 lists : Lists 4 B 92 REd w hs fi
 base : B ≤ w.heap.size
section
variable {B : Nat} {w w' : World} {b : Nat} {n : Int} {vs : Nat → Value} {hs : List Hd} {fi : Nat → List Ed}
theorem B1Edge.tB (h : B1Edge B w b n vs hs fi) : Ty w 74 b := by
 obtain ⟨arr, h0, _⟩ := h.book.blk
 exact ⟨arr, h0⟩
theorem B1Edge.tH (h : B1Edge B w b n vs hs fi) {k : Nat} (hk : (vs 20).ownBlock = some k) : Ty w 157 k := h.held.typed k hk
theorem B1Edge.tI (h : B1Edge B w b n vs hs fi) {k : Nat} (hk : ownsL hs k) : Ty w 92 k := h.lists.typed k hk
def ownsEdge (vs : Nat → Value) (hs : List Hd) (k : Nat) : Prop := ownsL hs k ∨ (vs 20).ownBlock = some k
set_option maxHeartbeats 1600000 in
set_option maxRecDepth 100000 in
theorem growAllEdge_any {ns : Nat → Nat} (h : B1Edge B w b n vs hs (fun i => List.replicate (ns i) (markEdgeP ((hs.getD i ⟨.slice none 0 0, .slice none 0 0, 0⟩).n)))) (bI : ∀ i, i < hs.length → ns i + 70 ≤ 2932031007402) :
  Calls Tryz.prog 71 #[.pointer (some ⟨b, 0, none⟩)] w fun e w' => (∃ u, e = .returned u) ∧ ∃ hs', hs'.length = hs.length ∧ BookAt 74 w' b n vs ∧ SlRep 3 maxLen RH w' (vs 20) hs' ∧ Looks 4 REd markEdgeP ns w' hs' ∧ Only (ownsEdge vs hs) w w' := by
 have H := Lib.hid h
 have HV := Lib.hid h.only
 have BI := Lib.hid bI
 clear h bI
 go_enter Tryz.func71, Tryz.ntmps71
 go_wp2_with fail
 refine HV.out.fill growValue_nil H.out.book (by decide) ?_
 intro u
 go_wp2_with fail
 refine HV.out.fill growTuple_nil H.out.book (by decide) ?_
 intro u
 go_wp2_with fail
 refine HV.out.fill growFact_nil H.out.book (by decide) ?_
 intro u
 go_wp2_with fail
 refine HV.out.fill growTerm_nil H.out.book (by decide) ?_
 intro u
 go_wp2_with fail
 refine HV.out.fill growExpr_nil H.out.book (by decide) ?_
 intro u
 go_wp2_with fail
 refine HV.out.fill growLiteral_nil H.out.book (by decide) ?_
 intro u
 go_wp2_with fail
 refine HV.out.fill growArg_nil H.out.book (by decide) ?_
 intro u
 go_wp2_with fail
 refine HV.out.fill growRule_nil H.out.book (by decide) ?_
 intro u
 go_wp2_with fail
 refine HV.out.fill growPair_nil H.out.book (by decide) ?_
 intro u
 go_wp2_with fail
 refine HV.out.fill growBind_nil H.out.book (by decide) ?_
 intro u
 go_wp2_with fail
 refine HV.out.fill growBindList_nil H.out.book (by decide) ?_
 intro u
 go_wp2_with fail
 refine HV.out.fill growText_nil H.out.book (by decide) ?_
 intro u
 go_wp2_with fail
 refine HV.out.fill growTextList_nil H.out.book (by decide) ?_
 intro u
 go_wp2_with fail
 refine HV.out.fill growInt_nil H.out.book (by decide) ?_
 intro u
 go_wp2_with fail
 refine HV.out.fill growRow_nil H.out.book (by decide) ?_
 intro u
 go_wp2_with fail
 refine HV.out.fill growToken_nil H.out.book (by decide) ?_
 intro u
 go_wp2_with fail
 refine HV.out.fill growPred_nil H.out.book (by decide) ?_
 intro u
 go_wp2_with fail
 refine HV.out.fill growType_nil H.out.book (by decide) ?_
 intro u
 go_wp2_with fail
 refine HV.out.fill growSig_nil H.out.book (by decide) ?_
 intro u
 go_wp2_with fail
 refine (growEdge_any (H.out.book.cell (j := 20) (by omega) (by omega)) H.out.held H.out.lists (fun hk => H.out.tI hk |>.ne H.out.tB (by decide) rfl) (fun hk => H.out.tH hk |>.ne H.out.tB (by decide) rfl) (fun k hk hk2 => (H.out.tH hk).ne (H.out.tI hk2) (by decide) rfl) H.out.base BI.out).mono ?_
 rintro e w2 ⟨⟨u, rfl⟩, hs', hG⟩
 have O2 := hG.only
 have hB2 := H.out.book.only O2 (fun hk => hk.elim (fun hk => H.out.tI hk |>.ne H.out.tB (by decide) rfl) fun hk => H.out.tH hk |>.ne H.out.tB (by decide) rfl)
 obtain ⟨gI, kI⟩ := hG.looks (W' := w2) (S := fun _ => False) REd.same (Only.refl _) (fun k hk => hk.elim)
 have HB2 := Lib.hid hB2
 have HX := Lib.hid (show hs'.length = hs.length ∧ SlRep 3 maxLen RH w2 (vs 20) hs' ∧ Looks 4 REd markEdgeP ns w2 hs' ∧ Only (ownsEdge vs hs) w w2 from ⟨hG.len, gI.rep, kI, O2⟩)
 clear hB2 hG O2 gI kI
 go_wp2_with fail
 refine HV.out.fill growLevel_nil HB2.out (by decide) ?_
 intro u
 go_wp2_with fail
 refine HV.out.fill growMask_nil HB2.out (by decide) ?_
 intro u
 go_wp2_with fail
 refine HV.out.fill growStep_nil HB2.out (by decide) ?_
 intro u
 go_wp2_with fail
 refine HV.out.fill growRanked_nil HB2.out (by decide) ?_
 intro u
 go_wp2_with fail
 refine HV.out.fill growAdorned_nil HB2.out (by decide) ?_
 intro u
 go_wp2_with fail
 refine HV.out.fill growTable_nil HB2.out (by decide) ?_
 intro u
 go_wp2_with fail
 refine HV.out.fill growProof_nil HB2.out (by decide) ?_
 intro u
 go_wp2_with fail
 refine HV.out.fill growSize_nil HB2.out (by decide) ?_
 intro u
 go_wp2_with fail
 refine HV.out.fill growFloat_nil HB2.out (by decide) ?_
 intro u
 go_wp2_with fail
 refine HV.out.fill growCommit_nil HB2.out (by decide) ?_
 intro u
 go_wp2_with fail
 refine HV.out.fill growEvent_nil HB2.out (by decide) ?_
 intro u
 go_wp2
 go_end0
 obtain ⟨x1, x2, x3, x4⟩ := HX.out
 exact ⟨⟨_, rfl⟩, hs', x1, HB2.out, x2, x3, x4⟩
set_option maxHeartbeats 1600000 in
set_option maxRecDepth 100000 in
theorem apartEdge_any (h : B1Edge B w b n vs hs fi) (bI : ∀ i, i < hs.length → (fi i).length + 70 ≤ 2932031007402) :
  Calls Tryz.prog 19 #[.pointer (some ⟨b, 0, none⟩)] w fun e w' => e = .returned (.bool true) ∧ Only (ownsEdge vs hs) w w' := by
 have H := Lib.hid h
 have HV := Lib.hid h.only
 have BI := Lib.hid bI
 clear h bI
 go_enter Tryz.func19, Tryz.ntmps19
 go_wp2_with fail
 refine HV.out.fill fillValue_nil H.out.book (by decide) ?_
 intro u
 go_wp2_with fail
 refine HV.out.fill fillTuple_nil H.out.book (by decide) ?_
 intro u
 go_wp2_with fail
 refine HV.out.fill fillFact_nil H.out.book (by decide) ?_
 intro u
 go_wp2_with fail
 refine HV.out.fill fillTerm_nil H.out.book (by decide) ?_
 intro u
 go_wp2_with fail
 refine HV.out.fill fillExpr_nil H.out.book (by decide) ?_
 intro u
 go_wp2_with fail
 refine HV.out.fill fillLiteral_nil H.out.book (by decide) ?_
 intro u
 go_wp2_with fail
 refine HV.out.fill fillArg_nil H.out.book (by decide) ?_
 intro u
 go_wp2_with fail
 refine HV.out.fill fillRule_nil H.out.book (by decide) ?_
 intro u
 go_wp2_with fail
 refine HV.out.fill fillPair_nil H.out.book (by decide) ?_
 intro u
 go_wp2_with fail
 refine HV.out.fill fillBind_nil H.out.book (by decide) ?_
 intro u
 go_wp2_with fail
 refine HV.out.fill fillBindList_nil H.out.book (by decide) ?_
 intro u
 go_wp2_with fail
 refine HV.out.fill fillText_nil H.out.book (by decide) ?_
 intro u
 go_wp2_with fail
 refine HV.out.fill fillTextList_nil H.out.book (by decide) ?_
 intro u
 go_wp2_with fail
 refine HV.out.fill fillInt_nil H.out.book (by decide) ?_
 intro u
 go_wp2_with fail
 refine HV.out.fill fillRow_nil H.out.book (by decide) ?_
 intro u
 go_wp2_with fail
 refine HV.out.fill fillToken_nil H.out.book (by decide) ?_
 intro u
 go_wp2_with fail
 refine HV.out.fill fillPred_nil H.out.book (by decide) ?_
 intro u
 go_wp2_with fail
 refine HV.out.fill fillType_nil H.out.book (by decide) ?_
 intro u
 go_wp2_with fail
 refine HV.out.fill fillSig_nil H.out.book (by decide) ?_
 intro u
 go_wp2_with fail
 refine (fillEdge_any (H.out.book.cell (j := 20) (by omega) (by omega)) H.out.held H.out.lists (fun hk => H.out.tI hk |>.ne H.out.tB (by decide) rfl) (fun k hk hk2 => (H.out.tH hk).ne (H.out.tI hk2) (by decide) rfl)).mono ?_
 rintro e w2 ⟨⟨u, rfl⟩, lI2, O2⟩
 have hB2 := H.out.book.only O2 (fun hk => H.out.tI hk |>.ne H.out.tB (by decide) rfl)
 have hI2 := H.out.held.only (RH.same _ _) O2 (fun k hk hk2 => (H.out.tH hk).ne (H.out.tI hk2) (by decide) rfl)
 have H3 := Lib.hid (B1Edge.mk hB2 H.out.only hI2 (lI2.cong fun i hi' => mark_cong hi') (Nat.le_trans H.out.base O2.size))
 have HO3 := Lib.hid (O2.mono fun k _ hk => show ownsEdge vs hs k from .inl hk)
 clear hB2 hI2 lI2 O2
 go_wp2_with fail
 refine HV.out.fill fillLevel_nil H3.out.book (by decide) ?_
 intro u
 go_wp2_with fail
 refine HV.out.fill fillMask_nil H3.out.book (by decide) ?_
 intro u
 go_wp2_with fail
 refine HV.out.fill fillStep_nil H3.out.book (by decide) ?_
 intro u
 go_wp2_with fail
 refine HV.out.fill fillRanked_nil H3.out.book (by decide) ?_
 intro u
 go_wp2_with fail
 refine HV.out.fill fillAdorned_nil H3.out.book (by decide) ?_
 intro u
 go_wp2_with fail
 refine HV.out.fill fillTable_nil H3.out.book (by decide) ?_
 intro u
 go_wp2_with fail
 refine HV.out.fill fillProof_nil H3.out.book (by decide) ?_
 intro u
 go_wp2_with fail
 refine HV.out.fill fillSize_nil H3.out.book (by decide) ?_
 intro u
 go_wp2_with fail
 refine HV.out.fill fillFloat_nil H3.out.book (by decide) ?_
 intro u
 go_wp2_with fail
 refine HV.out.fill fillCommit_nil H3.out.book (by decide) ?_
 intro u
 go_wp2_with fail
 refine HV.out.fill fillEvent_nil H3.out.book (by decide) ?_
 intro u
 go_wp2_with fail
 refine (growAllEdge_any H3.out BI.out).mono ?_
 rintro e w4 ⟨⟨u, rfl⟩, hs', x1, x3, x4, x6, x8⟩
 have HX := Lib.hid (show BookAt 74 w4 b n vs ∧ SlRep 3 maxLen RH w4 (vs 20) hs' ∧ Looks 4 REd markEdgeP (fun i => (fi i).length) w4 hs' from ⟨x3, x4, x6⟩)
 have HO4 := Lib.hid (HO3.out.trans x8)
 have BI' := Lib.hid (fun i (h : i < hs'.length) => BI.out i (by rw [← x1]; exact h))
 clear x1 x3 x4 x6 x8
 go_wp2_with fail
 refine (lookOneEdge_any HX.out.1 HV.out HX.out.2.1 HX.out.2.2 BI'.out).mono ?_
 rintro e w5 ⟨rfl, f5⟩
 have F5 := Lib.hid f5
 clear f5
 go_wp2_with fail
 refine (lookTwoEdge_any (HX.out.1.only (S := fun _ => False) (Only.fut F5.out) (fun h => h)) HV.out (HX.out.2.1.fut RH.stays F5.out) (HX.out.2.2.fut REd.stays F5.out) BI'.out).mono ?_
 rintro e w6 ⟨rfl, f6⟩
 have F6 := Lib.hid (F5.out.trans f6)
 clear f6
 go_wp2
 go_ret
 exact ⟨rfl, HO4.out.trans (Only.fut F6.out)⟩
theorem B1Edge.new (h : BookAt 74 w b 0 (fun _ => .slice none 0 0)) (hB : B ≤ w.heap.size) (fi : Nat → List Ed) : B1Edge B w b 0 (fun _ => .slice none 0 0) [] fi :=
 ⟨h, fun _ _ => rfl, OwnL.nil, Lists.nil, hB⟩
theorem put_B1Edge (h : B1Edge B w b n vs hs fi) (hn : 0 ≤ n ∧ n < 1000) (hl : hs.length < 1000) {A : Option Addr} {nl cl : Nat} {ys : List Ed} (hv : OwnL 4 B 92 REd w (.slice A nl cl) ys) (hap : ∀ k, (Value.slice A nl cl).ownBlock = some k → ¬ ownsL hs k) :
  Calls Tryz.prog 18 #[.pointer (some ⟨b, 0, none⟩), .slice A nl cl] w fun e w' => (∃ u, e = .returned u) ∧ ∃ vs', B1Edge B w' b (n + 1) vs' (hs ++ [⟨.slice A nl cl, .slice none 0 0, n + 1⟩]) (snocF fi hs.length ys) ∧
   Only (fun k => k = b ∨ (vs 20).ownBlock = some k) w w' ∧ ∀ j x, (vs' j).ownBlock = some x → (vs j).ownBlock = some x ∨ w.heap.size ≤ x := by
 have nHB : ∀ k, (vs 20).ownBlock = some k → k ≠ b := fun k hk e => (h.tH hk).ne h.tB (by decide) e
 refine (addEdges_any (Al := A) (nl := nl) (cl := cl) h.book hn h.held (fun e => nHB b e rfl) h.base hl).mono ?_
 rintro e w' ⟨hu, v', hb, hH, hO, hv'⟩
 have n2 : ∀ k, ownsL hs k → ¬ (k = b ∨ (vs 20).ownBlock = some k) := fun k hk hS => by
  rcases hS with rfl | hS
  ·exact (h.tI hk).ne h.tB (by decide) rfl
  ·exact (h.tI hk).ne (h.tH hS) (by decide) rfl
 have n4 : ∀ k, (Value.slice A nl cl).ownBlock = some k → ¬ (k = b ∨ (vs 20).ownBlock = some k) := fun k hk hS => by
  have ht : Ty w 92 k := hv.typed k hk
  rcases hS with rfl | hS
  ·exact ht.ne h.tB (by decide) rfl
  ·exact ht.ne (h.tH hS) (by decide) rfl
 refine ⟨hu, updV vs 20 v', ⟨hb, fun j h1 => by rw [updV_ne h1]; exact h.only j h1, by rw [updV_self]; exact hH,
  (h.lists.only REd.same hO n2).snoc (h := ⟨.slice A nl cl, .slice none 0 0, n + 1⟩) (hv.only (REd.same _ _) hO n4) hap, Nat.le_trans h.base hO.size⟩, hO, fun j x hx => ?_⟩
 by_cases hj : j = 20
 ·subst hj; rw [updV_self] at hx; exact hv' x hx
 ·rw [updV_ne hj] at hx; exact .inl hx
end
structure BkEdge (B BN : Nat) (w0 w : World) (n : Int) (vs : Nat → Value) (hs : List Hd) (fi : Nat → List Ed) : Prop where
 b1 : B1Edge B w BN n vs hs fi
 low : ∀ j x, (vs j).ownBlock = some x → BN ≤ x
 on : Only (fun k => BN ≤ k) w0 w
theorem BkEdge.put {B BN : Nat} {w0 w : World} {n : Int} {vs : Nat → Value} {hs : List Hd} {fi : Nat → List Ed} (h : BkEdge B BN w0 w n vs hs fi) (hn : 0 ≤ n ∧ n < 1000) (hl : hs.length < 1000) {A : Option Addr} {nl cl : Nat} {ys : List Ed} (hv : OwnL 4 B 92 REd w0 (.slice A nl cl) ys) (hlt : ∀ k, (Value.slice A nl cl).ownBlock = some k → k < BN) (hap : ∀ k, (Value.slice A nl cl).ownBlock = some k → ¬ ownsL hs k) :
  Calls Tryz.prog 18 #[.pointer (some ⟨BN, 0, none⟩), .slice A nl cl] w fun e w' => (∃ u, e = .returned u) ∧ ∃ vs', BkEdge B BN w0 w' (n + 1) vs' (hs ++ [⟨.slice A nl cl, .slice none 0 0, n + 1⟩]) (snocF fi hs.length ys) := by
 refine (put_B1Edge h.b1 hn hl (hv.only (REd.same _ _) h.on fun k hk hb => by have := hlt k hk; omega) hap).mono ?_
 rintro e w' ⟨hu, vs', h1, h2, h3⟩
 have hbl := h.b1.book.lt
 exact ⟨hu, vs', h1, fun j x hx => by
  rcases h3 j x hx with h4 | h4
  ·exact h.low j x h4
  ·omega, h.on.trans (h2.mono fun k _ hk => by
  rcases hk with rfl | hk
  ·exact Nat.le_refl _
  ·exact h.low 20 k hk)⟩
end Go.Proofs.YtdjffkkbjbiihaaGreatDoor
