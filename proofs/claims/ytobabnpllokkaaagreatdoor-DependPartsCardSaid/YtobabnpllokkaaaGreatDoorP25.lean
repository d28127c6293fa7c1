/- Parts. -/
import Derived.Test.YtobabnpllokkaaaGreatDoorP24
set_option linter.unusedSimpArgs false
set_option linter.unusedVariables false
namespace Go.Proofs.YtobabnpllokkaaaGreatDoor
open Go.RowKit Go.WideMaps
abbrev NilB (f:FuncId) (j:Nat):Prop:=∀ {w:World} {b:Nat},w.cell? ⟨b,j,none⟩=some (.slice none 0 0)→Calls Tryz.prog f #[.pointer (some ⟨b,0,none⟩)] w fun e w' => (∃ v,e = .returned v)∧w'=w
abbrev NilL (f:FuncId) (j:Nat):Prop:=∀ {w:World} {b:Nat},w.cell? ⟨b,j,none⟩=some (.slice none 0 0)→Calls Tryz.prog f #[.pointer (some ⟨b,0,none⟩)] w fun e w' => e = .returned (.bool true)∧w'=w
theorem fillValue_nil:NilB 40 1:=by
 intro w b c;go_enter Tryz.func40,Tryz.ntmps40;go_wp2_with fail;go_loopw [2] (fun i wr => i = .int .i64 0∧wr=w) (fun _ _ => 0)
 case atStart => exact ⟨rfl,rfl⟩
 case round =>
  obtain ⟨rfl,rfl⟩:=hrel;go_wp2;go_end0;exact ⟨⟨_,rfl⟩,rfl⟩
theorem growValue_nil:NilB 133 1:=by
 intro w b c;go_enter Tryz.func133,Tryz.ntmps133;go_wp2_with fail;go_loopw [2] (fun i wr => i = .int .i64 0∧wr=w) (fun _ _ => 0)
 case atStart => exact ⟨rfl,rfl⟩
 case round =>
  obtain ⟨rfl,rfl⟩:=hrel;go_wp2;go_end0;exact ⟨⟨_,rfl⟩,rfl⟩
theorem lookValue_nil:NilL 164 1:=by
 intro w b c;go_enter Tryz.func164,Tryz.ntmps164;go_wp2_with fail;go_loopw [3] (fun i wr => i = .int .i64 0∧wr=w) (fun _ _ => 0)
 case atStart => exact ⟨rfl,rfl⟩
 case round =>
  obtain ⟨rfl,rfl⟩:=hrel;go_wp2;go_ret;exact ⟨rfl,rfl⟩
theorem fillTuple_nil:NilB 41 2:=by
 intro w b c;go_enter Tryz.func41,Tryz.ntmps41;go_wp2_with fail;go_loopw [2] (fun i wr => i = .int .i64 0∧wr=w) (fun _ _ => 0)
 case atStart => exact ⟨rfl,rfl⟩
 case round =>
  obtain ⟨rfl,rfl⟩:=hrel;go_wp2;go_end0;exact ⟨⟨_,rfl⟩,rfl⟩
theorem growTuple_nil:NilB 134 2:=by
 intro w b c;go_enter Tryz.func134,Tryz.ntmps134;go_wp2_with fail;go_loopw [2] (fun i wr => i = .int .i64 0∧wr=w) (fun _ _ => 0)
 case atStart => exact ⟨rfl,rfl⟩
 case round =>
  obtain ⟨rfl,rfl⟩:=hrel;go_wp2;go_end0;exact ⟨⟨_,rfl⟩,rfl⟩
theorem lookTuple_nil:NilL 165 2:=by
 intro w b c;go_enter Tryz.func165,Tryz.ntmps165;go_wp2_with fail;go_loopw [3] (fun i wr => i = .int .i64 0∧wr=w) (fun _ _ => 0)
 case atStart => exact ⟨rfl,rfl⟩
 case round =>
  obtain ⟨rfl,rfl⟩:=hrel;go_wp2;go_ret;exact ⟨rfl,rfl⟩
theorem fillFact_nil:NilB 42 3:=by
 intro w b c;go_enter Tryz.func42,Tryz.ntmps42;go_wp2_with fail;go_loopw [2] (fun i wr => i = .int .i64 0∧wr=w) (fun _ _ => 0)
 case atStart => exact ⟨rfl,rfl⟩
 case round =>
  obtain ⟨rfl,rfl⟩:=hrel;go_wp2;go_end0;exact ⟨⟨_,rfl⟩,rfl⟩
theorem growFact_nil:NilB 135 3:=by
 intro w b c;go_enter Tryz.func135,Tryz.ntmps135;go_wp2_with fail;go_loopw [2] (fun i wr => i = .int .i64 0∧wr=w) (fun _ _ => 0)
 case atStart => exact ⟨rfl,rfl⟩
 case round =>
  obtain ⟨rfl,rfl⟩:=hrel;go_wp2;go_end0;exact ⟨⟨_,rfl⟩,rfl⟩
theorem lookFact_nil:NilL 166 3:=by
 intro w b c;go_enter Tryz.func166,Tryz.ntmps166;go_wp2_with fail;go_loopw [3] (fun i wr => i = .int .i64 0∧wr=w) (fun _ _ => 0)
 case atStart => exact ⟨rfl,rfl⟩
 case round =>
  obtain ⟨rfl,rfl⟩:=hrel;go_wp2;go_ret;exact ⟨rfl,rfl⟩
theorem fillTerm_nil:NilB 43 4:=by
 intro w b c;go_enter Tryz.func43,Tryz.ntmps43;go_wp2_with fail;go_loopw [2] (fun i wr => i = .int .i64 0∧wr=w) (fun _ _ => 0)
 case atStart => exact ⟨rfl,rfl⟩
 case round =>
  obtain ⟨rfl,rfl⟩:=hrel;go_wp2;go_end0;exact ⟨⟨_,rfl⟩,rfl⟩
theorem growTerm_nil:NilB 136 4:=by
 intro w b c;go_enter Tryz.func136,Tryz.ntmps136;go_wp2_with fail;go_loopw [2] (fun i wr => i = .int .i64 0∧wr=w) (fun _ _ => 0)
 case atStart => exact ⟨rfl,rfl⟩
 case round =>
  obtain ⟨rfl,rfl⟩:=hrel;go_wp2;go_end0;exact ⟨⟨_,rfl⟩,rfl⟩
theorem lookTerm_nil:NilL 167 4:=by
 intro w b c;go_enter Tryz.func167,Tryz.ntmps167;go_wp2_with fail;go_loopw [3] (fun i wr => i = .int .i64 0∧wr=w) (fun _ _ => 0)
 case atStart => exact ⟨rfl,rfl⟩
 case round =>
  obtain ⟨rfl,rfl⟩:=hrel;go_wp2;go_ret;exact ⟨rfl,rfl⟩
theorem fillExpr_nil:NilB 44 5:=by
 intro w b c;go_enter Tryz.func44,Tryz.ntmps44;go_wp2_with fail;go_loopw [2] (fun i wr => i = .int .i64 0∧wr=w) (fun _ _ => 0)
 case atStart => exact ⟨rfl,rfl⟩
 case round =>
  obtain ⟨rfl,rfl⟩:=hrel;go_wp2;go_end0;exact ⟨⟨_,rfl⟩,rfl⟩
theorem growExpr_nil:NilB 137 5:=by
 intro w b c;go_enter Tryz.func137,Tryz.ntmps137;go_wp2_with fail;go_loopw [2] (fun i wr => i = .int .i64 0∧wr=w) (fun _ _ => 0)
 case atStart => exact ⟨rfl,rfl⟩
 case round =>
  obtain ⟨rfl,rfl⟩:=hrel;go_wp2;go_end0;exact ⟨⟨_,rfl⟩,rfl⟩
theorem lookExpr_nil:NilL 168 5:=by
 intro w b c;go_enter Tryz.func168,Tryz.ntmps168;go_wp2_with fail;go_loopw [3] (fun i wr => i = .int .i64 0∧wr=w) (fun _ _ => 0)
 case atStart => exact ⟨rfl,rfl⟩
 case round =>
  obtain ⟨rfl,rfl⟩:=hrel;go_wp2;go_ret;exact ⟨rfl,rfl⟩
theorem fillLiteral_nil:NilB 45 6:=by
 intro w b c;go_enter Tryz.func45,Tryz.ntmps45;go_wp2_with fail;go_loopw [2] (fun i wr => i = .int .i64 0∧wr=w) (fun _ _ => 0)
 case atStart => exact ⟨rfl,rfl⟩
 case round =>
  obtain ⟨rfl,rfl⟩:=hrel;go_wp2;go_end0;exact ⟨⟨_,rfl⟩,rfl⟩
theorem growLiteral_nil:NilB 138 6:=by
 intro w b c;go_enter Tryz.func138,Tryz.ntmps138;go_wp2_with fail;go_loopw [2] (fun i wr => i = .int .i64 0∧wr=w) (fun _ _ => 0)
 case atStart => exact ⟨rfl,rfl⟩
 case round =>
  obtain ⟨rfl,rfl⟩:=hrel;go_wp2;go_end0;exact ⟨⟨_,rfl⟩,rfl⟩
theorem lookLiteral_nil:NilL 169 6:=by
 intro w b c;go_enter Tryz.func169,Tryz.ntmps169;go_wp2_with fail;go_loopw [3] (fun i wr => i = .int .i64 0∧wr=w) (fun _ _ => 0)
 case atStart => exact ⟨rfl,rfl⟩
 case round =>
  obtain ⟨rfl,rfl⟩:=hrel;go_wp2;go_ret;exact ⟨rfl,rfl⟩
theorem fillArg_nil:NilB 46 7:=by
 intro w b c;go_enter Tryz.func46,Tryz.ntmps46;go_wp2_with fail;go_loopw [2] (fun i wr => i = .int .i64 0∧wr=w) (fun _ _ => 0)
 case atStart => exact ⟨rfl,rfl⟩
 case round =>
  obtain ⟨rfl,rfl⟩:=hrel;go_wp2;go_end0;exact ⟨⟨_,rfl⟩,rfl⟩
theorem growArg_nil:NilB 139 7:=by
 intro w b c;go_enter Tryz.func139,Tryz.ntmps139;go_wp2_with fail;go_loopw [2] (fun i wr => i = .int .i64 0∧wr=w) (fun _ _ => 0)
 case atStart => exact ⟨rfl,rfl⟩
 case round =>
  obtain ⟨rfl,rfl⟩:=hrel;go_wp2;go_end0;exact ⟨⟨_,rfl⟩,rfl⟩
theorem lookArg_nil:NilL 170 7:=by
 intro w b c;go_enter Tryz.func170,Tryz.ntmps170;go_wp2_with fail;go_loopw [3] (fun i wr => i = .int .i64 0∧wr=w) (fun _ _ => 0)
 case atStart => exact ⟨rfl,rfl⟩
 case round =>
  obtain ⟨rfl,rfl⟩:=hrel;go_wp2;go_ret;exact ⟨rfl,rfl⟩
theorem fillRule_nil:NilB 47 8:=by
 intro w b c;go_enter Tryz.func47,Tryz.ntmps47;go_wp2_with fail;go_loopw [2] (fun i wr => i = .int .i64 0∧wr=w) (fun _ _ => 0)
 case atStart => exact ⟨rfl,rfl⟩
 case round =>
  obtain ⟨rfl,rfl⟩:=hrel;go_wp2;go_end0;exact ⟨⟨_,rfl⟩,rfl⟩
theorem growRule_nil:NilB 140 8:=by
 intro w b c;go_enter Tryz.func140,Tryz.ntmps140;go_wp2_with fail;go_loopw [2] (fun i wr => i = .int .i64 0∧wr=w) (fun _ _ => 0)
 case atStart => exact ⟨rfl,rfl⟩
 case round =>
  obtain ⟨rfl,rfl⟩:=hrel;go_wp2;go_end0;exact ⟨⟨_,rfl⟩,rfl⟩
theorem lookRule_nil:NilL 171 8:=by
 intro w b c;go_enter Tryz.func171,Tryz.ntmps171;go_wp2_with fail;go_loopw [3] (fun i wr => i = .int .i64 0∧wr=w) (fun _ _ => 0)
 case atStart => exact ⟨rfl,rfl⟩
 case round =>
  obtain ⟨rfl,rfl⟩:=hrel;go_wp2;go_ret;exact ⟨rfl,rfl⟩
theorem fillPair_nil:NilB 48 9:=by
 intro w b c;go_enter Tryz.func48,Tryz.ntmps48;go_wp2_with fail;go_loopw [2] (fun i wr => i = .int .i64 0∧wr=w) (fun _ _ => 0)
 case atStart => exact ⟨rfl,rfl⟩
 case round =>
  obtain ⟨rfl,rfl⟩:=hrel;go_wp2;go_end0;exact ⟨⟨_,rfl⟩,rfl⟩
theorem growPair_nil:NilB 141 9:=by
 intro w b c;go_enter Tryz.func141,Tryz.ntmps141;go_wp2_with fail;go_loopw [2] (fun i wr => i = .int .i64 0∧wr=w) (fun _ _ => 0)
 case atStart => exact ⟨rfl,rfl⟩
 case round =>
  obtain ⟨rfl,rfl⟩:=hrel;go_wp2;go_end0;exact ⟨⟨_,rfl⟩,rfl⟩
theorem lookPair_nil:NilL 172 9:=by
 intro w b c;go_enter Tryz.func172,Tryz.ntmps172;go_wp2_with fail;go_loopw [3] (fun i wr => i = .int .i64 0∧wr=w) (fun _ _ => 0)
 case atStart => exact ⟨rfl,rfl⟩
 case round =>
  obtain ⟨rfl,rfl⟩:=hrel;go_wp2;go_ret;exact ⟨rfl,rfl⟩
theorem fillBind_nil:NilB 49 10:=by
 intro w b c;go_enter Tryz.func49,Tryz.ntmps49;go_wp2_with fail;go_loopw [2] (fun i wr => i = .int .i64 0∧wr=w) (fun _ _ => 0)
 case atStart => exact ⟨rfl,rfl⟩
 case round =>
  obtain ⟨rfl,rfl⟩:=hrel;go_wp2;go_end0;exact ⟨⟨_,rfl⟩,rfl⟩
theorem growBind_nil:NilB 142 10:=by
 intro w b c;go_enter Tryz.func142,Tryz.ntmps142;go_wp2_with fail;go_loopw [2] (fun i wr => i = .int .i64 0∧wr=w) (fun _ _ => 0)
 case atStart => exact ⟨rfl,rfl⟩
 case round =>
  obtain ⟨rfl,rfl⟩:=hrel;go_wp2;go_end0;exact ⟨⟨_,rfl⟩,rfl⟩
theorem lookBind_nil:NilL 173 10:=by
 intro w b c;go_enter Tryz.func173,Tryz.ntmps173;go_wp2_with fail;go_loopw [3] (fun i wr => i = .int .i64 0∧wr=w) (fun _ _ => 0)
 case atStart => exact ⟨rfl,rfl⟩
 case round =>
  obtain ⟨rfl,rfl⟩:=hrel;go_wp2;go_ret;exact ⟨rfl,rfl⟩
theorem fillBindList_nil:NilB 50 11:=by
 intro w b c;go_enter Tryz.func50,Tryz.ntmps50;go_wp2_with fail;go_loopw [2] (fun i wr => i = .int .i64 0∧wr=w) (fun _ _ => 0)
 case atStart => exact ⟨rfl,rfl⟩
 case round =>
  obtain ⟨rfl,rfl⟩:=hrel;go_wp2;go_end0;exact ⟨⟨_,rfl⟩,rfl⟩
theorem growBindList_nil:NilB 143 11:=by
 intro w b c;go_enter Tryz.func143,Tryz.ntmps143;go_wp2_with fail;go_loopw [2] (fun i wr => i = .int .i64 0∧wr=w) (fun _ _ => 0)
 case atStart => exact ⟨rfl,rfl⟩
 case round =>
  obtain ⟨rfl,rfl⟩:=hrel;go_wp2;go_end0;exact ⟨⟨_,rfl⟩,rfl⟩
theorem lookBindList_nil:NilL 174 11:=by
 intro w b c;go_enter Tryz.func174,Tryz.ntmps174;go_wp2_with fail;go_loopw [3] (fun i wr => i = .int .i64 0∧wr=w) (fun _ _ => 0)
 case atStart => exact ⟨rfl,rfl⟩
 case round =>
  obtain ⟨rfl,rfl⟩:=hrel;go_wp2;go_ret;exact ⟨rfl,rfl⟩
theorem fillText_nil:NilB 51 12:=by
 intro w b c;go_enter Tryz.func51,Tryz.ntmps51;go_wp2_with fail;go_loopw [2] (fun i wr => i = .int .i64 0∧wr=w) (fun _ _ => 0)
 case atStart => exact ⟨rfl,rfl⟩
 case round =>
  obtain ⟨rfl,rfl⟩:=hrel;go_wp2;go_end0;exact ⟨⟨_,rfl⟩,rfl⟩
theorem growText_nil:NilB 144 12:=by
 intro w b c;go_enter Tryz.func144,Tryz.ntmps144;go_wp2_with fail;go_loopw [2] (fun i wr => i = .int .i64 0∧wr=w) (fun _ _ => 0)
 case atStart => exact ⟨rfl,rfl⟩
 case round =>
  obtain ⟨rfl,rfl⟩:=hrel;go_wp2;go_end0;exact ⟨⟨_,rfl⟩,rfl⟩
theorem lookText_nil:NilL 175 12:=by
 intro w b c;go_enter Tryz.func175,Tryz.ntmps175;go_wp2_with fail;go_loopw [3] (fun i wr => i = .int .i64 0∧wr=w) (fun _ _ => 0)
 case atStart => exact ⟨rfl,rfl⟩
 case round =>
  obtain ⟨rfl,rfl⟩:=hrel;go_wp2;go_ret;exact ⟨rfl,rfl⟩
theorem fillTextList_nil:NilB 52 13:=by
 intro w b c;go_enter Tryz.func52,Tryz.ntmps52;go_wp2_with fail;go_loopw [2] (fun i wr => i = .int .i64 0∧wr=w) (fun _ _ => 0)
 case atStart => exact ⟨rfl,rfl⟩
 case round =>
  obtain ⟨rfl,rfl⟩:=hrel;go_wp2;go_end0;exact ⟨⟨_,rfl⟩,rfl⟩
theorem growTextList_nil:NilB 145 13:=by
 intro w b c;go_enter Tryz.func145,Tryz.ntmps145;go_wp2_with fail;go_loopw [2] (fun i wr => i = .int .i64 0∧wr=w) (fun _ _ => 0)
 case atStart => exact ⟨rfl,rfl⟩
 case round =>
  obtain ⟨rfl,rfl⟩:=hrel;go_wp2;go_end0;exact ⟨⟨_,rfl⟩,rfl⟩
theorem lookTextList_nil:NilL 176 13:=by
 intro w b c;go_enter Tryz.func176,Tryz.ntmps176;go_wp2_with fail;go_loopw [3] (fun i wr => i = .int .i64 0∧wr=w) (fun _ _ => 0)
 case atStart => exact ⟨rfl,rfl⟩
 case round =>
  obtain ⟨rfl,rfl⟩:=hrel;go_wp2;go_ret;exact ⟨rfl,rfl⟩
theorem fillInt_nil:NilB 53 14:=by
 intro w b c;go_enter Tryz.func53,Tryz.ntmps53;go_wp2_with fail;go_loopw [2] (fun i wr => i = .int .i64 0∧wr=w) (fun _ _ => 0)
 case atStart => exact ⟨rfl,rfl⟩
 case round =>
  obtain ⟨rfl,rfl⟩:=hrel;go_wp2;go_end0;exact ⟨⟨_,rfl⟩,rfl⟩
theorem growInt_nil:NilB 146 14:=by
 intro w b c;go_enter Tryz.func146,Tryz.ntmps146;go_wp2_with fail;go_loopw [2] (fun i wr => i = .int .i64 0∧wr=w) (fun _ _ => 0)
 case atStart => exact ⟨rfl,rfl⟩
 case round =>
  obtain ⟨rfl,rfl⟩:=hrel;go_wp2;go_end0;exact ⟨⟨_,rfl⟩,rfl⟩
theorem lookInt_nil:NilL 177 14:=by
 intro w b c;go_enter Tryz.func177,Tryz.ntmps177;go_wp2_with fail;go_loopw [3] (fun i wr => i = .int .i64 0∧wr=w) (fun _ _ => 0)
 case atStart => exact ⟨rfl,rfl⟩
 case round =>
  obtain ⟨rfl,rfl⟩:=hrel;go_wp2;go_ret;exact ⟨rfl,rfl⟩
theorem fillRow_nil:NilB 54 15:=by
 intro w b c;go_enter Tryz.func54,Tryz.ntmps54;go_wp2_with fail;go_loopw [2] (fun i wr => i = .int .i64 0∧wr=w) (fun _ _ => 0)
 case atStart => exact ⟨rfl,rfl⟩
 case round =>
  obtain ⟨rfl,rfl⟩:=hrel;go_wp2;go_end0;exact ⟨⟨_,rfl⟩,rfl⟩
theorem growRow_nil:NilB 147 15:=by
 intro w b c;go_enter Tryz.func147,Tryz.ntmps147;go_wp2_with fail;go_loopw [2] (fun i wr => i = .int .i64 0∧wr=w) (fun _ _ => 0)
 case atStart => exact ⟨rfl,rfl⟩
 case round =>
  obtain ⟨rfl,rfl⟩:=hrel;go_wp2;go_end0;exact ⟨⟨_,rfl⟩,rfl⟩
theorem lookRow_nil:NilL 178 15:=by
 intro w b c;go_enter Tryz.func178,Tryz.ntmps178;go_wp2_with fail;go_loopw [3] (fun i wr => i = .int .i64 0∧wr=w) (fun _ _ => 0)
 case atStart => exact ⟨rfl,rfl⟩
 case round =>
  obtain ⟨rfl,rfl⟩:=hrel;go_wp2;go_ret;exact ⟨rfl,rfl⟩
theorem fillToken_nil:NilB 55 16:=by
 intro w b c;go_enter Tryz.func55,Tryz.ntmps55;go_wp2_with fail;go_loopw [2] (fun i wr => i = .int .i64 0∧wr=w) (fun _ _ => 0)
 case atStart => exact ⟨rfl,rfl⟩
 case round =>
  obtain ⟨rfl,rfl⟩:=hrel;go_wp2;go_end0;exact ⟨⟨_,rfl⟩,rfl⟩
theorem growToken_nil:NilB 148 16:=by
 intro w b c;go_enter Tryz.func148,Tryz.ntmps148;go_wp2_with fail;go_loopw [2] (fun i wr => i = .int .i64 0∧wr=w) (fun _ _ => 0)
 case atStart => exact ⟨rfl,rfl⟩
 case round =>
  obtain ⟨rfl,rfl⟩:=hrel;go_wp2;go_end0;exact ⟨⟨_,rfl⟩,rfl⟩
theorem lookToken_nil:NilL 179 16:=by
 intro w b c;go_enter Tryz.func179,Tryz.ntmps179;go_wp2_with fail;go_loopw [3] (fun i wr => i = .int .i64 0∧wr=w) (fun _ _ => 0)
 case atStart => exact ⟨rfl,rfl⟩
 case round =>
  obtain ⟨rfl,rfl⟩:=hrel;go_wp2;go_ret;exact ⟨rfl,rfl⟩
theorem fillPred_nil:NilB 56 17:=by
 intro w b c;go_enter Tryz.func56,Tryz.ntmps56;go_wp2_with fail;go_loopw [2] (fun i wr => i = .int .i64 0∧wr=w) (fun _ _ => 0)
 case atStart => exact ⟨rfl,rfl⟩
 case round =>
  obtain ⟨rfl,rfl⟩:=hrel;go_wp2;go_end0;exact ⟨⟨_,rfl⟩,rfl⟩
theorem growPred_nil:NilB 149 17:=by
 intro w b c;go_enter Tryz.func149,Tryz.ntmps149;go_wp2_with fail;go_loopw [2] (fun i wr => i = .int .i64 0∧wr=w) (fun _ _ => 0)
 case atStart => exact ⟨rfl,rfl⟩
 case round =>
  obtain ⟨rfl,rfl⟩:=hrel;go_wp2;go_end0;exact ⟨⟨_,rfl⟩,rfl⟩
theorem lookPred_nil:NilL 180 17:=by
 intro w b c;go_enter Tryz.func180,Tryz.ntmps180;go_wp2_with fail;go_loopw [3] (fun i wr => i = .int .i64 0∧wr=w) (fun _ _ => 0)
 case atStart => exact ⟨rfl,rfl⟩
 case round =>
  obtain ⟨rfl,rfl⟩:=hrel;go_wp2;go_ret;exact ⟨rfl,rfl⟩
theorem fillType_nil:NilB 57 18:=by
 intro w b c;go_enter Tryz.func57,Tryz.ntmps57;go_wp2_with fail;go_loopw [2] (fun i wr => i = .int .i64 0∧wr=w) (fun _ _ => 0)
 case atStart => exact ⟨rfl,rfl⟩
 case round =>
  obtain ⟨rfl,rfl⟩:=hrel;go_wp2;go_end0;exact ⟨⟨_,rfl⟩,rfl⟩
theorem growType_nil:NilB 150 18:=by
 intro w b c;go_enter Tryz.func150,Tryz.ntmps150;go_wp2_with fail;go_loopw [2] (fun i wr => i = .int .i64 0∧wr=w) (fun _ _ => 0)
 case atStart => exact ⟨rfl,rfl⟩
 case round =>
  obtain ⟨rfl,rfl⟩:=hrel;go_wp2;go_end0;exact ⟨⟨_,rfl⟩,rfl⟩
theorem lookType_nil:NilL 181 18:=by
 intro w b c;go_enter Tryz.func181,Tryz.ntmps181;go_wp2_with fail;go_loopw [3] (fun i wr => i = .int .i64 0∧wr=w) (fun _ _ => 0)
 case atStart => exact ⟨rfl,rfl⟩
 case round =>
  obtain ⟨rfl,rfl⟩:=hrel;go_wp2;go_ret;exact ⟨rfl,rfl⟩
theorem fillSig_nil:NilB 58 19:=by
 intro w b c;go_enter Tryz.func58,Tryz.ntmps58;go_wp2_with fail;go_loopw [2] (fun i wr => i = .int .i64 0∧wr=w) (fun _ _ => 0)
 case atStart => exact ⟨rfl,rfl⟩
 case round =>
  obtain ⟨rfl,rfl⟩:=hrel;go_wp2;go_end0;exact ⟨⟨_,rfl⟩,rfl⟩
theorem growSig_nil:NilB 151 19:=by
 intro w b c;go_enter Tryz.func151,Tryz.ntmps151;go_wp2_with fail;go_loopw [2] (fun i wr => i = .int .i64 0∧wr=w) (fun _ _ => 0)
 case atStart => exact ⟨rfl,rfl⟩
 case round =>
  obtain ⟨rfl,rfl⟩:=hrel;go_wp2;go_end0;exact ⟨⟨_,rfl⟩,rfl⟩
theorem lookSig_nil:NilL 182 19:=by
 intro w b c;go_enter Tryz.func182,Tryz.ntmps182;go_wp2_with fail;go_loopw [3] (fun i wr => i = .int .i64 0∧wr=w) (fun _ _ => 0)
 case atStart => exact ⟨rfl,rfl⟩
 case round =>
  obtain ⟨rfl,rfl⟩:=hrel;go_wp2;go_ret;exact ⟨rfl,rfl⟩
theorem fillEdge_nil:NilB 59 20:=by
 intro w b c;go_enter Tryz.func59,Tryz.ntmps59;go_wp2_with fail;go_loopw [2] (fun i wr => i = .int .i64 0∧wr=w) (fun _ _ => 0)
 case atStart => exact ⟨rfl,rfl⟩
 case round =>
  obtain ⟨rfl,rfl⟩:=hrel;go_wp2;go_end0;exact ⟨⟨_,rfl⟩,rfl⟩
theorem growEdge_nil:NilB 152 20:=by
 intro w b c;go_enter Tryz.func152,Tryz.ntmps152;go_wp2_with fail;go_loopw [2] (fun i wr => i = .int .i64 0∧wr=w) (fun _ _ => 0)
 case atStart => exact ⟨rfl,rfl⟩
 case round =>
  obtain ⟨rfl,rfl⟩:=hrel;go_wp2;go_end0;exact ⟨⟨_,rfl⟩,rfl⟩
theorem lookEdge_nil:NilL 183 20:=by
 intro w b c;go_enter Tryz.func183,Tryz.ntmps183;go_wp2_with fail;go_loopw [3] (fun i wr => i = .int .i64 0∧wr=w) (fun _ _ => 0)
 case atStart => exact ⟨rfl,rfl⟩
 case round =>
  obtain ⟨rfl,rfl⟩:=hrel;go_wp2;go_ret;exact ⟨rfl,rfl⟩
theorem fillLevel_nil:NilB 60 21:=by
 intro w b c;go_enter Tryz.func60,Tryz.ntmps60;go_wp2_with fail;go_loopw [2] (fun i wr => i = .int .i64 0∧wr=w) (fun _ _ => 0)
 case atStart => exact ⟨rfl,rfl⟩
 case round =>
  obtain ⟨rfl,rfl⟩:=hrel;go_wp2;go_end0;exact ⟨⟨_,rfl⟩,rfl⟩
theorem growLevel_nil:NilB 153 21:=by
 intro w b c;go_enter Tryz.func153,Tryz.ntmps153;go_wp2_with fail;go_loopw [2] (fun i wr => i = .int .i64 0∧wr=w) (fun _ _ => 0)
 case atStart => exact ⟨rfl,rfl⟩
 case round =>
  obtain ⟨rfl,rfl⟩:=hrel;go_wp2;go_end0;exact ⟨⟨_,rfl⟩,rfl⟩
theorem lookLevel_nil:NilL 184 21:=by
 intro w b c;go_enter Tryz.func184,Tryz.ntmps184;go_wp2_with fail;go_loopw [3] (fun i wr => i = .int .i64 0∧wr=w) (fun _ _ => 0)
 case atStart => exact ⟨rfl,rfl⟩
 case round =>
  obtain ⟨rfl,rfl⟩:=hrel;go_wp2;go_ret;exact ⟨rfl,rfl⟩
theorem fillMask_nil:NilB 61 22:=by
 intro w b c;go_enter Tryz.func61,Tryz.ntmps61;go_wp2_with fail;go_loopw [2] (fun i wr => i = .int .i64 0∧wr=w) (fun _ _ => 0)
 case atStart => exact ⟨rfl,rfl⟩
 case round =>
  obtain ⟨rfl,rfl⟩:=hrel;go_wp2;go_end0;exact ⟨⟨_,rfl⟩,rfl⟩
theorem growMask_nil:NilB 154 22:=by
 intro w b c;go_enter Tryz.func154,Tryz.ntmps154;go_wp2_with fail;go_loopw [2] (fun i wr => i = .int .i64 0∧wr=w) (fun _ _ => 0)
 case atStart => exact ⟨rfl,rfl⟩
 case round =>
  obtain ⟨rfl,rfl⟩:=hrel;go_wp2;go_end0;exact ⟨⟨_,rfl⟩,rfl⟩
theorem lookMask_nil:NilL 185 22:=by
 intro w b c;go_enter Tryz.func185,Tryz.ntmps185;go_wp2_with fail;go_loopw [3] (fun i wr => i = .int .i64 0∧wr=w) (fun _ _ => 0)
 case atStart => exact ⟨rfl,rfl⟩
 case round =>
  obtain ⟨rfl,rfl⟩:=hrel;go_wp2;go_ret;exact ⟨rfl,rfl⟩
theorem fillStep_nil:NilB 62 23:=by
 intro w b c;go_enter Tryz.func62,Tryz.ntmps62;go_wp2_with fail;go_loopw [2] (fun i wr => i = .int .i64 0∧wr=w) (fun _ _ => 0)
 case atStart => exact ⟨rfl,rfl⟩
 case round =>
  obtain ⟨rfl,rfl⟩:=hrel;go_wp2;go_end0;exact ⟨⟨_,rfl⟩,rfl⟩
theorem growStep_nil:NilB 155 23:=by
 intro w b c;go_enter Tryz.func155,Tryz.ntmps155;go_wp2_with fail;go_loopw [2] (fun i wr => i = .int .i64 0∧wr=w) (fun _ _ => 0)
 case atStart => exact ⟨rfl,rfl⟩
 case round =>
  obtain ⟨rfl,rfl⟩:=hrel;go_wp2;go_end0;exact ⟨⟨_,rfl⟩,rfl⟩
theorem lookStep_nil:NilL 186 23:=by
 intro w b c;go_enter Tryz.func186,Tryz.ntmps186;go_wp2_with fail;go_loopw [3] (fun i wr => i = .int .i64 0∧wr=w) (fun _ _ => 0)
 case atStart => exact ⟨rfl,rfl⟩
 case round =>
  obtain ⟨rfl,rfl⟩:=hrel;go_wp2;go_ret;exact ⟨rfl,rfl⟩
theorem fillRanked_nil:NilB 63 24:=by
 intro w b c;go_enter Tryz.func63,Tryz.ntmps63;go_wp2_with fail;go_loopw [2] (fun i wr => i = .int .i64 0∧wr=w) (fun _ _ => 0)
 case atStart => exact ⟨rfl,rfl⟩
 case round =>
  obtain ⟨rfl,rfl⟩:=hrel;go_wp2;go_end0;exact ⟨⟨_,rfl⟩,rfl⟩
theorem growRanked_nil:NilB 156 24:=by
 intro w b c;go_enter Tryz.func156,Tryz.ntmps156;go_wp2_with fail;go_loopw [2] (fun i wr => i = .int .i64 0∧wr=w) (fun _ _ => 0)
 case atStart => exact ⟨rfl,rfl⟩
 case round =>
  obtain ⟨rfl,rfl⟩:=hrel;go_wp2;go_end0;exact ⟨⟨_,rfl⟩,rfl⟩
theorem lookRanked_nil:NilL 187 24:=by
 intro w b c;go_enter Tryz.func187,Tryz.ntmps187;go_wp2_with fail;go_loopw [3] (fun i wr => i = .int .i64 0∧wr=w) (fun _ _ => 0)
 case atStart => exact ⟨rfl,rfl⟩
 case round =>
  obtain ⟨rfl,rfl⟩:=hrel;go_wp2;go_ret;exact ⟨rfl,rfl⟩
theorem fillAdorned_nil:NilB 64 25:=by
 intro w b c;go_enter Tryz.func64,Tryz.ntmps64;go_wp2_with fail;go_loopw [2] (fun i wr => i = .int .i64 0∧wr=w) (fun _ _ => 0)
 case atStart => exact ⟨rfl,rfl⟩
 case round =>
  obtain ⟨rfl,rfl⟩:=hrel;go_wp2;go_end0;exact ⟨⟨_,rfl⟩,rfl⟩
theorem growAdorned_nil:NilB 157 25:=by
 intro w b c;go_enter Tryz.func157,Tryz.ntmps157;go_wp2_with fail;go_loopw [2] (fun i wr => i = .int .i64 0∧wr=w) (fun _ _ => 0)
 case atStart => exact ⟨rfl,rfl⟩
 case round =>
  obtain ⟨rfl,rfl⟩:=hrel;go_wp2;go_end0;exact ⟨⟨_,rfl⟩,rfl⟩
theorem lookAdorned_nil:NilL 188 25:=by
 intro w b c;go_enter Tryz.func188,Tryz.ntmps188;go_wp2_with fail;go_loopw [3] (fun i wr => i = .int .i64 0∧wr=w) (fun _ _ => 0)
 case atStart => exact ⟨rfl,rfl⟩
 case round =>
  obtain ⟨rfl,rfl⟩:=hrel;go_wp2;go_ret;exact ⟨rfl,rfl⟩
theorem fillTable_nil:NilB 65 26:=by
 intro w b c;go_enter Tryz.func65,Tryz.ntmps65;go_wp2_with fail;go_loopw [2] (fun i wr => i = .int .i64 0∧wr=w) (fun _ _ => 0)
 case atStart => exact ⟨rfl,rfl⟩
 case round =>
  obtain ⟨rfl,rfl⟩:=hrel;go_wp2;go_end0;exact ⟨⟨_,rfl⟩,rfl⟩
theorem growTable_nil:NilB 158 26:=by
 intro w b c;go_enter Tryz.func158,Tryz.ntmps158;go_wp2_with fail;go_loopw [2] (fun i wr => i = .int .i64 0∧wr=w) (fun _ _ => 0)
 case atStart => exact ⟨rfl,rfl⟩
 case round =>
  obtain ⟨rfl,rfl⟩:=hrel;go_wp2;go_end0;exact ⟨⟨_,rfl⟩,rfl⟩
theorem lookTable_nil:NilL 189 26:=by
 intro w b c;go_enter Tryz.func189,Tryz.ntmps189;go_wp2_with fail;go_loopw [3] (fun i wr => i = .int .i64 0∧wr=w) (fun _ _ => 0)
 case atStart => exact ⟨rfl,rfl⟩
 case round =>
  obtain ⟨rfl,rfl⟩:=hrel;go_wp2;go_ret;exact ⟨rfl,rfl⟩
theorem fillProof_nil:NilB 66 27:=by
 intro w b c;go_enter Tryz.func66,Tryz.ntmps66;go_wp2_with fail;go_loopw [2] (fun i wr => i = .int .i64 0∧wr=w) (fun _ _ => 0)
 case atStart => exact ⟨rfl,rfl⟩
 case round =>
  obtain ⟨rfl,rfl⟩:=hrel;go_wp2;go_end0;exact ⟨⟨_,rfl⟩,rfl⟩
theorem growProof_nil:NilB 159 27:=by
 intro w b c;go_enter Tryz.func159,Tryz.ntmps159;go_wp2_with fail;go_loopw [2] (fun i wr => i = .int .i64 0∧wr=w) (fun _ _ => 0)
 case atStart => exact ⟨rfl,rfl⟩
 case round =>
  obtain ⟨rfl,rfl⟩:=hrel;go_wp2;go_end0;exact ⟨⟨_,rfl⟩,rfl⟩
theorem lookProof_nil:NilL 190 27:=by
 intro w b c;go_enter Tryz.func190,Tryz.ntmps190;go_wp2_with fail;go_loopw [3] (fun i wr => i = .int .i64 0∧wr=w) (fun _ _ => 0)
 case atStart => exact ⟨rfl,rfl⟩
 case round =>
  obtain ⟨rfl,rfl⟩:=hrel;go_wp2;go_ret;exact ⟨rfl,rfl⟩
theorem fillSize_nil:NilB 67 28:=by
 intro w b c;go_enter Tryz.func67,Tryz.ntmps67;go_wp2_with fail;go_loopw [2] (fun i wr => i = .int .i64 0∧wr=w) (fun _ _ => 0)
 case atStart => exact ⟨rfl,rfl⟩
 case round =>
  obtain ⟨rfl,rfl⟩:=hrel;go_wp2;go_end0;exact ⟨⟨_,rfl⟩,rfl⟩
theorem growSize_nil:NilB 160 28:=by
 intro w b c;go_enter Tryz.func160,Tryz.ntmps160;go_wp2_with fail;go_loopw [2] (fun i wr => i = .int .i64 0∧wr=w) (fun _ _ => 0)
 case atStart => exact ⟨rfl,rfl⟩
 case round =>
  obtain ⟨rfl,rfl⟩:=hrel;go_wp2;go_end0;exact ⟨⟨_,rfl⟩,rfl⟩
theorem lookSize_nil:NilL 191 28:=by
 intro w b c;go_enter Tryz.func191,Tryz.ntmps191;go_wp2_with fail;go_loopw [3] (fun i wr => i = .int .i64 0∧wr=w) (fun _ _ => 0)
 case atStart => exact ⟨rfl,rfl⟩
 case round =>
  obtain ⟨rfl,rfl⟩:=hrel;go_wp2;go_ret;exact ⟨rfl,rfl⟩
theorem fillFloat_nil:NilB 68 29:=by
 intro w b c;go_enter Tryz.func68,Tryz.ntmps68;go_wp2_with fail;go_loopw [2] (fun i wr => i = .int .i64 0∧wr=w) (fun _ _ => 0)
 case atStart => exact ⟨rfl,rfl⟩
 case round =>
  obtain ⟨rfl,rfl⟩:=hrel;go_wp2;go_end0;exact ⟨⟨_,rfl⟩,rfl⟩
theorem growFloat_nil:NilB 161 29:=by
 intro w b c;go_enter Tryz.func161,Tryz.ntmps161;go_wp2_with fail;go_loopw [2] (fun i wr => i = .int .i64 0∧wr=w) (fun _ _ => 0)
 case atStart => exact ⟨rfl,rfl⟩
 case round =>
  obtain ⟨rfl,rfl⟩:=hrel;go_wp2;go_end0;exact ⟨⟨_,rfl⟩,rfl⟩
theorem lookFloat_nil:NilL 192 29:=by
 intro w b c;go_enter Tryz.func192,Tryz.ntmps192;go_wp2_with fail;go_loopw [3] (fun i wr => i = .int .i64 0∧wr=w) (fun _ _ => 0)
 case atStart => exact ⟨rfl,rfl⟩
 case round =>
  obtain ⟨rfl,rfl⟩:=hrel;go_wp2;go_ret;exact ⟨rfl,rfl⟩
theorem fillCommit_nil:NilB 69 30:=by
 intro w b c;go_enter Tryz.func69,Tryz.ntmps69;go_wp2_with fail;go_loopw [2] (fun i wr => i = .int .i64 0∧wr=w) (fun _ _ => 0)
 case atStart => exact ⟨rfl,rfl⟩
 case round =>
  obtain ⟨rfl,rfl⟩:=hrel;go_wp2;go_end0;exact ⟨⟨_,rfl⟩,rfl⟩
theorem growCommit_nil:NilB 162 30:=by
 intro w b c;go_enter Tryz.func162,Tryz.ntmps162;go_wp2_with fail;go_loopw [2] (fun i wr => i = .int .i64 0∧wr=w) (fun _ _ => 0)
 case atStart => exact ⟨rfl,rfl⟩
 case round =>
  obtain ⟨rfl,rfl⟩:=hrel;go_wp2;go_end0;exact ⟨⟨_,rfl⟩,rfl⟩
theorem lookCommit_nil:NilL 193 30:=by
 intro w b c;go_enter Tryz.func193,Tryz.ntmps193;go_wp2_with fail;go_loopw [3] (fun i wr => i = .int .i64 0∧wr=w) (fun _ _ => 0)
 case atStart => exact ⟨rfl,rfl⟩
 case round =>
  obtain ⟨rfl,rfl⟩:=hrel;go_wp2;go_ret;exact ⟨rfl,rfl⟩
theorem fillEvent_nil:NilB 70 31:=by
 intro w b c;go_enter Tryz.func70,Tryz.ntmps70;go_wp2_with fail;go_loopw [2] (fun i wr => i = .int .i64 0∧wr=w) (fun _ _ => 0)
 case atStart => exact ⟨rfl,rfl⟩
 case round =>
  obtain ⟨rfl,rfl⟩:=hrel;go_wp2;go_end0;exact ⟨⟨_,rfl⟩,rfl⟩
theorem growEvent_nil:NilB 163 31:=by
 intro w b c;go_enter Tryz.func163,Tryz.ntmps163;go_wp2_with fail;go_loopw [2] (fun i wr => i = .int .i64 0∧wr=w) (fun _ _ => 0)
 case atStart => exact ⟨rfl,rfl⟩
 case round =>
  obtain ⟨rfl,rfl⟩:=hrel;go_wp2;go_end0;exact ⟨⟨_,rfl⟩,rfl⟩
theorem lookEvent_nil:NilL 194 31:=by
 intro w b c;go_enter Tryz.func194,Tryz.ntmps194;go_wp2_with fail;go_loopw [3] (fun i wr => i = .int .i64 0∧wr=w) (fun _ _ => 0)
 case atStart => exact ⟨rfl,rfl⟩
 case round =>
  obtain ⟨rfl,rfl⟩:=hrel;go_wp2;go_ret;exact ⟨rfl,rfl⟩
end Go.Proofs.YtobabnpllokkaaaGreatDoor
