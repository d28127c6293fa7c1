/- RelationKeeps: behind any turns the rows are just those that were added and not removed behind that, in the order in which they came; each is there and has its number; Sorted tells them each once, rising. -/
import Derived.Test.YtcekphjcmippoaaRelTurns
import Derived.Test.YtcekphjcmippoaaRelKeeps
namespace Go.Proofs.Ytcekphjcmippoaa
open Go.RowKit Go.WideMaps Go.ChangeShapes Go.WideShapes Go.ChangeAt Go.Deep
set_option linter.unusedSimpArgs false
set_option linter.unusedVariables false
set_option maxRecDepth 100000

theorem arg_row {P : Program} {k e : TypeId} (T : RowTy P k e) {w : World} {v : Value} {x : Rw} (h : RR w v.cells.toList x) (hv : ∃ cs, v = .agg cs) : v = Rw.val x := by
  obtain ⟨⟨cs⟩, rfl⟩ := hv
  have h1 : cs = Rw.cells x := by simpa [Value.cells] using h.1
  subst h1; rfl
theorem RelationKeeps_own : ownKnob Try.prog.godebug = none := by kernel_rfl
theorem RelationKeeps_laidOut : laidOutB Try.prog = true := by kernel_rfl
theorem RelationKeeps_row_walk {H : Type} {enc : TypeId × Value → H} (W : World) (base : Nat) (args : Array Value) (ds : List (DataW H)) (p : List MemPlace)
    (hval : ∀ (j : Nat) t v, (#[3, 22, 32] : Array Nat)[j]? = some t → args[j]? = some v → Value.okWide Try.prog W .any base t v)
    (hA : DataW.TrodAll enc Try.prog W 0 (fun _ => true) true [3, 22, 32] args.toList ds p) (hS : (DataW.weightsEach Try.prog [3, 22, 32] ds).all (fun n => decide (n ≤ reachBytes)) = true) :
    Calls Try.prog 5 args W fun e W' => e = .returned (.bool true) ∧ Fut W W' := by
  obtain ⟨v0, vs0, d0, ds0, p0, q0, hargs, rfl, rfl, h0, r0⟩ := trodAll_cons hA
  obtain ⟨v1, vs1, d1, ds1, p1, q1, rfl, rfl, rfl, h1, r1⟩ := trodAll_cons r0
  obtain ⟨v2, vs2, d2, ds2, p2, q2, rfl, rfl, rfl, h2, r2⟩ := trodAll_cons r1
  obtain ⟨rfl, rfl, rfl⟩ := trodAll_nil r2
  obtain rfl : args = #[v0, v1, v2] := by cases args; simp_all
  have k0 := hval 0 3 v0 rfl rfl
  have k1 := hval 1 22 v1 rfl rfl
  have k2 := hval 2 32 v2 rfl rfl
  have s0 := weights_arg hS 0 rfl rfl
  have s1 := weights_arg hS 1 rfl rfl
  have s2 := weights_arg hS 2 rfl rfl
  clear hval hA hS
  obtain ⟨n, en, _⟩ := reads_arg (reads_int Try.underlying3) h0 s0
  obtain ⟨l, hl⟩ := reads_arg rTns h1 s1
  have hl := arg_slice hl Try.underlying22 k1
  obtain ⟨x, hx⟩ := reads_arg (reads_row rowTy) h2 s2
  have hx0 := hx.2
  obtain ⟨n', rfl⟩ := okWide_int Try.underlying3 k0
  obtain ⟨cs, e2, _⟩ := okWide_arr rowTy.A k2
  obtain rfl := arg_row rowTy hx ⟨cs, e2⟩
  exact keeps_walk n' v1 l x hx0 W _ hl hl.len
set_option maxRecDepth 100000 in
theorem RelationKeeps_lifted (os : Os) (started : os.Started) (H : Type) (enc : TypeId × Value → H) :
    ReturnsInHanded {} Try.checked os 5 .any (Rows.relationKeepsSpec.pre6 enc Try.prog Try.f5 Rows.relationKeepsRow.domain false) (Rows.relationKeepsSpec.post enc Try.prog Try.f5 false true false false) := by
  refine returnsInHanded_of_change_sized (C := Try.checked) RelationKeeps_own started (by kernel_rfl) Try.func5
    (ChangeSpec.witness6 (enc := enc) (C := Try.checked) false ⟨#[], #[.int .i64 0, .slice none 0 0, Rw.val zeroRow], []⟩ 8 (by kernel_rfl) (by kernel_rfl) (by kernel_rfl) (by kernel_rfl)) ?_
  intro W base args ds gs before hval0 hW _ hsz _
  have hW' := hW
  obtain ⟨p, q, hA0, hV, rfl, _, _⟩ := hW
  have hA : DataW.TrodAll enc Try.prog W 0 (fun _ => true) true [3, 22, 32] args.toList ds p := hA0
  obtain ⟨rfl, rfl⟩ := trodVars_none hV
  rw [List.append_nil] at hsz
  refine (RelationKeeps_row_walk W base args ds p hval0 hA hsz).mono fun e W' ⟨he, hf⟩ => ?_
  subst he
  obtain ⟨v0, vs0, d0, ds0, p0, q0, _, rfl, _, _, r0⟩ := trodAll_cons hA
  obtain ⟨v1, vs1, d1, ds1, p1, q1, _, rfl, _, _, r1⟩ := trodAll_cons r0
  obtain ⟨v2, vs2, d2, ds2, p2, q2, _, rfl, _, _, r2⟩ := trodAll_cons r1
  obtain ⟨_, rfl, _⟩ := trodAll_nil r2
  exact ⟨_, rfl, law_post (tb := 4) RelationKeeps_laidOut hW' rfl (by kernel_rfl) rfl Try.underlying4 rfl rfl rfl hf⟩
theorem RelationKeeps_holds : Rows.RelationKeepsSaid :=
  OpenClaim.holds_of_wide 5 Try.f5 rfl rfl rfl rfl rfl rfl rfl ⟨rfl, rfl, rfl, rfl, rfl⟩ rfl rfl rfl rfl rfl (by kernel_rfl) Try.func5 (by kernel_rfl)
    (of_decide_eq_true (by kernel_rfl)) (by unfold Func.isWrapper; first | (rw [if_pos (by decide +kernel)]; kernel_rfl) | (rw [if_neg (by decide +kernel)]; exact ⟨rfl, rfl⟩))
    (fun os started H enc _ => RelationKeeps_lifted os started H enc)
#print axioms RelationKeeps_holds
end Go.Proofs.Ytcekphjcmippoaa
