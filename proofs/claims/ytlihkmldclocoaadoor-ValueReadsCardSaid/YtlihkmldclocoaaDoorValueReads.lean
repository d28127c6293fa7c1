/- The law ValueReads holds: the value that is written so, or the error. No condition. -/
import Derived.Test.YtlihkmldclocoaaDoorRead3
import Derived.Test.YtlihkmldclocoaaDoorErrs
import Derived.Test.YtlihkmldclocoaaDoorCards
import Derived.Test.YtlihkmldclocoaaDoorTie
import Derived.SevenTiedAt
import Derived.Lay
import Derived.LaidOnce
import Derived.ChangeMaps5
namespace Go.Proofs.YtlihkmldclocoaaDoor
open Go.RowKit Go.ChangeShapes Go.WideShapes Go.ChangeAt Go.ChangeMaps
set_option linter.unusedSimpArgs false
set_option linter.unusedVariables false

set_option maxHeartbeats 1000000 in
theorem valueReads_any (s : ByteArray) (w : World) (hs : s.size ≤ 140737488351232) (hP : Pows w) (hE : Errs w) :
    Calls Tryd.prog 4 #[.string s] w fun e w' => e = .returned (.bool true) ∧ Fut w w' := by
  have HP := Lib.hid hP
  have HE := Lib.hid hE
  have H1 := Lib.hid (fun w hP => rread_any s w hs hP)
  have H2 := Lib.hid (fun w hP hE => read_any s w hs hP hE)
  rw [read_eq s (numL_in _)] at H2
  clear hP hE hs
  generalize readR s = R at H1 H2
  obtain ⟨⟨k, n, t⟩, b⟩ := R
  simp only [tupR, V.val] at H1 H2 ⊢
  go_enter Tryd.func4, Tryd.ntmps4
  go_wp2_with fail
  refine (H1.out _ HP.out).mono ?_
  rintro e w1 ⟨rfl, h1⟩
  go_wp2_with fail
  refine (H2.out _ (HP.out.fut (h1.trans (Fut.alloc _ _))) (HE.out.fut (h1.trans (Fut.alloc _ _)))).mono ?_
  rintro e w2 ⟨rfl, h2⟩
  obtain ⟨p0, p1, p2⟩ := boxV_at w2 k n t 27
  obtain ⟨m0, m1, m2⟩ := boxV_at w1 k n t 27
  have FB := h2.trans (Fut.alloc w2 (.cells #[.int .i8 k, .int .i64 n, .string t] 27))
  have q0 := FB.cell m0
  have q1 := FB.cell m1
  have q2 := FB.cell m2
  clear m0 m1 m2
  have hFB := Lib.hid FB
  clear FB
  go_wp2
  go_ret
  exact ⟨by first | rfl | simp, (h1.trans (Fut.alloc _ _)).trans (h2.trans (Fut.alloc _ _))⟩
theorem ValueReads_own : ownKnob Tryd.prog.godebug = none := by kernel_rfl
theorem ValueReads_laidOut : laidOutB Tryd.prog = true := by kernel_rfl
set_option maxRecDepth 100000 in
theorem ValueReads_row_walk {H : Type} {enc : TypeId × Value → H} (W : World) (base : Nat) (args : Array Value) (ds : List (DataW H)) (p : List MemPlace)
    (hval : ∀ (j : Nat) t v, (#[9] : Array Nat)[j]? = some t → args[j]? = some v → Value.okWide Tryd.prog W .any base t v)
    (hA : DataW.TrodAll enc Tryd.prog W 0 (fun _ => true) true [9] args.toList ds p) (hS : (DataW.weightsEach Tryd.prog [9] ds).all (fun n => decide (n ≤ reachBytes)) = true)
    (hL : laidMet Tryd.prog Rows.valueReadsRow.laid W) :
    Calls Tryd.prog 4 args W fun e W' => e = .returned (.bool true) ∧ Fut W W' := by
  obtain ⟨v0, vs0, d0, ds0, p0, q0, hargs, rfl, rfl, h0, r0⟩ := trodAll_cons hA
  obtain ⟨rfl, rfl, rfl⟩ := trodAll_nil r0
  obtain rfl : args = #[v0] := Array.toList_inj.1 hargs
  have k0 := hval 0 9 v0 rfl rfl
  have s0 := weights_arg hS 0 rfl rfl
  clear hval hA hS
  obtain ⟨s, q0⟩ := reads_arg (reads_string Tryd.underlying9) h0 s0
  obtain ⟨s', rfl, _⟩ := open_string Tryd.underlying9 k0 h0
  obtain rfl : s' = s := by simpa [Value.cells] using q0.1
  exact valueReads_any s' W q0.2 (pows_of_laid hL (by simp [Rows.valueReadsRow])) (errs_of_laid hL.tail.tail.tail)
set_option maxRecDepth 100000 in
theorem ValueReads_lifted (os : Os) (started : os.Started) (H : Type) (enc : TypeId × Value → H) :
    ReturnsInHanded {} Tryd.checked os 4 .any (fun w args => (Rows.valueReadsSpec.pre enc Tryd.prog Tryd.f4 [] false w args ∧ laidMetH Tryd.prog Rows.valueReadsRow.laid w) ∧ sizedMet enc Tryd.prog Tryd.f4 (OpenSpec.ofChange Rows.valueReadsSpec) false w args)
      (Rows.valueReadsSpec.post enc Tryd.prog Tryd.f4 false true false false) := by
  refine returnsInHanded_of_change_and (C := Tryd.checked) (X := (fun w _ => laidMetH Tryd.prog Rows.valueReadsRow.laid w)) (fun _ _ _ hh h => h.of_heap hh) ValueReads_own started (by kernel_rfl) Tryd.func4
    (ChangeSpec.witness_shaped (enc := enc) (C := Tryd.checked) (os := os) (X := (fun w _ => laidMetH Tryd.prog Rows.valueReadsRow.laid w)) false (World.laidAll Tryd.prog os Rows.valueReadsRow.laid) #[.string ⟨#[]⟩] 8 (World.laidAll_os _ _ _)
      (World.shaped_of_ZipB (by kernel_rfl) (by kernel_rfl)) (by kernel_rfl) (by kernel_rfl) (by kernel_rfl)
      (by rw [MakeChecks.laidMetH_plain _ _ _ (by kernel_rfl)]; exact laidMet_laidAll _ (by kernel_rfl) (by kernel_rfl))) ?_
  intro W base args ds gs before hval0 hW _ hsz hL _
  have hW' := hW
  obtain ⟨p, q, hA0, hV, rfl, _, _⟩ := hW
  have hA : DataW.TrodAll enc Tryd.prog W 0 (fun _ => true) true [9] args.toList ds p := hA0
  obtain ⟨rfl, rfl⟩ := trodVars_none hV
  rw [List.append_nil] at hsz
  rw [MakeChecks.laidMetH_plain _ _ _ (by kernel_rfl)] at hL
  refine (ValueReads_row_walk W base args ds p hval0 hA hsz hL).mono fun e W' ⟨he, hf⟩ => ?_
  subst he
  obtain ⟨v0, vs0, d0, ds0, p0, q0, _, rfl, _, _, r0⟩ := trodAll_cons hA
  obtain ⟨_, rfl, _⟩ := trodAll_nil r0
  exact ⟨_, rfl, law_post (tb := 4) ValueReads_laidOut hW' rfl (by kernel_rfl) rfl Tryd.underlying4 rfl rfl rfl hf⟩
theorem ValueReads_said : Rows.ValueReadsSaid :=
  OpenClaim.holds_of_wide 4 Tryd.f4 rfl rfl rfl rfl rfl rfl rfl ⟨rfl, rfl, rfl, rfl, rfl⟩ rfl rfl rfl rfl rfl (by kernel_rfl) Tryd.func4 (by kernel_rfl)
    (of_decide_eq_true (by kernel_rfl)) (by unfold Func.isWrapper; first | (rw [if_pos (by decide +kernel)]; kernel_rfl) | (rw [if_neg (by decide +kernel)]; exact ⟨rfl, rfl⟩))
    (fun os started H enc _ => ValueReads_lifted os started H enc)
theorem ValueReads_plain (f : FuncId) (fn : Func) (hf : Tryd.pinned.checked.prog.funcNamed "pedigree/pedigreelaw01.ValueReads" = some f) (hfn : Tryd.pinned.checked.prog.funcs[f]? = some fn) :
    Rows.valueReadsCard.stood.looks = Tryd.pinned.checked.prog.looks [] ∧ ∀ (j : Nat) t, fn.params[j]? = some t → Tryd.pinned.checked.prog.wantsStandIn t = false := by
  obtain rfl : f = 4 := Option.some.inj ((show Tryd.prog.funcNamed "pedigree/pedigreelaw01.ValueReads" = some 4 by kernel_rfl).symm.trans hf) |>.symm
  obtain rfl : fn = Tryd.f4 := (Option.some.inj (Tryd.func4.symm.trans hfn)).symm
  refine ⟨by kernel_rfl, fun j t ht => ?_⟩
  have hall : (Tryd.f4.params.toList.all fun t => !Tryd.prog.wantsStandIn t) = true := by kernel_rfl
  have := List.all_eq_true.1 hall t (by simpa using Array.mem_of_getElem? ht)
  exact (by simpa using this : Tryd.prog.wantsStandIn t = false)
theorem ValueReads_holds : Rows.ValueReadsCardSaid :=
  Claim7.holds_tied_plain_at .later [] _ _ _ _ ValueReads_said (fun _ h => by cases h) (by kernel_rfl) (fun _ h => by cases h) valueReads_row_tie rfl ⟨rfl, rfl⟩ (by kernel_rfl) rfl ValueReads_plain (by kernel_rfl)
end Go.Proofs.YtlihkmldclocoaaDoor
