/- The law ValueSorted holds: the facts that are told rise, are those of the list, and all of them, however the list lies; the tuples are told as the facts of one name are. No condition. -/
import Derived.Test.YtlihkmldclocoaaDoorSorted1
import Derived.Test.YtlihkmldclocoaaDoorTotal0
import Derived.Test.YtlihkmldclocoaaDoorCards
import Derived.Test.YtlihkmldclocoaaDoorTie
import Derived.SevenTiedAt
import Derived.Lay
import Derived.LaidOnce
import Derived.ChangeMaps5
namespace Go.Proofs.YtlihkmldclocoaaDoor
open Go.RowKit Go.ChangeShapes Go.WideShapes Go.ChangeAt Go.ChangeMaps
set_option linter.unusedSimpArgs false
set_option linter.unusedVariables false

theorem parts_mem' {fs : List Fc} {f : Fc} (h : f ∈ fs) : f.a.length ≤ parts fs := by
  induction fs with
  | nil => simp at h
  | cons g r ih =>
    simp only [parts]
    rcases List.mem_cons.1 h with rfl | h
    · omega
    · have := ih h; omega
set_option maxHeartbeats 1000000 in
theorem valueSorted_any (a : Value) (fs : List Fc) (w : World) (hT : Takes w) (hP : Pows w) (ha : Facs w a fs) :
    Calls Tryd.prog 7 #[a] w fun e w' => e = .returned (.bool true) ∧ Fut w w' := by
  by_cases h2 : fs.length ≤ 2000
  · by_cases hp : 1048576 < parts fs
    · have HBF := Lib.hid (beyondF_any a fs w ha)
      rw [decide_eq_true hp] at HBF
      obtain ⟨A, cap, rfl, hcl, hcm⟩ := SlRep.form ha
      have d0 : ¬ (2000 : Int) < fs.length := by omega
      clear ha hp hT hP
      go_enter Tryd.func7, Tryd.ntmps7
      go_wp2_with fail
      refine HBF.out.mono ?_
      rintro e w0 ⟨rfl, rfl⟩
      go_wp2
      go_ret
      exact ⟨rfl, Fut.refl _⟩
    · exact sorted_walk a fs w hT hP ha h2 hp fun f hf => by have := parts_mem' hf; omega
  · obtain ⟨A, cap, rfl, hcl, hcm⟩ := SlRep.form ha
    have d0 : (2000 : Int) < fs.length := by omega
    clear ha hT hP
    go_enter Tryd.func7, Tryd.ntmps7
    go_wp2
    go_ret
    exact ⟨rfl, Fut.refl _⟩
theorem cellsG1 : Tryd.prog.cellsOf 54 = 2 := by kernel_rfl
theorem bytesG1 : Tryd.prog.bytesOf 54 = 40 := by kernel_rfl
theorem rG1 : Reads Tryd.prog 44 (SlR 2 3518437208883 RF) :=
  reads_slice Tryd.underlying44 cellsG1 (by omega) (fun c h => by rw [bytesG1] at h; unfold reachBytes at h; omega)
    (reads_F Tryd.underlying54 (by kernel_rfl) Tryd.underlying9 (rVs.imp fun w cs d ⟨v, h1, h2⟩ => ⟨v, h1, h2.more (by omega)⟩) rfl rfl (by kernel_rfl) (by kernel_rfl))
theorem ValueSorted_own : ownKnob Tryd.prog.godebug = none := by kernel_rfl
theorem ValueSorted_laidOut : laidOutB Tryd.prog = true := by kernel_rfl
set_option maxRecDepth 100000 in
theorem ValueSorted_row_walk {H : Type} {enc : TypeId × Value → H} (W : World) (base : Nat) (args : Array Value) (ds : List (DataW H)) (p : List MemPlace)
    (hval : ∀ (j : Nat) t v, (#[44] : Array Nat)[j]? = some t → args[j]? = some v → Value.okWide Tryd.prog W .any base t v)
    (hA : DataW.TrodAll enc Tryd.prog W 0 (fun _ => true) true [44] args.toList ds p) (hS : (DataW.weightsEach Tryd.prog [44] ds).all (fun n => decide (n ≤ reachBytes)) = true)
    (hL : laidMet Tryd.prog Rows.valueSortedRow.laid W) :
    Calls Tryd.prog 7 args W fun e W' => e = .returned (.bool true) ∧ Fut W W' := by
  obtain ⟨v0, vs0, d0, ds0, p0, q0, hargs, rfl, rfl, h0, r0⟩ := trodAll_cons hA
  obtain ⟨rfl, rfl, rfl⟩ := trodAll_nil r0
  obtain rfl : args = #[v0] := Array.toList_inj.1 hargs
  have k0 := hval 0 44 v0 rfl rfl
  have s0 := weights_arg hS 0 rfl rfl
  clear hval hA hS
  obtain ⟨ys, hy⟩ := reads_arg rG1 h0 s0
  have ht := arg_slice hy Tryd.underlying44 k0
  exact valueSorted_any _ ys W (takes_of_laid hL (by simp [Rows.valueSortedRow])) (pows_of_laid hL (by simp [Rows.valueSortedRow])) ht
set_option maxRecDepth 100000 in
theorem ValueSorted_lifted (os : Os) (started : os.Started) (H : Type) (enc : TypeId × Value → H) :
    ReturnsInHanded {} Tryd.checked os 7 .any (fun w args => (Rows.valueSortedSpec.pre enc Tryd.prog Tryd.f7 [] false w args ∧ laidMetH Tryd.prog Rows.valueSortedRow.laid w) ∧ sizedMet enc Tryd.prog Tryd.f7 (OpenSpec.ofChange Rows.valueSortedSpec) false w args)
      (Rows.valueSortedSpec.post enc Tryd.prog Tryd.f7 false true false false) := by
  refine returnsInHanded_of_change_and (C := Tryd.checked) (X := (fun w _ => laidMetH Tryd.prog Rows.valueSortedRow.laid w)) (fun _ _ _ hh h => h.of_heap hh) ValueSorted_own started (by kernel_rfl) Tryd.func7
    (ChangeSpec.witness_shaped (enc := enc) (C := Tryd.checked) (os := os) (X := (fun w _ => laidMetH Tryd.prog Rows.valueSortedRow.laid w)) false (World.laidAll Tryd.prog os Rows.valueSortedRow.laid) #[.slice none 0 0] 8 (World.laidAll_os _ _ _)
      (World.shaped_of_ZipB (by kernel_rfl) (by kernel_rfl)) (by kernel_rfl) (by kernel_rfl) (by kernel_rfl)
      (by rw [MakeChecks.laidMetH_plain _ _ _ (by kernel_rfl)]; exact laidMet_laidAll _ (by kernel_rfl) (by kernel_rfl))) ?_
  intro W base args ds gs before hval0 hW _ hsz hL _
  have hW' := hW
  obtain ⟨p, q, hA0, hV, rfl, _, _⟩ := hW
  have hA : DataW.TrodAll enc Tryd.prog W 0 (fun _ => true) true [44] args.toList ds p := hA0
  obtain ⟨rfl, rfl⟩ := trodVars_none hV
  rw [List.append_nil] at hsz
  rw [MakeChecks.laidMetH_plain _ _ _ (by kernel_rfl)] at hL
  refine (ValueSorted_row_walk W base args ds p hval0 hA hsz hL).mono fun e W' ⟨he, hf⟩ => ?_
  subst he
  obtain ⟨v0, vs0, d0, ds0, p0, q0, _, rfl, _, _, r0⟩ := trodAll_cons hA
  obtain ⟨_, rfl, _⟩ := trodAll_nil r0
  exact ⟨_, rfl, law_post (tb := 4) ValueSorted_laidOut hW' rfl (by kernel_rfl) rfl Tryd.underlying4 rfl rfl rfl hf⟩
theorem ValueSorted_said : Rows.ValueSortedSaid :=
  OpenClaim.holds_of_wide 7 Tryd.f7 rfl rfl rfl rfl rfl rfl rfl ⟨rfl, rfl, rfl, rfl, rfl⟩ rfl rfl rfl rfl rfl (by kernel_rfl) Tryd.func7 (by kernel_rfl)
    (of_decide_eq_true (by kernel_rfl)) (by unfold Func.isWrapper; first | (rw [if_pos (by decide +kernel)]; kernel_rfl) | (rw [if_neg (by decide +kernel)]; exact ⟨rfl, rfl⟩))
    (fun os started H enc _ => ValueSorted_lifted os started H enc)
theorem ValueSorted_plain (f : FuncId) (fn : Func) (hf : Tryd.pinned.checked.prog.funcNamed "pedigree/pedigreelaw01.ValueSorted" = some f) (hfn : Tryd.pinned.checked.prog.funcs[f]? = some fn) :
    Rows.valueSortedCard.stood.looks = Tryd.pinned.checked.prog.looks [] ∧ ∀ (j : Nat) t, fn.params[j]? = some t → Tryd.pinned.checked.prog.wantsStandIn t = false := by
  obtain rfl : f = 7 := Option.some.inj ((show Tryd.prog.funcNamed "pedigree/pedigreelaw01.ValueSorted" = some 7 by kernel_rfl).symm.trans hf) |>.symm
  obtain rfl : fn = Tryd.f7 := (Option.some.inj (Tryd.func7.symm.trans hfn)).symm
  refine ⟨by kernel_rfl, fun j t ht => ?_⟩
  have hall : (Tryd.f7.params.toList.all fun t => !Tryd.prog.wantsStandIn t) = true := by kernel_rfl
  have := List.all_eq_true.1 hall t (by simpa using Array.mem_of_getElem? ht)
  exact (by simpa using this : Tryd.prog.wantsStandIn t = false)
theorem ValueSorted_holds : Rows.ValueSortedCardSaid :=
  Claim7.holds_tied_plain_at .later [] _ _ _ _ ValueSorted_said (fun _ h => by cases h) (by kernel_rfl) (fun _ h => by cases h) valueSorted_row_tie rfl ⟨rfl, rfl⟩ (by kernel_rfl) rfl ValueSorted_plain (by kernel_rfl)
end Go.Proofs.YtlihkmldclocoaaDoor
