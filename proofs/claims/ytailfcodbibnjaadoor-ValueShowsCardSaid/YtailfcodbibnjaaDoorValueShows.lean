/- The law ValueShows holds: a value as a source has it, and the error where it is none. No condition. -/
import Derived.Test.YtailfcodbibnjaaDoorShow
import Derived.Test.YtailfcodbibnjaaDoorCards
import Derived.Test.YtailfcodbibnjaaDoorTie
import Derived.SevenTiedAt
import Derived.Lay
import Derived.LaidOnce
namespace Go.Proofs.YtailfcodbibnjaaDoor
open Go.RowKit Go.ChangeShapes Go.WideShapes Go.ChangeAt
set_option linter.unusedSimpArgs false
set_option linter.unusedVariables false

set_option maxHeartbeats 1000000 in
theorem valueShows_any (x : V) (w : World) (hP : Pows w) (hx : x.ok) :
    Calls Tryd.prog 3 #[x.val] w fun e w' => e = .returned (.bool true) ∧ Fut w w' := by
  have HP := Lib.hid hP
  have HX := Lib.hid hx
  have H1 := Lib.hid (fun w hP => rshow_any x w hx hP)
  have H2 := Lib.hid (fun w hP => show_any x w hx hP)
  clear hP hx
  obtain ⟨k, n, s⟩ := x
  generalize showV ⟨k, n, s⟩ = R at H1 H2
  obtain ⟨a, b⟩ := R
  simp only [tupS, V.val] at H1 H2 ⊢
  go_enter Tryd.func3, Tryd.ntmps3
  go_wp2_with fail
  refine (H1.out _ (HP.out.fut (Fut.alloc _ _))).mono ?_
  rintro e w1 ⟨rfl, h1⟩
  have F1 := (Fut.alloc w _).trans h1
  have k0 : w1.cell? ⟨w.heap.size, 0, none⟩ = some (.int .i8 k) := h1.cell (by go_simp)
  have k1 : w1.cell? ⟨w.heap.size, 1, none⟩ = some (.int .i64 n) := h1.cell (by go_simp)
  have k2 : w1.cell? ⟨w.heap.size, 2, none⟩ = some (.string s) := h1.cell (by go_simp)
  go_wp2_with fail
  refine (H2.out _ (HP.out.fut F1)).mono ?_
  rintro e w2 ⟨rfl, h2⟩
  go_wp2
  go_ret
  exact ⟨by first | rfl | simp, F1.trans h2⟩
theorem ValueShows_own : ownKnob Tryd.prog.godebug = none := by kernel_rfl
theorem ValueShows_laidOut : laidOutB Tryd.prog = true := by kernel_rfl
set_option maxRecDepth 100000 in
theorem ValueShows_row_walk {H : Type} {enc : TypeId × Value → H} (W : World) (base : Nat) (args : Array Value) (ds : List (DataW H)) (p : List MemPlace)
    (hval : ∀ (j : Nat) t v, (#[25] : Array Nat)[j]? = some t → args[j]? = some v → Value.okWide Tryd.prog W .any base t v)
    (hA : DataW.TrodAll enc Tryd.prog W 0 (fun _ => true) true [25] args.toList ds p) (hS : (DataW.weightsEach Tryd.prog [25] ds).all (fun n => decide (n ≤ reachBytes)) = true)
    (hL : laidMet Tryd.prog Rows.valueShowsRow.laid W) :
    Calls Tryd.prog 3 args W fun e W' => e = .returned (.bool true) ∧ Fut W W' := by
  obtain ⟨v0, vs0, d0, ds0, p0, q0, hargs, rfl, rfl, h0, r0⟩ := trodAll_cons hA
  obtain ⟨rfl, rfl, rfl⟩ := trodAll_nil r0
  obtain rfl : args = #[v0] := Array.toList_inj.1 hargs
  have k0 := hval 0 25 v0 rfl rfl
  have s0 := weights_arg hS 0 rfl rfl
  clear hval hA hS
  obtain ⟨x, hx⟩ := reads_arg rV h0 s0
  obtain rfl := arg_V hx (arg_struct Tryd.underlying25 k0)
  exact valueShows_any x W (pows_of_laid hL (by simp [Rows.valueShowsRow])) hx.2
set_option maxRecDepth 100000 in
theorem ValueShows_lifted (os : Os) (started : os.Started) (H : Type) (enc : TypeId × Value → H) :
    ReturnsInHanded {} Tryd.checked os 3 .any (fun w args => (Rows.valueShowsSpec.pre enc Tryd.prog Tryd.f3 [] false w args ∧ laidMetH Tryd.prog Rows.valueShowsRow.laid w) ∧ sizedMet enc Tryd.prog Tryd.f3 (OpenSpec.ofChange Rows.valueShowsSpec) false w args)
      (Rows.valueShowsSpec.post enc Tryd.prog Tryd.f3 false true false false) := by
  refine returnsInHanded_of_change_and (C := Tryd.checked) (X := (fun w _ => laidMetH Tryd.prog Rows.valueShowsRow.laid w)) (fun _ _ _ hh h => h.of_heap hh) ValueShows_own started (by kernel_rfl) Tryd.func3
    (ChangeSpec.witness_shaped (enc := enc) (C := Tryd.checked) (os := os) (X := (fun w _ => laidMetH Tryd.prog Rows.valueShowsRow.laid w)) false (World.laidAll Tryd.prog os Rows.valueShowsRow.laid) #[.agg #[.int .i8 0, .int .i64 0, .string ⟨#[]⟩]] 8 (World.laidAll_os _ _ _)
      (World.shaped_of_ZipB (by kernel_rfl) (by kernel_rfl)) (by kernel_rfl) (by kernel_rfl) (by kernel_rfl)
      (by rw [MakeChecks.laidMetH_plain _ _ _ (by kernel_rfl)]; exact laidMet_laidAll _ (by kernel_rfl) (by kernel_rfl))) ?_
  intro W base args ds gs before hval0 hW _ hsz hL _
  have hW' := hW
  obtain ⟨p, q, hA0, hV, rfl, _, _⟩ := hW
  have hA : DataW.TrodAll enc Tryd.prog W 0 (fun _ => true) true [25] args.toList ds p := hA0
  obtain ⟨rfl, rfl⟩ := trodVars_none hV
  rw [List.append_nil] at hsz
  rw [MakeChecks.laidMetH_plain _ _ _ (by kernel_rfl)] at hL
  refine (ValueShows_row_walk W base args ds p hval0 hA hsz hL).mono fun e W' ⟨he, hf⟩ => ?_
  subst he
  obtain ⟨v0, vs0, d0, ds0, p0, q0, _, rfl, _, _, r0⟩ := trodAll_cons hA
  obtain ⟨_, rfl, _⟩ := trodAll_nil r0
  exact ⟨_, rfl, law_post (tb := 4) ValueShows_laidOut hW' rfl (by kernel_rfl) rfl Tryd.underlying4 rfl rfl rfl hf⟩
theorem ValueShows_said : Rows.ValueShowsSaid :=
  OpenClaim.holds_of_wide 3 Tryd.f3 rfl rfl rfl rfl rfl rfl rfl ⟨rfl, rfl, rfl, rfl, rfl⟩ rfl rfl rfl rfl rfl (by kernel_rfl) Tryd.func3 (by kernel_rfl)
    (of_decide_eq_true (by kernel_rfl)) (by unfold Func.isWrapper; first | (rw [if_pos (by decide +kernel)]; kernel_rfl) | (rw [if_neg (by decide +kernel)]; exact ⟨rfl, rfl⟩))
    (fun os started H enc _ => ValueShows_lifted os started H enc)
theorem ValueShows_plain (f : FuncId) (fn : Func) (hf : Tryd.pinned.checked.prog.funcNamed "pedigree/pedigreelaw01.ValueShows" = some f) (hfn : Tryd.pinned.checked.prog.funcs[f]? = some fn) :
    Rows.valueShowsCard.stood.looks = Tryd.pinned.checked.prog.looks [] ∧ ∀ (j : Nat) t, fn.params[j]? = some t → Tryd.pinned.checked.prog.wantsStandIn t = false := by
  obtain rfl : f = 3 := Option.some.inj ((show Tryd.prog.funcNamed "pedigree/pedigreelaw01.ValueShows" = some 3 by kernel_rfl).symm.trans hf) |>.symm
  obtain rfl : fn = Tryd.f3 := (Option.some.inj (Tryd.func3.symm.trans hfn)).symm
  refine ⟨by kernel_rfl, fun j t ht => ?_⟩
  have hall : (Tryd.f3.params.toList.all fun t => !Tryd.prog.wantsStandIn t) = true := by kernel_rfl
  have := List.all_eq_true.1 hall t (by simpa using Array.mem_of_getElem? ht)
  exact (by simpa using this : Tryd.prog.wantsStandIn t = false)
theorem ValueShows_holds : Rows.ValueShowsCardSaid :=
  Claim7.holds_tied_plain_at .later [] _ _ _ _ ValueShows_said (fun _ h => by cases h) (by kernel_rfl) (fun _ h => by cases h) valueShows_row_tie rfl ⟨rfl, rfl⟩ (by kernel_rfl) rfl ValueShows_plain (by kernel_rfl)

end Go.Proofs.YtailfcodbibnjaaDoor
