/- The law ValueThere holds: Read undoes Show, and Show Read; what is shown has bytes from 32 to 126 alone. No condition. -/
import Derived.Test.YtlihkmldclocoaaDoorThere1
import Derived.Test.YtlihkmldclocoaaDoorTotal0
import Derived.Test.YtlihkmldclocoaaDoorCards
import Derived.Test.YtlihkmldclocoaaDoorTie
import Derived.SevenTiedAt
import Derived.LaidOnce
import Derived.ChangeMaps5
namespace Go.Proofs.YtlihkmldclocoaaDoor
open Go.RowKit Go.ChangeShapes Go.WideShapes Go.ChangeAt Go.ChangeMaps
set_option linter.unusedSimpArgs false
set_option linter.unusedVariables false

theorem valueThere_any (x : V) (s : ByteArray) (w : World) (hT : Takes w) (hP : Pows w) (hE : Errs w) (hx : x.ok) (hs : s.size ≤ 140737488351232) :
    Calls Tryd.prog 5 #[x.val, .string s] w fun e w' => e = .returned (.bool true) ∧ Fut w w' := by
  by_cases hc : chk x.k x.n x.s = 0
  · obtain ⟨t, h1, h2, h3, h4, h5⟩ := show_ok x hx hc
    rcases read_cases s with ⟨y, hr, hy, hcy⟩ | hr
    · exact there11 x s w hT hP hE hx hs t hc h1 h2 h3 h4 h5 y hr hy hcy
    · exact there10 x s w hT hP hE hx hs t hc h1 h2 h3 h4 h5 hr
  · have h10 := chk_ten _ _ _ hc
    have h1 := show_err x hc
    rcases read_cases s with ⟨y, hr, hy, hcy⟩ | hr
    · exact there01 x s w hT hP hE hx hs h10 h1 y hr hy hcy
    · exact there00 x s w hT hP hE hx hs h10 h1 hr
theorem ValueThere_own : ownKnob Tryd.prog.godebug = none := by kernel_rfl
theorem ValueThere_laidOut : laidOutB Tryd.prog = true := by kernel_rfl
set_option maxRecDepth 100000 in
theorem ValueThere_row_walk {H : Type} {enc : TypeId × Value → H} (W : World) (base : Nat) (args : Array Value) (ds : List (DataW H)) (p : List MemPlace)
    (hval : ∀ (j : Nat) t v, (#[27, 9] : Array Nat)[j]? = some t → args[j]? = some v → Value.okWide Tryd.prog W .any base t v)
    (hA : DataW.TrodAll enc Tryd.prog W 0 (fun _ => true) true [27, 9] args.toList ds p) (hS : (DataW.weightsEach Tryd.prog [27, 9] ds).all (fun n => decide (n ≤ reachBytes)) = true)
    (hL : laidMet Tryd.prog Rows.valueThereRow.laid W) :
    Calls Tryd.prog 5 args W fun e W' => e = .returned (.bool true) ∧ Fut W W' := by
  obtain ⟨v0, vs0, d0, ds0, p0, q0, hargs, rfl, rfl, h0, r0⟩ := trodAll_cons hA
  obtain ⟨v1, vs1, d1, ds1, p1, q1, rfl, rfl, rfl, h1, r1⟩ := trodAll_cons r0
  obtain ⟨rfl, rfl, rfl⟩ := trodAll_nil r1
  obtain rfl : args = #[v0, v1] := Array.toList_inj.1 hargs
  have k0 := hval 0 27 v0 rfl rfl
  have k1 := hval 1 9 v1 rfl rfl
  have s0 := weights_arg hS 0 rfl rfl
  have s1 := weights_arg hS 1 rfl rfl
  clear hval hA hS
  obtain ⟨x, hx⟩ := reads_arg rV h0 s0
  obtain rfl := arg_V hx (arg_struct Tryd.underlying27 k0)
  obtain ⟨t, q1⟩ := reads_arg (reads_string Tryd.underlying9) h1 s1
  obtain ⟨t', rfl, _⟩ := open_string Tryd.underlying9 k1 h1
  obtain rfl : t' = t := by simpa [Value.cells] using q1.1
  exact valueThere_any x t' W (takes_of_laid hL (by simp [Rows.valueThereRow])) (pows_of_laid hL (by simp [Rows.valueThereRow])) (errs_of_laid hL.tail.tail.tail) hx.2 q1.2
set_option maxRecDepth 100000 in
theorem ValueThere_lifted (os : Os) (started : os.Started) (H : Type) (enc : TypeId × Value → H) :
    ReturnsInHanded {} Tryd.checked os 5 .any (fun w args => (Rows.valueThereSpec.pre enc Tryd.prog Tryd.f5 [] false w args ∧ laidMetH Tryd.prog Rows.valueThereRow.laid w) ∧ sizedMet enc Tryd.prog Tryd.f5 (OpenSpec.ofChange Rows.valueThereSpec) false w args)
      (Rows.valueThereSpec.post enc Tryd.prog Tryd.f5 false true false false) := by
  refine returnsInHanded_of_change_and (C := Tryd.checked) (X := (fun w _ => laidMetH Tryd.prog Rows.valueThereRow.laid w)) (fun _ _ _ hh h => h.of_heap hh) ValueThere_own started (by kernel_rfl) Tryd.func5
    (ChangeSpec.witness_shaped (enc := enc) (C := Tryd.checked) (os := os) (X := (fun w _ => laidMetH Tryd.prog Rows.valueThereRow.laid w)) false (World.laidAll Tryd.prog os Rows.valueThereRow.laid) #[.agg #[.int .i8 0, .int .i64 0, .string ⟨#[]⟩], .string ⟨#[]⟩] 8 (World.laidAll_os _ _ _)
      (World.shaped_of_ZipB (by kernel_rfl) (by kernel_rfl)) (by kernel_rfl) (by kernel_rfl) (by kernel_rfl)
      (by rw [MakeChecks.laidMetH_plain _ _ _ (by kernel_rfl)]; exact laidMet_laidAll _ (by kernel_rfl) (by kernel_rfl))) ?_
  intro W base args ds gs before hval0 hW _ hsz hL _
  have hW' := hW
  obtain ⟨p, q, hA0, hV, rfl, _, _⟩ := hW
  have hA : DataW.TrodAll enc Tryd.prog W 0 (fun _ => true) true [27, 9] args.toList ds p := hA0
  obtain ⟨rfl, rfl⟩ := trodVars_none hV
  rw [List.append_nil] at hsz
  rw [MakeChecks.laidMetH_plain _ _ _ (by kernel_rfl)] at hL
  refine (ValueThere_row_walk W base args ds p hval0 hA hsz hL).mono fun e W' ⟨he, hf⟩ => ?_
  subst he
  obtain ⟨v0, vs0, d0, ds0, p0, q0, _, rfl, _, _, r0⟩ := trodAll_cons hA
  obtain ⟨v1, vs1, d1, ds1, p1, q1, _, rfl, _, _, r1⟩ := trodAll_cons r0
  obtain ⟨_, rfl, _⟩ := trodAll_nil r1
  exact ⟨_, rfl, law_post (tb := 4) ValueThere_laidOut hW' rfl (by kernel_rfl) rfl Tryd.underlying4 rfl rfl rfl hf⟩
theorem ValueThere_said : Rows.ValueThereSaid :=
  OpenClaim.holds_of_wide 5 Tryd.f5 rfl rfl rfl rfl rfl rfl rfl ⟨rfl, rfl, rfl, rfl, rfl⟩ rfl rfl rfl rfl rfl (by kernel_rfl) Tryd.func5 (by kernel_rfl)
    (of_decide_eq_true (by kernel_rfl)) (by unfold Func.isWrapper; first | (rw [if_pos (by decide +kernel)]; kernel_rfl) | (rw [if_neg (by decide +kernel)]; exact ⟨rfl, rfl⟩))
    (fun os started H enc _ => ValueThere_lifted os started H enc)
theorem ValueThere_plain (f : FuncId) (fn : Func) (hf : Tryd.pinned.checked.prog.funcNamed "pedigree/pedigreelaw01.ValueThere" = some f) (hfn : Tryd.pinned.checked.prog.funcs[f]? = some fn) :
    Rows.valueThereCard.stood.looks = Tryd.pinned.checked.prog.looks [] ∧ ∀ (j : Nat) t, fn.params[j]? = some t → Tryd.pinned.checked.prog.wantsStandIn t = false := by
  obtain rfl : f = 5 := Option.some.inj ((show Tryd.prog.funcNamed "pedigree/pedigreelaw01.ValueThere" = some 5 by kernel_rfl).symm.trans hf) |>.symm
  obtain rfl : fn = Tryd.f5 := (Option.some.inj (Tryd.func5.symm.trans hfn)).symm
  refine ⟨by kernel_rfl, fun j t ht => ?_⟩
  have hall : (Tryd.f5.params.toList.all fun t => !Tryd.prog.wantsStandIn t) = true := by kernel_rfl
  have := List.all_eq_true.1 hall t (by simpa using Array.mem_of_getElem? ht)
  exact (by simpa using this : Tryd.prog.wantsStandIn t = false)
theorem ValueThere_holds : Rows.ValueThereCardSaid :=
  Claim7.holds_tied_plain_at .later [] _ _ _ _ ValueThere_said (fun _ h => by cases h) (by kernel_rfl) (fun _ h => by cases h) valueThere_row_tie rfl ⟨rfl, rfl⟩ (by kernel_rfl) rfl ValueThere_plain (by kernel_rfl)
end Go.Proofs.YtlihkmldclocoaaDoor
