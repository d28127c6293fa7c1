/- The law ValueTotal holds: the order of values is total, and each comparison holds as the order says. No condition. -/
import Derived.Test.YtailfcodbibnjaaDoorTotalA
import Derived.Test.YtailfcodbibnjaaDoorTotalB
import Derived.Test.YtailfcodbibnjaaDoorTotalC
import Derived.Test.YtailfcodbibnjaaDoorTotalD
import Derived.Test.YtailfcodbibnjaaDoorTotalE
import Derived.Test.YtailfcodbibnjaaDoorTotalF
import Derived.Test.YtailfcodbibnjaaDoorTotalG
import Derived.Test.YtailfcodbibnjaaDoorCards
import Derived.Test.YtailfcodbibnjaaDoorTie
import Derived.SevenTiedAt
import Derived.Lay
import Derived.LaidOnce
namespace Go.Proofs.YtailfcodbibnjaaDoor
open Go.RowKit Go.ChangeShapes Go.WideShapes Go.ChangeAt
set_option linter.unusedSimpArgs false
set_option linter.unusedVariables false

theorem valueTotal_any (x y z : V) (w : World) (hT : Takes w) (hx : x.ok) (hy : y.ok) :
    Calls Tryd.prog 7 #[x.val, y.val, z.val] w fun e w' => e = .returned (.bool true) ∧ Fut w w' := by
  have sp := cmpV_spec x.k x.n x.s y.k y.n y.s
  change cmpV x y = _ at sp
  by_cases a1 : x.k < y.k
  · rw [if_pos a1] at sp
    exact total1 x y z w hT hx hy sp (by simpa using a1) (by simp; omega)
  · rw [if_neg a1] at sp
    by_cases a2 : y.k < x.k
    · rw [if_pos a2] at sp
      exact total7 x y z w hT hx hy sp (by simpa using a1) (by simp; omega)
    · rw [if_neg a2] at sp
      have e1 : decide (x.k < y.k) = false := by simpa using a1
      have e2 : (x.k == y.k) = true := by simp; omega
      by_cases b1 : x.n < y.n
      · rw [if_pos b1] at sp
        exact total2 x y z w hT hx hy sp e1 e2 (by simpa using b1) (by simp; omega)
      · rw [if_neg b1] at sp
        have e3 : decide (x.n < y.n) = false := by simpa using b1
        by_cases b2 : y.n < x.n
        · rw [if_pos b2] at sp
          exact total5 x y z w hT hx hy sp e1 e2 e3 (by simp; omega)
        · rw [if_neg b2] at sp
          have e4 : (x.n == y.n) = true := by simp; omega
          by_cases c1 : Op.bytesLess x.s.toList y.s.toList = true
          · rw [if_pos c1] at sp
            exact total3 x y z w hT hx hy sp e1 e2 e3 e4 (by
              rw [beq_eq_false_iff_ne]
              intro e
              rw [e, bytesLess_irrefl] at c1
              cases c1)
          · rw [if_neg c1] at sp
            by_cases c2 : x.s.toList = y.s.toList
            · rw [if_pos c2] at sp
              exact total4 x y z w hT hx hy sp e1 e2 e3 e4 (by rw [c2]; simp)
            · rw [if_neg c2] at sp
              exact total6 x y z w hT hx hy sp e1 e2 e3 e4 (by simpa using c2)
theorem ValueTotal_own : ownKnob Tryd.prog.godebug = none := by kernel_rfl
theorem ValueTotal_laidOut : laidOutB Tryd.prog = true := by kernel_rfl
set_option maxRecDepth 100000 in
theorem ValueTotal_row_walk {H : Type} {enc : TypeId × Value → H} (W : World) (base : Nat) (args : Array Value) (ds : List (DataW H)) (p : List MemPlace)
    (hval : ∀ (j : Nat) t v, (#[25, 25, 25] : Array Nat)[j]? = some t → args[j]? = some v → Value.okWide Tryd.prog W .any base t v)
    (hA : DataW.TrodAll enc Tryd.prog W 0 (fun _ => true) true [25, 25, 25] args.toList ds p) (hS : (DataW.weightsEach Tryd.prog [25, 25, 25] ds).all (fun n => decide (n ≤ reachBytes)) = true)
    (hL : laidMet Tryd.prog Rows.valueTotalRow.laid W) :
    Calls Tryd.prog 7 args W fun e W' => e = .returned (.bool true) ∧ Fut W W' := by
  obtain ⟨v0, vs0, d0, ds0, p0, q0, hargs, rfl, rfl, h0, r0⟩ := trodAll_cons hA
  obtain ⟨v1, vs1, d1, ds1, p1, q1, rfl, rfl, rfl, h1, r1⟩ := trodAll_cons r0
  obtain ⟨v2, vs2, d2, ds2, p2, q2, rfl, rfl, rfl, h2, r2⟩ := trodAll_cons r1
  obtain ⟨rfl, rfl, rfl⟩ := trodAll_nil r2
  obtain rfl : args = #[v0, v1, v2] := Array.toList_inj.1 hargs
  have k0 := hval 0 25 v0 rfl rfl
  have k1 := hval 1 25 v1 rfl rfl
  have k2 := hval 2 25 v2 rfl rfl
  have s0 := weights_arg hS 0 rfl rfl
  have s1 := weights_arg hS 1 rfl rfl
  have s2 := weights_arg hS 2 rfl rfl
  clear hval hA hS
  obtain ⟨x, hx⟩ := reads_arg rV h0 s0
  obtain rfl := arg_V hx (arg_struct Tryd.underlying25 k0)
  obtain ⟨y, hy⟩ := reads_arg rV h1 s1
  obtain rfl := arg_V hy (arg_struct Tryd.underlying25 k1)
  obtain ⟨z, hz⟩ := reads_arg rV h2 s2
  obtain rfl := arg_V hz (arg_struct Tryd.underlying25 k2)
  exact valueTotal_any x y z W (takes_of_laid hL (by simp [Rows.valueTotalRow])) hx.2 hy.2
set_option maxRecDepth 100000 in
theorem ValueTotal_lifted (os : Os) (started : os.Started) (H : Type) (enc : TypeId × Value → H) :
    ReturnsInHanded {} Tryd.checked os 7 .any (fun w args => (Rows.valueTotalSpec.pre enc Tryd.prog Tryd.f7 [] false w args ∧ laidMetH Tryd.prog Rows.valueTotalRow.laid w) ∧ sizedMet enc Tryd.prog Tryd.f7 (OpenSpec.ofChange Rows.valueTotalSpec) false w args)
      (Rows.valueTotalSpec.post enc Tryd.prog Tryd.f7 false true false false) := by
  refine returnsInHanded_of_change_and (C := Tryd.checked) (X := (fun w _ => laidMetH Tryd.prog Rows.valueTotalRow.laid w)) (fun _ _ _ hh h => h.of_heap hh) ValueTotal_own started (by kernel_rfl) Tryd.func7
    (ChangeSpec.witness_shaped (enc := enc) (C := Tryd.checked) (os := os) (X := (fun w _ => laidMetH Tryd.prog Rows.valueTotalRow.laid w)) false (World.laidAll Tryd.prog os Rows.valueTotalRow.laid) #[.agg #[.int .i8 0, .int .i64 0, .string ⟨#[]⟩], .agg #[.int .i8 0, .int .i64 0, .string ⟨#[]⟩], .agg #[.int .i8 0, .int .i64 0, .string ⟨#[]⟩]] 8 (World.laidAll_os _ _ _)
      (World.shaped_of_ZipB (by kernel_rfl) (by kernel_rfl)) (by kernel_rfl) (by kernel_rfl) (by kernel_rfl)
      (by rw [MakeChecks.laidMetH_plain _ _ _ (by kernel_rfl)]; exact laidMet_laidAll _ (by kernel_rfl) (by kernel_rfl))) ?_
  intro W base args ds gs before hval0 hW _ hsz hL _
  have hW' := hW
  obtain ⟨p, q, hA0, hV, rfl, _, _⟩ := hW
  have hA : DataW.TrodAll enc Tryd.prog W 0 (fun _ => true) true [25, 25, 25] args.toList ds p := hA0
  obtain ⟨rfl, rfl⟩ := trodVars_none hV
  rw [List.append_nil] at hsz
  rw [MakeChecks.laidMetH_plain _ _ _ (by kernel_rfl)] at hL
  refine (ValueTotal_row_walk W base args ds p hval0 hA hsz hL).mono fun e W' ⟨he, hf⟩ => ?_
  subst he
  obtain ⟨v0, vs0, d0, ds0, p0, q0, _, rfl, _, _, r0⟩ := trodAll_cons hA
  obtain ⟨v1, vs1, d1, ds1, p1, q1, _, rfl, _, _, r1⟩ := trodAll_cons r0
  obtain ⟨v2, vs2, d2, ds2, p2, q2, _, rfl, _, _, r2⟩ := trodAll_cons r1
  obtain ⟨_, rfl, _⟩ := trodAll_nil r2
  exact ⟨_, rfl, law_post (tb := 4) ValueTotal_laidOut hW' rfl (by kernel_rfl) rfl Tryd.underlying4 rfl rfl rfl hf⟩
theorem ValueTotal_said : Rows.ValueTotalSaid :=
  OpenClaim.holds_of_wide 7 Tryd.f7 rfl rfl rfl rfl rfl rfl rfl ⟨rfl, rfl, rfl, rfl, rfl⟩ rfl rfl rfl rfl rfl (by kernel_rfl) Tryd.func7 (by kernel_rfl)
    (of_decide_eq_true (by kernel_rfl)) (by unfold Func.isWrapper; first | (rw [if_pos (by decide +kernel)]; kernel_rfl) | (rw [if_neg (by decide +kernel)]; exact ⟨rfl, rfl⟩))
    (fun os started H enc _ => ValueTotal_lifted os started H enc)
theorem ValueTotal_plain (f : FuncId) (fn : Func) (hf : Tryd.pinned.checked.prog.funcNamed "pedigree/pedigreelaw01.ValueTotal" = some f) (hfn : Tryd.pinned.checked.prog.funcs[f]? = some fn) :
    Rows.valueTotalCard.stood.looks = Tryd.pinned.checked.prog.looks [] ∧ ∀ (j : Nat) t, fn.params[j]? = some t → Tryd.pinned.checked.prog.wantsStandIn t = false := by
  obtain rfl : f = 7 := Option.some.inj ((show Tryd.prog.funcNamed "pedigree/pedigreelaw01.ValueTotal" = some 7 by kernel_rfl).symm.trans hf) |>.symm
  obtain rfl : fn = Tryd.f7 := (Option.some.inj (Tryd.func7.symm.trans hfn)).symm
  refine ⟨by kernel_rfl, fun j t ht => ?_⟩
  have hall : (Tryd.f7.params.toList.all fun t => !Tryd.prog.wantsStandIn t) = true := by kernel_rfl
  have := List.all_eq_true.1 hall t (by simpa using Array.mem_of_getElem? ht)
  exact (by simpa using this : Tryd.prog.wantsStandIn t = false)
theorem ValueTotal_holds : Rows.ValueTotalCardSaid :=
  Claim7.holds_tied_plain_at .later [] _ _ _ _ ValueTotal_said (fun _ h => by cases h) (by kernel_rfl) (fun _ h => by cases h) valueTotal_row_tie rfl ⟨rfl, rfl⟩ (by kernel_rfl) rfl ValueTotal_plain (by kernel_rfl)

end Go.Proofs.YtailfcodbibnjaaDoor
