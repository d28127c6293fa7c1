/- RelationOwn -/
import Derived.Test.YtijdichfaofjaaaGreatDoorCards
import Derived.Test.YtijdichfaofjaaaGreatDoorTie
import Derived.SevenTiedAt
import Derived.Lay
import Derived.LaidOnce
import Derived.ChangeMaps5
import Derived.Test.YtijdichfaofjaaaGreatDoorC18
/- The law RelationOwn holds: the lists that Select and Sorted answer are memory of their own: asked twice and of something else, all marked, all grown, all looked at; and the relation answers as before. No condition. -/
namespace Go.Proofs.YtijdichfaofjaaaGreatDoor
open Go.RowKit Go.WideMaps Go.ChangeShapes Go.WideShapes Go.ChangeAt Go.ChangeMaps Go.Deep
set_option linter.unusedSimpArgs false
set_option linter.unusedVariables false
set_option maxRecDepth 100000

theorem arg_row {P : Program} {k e : TypeId} (T : RowTy P k e) {w : World} {v : Value} {x : Rw} (h : RR w v.cells.toList x) (hv : ∃ cs, v = .agg cs) : v = Rw.val x := by
  obtain ⟨⟨cs⟩, rfl⟩ := hv
  have h1 : cs = Rw.cells x := by simpa [Value.cells] using h.1
  subst h1; rfl
theorem wf_u32' {a : Int} (h : (Lit.int .u32 a).wf = true) : 0 ≤ a ∧ a ≤ 4294967295 := by simpa [Lit.wf, IntKind.min, IntKind.max, IntKind.signed, IntKind.bits] using h
theorem RelationOwn_own : ownKnob Tryz.prog.godebug = none := by kernel_rfl
theorem RelationOwn_laidOut : laidOutB Tryz.prog = true := by kernel_rfl
set_option maxRecDepth 100000 in
theorem RelationOwn_row_walk {H : Type} {enc : TypeId × Value → H} (W : World) (base : Nat) (args : Array Value) (ds : List (DataW H)) (p : List MemPlace)
    (hval : ∀ (j : Nat) t v, (#[22, 24, 27] : Array Nat)[j]? = some t → args[j]? = some v → Value.okWide Tryz.prog W .any base t v)
    (hA : DataW.TrodAll enc Tryz.prog W 0 (fun _ => true) true [22, 24, 27] args.toList ds p) (hS : (DataW.weightsEach Tryz.prog [22, 24, 27] ds).all (fun n => decide (n ≤ reachBytes)) = true)
    (hL : laidMet Tryz.prog Rows.relationOwnRow.laid W) :
    Calls Tryz.prog 3 args W fun e W' => e = .returned (.bool true) ∧ Fut W W' := by
  obtain ⟨v0, vs0, d0, ds0, p0, q0, hargs, rfl, rfl, h0, r0⟩ := trodAll_cons hA
  obtain ⟨v1, vs1, d1, ds1, p1, q1, rfl, rfl, rfl, h1, r1⟩ := trodAll_cons r0
  obtain ⟨v2, vs2, d2, ds2, p2, q2, rfl, rfl, rfl, h2, r2⟩ := trodAll_cons r1
  obtain ⟨rfl, rfl, rfl⟩ := trodAll_nil r2
  obtain rfl : args = #[v0, v1, v2] := Array.toList_inj.1 hargs
  have k0 := hval 0 22 v0 rfl rfl
  have k1 := hval 1 24 v1 rfl rfl
  have k2 := hval 2 27 v2 rfl rfl
  have s0 := weights_arg hS 0 rfl rfl
  have s1 := weights_arg hS 1 rfl rfl
  have s2 := weights_arg hS 2 rfl rfl
  clear hval hA hS
  obtain ⟨l, hl⟩ := reads_arg rTns h0 s0
  have hl := arg_slice hl Tryz.underlying22 k0
  obtain ⟨m, em, hm⟩ := reads_arg (reads_int Tryz.underlying24) h1 s1
  obtain ⟨m', rfl⟩ := okWide_int Tryz.underlying24 k1
  have e1 : m' = m := by simpa [Value.cells] using em
  subst e1
  have hm2 := wf_u32' hm
  obtain ⟨x, hx⟩ := reads_arg (reads_row rowTy) h2 s2
  have hx0 := hx.2
  obtain ⟨cs, e2, _⟩ := okWide_arr rowTy.A k2
  obtain rfl := arg_row rowTy hx ⟨cs, e2⟩
  obtain ⟨n, rfl⟩ : ∃ n : Nat, m' = n := ⟨m'.toNat, by omega⟩
  exact own_walk v0 l n (by omega) x hx0 W _ hl hl.len
set_option maxRecDepth 100000 in
theorem RelationOwn_lifted (os : Os) (started : os.Started) (H : Type) (enc : TypeId × Value → H) :
    ReturnsInHanded {} Tryz.checked os 3 .any (fun w args => (Rows.relationOwnSpec.pre enc Tryz.prog Tryz.f3 [] false w args ∧ laidMetH Tryz.prog Rows.relationOwnRow.laid w) ∧ sizedMet enc Tryz.prog Tryz.f3 (OpenSpec.ofChange Rows.relationOwnSpec) false w args)
      (Rows.relationOwnSpec.post enc Tryz.prog Tryz.f3 false true false false) := by
  refine returnsInHanded_of_change_and (C := Tryz.checked) (X := (fun w _ => laidMetH Tryz.prog Rows.relationOwnRow.laid w)) (fun _ _ _ hh h => h.of_heap hh) RelationOwn_own started (by kernel_rfl) Tryz.func3
    (ChangeSpec.witness_shaped (enc := enc) (C := Tryz.checked) (os := os) (X := (fun w _ => laidMetH Tryz.prog Rows.relationOwnRow.laid w)) false (World.laidAll Tryz.prog os Rows.relationOwnRow.laid) #[.slice none 0 0, .int .u32 0, Rw.val zeroRow] 8 (World.laidAll_os _ _ _)
      (World.shaped_of_ZipB (by kernel_rfl) (by kernel_rfl)) (by kernel_rfl) (by kernel_rfl) (by kernel_rfl)
      (by rw [MakeChecks.laidMetH_plain _ _ _ (by kernel_rfl)]; exact laidMet_laidAll _ (by kernel_rfl) (by kernel_rfl))) ?_
  intro W base args ds gs before hval0 hW _ hsz hL _
  have hW' := hW
  obtain ⟨p, q, hA0, hV, rfl, _, _⟩ := hW
  have hA : DataW.TrodAll enc Tryz.prog W 0 (fun _ => true) true [22, 24, 27] args.toList ds p := hA0
  obtain ⟨rfl, rfl⟩ := trodVars_none hV
  rw [List.append_nil] at hsz
  rw [MakeChecks.laidMetH_plain _ _ _ (by kernel_rfl)] at hL
  refine (RelationOwn_row_walk W base args ds p hval0 hA hsz hL).mono fun e W' ⟨he, hf⟩ => ?_
  subst he
  obtain ⟨v0, vs0, d0, ds0, p0, q0, _, rfl, _, _, r0⟩ := trodAll_cons hA
  obtain ⟨v1, vs1, d1, ds1, p1, q1, _, rfl, _, _, r1⟩ := trodAll_cons r0
  obtain ⟨v2, vs2, d2, ds2, p2, q2, _, rfl, _, _, r2⟩ := trodAll_cons r1
  obtain ⟨_, rfl, _⟩ := trodAll_nil r2
  exact ⟨_, rfl, law_post (tb := 4) RelationOwn_laidOut hW' rfl (by kernel_rfl) rfl Tryz.underlying4 rfl rfl rfl hf⟩
theorem RelationOwn_said : Rows.RelationOwnSaid :=
  OpenClaim.holds_of_wide 3 Tryz.f3 rfl rfl rfl rfl rfl rfl rfl ⟨rfl, rfl, rfl, rfl, rfl⟩ rfl rfl rfl rfl rfl (by kernel_rfl) Tryz.func3 (by kernel_rfl)
    (of_decide_eq_true (by kernel_rfl)) (by unfold Func.isWrapper; first | (rw [if_pos (by decide +kernel)]; kernel_rfl) | (rw [if_neg (by decide +kernel)]; exact ⟨rfl, rfl⟩))
    (fun os started H enc _ => RelationOwn_lifted os started H enc)
theorem RelationOwn_plain (f : FuncId) (fn : Func) (hf : Tryz.pinned.checked.prog.funcNamed "pedigree/pedigreelaw10.RelationOwn" = some f) (hfn : Tryz.pinned.checked.prog.funcs[f]? = some fn) :
    Rows.relationOwnCard.stood.looks = Tryz.pinned.checked.prog.looks [] ∧ ∀ (j : Nat) t, fn.params[j]? = some t → Tryz.pinned.checked.prog.wantsStandIn t = false := by
  obtain rfl : f = 3 := Option.some.inj ((show Tryz.prog.funcNamed "pedigree/pedigreelaw10.RelationOwn" = some 3 by kernel_rfl).symm.trans hf) |>.symm
  obtain rfl : fn = Tryz.f3 := (Option.some.inj (Tryz.func3.symm.trans hfn)).symm
  refine ⟨by kernel_rfl, fun j t ht => ?_⟩
  have hall : (Tryz.f3.params.toList.all fun t => !Tryz.prog.wantsStandIn t) = true := by kernel_rfl
  have := List.all_eq_true.1 hall t (by simpa using Array.mem_of_getElem? ht)
  exact (by simpa using this : Tryz.prog.wantsStandIn t = false)
theorem RelationOwn_holds : Rows.RelationOwnCardSaid :=
  Claim7.holds_tied_plain_at .later [] _ _ _ _ RelationOwn_said (fun _ h => by cases h) (by kernel_rfl) (fun _ h => by cases h) relationOwn_row_tie rfl ⟨rfl, rfl⟩ (by kernel_rfl) rfl RelationOwn_plain (by kernel_rfl)
#print axioms RelationOwn_holds
end Go.Proofs.YtijdichfaofjaaaGreatDoor
