/- The law ValueColumns holds: the order of facts is one, and goes by the names, then by the first column in which they differ, then by how many there are; that of tuples likewise. No condition. -/
import Derived.Test.YtailfcodbibnjaaDoorColsLE
import Derived.Test.YtailfcodbibnjaaDoorColsLZ
import Derived.Test.YtailfcodbibnjaaDoorColsLN
import Derived.Test.YtailfcodbibnjaaDoorColsEE
import Derived.Test.YtailfcodbibnjaaDoorColsEZ
import Derived.Test.YtailfcodbibnjaaDoorColsEN
import Derived.Test.YtailfcodbibnjaaDoorColsGE
import Derived.Test.YtailfcodbibnjaaDoorColsGZ
import Derived.Test.YtailfcodbibnjaaDoorColsGN
import Derived.Test.YtailfcodbibnjaaDoorCards
import Derived.Test.YtailfcodbibnjaaDoorTie
import Derived.SevenTiedAt
import Derived.Lay
import Derived.LaidOnce
namespace Go.Proofs.YtailfcodbibnjaaDoor
open Go.RowKit Go.ChangeShapes Go.WideShapes Go.ChangeAt
set_option linter.unusedSimpArgs false
set_option linter.unusedVariables false

set_option maxHeartbeats 1000000 in
set_option maxRecDepth 100000 in
theorem cols_beyond (x y z : Fc) (A B C : Option Addr) (ca cb cc : Nat) (w : World) (hx : ValsA w (.slice A x.a.length ca) x.a) (hy : ValsA w (.slice B y.a.length cb) y.a) (hz : ValsA w (.slice C z.a.length cc) z.a)
    (hp : x.p.size ≤ 140737488351232 ∧ y.p.size ≤ 140737488351232 ∧ z.p.size ≤ 140737488351232) (hb : 1048576 < parts [x, y, z]) :
    Calls Tryd.prog 6 #[.agg #[.string x.p, .slice A x.a.length ca], .agg #[.string y.p, .slice B y.a.length cb], .agg #[.string z.p, .slice C z.a.length cc]] w fun e w' => e = .returned (.bool true) ∧ Fut w w' := by
  have hf3 : ∀ X Y Z, Fut w (((w.alloc X).alloc Y).alloc Z) := fun X Y Z => ((Fut.alloc _ _).trans (Fut.alloc _ _)).trans (Fut.alloc _ _)
  have hf4 : ∀ X Y Z U, Fut w ((((w.alloc X).alloc Y).alloc Z).alloc U) := fun X Y Z U => (hf3 X Y Z).trans (Fut.alloc _ _)
  have hbd : decide (1048576 < parts [x, y, z]) = true := decide_eq_true hb
  have HX := Lib.hid hx; have HY := Lib.hid hy; have HZ := Lib.hid hz; have HP := Lib.hid hp
  clear hx hy hz hp hb
  go_enter Tryd.func6, Tryd.ntmps6
  go_wp2_with fail
  refine (beyondF_any _ [x, y, z] _ ?_).mono ?_
  · exact facs_three _ _ x y z _ _ _ (by simp) (HX.out.fut RV.stays (hf3 _ _ _)) (HY.out.fut RV.stays (hf3 _ _ _)) (HZ.out.fut RV.stays (hf3 _ _ _)) HP.out.1 HP.out.2.1 HP.out.2.2
  rintro e w1 ⟨rfl, rfl⟩
  rw [hbd]
  go_wp2
  go_ret
  exact ⟨rfl, hf4 _ _ _ _⟩

theorem valueColumns_any (x y z : Fc) (u v t : Value) (w : World) (hT : Takes w) (hx : ValsA w u x.a) (hy : ValsA w v y.a) (hz : ValsA w t z.a) (hp : x.p.size ≤ 140737488351232) (hq : y.p.size ≤ 140737488351232) (hr : z.p.size ≤ 140737488351232) :
    Calls Tryd.prog 6 #[.agg #[.string x.p, u], .agg #[.string y.p, v], .agg #[.string z.p, t]] w fun e w' => e = .returned (.bool true) ∧ Fut w w' := by
  obtain ⟨A, ca, rfl, _, _⟩ := SlRep.form hx
  obtain ⟨B, cb, rfl, _, _⟩ := SlRep.form hy
  obtain ⟨C, cc, rfl, _, _⟩ := SlRep.form hz
  by_cases hb : 1048576 < parts [x, y, z]
  · exact cols_beyond x y z A B C ca cb cc w hx hy hz ⟨hp, hq, hr⟩ hb
  · have sp := cmpF_spec x y
    have key : ∀ (P : Prop), (z.a = [] → P) → (∀ v, z.a[0]? = some v → cmpV v (numV 0) = 0 → P) → (∀ v, z.a[0]? = some v → cmpV v (numV 0) ≠ 0 → P) → P := fun P h1 h2 h3 => by
      cases hza : z.a with
      | nil => exact h1 hza
      | cons a r =>
        by_cases h : cmpV a (numV 0) = 0
        · exact h2 a (by rw [hza]; rfl) h
        · exact h3 a (by rw [hza]; rfl) h
    by_cases c1 : Op.bytesLess x.p.toList y.p.toList = true
    · rw [if_pos c1] at sp
      have q2 : (x.p.toList == y.p.toList) = false := by
        rw [beq_eq_false_iff_ne]; intro e; rw [e, bytesLess_irrefl] at c1; cases c1
      exact key _ (colsLE x y z A B C ca cb cc w hT hx hy hz ⟨hp, hq, hr⟩ hb c1 q2 sp) (fun v => colsLZ x y z A B C ca cb cc w hT hx hy hz ⟨hp, hq, hr⟩ hb c1 q2 sp v) (fun v => colsLN x y z A B C ca cb cc w hT hx hy hz ⟨hp, hq, hr⟩ hb c1 q2 sp v)
    · rw [if_neg c1] at sp
      have q1 : Op.bytesLess x.p.toList y.p.toList = false := by simpa using c1
      by_cases c2 : x.p.toList = y.p.toList
      · rw [if_neg (by rw [c2, bytesLess_irrefl]; decide)] at sp
        have q2 : (x.p.toList == y.p.toList) = true := by rw [c2]; simp
        exact key _ (colsEE x y z A B C ca cb cc w hT hx hy hz ⟨hp, hq, hr⟩ hb q1 q2 sp) (fun v => colsEZ x y z A B C ca cb cc w hT hx hy hz ⟨hp, hq, hr⟩ hb q1 q2 sp v) (fun v => colsEN x y z A B C ca cb cc w hT hx hy hz ⟨hp, hq, hr⟩ hb q1 q2 sp v)
      · have q2 : (x.p.toList == y.p.toList) = false := by simpa using c2
        exact key _ (colsGE x y z A B C ca cb cc w hT hx hy hz ⟨hp, hq, hr⟩ hb q1 q2 trivial) (fun v => colsGZ x y z A B C ca cb cc w hT hx hy hz ⟨hp, hq, hr⟩ hb q1 q2 trivial v) (fun v => colsGN x y z A B C ca cb cc w hT hx hy hz ⟨hp, hq, hr⟩ hb q1 q2 trivial v)
theorem rF : Reads Tryd.prog 46 RF := reads_F Tryd.underlying46 (by kernel_rfl) Tryd.underlying9 (rVs.imp fun w cs d ⟨v, h1, h2⟩ => ⟨v, h1, h2.more (by omega)⟩) rfl rfl (by kernel_rfl) (by kernel_rfl)
theorem ValueColumns_own : ownKnob Tryd.prog.godebug = none := by kernel_rfl
theorem ValueColumns_laidOut : laidOutB Tryd.prog = true := by kernel_rfl
set_option maxRecDepth 100000 in
theorem ValueColumns_row_walk {H : Type} {enc : TypeId × Value → H} (W : World) (base : Nat) (args : Array Value) (ds : List (DataW H)) (p : List MemPlace)
    (hval : ∀ (j : Nat) t v, (#[46, 46, 46] : Array Nat)[j]? = some t → args[j]? = some v → Value.okWide Tryd.prog W .any base t v)
    (hA : DataW.TrodAll enc Tryd.prog W 0 (fun _ => true) true [46, 46, 46] args.toList ds p) (hS : (DataW.weightsEach Tryd.prog [46, 46, 46] ds).all (fun n => decide (n ≤ reachBytes)) = true)
    (hL : laidMet Tryd.prog Rows.valueColumnsRow.laid W) :
    Calls Tryd.prog 6 args W fun e W' => e = .returned (.bool true) ∧ Fut W W' := by
  obtain ⟨v0, vs0, d0, ds0, p0, q0, hargs, rfl, rfl, h0, r0⟩ := trodAll_cons hA
  obtain ⟨v1, vs1, d1, ds1, p1, q1, rfl, rfl, rfl, h1, r1⟩ := trodAll_cons r0
  obtain ⟨v2, vs2, d2, ds2, p2, q2, rfl, rfl, rfl, h2, r2⟩ := trodAll_cons r1
  obtain ⟨rfl, rfl, rfl⟩ := trodAll_nil r2
  obtain rfl : args = #[v0, v1, v2] := Array.toList_inj.1 hargs
  have k0 := hval 0 46 v0 rfl rfl
  have k1 := hval 1 46 v1 rfl rfl
  have k2 := hval 2 46 v2 rfl rfl
  have s0 := weights_arg hS 0 rfl rfl
  have s1 := weights_arg hS 1 rfl rfl
  have s2 := weights_arg hS 2 rfl rfl
  clear hval hA hS
  obtain ⟨x, hx⟩ := reads_arg rF h0 s0
  obtain ⟨u, rfl, hp, hu⟩ := arg_F hx (arg_struct Tryd.underlying46 k0)
  obtain ⟨y, hy⟩ := reads_arg rF h1 s1
  obtain ⟨v, rfl, hq, hv⟩ := arg_F hy (arg_struct Tryd.underlying46 k1)
  obtain ⟨z, hz⟩ := reads_arg rF h2 s2
  obtain ⟨t, rfl, hr, ht⟩ := arg_F hz (arg_struct Tryd.underlying46 k2)
  exact valueColumns_any x y z u v t W (takes_of_laid hL (by simp [Rows.valueColumnsRow])) hu hv ht hp hq hr
set_option maxRecDepth 100000 in
theorem ValueColumns_lifted (os : Os) (started : os.Started) (H : Type) (enc : TypeId × Value → H) :
    ReturnsInHanded {} Tryd.checked os 6 .any (fun w args => (Rows.valueColumnsSpec.pre enc Tryd.prog Tryd.f6 [] false w args ∧ laidMetH Tryd.prog Rows.valueColumnsRow.laid w) ∧ sizedMet enc Tryd.prog Tryd.f6 (OpenSpec.ofChange Rows.valueColumnsSpec) false w args)
      (Rows.valueColumnsSpec.post enc Tryd.prog Tryd.f6 false true false false) := by
  refine returnsInHanded_of_change_and (C := Tryd.checked) (X := (fun w _ => laidMetH Tryd.prog Rows.valueColumnsRow.laid w)) (fun _ _ _ hh h => h.of_heap hh) ValueColumns_own started (by kernel_rfl) Tryd.func6
    (ChangeSpec.witness_shaped (enc := enc) (C := Tryd.checked) (os := os) (X := (fun w _ => laidMetH Tryd.prog Rows.valueColumnsRow.laid w)) false (World.laidAll Tryd.prog os Rows.valueColumnsRow.laid) #[.agg #[.string ⟨#[]⟩, .slice none 0 0], .agg #[.string ⟨#[]⟩, .slice none 0 0], .agg #[.string ⟨#[]⟩, .slice none 0 0]] 8 (World.laidAll_os _ _ _)
      (World.shaped_of_ZipB (by kernel_rfl) (by kernel_rfl)) (by kernel_rfl) (by kernel_rfl) (by kernel_rfl)
      (by rw [MakeChecks.laidMetH_plain _ _ _ (by kernel_rfl)]; exact laidMet_laidAll _ (by kernel_rfl) (by kernel_rfl))) ?_
  intro W base args ds gs before hval0 hW _ hsz hL _
  have hW' := hW
  obtain ⟨p, q, hA0, hV, rfl, _, _⟩ := hW
  have hA : DataW.TrodAll enc Tryd.prog W 0 (fun _ => true) true [46, 46, 46] args.toList ds p := hA0
  obtain ⟨rfl, rfl⟩ := trodVars_none hV
  rw [List.append_nil] at hsz
  rw [MakeChecks.laidMetH_plain _ _ _ (by kernel_rfl)] at hL
  refine (ValueColumns_row_walk W base args ds p hval0 hA hsz hL).mono fun e W' ⟨he, hf⟩ => ?_
  subst he
  obtain ⟨v0, vs0, d0, ds0, p0, q0, _, rfl, _, _, r0⟩ := trodAll_cons hA
  obtain ⟨v1, vs1, d1, ds1, p1, q1, _, rfl, _, _, r1⟩ := trodAll_cons r0
  obtain ⟨v2, vs2, d2, ds2, p2, q2, _, rfl, _, _, r2⟩ := trodAll_cons r1
  obtain ⟨_, rfl, _⟩ := trodAll_nil r2
  exact ⟨_, rfl, law_post (tb := 4) ValueColumns_laidOut hW' rfl (by kernel_rfl) rfl Tryd.underlying4 rfl rfl rfl hf⟩
theorem ValueColumns_said : Rows.ValueColumnsSaid :=
  OpenClaim.holds_of_wide 6 Tryd.f6 rfl rfl rfl rfl rfl rfl rfl ⟨rfl, rfl, rfl, rfl, rfl⟩ rfl rfl rfl rfl rfl (by kernel_rfl) Tryd.func6 (by kernel_rfl)
    (of_decide_eq_true (by kernel_rfl)) (by unfold Func.isWrapper; first | (rw [if_pos (by decide +kernel)]; kernel_rfl) | (rw [if_neg (by decide +kernel)]; exact ⟨rfl, rfl⟩))
    (fun os started H enc _ => ValueColumns_lifted os started H enc)
theorem ValueColumns_plain (f : FuncId) (fn : Func) (hf : Tryd.pinned.checked.prog.funcNamed "pedigree/pedigreelaw01.ValueColumns" = some f) (hfn : Tryd.pinned.checked.prog.funcs[f]? = some fn) :
    Rows.valueColumnsCard.stood.looks = Tryd.pinned.checked.prog.looks [] ∧ ∀ (j : Nat) t, fn.params[j]? = some t → Tryd.pinned.checked.prog.wantsStandIn t = false := by
  obtain rfl : f = 6 := Option.some.inj ((show Tryd.prog.funcNamed "pedigree/pedigreelaw01.ValueColumns" = some 6 by kernel_rfl).symm.trans hf) |>.symm
  obtain rfl : fn = Tryd.f6 := (Option.some.inj (Tryd.func6.symm.trans hfn)).symm
  refine ⟨by kernel_rfl, fun j t ht => ?_⟩
  have hall : (Tryd.f6.params.toList.all fun t => !Tryd.prog.wantsStandIn t) = true := by kernel_rfl
  have := List.all_eq_true.1 hall t (by simpa using Array.mem_of_getElem? ht)
  exact (by simpa using this : Tryd.prog.wantsStandIn t = false)
theorem ValueColumns_holds : Rows.ValueColumnsCardSaid :=
  Claim7.holds_tied_plain_at .later [] _ _ _ _ ValueColumns_said (fun _ h => by cases h) (by kernel_rfl) (fun _ h => by cases h) valueColumns_row_tie rfl ⟨rfl, rfl⟩ (by kernel_rfl) rfl ValueColumns_plain (by kernel_rfl)

end Go.Proofs.YtailfcodbibnjaaDoor
