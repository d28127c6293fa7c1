/- The law ValueSorts holds: tuples, and facts, in their order, each once; what is handed in is left as it was. No condition. -/
import Derived.Test.YtlihkmldclocoaaDoorRFacts
import Derived.Test.YtlihkmldclocoaaDoorTwinG
import Derived.Test.YtlihkmldclocoaaDoorCards
import Derived.Test.YtlihkmldclocoaaDoorTie
import Derived.SevenTiedAt
import Derived.Lay
import Derived.LaidOnce
import Derived.ChangeMaps5
namespace Go.Proofs.YtlihkmldclocoaaDoor
open Go.RowKit Go.ChangeShapes Go.WideShapes Go.ChangeAt Go.ChangeMaps
set_option linter.unusedSimpArgs false
set_option linter.unusedVariables false

theorem parts_len (fs : List Fc) : fs.length ≤ parts fs := by
  induction fs with
  | nil => simp
  | cons f r ih => simp only [List.length_cons, parts]; omega
theorem parts_mem {fs : List Fc} {f : Fc} (h : f ∈ fs) : f.a.length ≤ parts fs := by
  induction fs with
  | nil => simp at h
  | cons g r ih =>
    simp only [parts]
    rcases List.mem_cons.1 h with rfl | h
    · omega
    · have := ih h; omega
set_option maxHeartbeats 1000000 in
set_option maxRecDepth 100000 in
theorem valueSorts_any (a b : Value) (ts : List (List V)) (fs : List Fc) (w : World) (hP : Pows w) (ha : TupsA w a ts) (hb : Facs w b fs) :
    Calls Tryd.prog 6 #[a, b] w fun e w' => e = .returned (.bool true) ∧ Fut w w' := by
  have HP := Lib.hid hP
  have HA := Lib.hid ha.tups
  have HB := Lib.hid hb.g
  have HBT := Lib.hid (fun w' (f : Fut w w') => beyondT_any a ts w' (ha.tups.fut RT.stays f) ha.small)
  have HBF := Lib.hid (fun w' (f : Fut w w') => beyondF_any b fs w' (hb.fut RF.stays f))
  clear hP ha hb
  by_cases h1 : 1048576 < partsT ts
  · rw [decide_eq_true h1] at HBT
    go_enter Tryd.func6, Tryd.ntmps6
    go_wp2_with fail
    refine (HBT.out _ (Fut.refl _)).mono ?_
    rintro e w1 ⟨rfl, rfl⟩
    go_wp2
    go_ret
    exact ⟨rfl, Fut.refl _⟩
  · rw [decide_eq_false h1] at HBT
    by_cases h2 : 1048576 < parts fs
    · rw [decide_eq_true h2] at HBF
      go_enter Tryd.func6, Tryd.ntmps6
      go_wp2_with fail
      refine (HBT.out _ (Fut.refl _)).mono ?_
      rintro e w1 ⟨rfl, rfl⟩
      go_wp2_with fail
      refine (HBF.out _ (Fut.refl _)).mono ?_
      rintro e w1 ⟨rfl, rfl⟩
      go_wp2
      go_ret
      exact ⟨rfl, Fut.refl _⟩
    · rw [decide_eq_false h2] at HBF
      have lt := partsT_len ts
      have lf := parts_len fs
      have LT := Lib.hid (show ts.length ≤ 1048576 by omega)
      have LF := Lib.hid (show fs.length ≤ 1048576 by omega)
      have MT := Lib.hid (show ∀ t ∈ ts, t.length ≤ 1048576 from fun t ht => by have := partsT_mem ht; omega)
      have MF := Lib.hid (show ∀ t ∈ fs, t.a.length ≤ 1048576 from fun t ht => by have := parts_mem ht; omega)
      clear h1 h2 lt lf
      go_enter Tryd.func6, Tryd.ntmps6
      go_wp2_with fail
      refine (HBT.out _ (Fut.refl _)).mono ?_
      rintro e w1 ⟨rfl, rfl⟩
      go_wp2_with fail
      refine (HBF.out _ (Fut.refl _)).mono ?_
      rintro e w1 ⟨rfl, rfl⟩
      go_wp2_with fail
      refine (rtuples_any _ _ ts _ rfl (by have := LT.out; omega) HA.out (fun t ht => by have := MT.out t ht; omega)).mono ?_
      rintro e w2 ⟨vw, rfl, hW, f2⟩
      have HW := Lib.hid hW
      have F2 := Lib.hid f2
      clear hW f2
      go_wp2_with fail
      refine (rfacts_any _ _ fs _ rfl (by have := LF.out; omega) (HB.out.fut RG.stays F2.out) (fun t ht => by have := MF.out t ht; omega)).mono ?_
      rintro e w3 ⟨vm, rfl, hM, f3⟩
      have HM := Lib.hid hM
      have F3 := Lib.hid f3
      clear hM f3
      go_wp2_with fail
      refine (twinT_any _ ts _ (HA.out.fut RT.stays (F2.out.trans F3.out)) (by have := LT.out; omega) (fun t ht => by have := MT.out t ht; omega)).mono ?_
      rintro e w4 ⟨vt, rfl, hT, f4⟩
      have HT := Lib.hid hT
      have F4 := Lib.hid f4
      have F24 := Lib.hid ((F2.out.trans F3.out).trans f4)
      clear hT f4
      go_wp2_with fail
      refine (twinG_any _ fs _ (HP.out.fut F24.out) (HB.out.fut RG.stays F24.out) (by have := LF.out; omega) (fun t ht => by have := MF.out t ht; omega)).mono ?_
      rintro e w5 ⟨vg, rfl, hG, f5⟩
      have HG := Lib.hid hG
      have F5 := Lib.hid f5
      have F25 := Lib.hid (F24.out.trans f5)
      clear hG f5
      go_wp2_with fail
      refine (tuples_any _ ts _ ((HT.out.keep F5.out).tups HA.out.oks (fun t ht => by have := MT.out t ht; omega) (by have := LT.out; omega)) (by have := LT.out; omega) (fun t ht => by have := MT.out t ht; omega)).mono ?_
      rintro e w6 ⟨v6, rfl, h6, f6⟩
      have H6 := Lib.hid h6
      have F6 := Lib.hid f6
      clear h6 f6
      go_wp2_with fail
      refine (sameT_any _ _ _ _ _ (OwnT.tups H6.out) (OwnT.tups (HW.out.fut RTo.stays (((F3.out.trans F4.out).trans F5.out).trans F6.out)))).mono ?_
      rintro e w7 ⟨rfl, f7⟩
      rw [decide_eq_true rfl]
      have F7 := Lib.hid (F6.out.trans f7)
      clear f7
      go_wp2_with fail
      refine (leftT_any _ _ _ ts _ (HT.out.keep (F5.out.trans F7.out)) (HA.out.fut RT.stays (F25.out.trans F7.out)) (by have := LT.out; omega) (fun t ht => by have := MT.out t ht; omega)).mono ?_
      rintro e w8 ⟨rfl, f8⟩
      have F8 := Lib.hid (F7.out.trans f8)
      clear f8
      go_wp2_with fail
      refine (facts_any _ fs _ ((HG.out.keep F8.out).facs HB.out.oks (fun t ht => by have := MF.out t ht; omega) (by have := LF.out; omega)) (by have := LF.out; omega) (fun t ht => by have := MF.out t ht; omega)).mono ?_
      rintro e w9 ⟨v9, rfl, h9, f9⟩
      have H9 := Lib.hid h9
      have F9 := Lib.hid (F8.out.trans f9)
      clear h9 f9
      go_wp2_with fail
      refine (sameFs_any _ _ _ _ _ (OwnG.facs H9.out) (OwnG.facs (HM.out.fut RGo.stays ((F4.out.trans F5.out).trans F9.out)))).mono ?_
      rintro e w10 ⟨rfl, f10⟩
      rw [decide_eq_true rfl]
      have F10 := Lib.hid (F9.out.trans f10)
      clear f10
      go_wp2_with fail
      refine (leftG_any _ _ _ fs _ (HP.out.fut (F25.out.trans F10.out)) (HG.out.keep F10.out) (HB.out.fut RG.stays (F25.out.trans F10.out)) (by have := LF.out; omega) (fun t ht => by have := MF.out t ht; omega)).mono ?_
      rintro e w11 ⟨rfl, f11⟩
      go_wp2
      go_ret
      exact ⟨rfl, (F25.out.trans F10.out).trans f11⟩
theorem cellsT1 : Tryd.prog.cellsOf 24 = 1 := by kernel_rfl
theorem bytesT1 : Tryd.prog.bytesOf 24 = 24 := by kernel_rfl
theorem cellsG1 : Tryd.prog.cellsOf 54 = 2 := by kernel_rfl
theorem bytesG1 : Tryd.prog.bytesOf 54 = 40 := by kernel_rfl
theorem rT1 : Reads Tryd.prog 43 (SlR 1 5864062014805 (SlR 3 4398046511104 RV)) :=
  reads_slice Tryd.underlying43 cellsT1 (by omega) (fun c h => by rw [bytesT1] at h; unfold reachBytes at h; omega) (rVs.imp fun w cs d ⟨v, h1, h2⟩ => ⟨v, h1, h2.more (by omega)⟩)
theorem rG1 : Reads Tryd.prog 44 (SlR 2 3518437208883 RF) :=
  reads_slice Tryd.underlying44 cellsG1 (by omega) (fun c h => by rw [bytesG1] at h; unfold reachBytes at h; omega)
    (reads_F Tryd.underlying54 (by kernel_rfl) Tryd.underlying9 (rVs.imp fun w cs d ⟨v, h1, h2⟩ => ⟨v, h1, h2.more (by omega)⟩) rfl rfl (by kernel_rfl) (by kernel_rfl))
theorem ValueSorts_own : ownKnob Tryd.prog.godebug = none := by kernel_rfl
theorem ValueSorts_laidOut : laidOutB Tryd.prog = true := by kernel_rfl
set_option maxRecDepth 100000 in
theorem ValueSorts_row_walk {H : Type} {enc : TypeId × Value → H} (W : World) (base : Nat) (args : Array Value) (ds : List (DataW H)) (p : List MemPlace)
    (hval : ∀ (j : Nat) t v, (#[43, 44] : Array Nat)[j]? = some t → args[j]? = some v → Value.okWide Tryd.prog W .any base t v)
    (hA : DataW.TrodAll enc Tryd.prog W 0 (fun _ => true) true [43, 44] args.toList ds p) (hS : (DataW.weightsEach Tryd.prog [43, 44] ds).all (fun n => decide (n ≤ reachBytes)) = true)
    (hL : laidMet Tryd.prog Rows.valueSortsRow.laid W) :
    Calls Tryd.prog 6 args W fun e W' => e = .returned (.bool true) ∧ Fut W W' := by
  obtain ⟨v0, vs0, d0, ds0, p0, q0, hargs, rfl, rfl, h0, r0⟩ := trodAll_cons hA
  obtain ⟨v1, vs1, d1, ds1, p1, q1, rfl, rfl, rfl, h1, r1⟩ := trodAll_cons r0
  obtain ⟨rfl, rfl, rfl⟩ := trodAll_nil r1
  obtain rfl : args = #[v0, v1] := Array.toList_inj.1 hargs
  have k0 := hval 0 43 v0 rfl rfl
  have k1 := hval 1 44 v1 rfl rfl
  have s0 := weights_arg hS 0 rfl rfl
  have s1 := weights_arg hS 1 rfl rfl
  clear hval hA hS
  obtain ⟨xs, hx⟩ := reads_arg rT1 h0 s0
  have hs := arg_slice hx Tryd.underlying43 k0
  obtain ⟨ys, hy⟩ := reads_arg rG1 h1 s1
  have ht := arg_slice hy Tryd.underlying44 k1
  exact valueSorts_any _ _ xs ys W (pows_of_laid hL (by simp [Rows.valueSortsRow])) hs ht
set_option maxRecDepth 100000 in
theorem ValueSorts_lifted (os : Os) (started : os.Started) (H : Type) (enc : TypeId × Value → H) :
    ReturnsInHanded {} Tryd.checked os 6 .any (fun w args => (Rows.valueSortsSpec.pre enc Tryd.prog Tryd.f6 [] false w args ∧ laidMetH Tryd.prog Rows.valueSortsRow.laid w) ∧ sizedMet enc Tryd.prog Tryd.f6 (OpenSpec.ofChange Rows.valueSortsSpec) false w args)
      (Rows.valueSortsSpec.post enc Tryd.prog Tryd.f6 false true false false) := by
  refine returnsInHanded_of_change_and (C := Tryd.checked) (X := (fun w _ => laidMetH Tryd.prog Rows.valueSortsRow.laid w)) (fun _ _ _ hh h => h.of_heap hh) ValueSorts_own started (by kernel_rfl) Tryd.func6
    (ChangeSpec.witness_shaped (enc := enc) (C := Tryd.checked) (os := os) (X := (fun w _ => laidMetH Tryd.prog Rows.valueSortsRow.laid w)) false (World.laidAll Tryd.prog os Rows.valueSortsRow.laid) #[.slice none 0 0, .slice none 0 0] 8 (World.laidAll_os _ _ _)
      (World.shaped_of_ZipB (by kernel_rfl) (by kernel_rfl)) (by kernel_rfl) (by kernel_rfl) (by kernel_rfl)
      (by rw [MakeChecks.laidMetH_plain _ _ _ (by kernel_rfl)]; exact laidMet_laidAll _ (by kernel_rfl) (by kernel_rfl))) ?_
  intro W base args ds gs before hval0 hW _ hsz hL _
  have hW' := hW
  obtain ⟨p, q, hA0, hV, rfl, _, _⟩ := hW
  have hA : DataW.TrodAll enc Tryd.prog W 0 (fun _ => true) true [43, 44] args.toList ds p := hA0
  obtain ⟨rfl, rfl⟩ := trodVars_none hV
  rw [List.append_nil] at hsz
  rw [MakeChecks.laidMetH_plain _ _ _ (by kernel_rfl)] at hL
  refine (ValueSorts_row_walk W base args ds p hval0 hA hsz hL).mono fun e W' ⟨he, hf⟩ => ?_
  subst he
  obtain ⟨v0, vs0, d0, ds0, p0, q0, _, rfl, _, _, r0⟩ := trodAll_cons hA
  obtain ⟨v1, vs1, d1, ds1, p1, q1, _, rfl, _, _, r1⟩ := trodAll_cons r0
  obtain ⟨_, rfl, _⟩ := trodAll_nil r1
  exact ⟨_, rfl, law_post (tb := 4) ValueSorts_laidOut hW' rfl (by kernel_rfl) rfl Tryd.underlying4 rfl rfl rfl hf⟩
theorem ValueSorts_said : Rows.ValueSortsSaid :=
  OpenClaim.holds_of_wide 6 Tryd.f6 rfl rfl rfl rfl rfl rfl rfl ⟨rfl, rfl, rfl, rfl, rfl⟩ rfl rfl rfl rfl rfl (by kernel_rfl) Tryd.func6 (by kernel_rfl)
    (of_decide_eq_true (by kernel_rfl)) (by unfold Func.isWrapper; first | (rw [if_pos (by decide +kernel)]; kernel_rfl) | (rw [if_neg (by decide +kernel)]; exact ⟨rfl, rfl⟩))
    (fun os started H enc _ => ValueSorts_lifted os started H enc)
theorem ValueSorts_plain (f : FuncId) (fn : Func) (hf : Tryd.pinned.checked.prog.funcNamed "pedigree/pedigreelaw01.ValueSorts" = some f) (hfn : Tryd.pinned.checked.prog.funcs[f]? = some fn) :
    Rows.valueSortsCard.stood.looks = Tryd.pinned.checked.prog.looks [] ∧ ∀ (j : Nat) t, fn.params[j]? = some t → Tryd.pinned.checked.prog.wantsStandIn t = false := by
  obtain rfl : f = 6 := Option.some.inj ((show Tryd.prog.funcNamed "pedigree/pedigreelaw01.ValueSorts" = some 6 by kernel_rfl).symm.trans hf) |>.symm
  obtain rfl : fn = Tryd.f6 := (Option.some.inj (Tryd.func6.symm.trans hfn)).symm
  refine ⟨by kernel_rfl, fun j t ht => ?_⟩
  have hall : (Tryd.f6.params.toList.all fun t => !Tryd.prog.wantsStandIn t) = true := by kernel_rfl
  have := List.all_eq_true.1 hall t (by simpa using Array.mem_of_getElem? ht)
  exact (by simpa using this : Tryd.prog.wantsStandIn t = false)
theorem ValueSorts_holds : Rows.ValueSortsCardSaid :=
  Claim7.holds_tied_plain_at .later [] _ _ _ _ ValueSorts_said (fun _ h => by cases h) (by kernel_rfl) (fun _ h => by cases h) valueSorts_row_tie rfl ⟨rfl, rfl⟩ (by kernel_rfl) rfl ValueSorts_plain (by kernel_rfl)
end Go.Proofs.YtlihkmldclocoaaDoor
