/- The law ValueTexts holds: a text behind another has both's bytes, and no more characters than both; a text has at most as many characters as bytes, and at least a fourth; turned round it has the same bytes in number, and turned round twice, where every character is a code point's, it is what it was. No condition. -/
import Derived.Test.YtailfcodbibnjaaDoorTextsPL
import Derived.Test.YtailfcodbibnjaaDoorTextsPE
import Derived.Test.YtailfcodbibnjaaDoorTextsPN
import Derived.Test.YtailfcodbibnjaaDoorTextsQL
import Derived.Test.YtailfcodbibnjaaDoorTextsQE
import Derived.Test.YtailfcodbibnjaaDoorTextsQN
import Derived.Test.YtailfcodbibnjaaDoorCards
import Derived.Test.YtailfcodbibnjaaDoorTie
import Derived.SevenTiedAt
import Derived.Lay
import Derived.LaidOnce
import Derived.ChangeMaps5
namespace Go.Proofs.YtailfcodbibnjaaDoor
open Go.RowKit Go.ChangeShapes Go.WideShapes Go.ChangeAt Go.ChangeMaps
set_option linter.unusedSimpArgs false
set_option linter.unusedVariables false

theorem txt_okL (s : ByteArray) (hs : s.size ≤ 140737488351232) : (txtV s).ok :=
  ⟨show (Lit.int .i8 2).wf = true by decide, show (Lit.int .i64 0).wf = true by decide, hs⟩
theorem not_good (s : ByteArray) (h : ¬ s.size ≤ 200) : good 2 (txtV s) = false := by simp [good, txtV, chk, h]
set_option maxHeartbeats 1000000 in
set_option maxRecDepth 100000 in
theorem texts_long (s t : ByteArray) (w : World) (hT : Takes w) (hs' : s.size ≤ 140737488351232) (ht' : t.size ≤ 140737488351232) (hs : ¬ s.size ≤ 200) :
    Calls Tryd.prog 5 #[.string s, .string t] w fun e w' => e = .returned (.bool true) ∧ Fut w w' := by
  have HT := Lib.hid hT
  have hG := Lib.hid (not_good s hs)
  have hf : Hid (fitsV 2 2 [txtV s, txtV t] = false) := Lib.hid (by simp [fitsV, hG.out])
  have HO := Lib.hid (And.intro (txt_okL s hs') (txt_okL t ht'))
  have d1 : (200 : Int) < s.size := by omega
  skip
  clear hG hT
  go_enter Tryd.func5, Tryd.ntmps5
  go_wp2_with fail
  refine (lives_any _ HT.out).mono ?_
  rintro e w1 ⟨rfl, F1⟩
  go_wp2_with fail
  refine (word_any s _).mono ?_
  rintro e w11 ⟨rfl, h11⟩
  have F11 := F1.trans h11
  go_wp2_with fail
  refine (word_any t _).mono ?_
  rintro e w12 ⟨rfl, h12⟩
  have F12 := F11.trans h12
  have V12 := Lib.hid (fun e => vals_two w12 (txtV s) (txtV t) HO.out.1 HO.out.2 e)
  have T7 := Lib.hid (fun (o o' : Obj) => ((HT.out.fut (F12.trans (Fut.alloc _ o))).fut (Fut.alloc _ o')) 7 (by omega))
  simp only [txtV] at V12
  simp only [txtV, V.val]
  go_wp2_with fail
  refine (arith_no4 7 _ [txtV s, txtV t] _ (by omega) (by omega) (fun o => T7.out _ o) (V12.out _) hf.out).mono ?_
  rintro e w13 ⟨rfl, h13⟩
  have F13 := F12.trans ((Fut.alloc _ _).trans h13)
  simp only [pairV, noV, V.val]
  go_wp2
  go_ret
  exact ⟨by first | rfl | simp, F13.trans (Fut.alloc _ _)⟩
set_option maxHeartbeats 1000000 in
set_option maxRecDepth 100000 in
theorem texts_long2 (s t : ByteArray) (w : World) (hT : Takes w) (hs' : s.size ≤ 140737488351232) (ht' : t.size ≤ 140737488351232) (hs : s.size ≤ 200) (ht : ¬ t.size ≤ 200) :
    Calls Tryd.prog 5 #[.string s, .string t] w fun e w' => e = .returned (.bool true) ∧ Fut w w' := by
  have HT := Lib.hid hT
  have hG := Lib.hid (not_good t ht)
  have hf : Hid (fitsV 2 2 [txtV s, txtV t] = false) := Lib.hid (by simp [fitsV, hG.out])
  have HO := Lib.hid (And.intro (txt_okL s hs') (txt_okL t ht'))
  have d1 : ¬ (200 : Int) < s.size := by omega
  have d2 : (200 : Int) < t.size := by omega
  clear hG hT
  go_enter Tryd.func5, Tryd.ntmps5
  go_wp2_with fail
  refine (lives_any _ HT.out).mono ?_
  rintro e w1 ⟨rfl, F1⟩
  go_wp2_with fail
  refine (word_any s _).mono ?_
  rintro e w11 ⟨rfl, h11⟩
  have F11 := F1.trans h11
  go_wp2_with fail
  refine (word_any t _).mono ?_
  rintro e w12 ⟨rfl, h12⟩
  have F12 := F11.trans h12
  have V12 := Lib.hid (fun e => vals_two w12 (txtV s) (txtV t) HO.out.1 HO.out.2 e)
  have T7 := Lib.hid (fun (o o' : Obj) => ((HT.out.fut (F12.trans (Fut.alloc _ o))).fut (Fut.alloc _ o')) 7 (by omega))
  simp only [txtV] at V12
  simp only [txtV, V.val]
  go_wp2_with fail
  refine (arith_no4 7 _ [txtV s, txtV t] _ (by omega) (by omega) (fun o => T7.out _ o) (V12.out _) hf.out).mono ?_
  rintro e w13 ⟨rfl, h13⟩
  have F13 := F12.trans ((Fut.alloc _ _).trans h13)
  simp only [pairV, noV, V.val]
  go_wp2
  go_ret
  exact ⟨by first | rfl | simp, F13.trans (Fut.alloc _ _)⟩

theorem valueTexts_any (s t : ByteArray) (w : World) (hT : Takes w) (hs' : s.size ≤ 140737488351232) (ht' : t.size ≤ 140737488351232) :
    Calls Tryd.prog 5 #[.string s, .string t] w fun e w' => e = .returned (.bool true) ∧ Fut w w' := by
  by_cases hs : s.size ≤ 200
  · by_cases ht : t.size ≤ 200
    · have hm : nch (s ++ t) ≤ nch s + nch t := by
        unfold nch
        rw [show (s ++ t).data.toList = s.data.toList ++ t.data.toList by simp]
        exact chars_more _ _
      have ha : points s.data.toList = true → points t.data.toList = true → nch (s ++ t) = nch s + nch t := fun h k => by
        unfold nch
        rw [show (s ++ t).data.toList = s.data.toList ++ t.data.toList by simp]
        exact chars_append h k
      by_cases hd : s.size + t.size ≤ 200
      · by_cases he : nch (s ++ t) = nch s + nch t
        · cases hp : points s.data.toList with
          | true => exact textsPE s t w hT hs ht hp hd he
          | false => exact textsQE s t w hT hs ht hp hd he
        · have hlt : nch (s ++ t) < nch s + nch t := by omega
          cases hp : points s.data.toList with
          | true =>
            cases hq : points t.data.toList with
            | true => exact absurd (ha hp hq) he
            | false => exact textsPN s t w hT hs ht hp hd hlt hq
          | false => exact textsQN s t w hT hs ht hp hd hlt
      · cases hp : points s.data.toList with
        | true => exact textsPL s t w hT hs ht hp (by omega)
        | false => exact textsQL s t w hT hs ht hp (by omega)
    · exact texts_long2 s t w hT hs' ht' hs ht
  · exact texts_long s t w hT hs' ht' hs
theorem ValueTexts_own : ownKnob Tryd.prog.godebug = none := by kernel_rfl
theorem ValueTexts_laidOut : laidOutB Tryd.prog = true := by kernel_rfl
set_option maxRecDepth 100000 in
theorem ValueTexts_row_walk {H : Type} {enc : TypeId × Value → H} (W : World) (base : Nat) (args : Array Value) (ds : List (DataW H)) (p : List MemPlace)
    (hval : ∀ (j : Nat) t v, (#[9, 9] : Array Nat)[j]? = some t → args[j]? = some v → Value.okWide Tryd.prog W .any base t v)
    (hA : DataW.TrodAll enc Tryd.prog W 0 (fun _ => true) true [9, 9] args.toList ds p) (hS : (DataW.weightsEach Tryd.prog [9, 9] ds).all (fun n => decide (n ≤ reachBytes)) = true)
    (hL : laidMet Tryd.prog Rows.valueTextsRow.laid W) :
    Calls Tryd.prog 5 args W fun e W' => e = .returned (.bool true) ∧ Fut W W' := by
  obtain ⟨v0, vs0, d0, ds0, p0, q0, hargs, rfl, rfl, h0, r0⟩ := trodAll_cons hA
  obtain ⟨v1, vs1, d1, ds1, p1, q1, rfl, rfl, rfl, h1, r1⟩ := trodAll_cons r0
  obtain ⟨rfl, rfl, rfl⟩ := trodAll_nil r1
  obtain rfl : args = #[v0, v1] := Array.toList_inj.1 hargs
  have k0 := hval 0 9 v0 rfl rfl
  have k1 := hval 1 9 v1 rfl rfl
  have s0 := weights_arg hS 0 rfl rfl
  have s1 := weights_arg hS 1 rfl rfl
  clear hval hA hS
  obtain ⟨s, q0⟩ := reads_arg (reads_string Tryd.underlying9) h0 s0
  obtain ⟨s', rfl, _⟩ := open_string Tryd.underlying9 k0 h0
  obtain ⟨t, q1⟩ := reads_arg (reads_string Tryd.underlying9) h1 s1
  obtain ⟨t', rfl, _⟩ := open_string Tryd.underlying9 k1 h1
  obtain rfl : s' = s := by simpa [Value.cells] using q0.1
  obtain rfl : t' = t := by simpa [Value.cells] using q1.1
  exact valueTexts_any s' t' W (takes_of_laid hL (by simp [Rows.valueTextsRow])) q0.2 q1.2
set_option maxRecDepth 100000 in
theorem ValueTexts_lifted (os : Os) (started : os.Started) (H : Type) (enc : TypeId × Value → H) :
    ReturnsInHanded {} Tryd.checked os 5 .any (fun w args => (Rows.valueTextsSpec.pre enc Tryd.prog Tryd.f5 [] false w args ∧ laidMetH Tryd.prog Rows.valueTextsRow.laid w) ∧ sizedMet enc Tryd.prog Tryd.f5 (OpenSpec.ofChange Rows.valueTextsSpec) false w args)
      (Rows.valueTextsSpec.post enc Tryd.prog Tryd.f5 false true false false) := by
  refine returnsInHanded_of_change_and (C := Tryd.checked) (X := (fun w _ => laidMetH Tryd.prog Rows.valueTextsRow.laid w)) (fun _ _ _ hh h => h.of_heap hh) ValueTexts_own started (by kernel_rfl) Tryd.func5
    (ChangeSpec.witness_shaped (enc := enc) (C := Tryd.checked) (os := os) (X := (fun w _ => laidMetH Tryd.prog Rows.valueTextsRow.laid w)) false (World.laidAll Tryd.prog os Rows.valueTextsRow.laid) #[.string ⟨#[]⟩, .string ⟨#[]⟩] 8 (World.laidAll_os _ _ _)
      (World.shaped_of_ZipB (by kernel_rfl) (by kernel_rfl)) (by kernel_rfl) (by kernel_rfl) (by kernel_rfl)
      (by rw [MakeChecks.laidMetH_plain _ _ _ (by kernel_rfl)]; exact laidMet_laidAll _ (by kernel_rfl) (by kernel_rfl))) ?_
  intro W base args ds gs before hval0 hW _ hsz hL _
  have hW' := hW
  obtain ⟨p, q, hA0, hV, rfl, _, _⟩ := hW
  have hA : DataW.TrodAll enc Tryd.prog W 0 (fun _ => true) true [9, 9] args.toList ds p := hA0
  obtain ⟨rfl, rfl⟩ := trodVars_none hV
  rw [List.append_nil] at hsz
  rw [MakeChecks.laidMetH_plain _ _ _ (by kernel_rfl)] at hL
  refine (ValueTexts_row_walk W base args ds p hval0 hA hsz hL).mono fun e W' ⟨he, hf⟩ => ?_
  subst he
  obtain ⟨v0, vs0, d0, ds0, p0, q0, _, rfl, _, _, r0⟩ := trodAll_cons hA
  obtain ⟨v1, vs1, d1, ds1, p1, q1, _, rfl, _, _, r1⟩ := trodAll_cons r0
  obtain ⟨_, rfl, _⟩ := trodAll_nil r1
  exact ⟨_, rfl, law_post (tb := 4) ValueTexts_laidOut hW' rfl (by kernel_rfl) rfl Tryd.underlying4 rfl rfl rfl hf⟩
theorem ValueTexts_said : Rows.ValueTextsSaid :=
  OpenClaim.holds_of_wide 5 Tryd.f5 rfl rfl rfl rfl rfl rfl rfl ⟨rfl, rfl, rfl, rfl, rfl⟩ rfl rfl rfl rfl rfl (by kernel_rfl) Tryd.func5 (by kernel_rfl)
    (of_decide_eq_true (by kernel_rfl)) (by unfold Func.isWrapper; first | (rw [if_pos (by decide +kernel)]; kernel_rfl) | (rw [if_neg (by decide +kernel)]; exact ⟨rfl, rfl⟩))
    (fun os started H enc _ => ValueTexts_lifted os started H enc)
theorem ValueTexts_plain (f : FuncId) (fn : Func) (hf : Tryd.pinned.checked.prog.funcNamed "pedigree/pedigreelaw01.ValueTexts" = some f) (hfn : Tryd.pinned.checked.prog.funcs[f]? = some fn) :
    Rows.valueTextsCard.stood.looks = Tryd.pinned.checked.prog.looks [] ∧ ∀ (j : Nat) t, fn.params[j]? = some t → Tryd.pinned.checked.prog.wantsStandIn t = false := by
  obtain rfl : f = 5 := Option.some.inj ((show Tryd.prog.funcNamed "pedigree/pedigreelaw01.ValueTexts" = some 5 by kernel_rfl).symm.trans hf) |>.symm
  obtain rfl : fn = Tryd.f5 := (Option.some.inj (Tryd.func5.symm.trans hfn)).symm
  refine ⟨by kernel_rfl, fun j t ht => ?_⟩
  have hall : (Tryd.f5.params.toList.all fun t => !Tryd.prog.wantsStandIn t) = true := by kernel_rfl
  have := List.all_eq_true.1 hall t (by simpa using Array.mem_of_getElem? ht)
  exact (by simpa using this : Tryd.prog.wantsStandIn t = false)
theorem ValueTexts_holds : Rows.ValueTextsCardSaid :=
  Claim7.holds_tied_plain_at .later [] _ _ _ _ ValueTexts_said (fun _ h => by cases h) (by kernel_rfl) (fun _ h => by cases h) valueTexts_row_tie rfl ⟨rfl, rfl⟩ (by kernel_rfl) rfl ValueTexts_plain (by kernel_rfl)

end Go.Proofs.YtailfcodbibnjaaDoor
