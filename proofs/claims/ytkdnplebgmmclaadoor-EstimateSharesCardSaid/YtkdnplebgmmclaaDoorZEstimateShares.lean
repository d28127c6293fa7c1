/- EstimateShares -/
import Derived.Test.YtkdnplebgmmclaaDoorCards
import Derived.Test.YtkdnplebgmmclaaDoorTie
import Derived.SevenTiedAt
import Derived.Lay
import Derived.LaidOnce
import Derived.ChangeMaps5
import Derived.Test.YtkdnplebgmmclaaDoorC20
/- The law EstimateShares holds: the mean and the spread of any column of any facts, which are left as they were. No condition. -/
namespace Go.Proofs.YtkdnplebgmmclaaDoor
open Go.RowKit Go.ChangeShapes Go.WideShapes Go.ChangeAt Go.ChangeMaps
set_option linter.unusedSimpArgs false
set_option linter.unusedVariables false

theorem parts_len (fs : List Fc) : fs.length ≤ parts fs := by
  induction fs with
  | nil => simp
  | cons f r ih => simp only [List.length_cons, parts]; omega
theorem parts_mem {fs : List Fc} {f : Fc} (h : f ∈ fs) : f.a.length ≤ parts fs := by
  induction fs with
  | nil => simp at h
  | cons g r ih =>
    simp only [parts]
    rcases List.mem_cons.1 h with rfl | h
    · omega
    · have := ih h; omega
theorem Bd_eq {x c j : Nat} (h : Fl.Bd x c j) : FloatKind.f64.format.order x x = some .eq := by
  obtain ⟨s, r, rfl, hr, _⟩ := h
  have := Fl.order_spec (s := s) (t := s) hr hr
  rw [show compare (Fl.sv s r) (Fl.sv s r) = .eq from by simp [compare, compareOfLessAndEq]] at this
  exact this
theorem share_eq {X : List Fc} (h : ∀ f ∈ X, ∀ v ∈ f.a, v.ok) (hX : X.length ≤ 1048576) (p : ByteArray) (c : Int) : FloatKind.f64.format.order (mOf (nums X p c)) (mOf (nums X p c)) = some .eq ∧ FloatKind.f64.format.order (sOf (nums X p c)) (sOf (nums X p c)) = some .eq := by
  have hbd := nums_bd h p c
  have hlen : (nums X p c).length ≤ 1048576 := Nat.le_trans (nums_len _ _ _) hX
  by_cases h0 : nums X p c = []
  · rw [h0]
    exact ⟨Bd_eq (Fl.Bd.zero 63), Bd_eq (Fl.Bd.zero 63)⟩
  · have hpos : 0 < ((nums X p c).map Fl.fl).length := by rw [List.length_map]; exact List.length_pos_iff.2 h0
    have hle : ((nums X p c).map Fl.fl).length ≤ 2 ^ 20 := by rw [List.length_map]; exact hlen
    have hm := (Fl.Bd.mean hbd hpos hle).2
    unfold mOf sOf
    rw [if_neg h0, if_neg h0]
    refine ⟨Bd_eq hm, ?_⟩
    unfold Fl.spreadF
    exact Bd_eq (spread_bd hm hpos hle _ hbd 0 0 (Fl.Bd.zero _) (by omega))
set_option maxHeartbeats 1000000 in
set_option maxRecDepth 100000 in
theorem shares_any (a : Value) (fs : List Fc) (p : ByteArray) (c : Int) (w : World) (hP : Pows w) (ha : Facs w a fs) :
    Calls Tryd.prog 4 #[a, .string p, .int .i64 c] w fun e w' => e = .returned (.bool true) ∧ Fut w w' := by
  have HP := Lib.hid hP
  have HB := Lib.hid ha.g
  have HBF := Lib.hid (fun w' (f : Fut w w') => beyondF_any a fs w' (ha.fut RF.stays f))
  clear hP ha
  by_cases h2 : 1048576 < parts fs
  · rw [decide_eq_true h2] at HBF
    go_enter Tryd.func4, Tryd.ntmps4
    go_wp2_with fail
    refine (HBF.out _ (Fut.refl _)).mono ?_
    rintro e w1 ⟨rfl, rfl⟩
    go_wp2
    go_ret
    exact ⟨rfl, Fut.refl _⟩
  · rw [decide_eq_false h2] at HBF
    have lf := parts_len fs
    have LF := Lib.hid (show fs.length ≤ 1048576 by omega)
    have MF := Lib.hid (show ∀ t ∈ fs, t.a.length ≤ 1048576 from fun t ht => by have := parts_mem ht; omega)
    have hE := share_eq (X := sortU cmpF fs) (fun f hf v hv => (FacsG.oks HB.out f (((sortU_spec (tot_of ordF) fs).2 f).1 hf)).2 v hv) (Nat.le_trans (sortU_len fs) LF.out) p c
    clear h2 lf
    go_enter Tryd.func4, Tryd.ntmps4
    go_wp2_with fail
    refine (HBF.out _ (Fut.refl _)).mono ?_
    rintro e w1 ⟨rfl, rfl⟩
    go_wp2_with fail
    refine (rshare_any _ fs p c _ HB.out LF.out (fun t ht => by have := MF.out t ht; omega)).mono ?_
    rintro e w2 ⟨rfl, f2⟩
    have F2 := Lib.hid f2
    have HR := Lib.hid (fun (a : Value) (w : World) (ha : FacsG w a fs) => share_any a fs p c w ha LF.out (fun t ht => by have := MF.out t ht; omega))
    generalize mOf (nums (sortU cmpF fs) p c) = m at *
    generalize sOf (nums (sortU cmpF fs) p c) = s at *
    generalize (nums (sortU cmpF fs) p c).length = n at *
    obtain ⟨hE1, hE2⟩ := hE
    clear f2
    go_wp2_with fail
    refine (twinG_any _ fs _ (HP.out.fut F2.out) (HB.out.fut RG.stays F2.out) (by have := LF.out; omega) (fun t ht => by have := MF.out t ht; omega)).mono ?_
    rintro e w3 ⟨vg, rfl, hG, f3⟩
    have HG := Lib.hid hG
    have F3 := Lib.hid (F2.out.trans f3)
    clear hG f3
    go_wp2_with fail
    refine (HR.out _ _ (HG.out.facs HB.out.oks (fun t ht => by have := MF.out t ht; omega) (by have := LF.out; omega))).mono ?_
    rintro e w4 ⟨rfl, f4⟩
    have F4 := Lib.hid f4
    clear f4
    go_wp2_with fail
    refine (leftG_any _ _ _ fs _ (HP.out.fut (F3.out.trans F4.out)) (HG.out.keep F4.out) (HB.out.fut RG.stays (F3.out.trans F4.out)) (by have := LF.out; omega) (fun t ht => by have := MF.out t ht; omega)).mono ?_
    rintro e w5 ⟨rfl, f5⟩
    have F5 := Lib.hid ((F3.out.trans F4.out).trans f5)
    clear f5
    go_wp2_with fail
    refine (lives25_any _).mono ?_
    rintro e w6 ⟨rfl, f6⟩
    go_wp2
    go_ret
    exact ⟨rfl, F5.out.trans f6⟩
theorem cellsG1 : Tryd.prog.cellsOf 31 = 2 := by kernel_rfl
theorem bytesG1 : Tryd.prog.bytesOf 31 = 40 := by kernel_rfl
theorem rG1 : Reads Tryd.prog 22 (SlR 2 3518437208883 RF) :=
  reads_slice Tryd.underlying22 cellsG1 (by omega) (fun c h => by rw [bytesG1] at h; unfold reachBytes at h; omega)
    (reads_F Tryd.underlying31 (by kernel_rfl) Tryd.underlying9 (rVs.imp fun w cs d ⟨v, h1, h2⟩ => ⟨v, h1, h2.more (by omega)⟩) rfl rfl (by kernel_rfl) (by kernel_rfl))
theorem EstimateShares_own : ownKnob Tryd.prog.godebug = none := by kernel_rfl
theorem EstimateShares_laidOut : laidOutB Tryd.prog = true := by kernel_rfl
set_option maxRecDepth 100000 in
theorem EstimateShares_row_walk {H : Type} {enc : TypeId × Value → H} (W : World) (base : Nat) (args : Array Value) (ds : List (DataW H)) (p : List MemPlace)
    (hval : ∀ (j : Nat) t v, (#[22, 9, 3] : Array Nat)[j]? = some t → args[j]? = some v → Value.okWide Tryd.prog W .any base t v)
    (hA : DataW.TrodAll enc Tryd.prog W 0 (fun _ => true) true [22, 9, 3] args.toList ds p) (hS : (DataW.weightsEach Tryd.prog [22, 9, 3] ds).all (fun n => decide (n ≤ reachBytes)) = true)
    (hL : laidMet Tryd.prog Rows.estimateSharesRow.laid W) :
    Calls Tryd.prog 4 args W fun e W' => e = .returned (.bool true) ∧ Fut W W' := by
  obtain ⟨v0, vs0, d0, ds0, p0, q0, hargs, rfl, rfl, h0, r0⟩ := trodAll_cons hA
  obtain ⟨v1, vs1, d1, ds1, p1, q1, rfl, rfl, rfl, h1, r1⟩ := trodAll_cons r0
  obtain ⟨v2, vs2, d2, ds2, p2, q2, rfl, rfl, rfl, h2, r2⟩ := trodAll_cons r1
  obtain ⟨rfl, rfl, rfl⟩ := trodAll_nil r2
  obtain rfl : args = #[v0, v1, v2] := Array.toList_inj.1 hargs
  have k0 := hval 0 22 v0 rfl rfl
  have k1 := hval 1 9 v1 rfl rfl
  have k2 := hval 2 3 v2 rfl rfl
  have s0 := weights_arg hS 0 rfl rfl
  have s1 := weights_arg hS 1 rfl rfl
  have s2 := weights_arg hS 2 rfl rfl
  clear hval hA hS
  obtain ⟨ys, hy⟩ := reads_arg rG1 h0 s0
  have ht := arg_slice hy Tryd.underlying22 k0
  obtain ⟨s, q0⟩ := reads_arg (reads_string Tryd.underlying9) h1 s1
  obtain ⟨s', rfl, _⟩ := open_string Tryd.underlying9 k1 h1
  obtain ⟨c, ec, _⟩ := reads_arg (reads_int Tryd.underlying3) h2 s2
  obtain ⟨n', rfl⟩ := okWide_int Tryd.underlying3 k2
  obtain rfl : n' = c := by simpa [Value.cells] using ec
  exact shares_any _ ys s' n' W (pows_of_laid hL (by simp [Rows.estimateSharesRow])) ht
set_option maxRecDepth 100000 in
theorem EstimateShares_lifted (os : Os) (started : os.Started) (H : Type) (enc : TypeId × Value → H) :
    ReturnsInHanded {} Tryd.checked os 4 .any (fun w args => (Rows.estimateSharesSpec.pre enc Tryd.prog Tryd.f4 [] false w args ∧ laidMetH Tryd.prog Rows.estimateSharesRow.laid w) ∧ sizedMet enc Tryd.prog Tryd.f4 (OpenSpec.ofChange Rows.estimateSharesSpec) false w args)
      (Rows.estimateSharesSpec.post enc Tryd.prog Tryd.f4 false true false false) := by
  refine returnsInHanded_of_change_and (C := Tryd.checked) (X := (fun w _ => laidMetH Tryd.prog Rows.estimateSharesRow.laid w)) (fun _ _ _ hh h => h.of_heap hh) EstimateShares_own started (by kernel_rfl) Tryd.func4
    (ChangeSpec.witness_shaped (enc := enc) (C := Tryd.checked) (os := os) (X := (fun w _ => laidMetH Tryd.prog Rows.estimateSharesRow.laid w)) false (World.laidAll Tryd.prog os Rows.estimateSharesRow.laid) #[.slice none 0 0, .string ⟨#[]⟩, .int .i64 0] 8 (World.laidAll_os _ _ _)
      (World.shaped_of_ZipB (by kernel_rfl) (by kernel_rfl)) (by kernel_rfl) (by kernel_rfl) (by kernel_rfl)
      (by rw [MakeChecks.laidMetH_plain _ _ _ (by kernel_rfl)]; exact laidMet_laidAll _ (by kernel_rfl) (by kernel_rfl))) ?_
  intro W base args ds gs before hval0 hW _ hsz hL _
  have hW' := hW
  obtain ⟨p, q, hA0, hV, rfl, _, _⟩ := hW
  have hA : DataW.TrodAll enc Tryd.prog W 0 (fun _ => true) true [22, 9, 3] args.toList ds p := hA0
  obtain ⟨rfl, rfl⟩ := trodVars_none hV
  rw [List.append_nil] at hsz
  rw [MakeChecks.laidMetH_plain _ _ _ (by kernel_rfl)] at hL
  refine (EstimateShares_row_walk W base args ds p hval0 hA hsz hL).mono fun e W' ⟨he, hf⟩ => ?_
  subst he
  obtain ⟨v0, vs0, d0, ds0, p0, q0, _, rfl, _, _, r0⟩ := trodAll_cons hA
  obtain ⟨v1, vs1, d1, ds1, p1, q1, _, rfl, _, _, r1⟩ := trodAll_cons r0
  obtain ⟨v2, vs2, d2, ds2, p2, q2, _, rfl, _, _, r2⟩ := trodAll_cons r1
  obtain ⟨_, rfl, _⟩ := trodAll_nil r2
  exact ⟨_, rfl, law_post (tb := 4) EstimateShares_laidOut hW' rfl (by kernel_rfl) rfl Tryd.underlying4 rfl rfl rfl hf⟩
theorem EstimateShares_said : Rows.EstimateSharesSaid :=
  OpenClaim.holds_of_wide 4 Tryd.f4 rfl rfl rfl rfl rfl rfl rfl ⟨rfl, rfl, rfl, rfl, rfl⟩ rfl rfl rfl rfl rfl (by kernel_rfl) Tryd.func4 (by kernel_rfl)
    (of_decide_eq_true (by kernel_rfl)) (by unfold Func.isWrapper; first | (rw [if_pos (by decide +kernel)]; kernel_rfl) | (rw [if_neg (by decide +kernel)]; exact ⟨rfl, rfl⟩))
    (fun os started H enc _ => EstimateShares_lifted os started H enc)
theorem EstimateShares_plain (f : FuncId) (fn : Func) (hf : Tryd.pinned.checked.prog.funcNamed "pedigree/pedigreelaw25.EstimateShares" = some f) (hfn : Tryd.pinned.checked.prog.funcs[f]? = some fn) :
    Rows.estimateSharesCard.stood.looks = Tryd.pinned.checked.prog.looks [] ∧ ∀ (j : Nat) t, fn.params[j]? = some t → Tryd.pinned.checked.prog.wantsStandIn t = false := by
  obtain rfl : f = 4 := Option.some.inj ((show Tryd.prog.funcNamed "pedigree/pedigreelaw25.EstimateShares" = some 4 by kernel_rfl).symm.trans hf) |>.symm
  obtain rfl : fn = Tryd.f4 := (Option.some.inj (Tryd.func4.symm.trans hfn)).symm
  refine ⟨by kernel_rfl, fun j t ht => ?_⟩
  have hall : (Tryd.f4.params.toList.all fun t => !Tryd.prog.wantsStandIn t) = true := by kernel_rfl
  have := List.all_eq_true.1 hall t (by simpa using Array.mem_of_getElem? ht)
  exact (by simpa using this : Tryd.prog.wantsStandIn t = false)
theorem EstimateShares_holds : Rows.EstimateSharesCardSaid :=
  Claim7.holds_tied_plain_at .later [] _ _ _ _ EstimateShares_said (fun _ h => by cases h) (by kernel_rfl) (fun _ h => by cases h) estimateShares_row_tie rfl ⟨rfl, rfl⟩ (by kernel_rfl) rfl EstimateShares_plain (by kernel_rfl)
end Go.Proofs.YtkdnplebgmmclaaDoor
