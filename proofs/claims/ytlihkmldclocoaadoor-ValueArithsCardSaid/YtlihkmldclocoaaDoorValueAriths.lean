/- The law ValueAriths holds: what every operation gives of any values, asked twice of a list that has been turned round in its place; and the list is left as it was. No condition. -/
import Derived.Test.YtlihkmldclocoaaDoorRArithB
import Derived.Test.YtlihkmldclocoaaDoorCards
import Derived.Test.YtlihkmldclocoaaDoorTie
import Derived.SevenTiedAt
import Derived.Lay
import Derived.LaidOnce
import Derived.ChangeMaps5
namespace Go.Proofs.YtlihkmldclocoaaDoor
open Go.RowKit Go.ChangeShapes Go.WideShapes Go.ChangeAt Go.ChangeMaps
set_option linter.unusedSimpArgs false
set_option linter.unusedVariables false

/-- One value written over in a row of values. -/
theorem flat_set (zs : List V) (k : Nat) (y : V) (hk : k < zs.length) (j : Nat) :
    (if j = k * 3 + 2 then Value.string y.s else if j = k * 3 + 1 then .int .i64 y.n else if j = k * 3 then .int .i8 y.k else flat zs j) = flat (zs.set k y) j := by
  obtain ⟨f0, f1, f2⟩ := flat_at (zs.set k y) k (by simpa using hk)
  simp only [List.getElem_set_self] at f0 f1 f2
  by_cases hjk : j / 3 = k
  · rcases (by omega : j = k * 3 + 2 ∨ j = k * 3 + 1 ∨ j = k * 3) with rfl | rfl | rfl
    · rw [if_pos rfl, f2]
    · rw [if_neg (by omega), if_pos rfl, f1]
    · rw [if_neg (by omega), if_neg (by omega), if_pos rfl, f0]
  · rw [if_neg (by omega), if_neg (by omega), if_neg (by omega)]
    unfold flat
    rw [List.getElem?_set_ne (by omega)]
theorem set_mid {ys xs : List V} (m : V) (k : Nat) (hl : ys.length = xs.length) (hk : k < ys.length) : (ys.take k ++ xs.drop k ++ [m]).set k ys[k] = ys.take (k + 1) ++ xs.drop (k + 1) ++ [m] := by
  rw [List.take_succ_eq_append_getElem hk, List.append_assoc, List.set_append_right _ _ (by rw [List.length_take]; omega), List.length_take, Nat.min_eq_left (by omega), Nat.sub_self, List.drop_eq_getElem_cons (show k < xs.length by omega)]
  simp only [List.cons_append, List.set_cons_zero, List.append_assoc, List.nil_append]
theorem box_at (w : World) (k n : Int) (s : ByteArray) (e : TypeId) : (w.alloc (.cells #[.int .i8 k, .int .i64 n, .string s] e)).cell? ⟨w.heap.size, 0, none⟩ = some (.int .i8 k) ∧ (w.alloc (.cells #[.int .i8 k, .int .i64 n, .string s] e)).cell? ⟨w.heap.size, 1, none⟩ = some (.int .i64 n) ∧ (w.alloc (.cells #[.int .i8 k, .int .i64 n, .string s] e)).cell? ⟨w.heap.size, 2, none⟩ = some (.string s) :=
  ⟨by go_simp, by go_simp, by go_simp⟩
set_option maxHeartbeats 1000000 in
set_option maxRecDepth 100000 in
theorem valueAriths_any (O : Int) (a : Value) (xs : List V) (w : World) (hT : Takes w) (h127 : O ≤ 127) (ha : Vals w a xs) (hlen : xs.length < 4398046511104) :
    Calls Tryd.prog 3 #[.int .i8 O, a] w fun e w' => e = .returned (.bool true) ∧ Fut w w' := by
  have HLen := Lib.hid hlen
  have HT := Lib.hid hT
  have hoks := Lib.hid ha.oks
  have HR := Lib.hid (fun a xs w (h : Vals w a xs) => rarith_all O a xs w h)
  have HV := Lib.hid (fun a xs w (hT : Takes w) (h : Vals w a xs) => arith_all O a xs w h127 hT h)
  obtain ⟨F, hF⟩ : ∃ F, arithV O = F := ⟨_, rfl⟩
  rw [hF] at HR HV
  clear hF h127 hT
  obtain ⟨ys, hys⟩ : ∃ ys, xs.reverse = ys := ⟨_, rfl⟩
  have hyl : ys.length = xs.length := by rw [← hys, List.length_reverse]
  have hyok := Lib.hid (show ∀ x ∈ ys, x.ok by rw [← hys]; intro x hx; exact hoks.out x (List.mem_reverse.1 hx))
  have hr1 := Lib.hid (fun a w h => HR.out a xs w h)
  have hr2 := Lib.hid (fun a w h => HR.out a ys w h)
  have hv1 := Lib.hid (fun a w hT h => HV.out a xs w hT h)
  have hv2 := Lib.hid (fun a w hT h => HV.out a ys w hT h)
  clear HR HV
  obtain ⟨r1, e1⟩ : ∃ r, F xs = r := ⟨_, rfl⟩
  obtain ⟨r2, e2⟩ : ∃ r, F ys = r := ⟨_, rfl⟩
  rw [e1] at hr1 hv1
  rw [e2] at hr2 hv2
  clear e1 e2
  obtain ⟨⟨k1, n1, s1⟩, b1⟩ := r1
  obtain ⟨⟨k2, n2, s2⟩, b2⟩ := r2
  simp only [pairR, pairV, V.val] at hr1 hr2 hv1 hv2
  have HYS := Lib.hid hys
  have HYL := Lib.hid hyl
  clear hys hyl
  have HA := Lib.hid ha
  obtain ⟨A, cap, rfl, hl, hm⟩ := SlRep.form ha
  clear ha hlen
  go_enter Tryd.func3, Tryd.ntmps3
  go_wp2_with fail
  refine (hr1.out _ _ HA.out).mono ?_
  rintro e w1 ⟨rfl, h1⟩
  go_wp2
  have hb1 := box_at w1 k1 n1 s1 27
  obtain ⟨W1, hW1⟩ : ∃ W, w1.alloc (.cells #[.int .i8 k1, .int .i64 n1, .string s1] 27) = W := ⟨_, rfl⟩
  have FW1 := Lib.hid (show Fut w W1 from hW1 ▸ h1.trans (Fut.alloc w1 _))
  rw [hW1] at hb1 ⊢
  have BX := Lib.hid hb1
  clear hW1 h1 hb1
  go_loopw [7, 8] (fun b i wr => ∃ k : Nat, k ≤ xs.length ∧ ((k = 0 ∧ i = .int .i64 (-1)) ∨ ∃ m, k = m + 1 ∧ i = .int .i64 (m : Nat)) ∧ Hid (OwnV W1.heap.size 27 wr b (xs.drop k).reverse) ∧ Hid (Fut W1 wr)) (fun _ i _ => (intOf i + 1).toNat)
  case atStart =>
    cases hll : xs.length with
    | zero => exact ⟨0, by omega, .inl ⟨rfl, by simp⟩, Lib.hid (by rw [List.eq_nil_of_length_eq_zero hll]; exact OwnL.nil), Lib.hid (Fut.refl _)⟩
    | succ m => exact ⟨m + 1, by omega, .inr ⟨m, rfl, by go_num⟩, Lib.hid (by rw [List.drop_of_length_le (by omega)]; exact OwnL.nil), Lib.hid (Fut.refl _)⟩
  case round =>
    obtain ⟨k, hk, hi, hO, hF⟩ := hrel
    rcases hi with ⟨rfl, rfl⟩ | ⟨m, rfl, rfl⟩
    · have hO2 := hO.out
      rw [List.drop_zero, HYS.out] at hO2
      have HO := Lib.hid hO2.vals
      obtain ⟨C, capC, rfl, hcl, hcm⟩ := SlRep.form HO.out
      clear hO hO2
      go_wp2_with fail
      refine (hr2.out _ _ HO.out).mono ?_
      rintro e w3 ⟨rfl, h3⟩
      have F3 := Lib.hid ((FW1.out.trans hF.out).trans h3)
      go_wp2_with fail
      refine (twin_any _ xs _ (HA.out.fut RV.stays (F3.out.trans (Fut.alloc _ _))) HLen.out).mono ?_
      rintro e w4 ⟨tv, rfl, ht, h4⟩
      have hb3 := box_at w3 k2 n2 s2 27
      obtain ⟨W3, hW3⟩ : ∃ W, w3.alloc (.cells #[.int .i8 k2, .int .i64 n2, .string s2] 27) = W := ⟨_, rfl⟩
      have F33 := Lib.hid (show Fut w3 W3 from hW3 ▸ Fut.alloc w3 _)
      rw [hW3] at ht h4 hb3
      have BX3 := Lib.hid hb3
      have F4 := Lib.hid h4
      have HTW := Lib.hid ht
      obtain ⟨g, hg, rfl, hblk⟩ := ht
      have HG := Lib.hid hg
      have HB := Lib.hid hblk
      clear hW3 hb3 h4 hg hblk
      go_wp2_with fail
      refine (hv1.out _ _ (HT.out.fut ((F3.out.trans F33.out).trans F4.out)) (HTW.out.vals hoks.out HLen.out)).mono ?_
      rintro e w5 ⟨rfl, h5⟩
      have F5 := Lib.hid (F4.out.trans h5)
      obtain ⟨p0, p1, p2⟩ := box_at w5 k1 n1 s1 27
      have FB := ((hF.out.trans h3).trans F33.out).trans (F5.out.trans (Fut.alloc w5 (.cells #[.int .i8 k1, .int .i64 n1, .string s1] 27)))
      have q0 := FB.cell BX.out.1
      have q1 := FB.cell BX.out.2.1
      have q2 := FB.cell BX.out.2.2
      clear FB
      have H5 := Lib.hid (h5.trans (Fut.alloc w5 (.cells #[.int .i8 k1, .int .i64 n1, .string s1] 27)))
      have F5a := Lib.hid (F5.out.trans (Fut.alloc w5 (.cells #[.int .i8 k1, .int .i64 n1, .string s1] 27)))
      go_wp2_with fail
      refine (left_any _ _ _ xs _ (HTW.out.fut H5.out) (HA.out.fut RV.stays ((F3.out.trans F33.out).trans F5a.out)) HLen.out).mono ?_
      rintro e w6 ⟨rfl, h6⟩
      have F6 := Lib.hid (F5a.out.trans h6)
      have HB6 := Lib.hid (HB.out.fut (H5.out.trans h6))
      clear p0 p1 p2 q0 q1 q2
      go_wp2
      go_loopw [14] (fun i wq => ∃ k : Nat, k ≤ xs.length ∧ i = .int .i64 k ∧ Hid (BlkF wq g 27 ((xs.length + 1) * 3) (flat (ys.take k ++ xs.drop k ++ [markV]))) ∧ Hid (Fut W3 wq)) (fun i _ => xs.length - (intOf i).toNat)
      case atStart => exact ⟨0, Nat.zero_le _, rfl, Lib.hid (HB6.out.congr fun j hj => by simp), F6⟩
      case round =>
        obtain ⟨k, hk, rfl, hb, hq⟩ := hrel
        by_cases hlt : k < xs.length
        · have hlt2 : k < ys.length := by rw [HYL.out]; exact hlt
          have hgB := HG.out
          obtain ⟨b, off, rfl, _, x0, x1, x2⟩ := Vals.at_ (HO.out.fut RV.stays ((h3.trans F33.out).trans hq.out)) hlt2
          have d0 := hb.out.cell (j := k * 3) (by omega)
          have d1 := hb.out.cell (j := k * 3 + 1) (by omega)
          have d2 := hb.out.cell (j := k * 3 + 2) (by omega)
          have e0 := hb.out.free (k * 3)
          have e1 := hb.out.free (k * 3 + 1)
          have e2 := hb.out.free (k * 3 + 2)
          have hst := Lib.hid (fun j => (flat_set (ys.take k ++ xs.drop k ++ [markV]) k ys[k] (by simp; omega) j).trans (congrArg (flat · j) (set_mid markV k HYL.out hlt2)))
          generalize ys[k] = y at x0 x1 x2 hst
          go_wp2
          exact ⟨⟨k + 1, by omega, by go_num, Lib.hid ((((hb.out.set _ _).set _ _).set _ _).congr fun j hj => hst.out j), Lib.hid (((hq.out.set hgB _).set hgB _).set hgB _)⟩, by simp [intOf]; omega⟩
        · obtain rfl : k = xs.length := by omega
          have HTW2 := Lib.hid (show TwinR W3.heap.size wr (.slice (some ⟨g, 0, none⟩) xs.length (xs.length + 1)) ys from
            ⟨g, HG.out, by rw [HYL.out], by
              have := hb.out
              rw [List.take_of_length_le (Nat.le_of_eq HYL.out), List.drop_of_length_le (Nat.le_refl _), List.append_nil] at this
              rw [HYL.out]; exact this⟩)
          have FT := Lib.hid ((F3.out.trans F33.out).trans hq.out)
          have HOW := Lib.hid (HO.out.fut RV.stays ((h3.trans F33.out).trans hq.out))
          have HBX := Lib.hid (And.intro (hq.out.cell BX3.out.1) (And.intro (hq.out.cell BX3.out.2.1) (hq.out.cell BX3.out.2.2)))
          clear hb
          go_wp2_with fail
          refine (hv2.out _ _ (HT.out.fut FT.out) (HTW2.out.vals hyok.out (by rw [HYL.out]; exact HLen.out))).mono ?_
          rintro e w8 ⟨rfl, h8⟩
          obtain ⟨p0, p1, p2⟩ := box_at w8 k2 n2 s2 27
          have F8 := Lib.hid (h8.trans (Fut.alloc w8 (.cells #[.int .i8 k2, .int .i64 n2, .string s2] 27)))
          have q0 := F8.out.cell HBX.out.1
          have q1 := F8.out.cell HBX.out.2.1
          have q2 := F8.out.cell HBX.out.2.2
          go_wp2_with fail
          refine (left_any _ _ _ ys _ (HTW2.out.fut F8.out) (HOW.out.fut RV.stays F8.out) (by rw [HYL.out]; exact HLen.out)).mono ?_
          rintro e w9 ⟨rfl, h9⟩
          go_wp2
          go_ret
          exact ⟨by first | rfl | simp, FT.out.trans (F8.out.trans h9)⟩
    · have hkl : m < xs.length := by omega
      obtain ⟨b, off, rfl, hok, x0, x1, x2⟩ := Vals.at_ (HA.out.fut RV.stays (FW1.out.trans hF.out)) hkl
      have hnx := Lib.hid (show (xs.drop m).reverse = (xs.drop (m + 1)).reverse ++ [xs[m]] by rw [List.drop_eq_getElem_cons hkl, List.reverse_cons])
      have hlx := Lib.hid (show (xs.drop (m + 1)).reverse.length ≤ xs.length by simp)
      generalize (xs.drop (m + 1)).reverse = zs at hO hnx hlx
      generalize xs[m] = x at hok x0 x1 x2 hnx
      go_wp2_with (at_builtin; refine wpList_append_V (by go_simp) _ _ 24 27 rfl Tryd.underlying24 infoV W1.heap.size _ _ zs [x] rfl rfl (hO.out.fut RV.stays (Fut.alloc _ _)) (own_one _ x hok _ _ (Nat.le_refl _)).vals ?l1 ?b1 ?k1)
      case l1 => have := hlx.out; have := HLen.out; simp; omega
      case b1 => have := (hF.out).size; simp; omega
      case k1 =>
      intro v' w' o' g'
      have F' := Lib.hid (Fut.grown ((hF.out).trans (Fut.alloc _ _)) g' (fun k hk => (hO.out.block k hk).1))
      rw [← hnx.out] at o'
      have O' := Lib.hid o'
      clear g' o'
      go_wp2
      refine ⟨⟨m, by omega, ?_, O', F'⟩, by simp [intOf] <;> omega⟩
      cases m with
      | zero => exact .inl ⟨rfl, by simp⟩
      | succ j => exact .inr ⟨j, rfl, by go_num⟩
theorem ValueAriths_own : ownKnob Tryd.prog.godebug = none := by kernel_rfl
theorem ValueAriths_laidOut : laidOutB Tryd.prog = true := by kernel_rfl
set_option maxRecDepth 100000 in
theorem ValueAriths_row_walk {H : Type} {enc : TypeId × Value → H} (W : World) (base : Nat) (args : Array Value) (ds : List (DataW H)) (p : List MemPlace)
    (hval : ∀ (j : Nat) t v, (#[23, 24] : Array Nat)[j]? = some t → args[j]? = some v → Value.okWide Tryd.prog W .any base t v)
    (hA : DataW.TrodAll enc Tryd.prog W 0 (fun _ => true) true [23, 24] args.toList ds p) (hS : (DataW.weightsEach Tryd.prog [23, 24] ds).all (fun n => decide (n ≤ reachBytes)) = true)
    (hL : laidMet Tryd.prog Rows.valueArithsRow.laid W) :
    Calls Tryd.prog 3 args W fun e W' => e = .returned (.bool true) ∧ Fut W W' := by
  obtain ⟨v0, vs0, d0, ds0, p0, q0, hargs, rfl, rfl, h0, r0⟩ := trodAll_cons hA
  obtain ⟨v1, vs1, d1, ds1, p1, q1, rfl, rfl, rfl, h1, r1⟩ := trodAll_cons r0
  obtain ⟨rfl, rfl, rfl⟩ := trodAll_nil r1
  obtain rfl : args = #[v0, v1] := Array.toList_inj.1 hargs
  have k0 := hval 0 23 v0 rfl rfl
  have k1 := hval 1 24 v1 rfl rfl
  have s0 := weights_arg hS 0 rfl rfl
  have s1 := weights_arg hS 1 rfl rfl
  clear hval hA hS
  obtain ⟨r, rfl, _, _, hwf⟩ := open_int Tryd.underlying23 k0 h0
  obtain ⟨xs, hx⟩ := reads_arg rVs h1 s1
  have hs := arg_slice hx Tryd.underlying24 k1
  have hlen := hs.len
  exact valueAriths_any r _ xs W (takes_of_laid hL (by simp [Rows.valueArithsRow])) (by simp [Lit.wf, IntKind.min, IntKind.max, IntKind.signed, IntKind.bits] at hwf; omega) (hs.more (by omega)) (by omega)
set_option maxRecDepth 100000 in
theorem ValueAriths_lifted (os : Os) (started : os.Started) (H : Type) (enc : TypeId × Value → H) :
    ReturnsInHanded {} Tryd.checked os 3 .any (fun w args => (Rows.valueArithsSpec.pre enc Tryd.prog Tryd.f3 [] false w args ∧ laidMetH Tryd.prog Rows.valueArithsRow.laid w) ∧ sizedMet enc Tryd.prog Tryd.f3 (OpenSpec.ofChange Rows.valueArithsSpec) false w args)
      (Rows.valueArithsSpec.post enc Tryd.prog Tryd.f3 false true false false) := by
  refine returnsInHanded_of_change_and (C := Tryd.checked) (X := (fun w _ => laidMetH Tryd.prog Rows.valueArithsRow.laid w)) (fun _ _ _ hh h => h.of_heap hh) ValueAriths_own started (by kernel_rfl) Tryd.func3
    (ChangeSpec.witness_shaped (enc := enc) (C := Tryd.checked) (os := os) (X := (fun w _ => laidMetH Tryd.prog Rows.valueArithsRow.laid w)) false (World.laidAll Tryd.prog os Rows.valueArithsRow.laid) #[.int .i8 0, .slice none 0 0] 8 (World.laidAll_os _ _ _)
      (World.shaped_of_ZipB (by kernel_rfl) (by kernel_rfl)) (by kernel_rfl) (by kernel_rfl) (by kernel_rfl)
      (by rw [MakeChecks.laidMetH_plain _ _ _ (by kernel_rfl)]; exact laidMet_laidAll _ (by kernel_rfl) (by kernel_rfl))) ?_
  intro W base args ds gs before hval0 hW _ hsz hL _
  have hW' := hW
  obtain ⟨p, q, hA0, hV, rfl, _, _⟩ := hW
  have hA : DataW.TrodAll enc Tryd.prog W 0 (fun _ => true) true [23, 24] args.toList ds p := hA0
  obtain ⟨rfl, rfl⟩ := trodVars_none hV
  rw [List.append_nil] at hsz
  rw [MakeChecks.laidMetH_plain _ _ _ (by kernel_rfl)] at hL
  refine (ValueAriths_row_walk W base args ds p hval0 hA hsz hL).mono fun e W' ⟨he, hf⟩ => ?_
  subst he
  obtain ⟨v0, vs0, d0, ds0, p0, q0, _, rfl, _, _, r0⟩ := trodAll_cons hA
  obtain ⟨v1, vs1, d1, ds1, p1, q1, _, rfl, _, _, r1⟩ := trodAll_cons r0
  obtain ⟨_, rfl, _⟩ := trodAll_nil r1
  exact ⟨_, rfl, law_post (tb := 4) ValueAriths_laidOut hW' rfl (by kernel_rfl) rfl Tryd.underlying4 rfl rfl rfl hf⟩
theorem ValueAriths_said : Rows.ValueArithsSaid :=
  OpenClaim.holds_of_wide 3 Tryd.f3 rfl rfl rfl rfl rfl rfl rfl ⟨rfl, rfl, rfl, rfl, rfl⟩ rfl rfl rfl rfl rfl (by kernel_rfl) Tryd.func3 (by kernel_rfl)
    (of_decide_eq_true (by kernel_rfl)) (by unfold Func.isWrapper; first | (rw [if_pos (by decide +kernel)]; kernel_rfl) | (rw [if_neg (by decide +kernel)]; exact ⟨rfl, rfl⟩))
    (fun os started H enc _ => ValueAriths_lifted os started H enc)
theorem ValueAriths_plain (f : FuncId) (fn : Func) (hf : Tryd.pinned.checked.prog.funcNamed "pedigree/pedigreelaw01.ValueAriths" = some f) (hfn : Tryd.pinned.checked.prog.funcs[f]? = some fn) :
    Rows.valueArithsCard.stood.looks = Tryd.pinned.checked.prog.looks [] ∧ ∀ (j : Nat) t, fn.params[j]? = some t → Tryd.pinned.checked.prog.wantsStandIn t = false := by
  obtain rfl : f = 3 := Option.some.inj ((show Tryd.prog.funcNamed "pedigree/pedigreelaw01.ValueAriths" = some 3 by kernel_rfl).symm.trans hf) |>.symm
  obtain rfl : fn = Tryd.f3 := (Option.some.inj (Tryd.func3.symm.trans hfn)).symm
  refine ⟨by kernel_rfl, fun j t ht => ?_⟩
  have hall : (Tryd.f3.params.toList.all fun t => !Tryd.prog.wantsStandIn t) = true := by kernel_rfl
  have := List.all_eq_true.1 hall t (by simpa using Array.mem_of_getElem? ht)
  exact (by simpa using this : Tryd.prog.wantsStandIn t = false)
theorem ValueAriths_holds : Rows.ValueArithsCardSaid :=
  Claim7.holds_tied_plain_at .later [] _ _ _ _ ValueAriths_said (fun _ h => by cases h) (by kernel_rfl) (fun _ h => by cases h) valueAriths_row_tie rfl ⟨rfl, rfl⟩ (by kernel_rfl) rfl ValueAriths_plain (by kernel_rfl)
end Go.Proofs.YtlihkmldclocoaaDoor
