/- OrderL, DependOrder -/
import Derived.Test.YtdjffkkbjbiihaaGreatDoorCards
import Derived.Test.YtdjffkkbjbiihaaGreatDoorTie
import Derived.SevenTiedAt
import Derived.Lay
import Derived.LaidOnce
import Derived.ChangeMaps5
import Derived.Test.YtdjffkkbjbiihaaGreatDoorC25
/- DependOrder's walk. -/
namespace Go.Proofs.YtdjffkkbjbiihaaGreatDoor
open Go.RowKit Go.WideMaps Go.Maps
set_option linter.unusedSimpArgs false
set_option linter.unusedVariables false
theorem within_fitsO {rs : List Ru} (h : Within rs) : rs.length ≤ 1048576 ∧ ∀ r ∈ rs, r.fits := by
  have hlen : ∀ l : List Ru, l.length ≤ (l.map Ru.parts).sum := fun l => by
    induction l with
    | nil => simp
    | cons r l ih =>
      rw [List.map_cons, List.sum_cons, List.length_cons]
      have h9 : r.parts = 1 + r.h.length + (r.b.map Lt.parts).sum := rfl
      omega
  have h1 := hlen rs
  have h2 := h.1
  refine ⟨by omega, fun r hr => ?_⟩
  have h3 := sum_mem Ru.parts hr
  have h4 : r.parts = 1 + r.h.length + (r.b.map Lt.parts).sum := rfl
  have h5 : r.b.length ≤ (r.b.map Lt.parts).sum := by
    induction r.b with
    | nil => simp
    | cons x l ih =>
      rw [List.map_cons, List.sum_cons, List.length_cons]
      have h9 : x.parts = 1 + x.a.length + x.l.size + x.d.size := rfl
      omega
  refine ⟨by omega, by omega, fun l hl => ?_⟩
  have h6 := sum_mem Lt.parts hl
  have h7 : l.parts = 1 + l.a.length + l.l.size + l.d.size := rfl
  exact ⟨by omega, by omega, by omega⟩
theorem within_smO {rs : List Ru} (h : Within rs) : Small rs := by
  unfold Small
  have := h.1
  omega
set_option maxHeartbeats 8000000 in
set_option maxRecDepth 100000 in
theorem order_any {M : Nat} (a : Value) (rs : List Ru) (w : World) (h : SlRep 3 M RRu w a rs) (hM : M ≤ 9223372036854775807) (hP : Pows w) :
    Calls Tryz.prog 3 #[a] w fun e w' => e = .returned (.bool true) ∧ Fut w w' := by
  have HB := Lib.hid (beyondR_any a rs w h hM)
  obtain ⟨A, c, rfl, hl1, hl2⟩ := h.form
  have hxl : rs.length ≤ 9223372036854775807 := by omega
  have H := Lib.hid h
  have HP := Lib.hid hP
  clear hl1 hl2 h hP
  go_enter Tryz.func3, Tryz.ntmps3
  go_wp2_with fail
  refine HB.out.mono ?_
  rintro e w1 ⟨b, rfl, hb, f1⟩
  cases b
  rotate_left
  · go_wp2
    go_ret
    exact ⟨rfl, f1⟩
  have hW := hb rfl
  obtain ⟨hn, hfit⟩ := within_fitsO hW
  have hn := Lib.hid hn
  have hS := Lib.hid (within_smO hW)
  have hS2 := Lib.hid (small_rev hW.1)
  have hS3 := Lib.hid (small_two hW.1)
  have HT := Lib.hid (twinRus_any rs A c w1 (HP.out.fut f1) (H.out.fut RRu.stays f1) (by have := hn.out; omega) hfit)
  have hfit' := Lib.hid hfit
  have F1 := Lib.hid f1
  clear hb hW HB f1 hfit
  go_wp2_with fail
  refine HT.out.mono ?_
  rintro e w2 ⟨tv, rfl, ht, f2⟩
  obtain ⟨g, hg, hu⟩ := ht.slU H.out (by have := hn.out; omega) hfit'.out
  have htv := hu.1
  subst htv
  have HU := Lib.hid hu
  have F2 := Lib.hid (F1.out.trans f2)
  have hgz : w.heap.size ≤ g := Nat.le_trans F1.out.size hg
  clear hu ht f2 HT
  go_wp2_with fail
  refine (turned_ru g _ rs w2 HU.out).mono ?_
  rintro e w3 ⟨⟨u, rfl⟩, hu3, hO3⟩
  have F3 := Lib.hid (show Fut w w3 from ((Only.fut (S := fun k => k = g) F2.out).trans hO3).toFut fun k hk => by omega)
  have HU3 := Lib.hid hu3
  have hg3 := hu3.lt
  clear hu3 hO3 HU
  obtain ⟨R, hR⟩ : ∃ R, rs.reverse = R := ⟨_, rfl⟩
  have hRl : R.length = rs.length := by rw [← hR, List.length_reverse]
  have hRm := Lib.hid (show ∀ r, r ∈ rs ↔ r ∈ R from fun r => by rw [← hR]; exact mem_rev r)
  have hRt := Lib.hid (show ∀ r, r ∈ rs ↔ r ∈ rs ++ R from fun r => by rw [← hR]; exact mem_two r)
  rw [hR] at HU3 hS2 hS3
  have hTl : (rs ++ R).length = rs.length + rs.length := by rw [List.length_append, hRl]
  have HRep := Lib.hid (show SlRep 3 100000001 RRu w3 (.slice (some ⟨g, 0, none⟩) rs.length (rs.length + 1)) R from HU3.out.rep)
  have H3 := Lib.hid (H.out.fut RRu.stays F3.out)
  have hRl := Lib.hid hRl
  clear hR
  have hn1 : ([] : List Ru).length + rs.length ≤ 2097152 := by have := hn.out; simp; omega
  go_wp2_with (first | (at_builtin; refine wpList_append_LB (R := Fix RRu w3) (B := w3.heap.size) (M := M) (xs := []) (ys := rs) (e := 80) (wanted_none rfl _) _ _ 22 rfl Tryz.underlying22 (.agg #[.string ⟨#[]⟩, .slice none 0 0, .slice none 0 0]) 64 infoRuB rfl (by decide) (fun _ _ _ hx => Ru.one hx) (Fix.keeps RRu w3 _) rfl rfl OwnL.nil (H3.out.fix (Fut.refl _)) ?l1 ?m1 ?b1 ?k1))
  case l1 => unfold maxLen; omega
  case m1 => omega
  case b1 => exact Nat.le_refl _
  intro v4 w4 hO4 hG4 _
  have hf4 := Fut.grown (Fut.refl w3) hG4 (fun k hk => by cases hk)
  have F4 := Lib.hid hf4
  have hB4 : w3.heap.size ≤ w4.heap.size := hf4.size
  replace hO4 : OwnL 3 w3.heap.size 80 (Fix RRu w3) w4 v4 rs := hO4
  obtain ⟨A4, c4, rfl, _, _⟩ := hO4.rep.form
  have HO4 := Lib.hid hO4
  clear hO4 hG4 hf4 hn1
  have q1 : SlRep 3 100000001 (Fix RRu w3) w4 (.slice (some ⟨g, 0, none⟩) rs.length (rs.length + 1)) R := HRep.out.fix F4.out
  have hn2 : rs.length + R.length ≤ 2097152 := by have := hn.out; have := hRl.out; omega
  have q3 := fun (ops : Array Oper) (rest : List Oper) (Q : Exit → Act → World → Prop) (o : Oper) (a : Act) hgd s x ho hs hx l1 m1 b1 k1 => wpList_append_LB (P := Tryz.prog) (ops := ops) (rest := rest) (Q := Q) (o := o) (a := a) (R := Fix RRu w3) (B := w3.heap.size) (M := 100000001) (xs := rs) (ys := R) (e := 80) hgd s x 22 ho Tryz.underlying22 (.agg #[.string ⟨#[]⟩, .slice none 0 0, .slice none 0 0]) 64 infoRuB rfl (by decide) (fun _ _ _ hx => Ru.one hx) (Fix.keeps RRu w3 _) hs hx HO4.out q1 l1 m1 b1 k1
  go_wp2_with (at_builtin; refine q3 _ _ _ _ _ (wanted_none rfl _) _ _ rfl rfl rfl ?l2 ?m2 ?b2 ?k2)
  case l2 => unfold maxLen; omega
  case m2 => omega
  case b2 => exact hB4
  intro v5 w5 hO5 hG5 _
  have hf5 := Fut.grown F4.out hG5 (fun k hk => (HO4.out.block k hk).1)
  obtain ⟨T, hT⟩ : ∃ T, rs ++ R = T := ⟨_, rfl⟩
  rw [hT] at hO5 hS3 hRt
  have hR5 := (hO5.unfix RRu.stays hf5).rep
  obtain ⟨A5, c5, rfl, _, _⟩ := hO5.rep.form
  have HT5 := Lib.hid hR5
  have H5 := Lib.hid (H3.out.fut RRu.stays hf5)
  have HR5 := Lib.hid (HRep.out.fut RRu.stays hf5)
  have F5 := Lib.hid (F3.out.trans hf5)
  clear hO5 hG5 hf5 hR5 HO4 F4 hB4 hn2 q1 q3 hT HRep H3 HU3
  have HL1 := Lib.hid (levelsL_any A c rs w5 H5.out hM hS.out)
  go_wp2_with fail
  refine HL1.out.mono ?_
  rintro e w6 ⟨lv1, m1, ee, l, rfl, hO1, hI1, z1, y1, f6⟩
  obtain ⟨B1, d1, rfl, _, _⟩ := hO1.rep.form
  have HV1 := Lib.hid hO1.rep
  have HI1 := Lib.hid (And.intro hI1 (And.intro z1 y1))
  have F6 := Lib.hid f6
  clear hO1 hI1 z1 y1 f6 HL1
  have HL2 := Lib.hid (by have h9 := levelsL_any (some ⟨g, 0, none⟩) (rs.length + 1) R w6 (by rw [hRl.out]; exact HR5.out.fut RRu.stays F6.out) (by decide) hS2.out; rw [hRl.out] at h9; exact h9)
  go_wp2_with fail
  refine HL2.out.mono ?_
  rintro e w7 ⟨lv2, m2, ff, l2, rfl, hO2, hI2, z2, y2, f7⟩
  have hl2 := LvIs.move hRm.out HI1.out.1 hI2
  subst hl2
  obtain ⟨B2, d2, rfl, _, _⟩ := hO2.rep.form
  have HV2 := Lib.hid hO2.rep
  have HI2 := Lib.hid (And.intro z2 y2)
  have F7 := Lib.hid (F6.out.trans f7)
  have G7 := Lib.hid f7
  clear hO2 hI2 z2 y2 f7 HL2 F6
  have HL3 := Lib.hid (levelsL_any A5 c5 T w7 (HT5.out.fut RRu.stays F7.out) (by decide) hS3.out)
  go_wp2_with fail
  refine HL3.out.mono ?_
  rintro e w8 ⟨lv3, m3, gg, l3, rfl, hO3, hI3, z3, y3, f8⟩
  have hl3 := LvIs.move hRt.out HI1.out.1 hI3
  subst hl3
  obtain ⟨B3, d3, rfl, _, _⟩ := hO3.rep.form
  have HV3 := Lib.hid hO3.rep
  have F8 := Lib.hid (F7.out.trans f8)
  have G8 := Lib.hid (G7.out.trans f8)
  have hq1 : (ee == 0) = (ff == 0) := by
    by_cases hN : NoRound rs
    · rw [HI1.out.2.1 hN, HI2.out.1 ((noRound_move hRm.out).1 hN)]
    · rw [beq_eq_false_iff_ne.2 (HI1.out.2.2 hN), beq_eq_false_iff_ne.2 (HI2.out.2 fun h9 => hN ((noRound_move hRm.out).2 h9))]
  have hq2 : (ee == 0) = (gg == 0) := by
    by_cases hN : NoRound rs
    · rw [HI1.out.2.1 hN, z3 ((noRound_move hRt.out).1 hN)]
    · rw [beq_eq_false_iff_ne.2 (HI1.out.2.2 hN), beq_eq_false_iff_ne.2 (y3 fun h9 => hN ((noRound_move hRt.out).2 h9))]
  have hq3 := hq1.symm.trans hq2
  clear hq2
  have HV2' := Lib.hid (HV2.out.fut RLv.stays f8)
  clear hO3 hI3 z3 y3 f8 HL3 F7 G7 HV2 HI1 HI2
  have HV1' := Lib.hid (HV1.out.fut RLv.stays G8.out)
  clear HV1
  obtain ⟨LL, hLL⟩ : ∃ LL, l.length = LL := ⟨_, rfl⟩
  have HSa := Lib.hid (sameLv_any _ _ l w8 HV1'.out HV2'.out (by decide))
  have HSb := Lib.hid (fun W (hW : Fut w8 W) => sameLv_any _ _ l W (HV1'.out.fut RLv.stays hW) (HV3.out.fut RLv.stays hW) (by decide))
  rw [hLL] at HSa HSb ⊢
  clear hLL HV1' HV2' HV3
  go_wp2_with fail
  refine HSa.out.mono ?_
  rintro e w9 ⟨rfl, f9⟩
  have F9 := Lib.hid f9
  clear f9 HSa
  go_wp2_with fail
  refine (HSb.out _ F9.out).mono ?_
  rintro e wa ⟨rfl, fa⟩
  have Fa := Lib.hid (F8.out.trans (F9.out.trans fa))
  clear fa HSb F8 F9 G8
  have HP1 := Lib.hid (partsAll_any A c rs wa (H5.out.fut RRu.stays Fa.out) hM hS.out)
  go_wp2_with fail
  refine HP1.out.mono ?_
  rintro e wb ⟨p1, out, rfl, hs1, hO1, fb⟩
  obtain ⟨B4, d4, rfl, _, _⟩ := hO1.rep.form
  have HX1 := Lib.hid hO1.rep
  have Hs1 := Lib.hid hs1
  have Fb := Lib.hid (Fa.out.trans fb)
  clear hO1 hs1 fb HP1 Fa
  obtain ⟨LO, hLO⟩ : ∃ LO, out.length = LO := ⟨_, rfl⟩
  rw [hLO] at HX1 ⊢
  have HP2 := Lib.hid (by have h9 := partsAll_any (some ⟨g, 0, none⟩) (rs.length + 1) R wb (by rw [hRl.out]; exact HR5.out.fut RRu.stays Fb.out) (by decide) hS2.out; rw [hRl.out] at h9; exact h9)
  go_wp2_with fail
  refine HP2.out.mono ?_
  rintro e wc ⟨p2, out2, rfl, hs2, hO2, fc⟩
  have ho2 := parts_move hRm.out Hs1.out hs2
  subst ho2
  have HX2 := Lib.hid hO2.rep
  have Fc := Lib.hid (Fb.out.trans fc)
  have Gc := Lib.hid fc
  obtain ⟨B5, d5, rfl, _, _⟩ := hO2.rep.form
  clear hO2 hs2 fc HP2 Fb
  rw [hLO] at HX2 ⊢
  have HSc := Lib.hid (sameTl_any _ _ out wc (HX1.out.fut RLs.stays Gc.out) HX2.out (by decide))
  go_wp2_with fail
  refine HSc.out.mono ?_
  rintro e wd ⟨rfl, fd⟩
  have Fd := Lib.hid (Fc.out.trans fd)
  have Gd := Lib.hid (Gc.out.trans fd)
  clear fd HSc Fc Gc HX2
  have HP3 := Lib.hid (partsAll_any A5 c5 T wd (HT5.out.fut RRu.stays Fd.out) (by decide) hS3.out)
  go_wp2_with fail
  refine HP3.out.mono ?_
  rintro e we ⟨p3, out3, rfl, hs3, hO3, fe⟩
  have ho3 := parts_move hRt.out Hs1.out hs3
  subst ho3
  have HX3 := Lib.hid hO3.rep
  have Fe := Lib.hid (Fd.out.trans fe)
  have Ge := Lib.hid (Gd.out.trans fe)
  obtain ⟨B6, d6, rfl, _, _⟩ := hO3.rep.form
  clear hO3 hs3 fe HP3 Fd Gd
  rw [hLO] at HX3 ⊢
  have HSd := Lib.hid (sameTl_any _ _ out we (HX1.out.fut RLs.stays Ge.out) HX3.out (by decide))
  go_wp2_with fail
  refine HSd.out.mono ?_
  rintro e wf ⟨rfl, ff9⟩
  have Ff := Lib.hid (F5.out.trans (Fe.out.trans ff9))
  clear ff9 HSd Fe Ge
  go_wp2_with fail
  refine (lives9_any _).mono ?_
  rintro e wg ⟨rfl, fg⟩
  go_wp2
  go_ret
  exact ⟨rfl, Ff.out.trans fg⟩
end Go.Proofs.YtdjffkkbjbiihaaGreatDoor
/- The law DependOrder holds: levels and parts are the same for the rules back to front, and twice. No condition. -/
namespace Go.Proofs.YtdjffkkbjbiihaaGreatDoor
open Go.RowKit Go.ChangeShapes Go.WideShapes Go.ChangeAt Go.ChangeMaps
set_option linter.unusedSimpArgs false
set_option linter.unusedVariables false
set_option maxRecDepth 100000

theorem DependOrder_own : ownKnob Tryz.prog.godebug = none := by kernel_rfl
theorem DependOrder_laidOut : laidOutB Tryz.prog = true := by kernel_rfl
set_option maxRecDepth 100000 in
theorem DependOrder_row_walk {H : Type} {enc : TypeId × Value → H} (W : World) (base : Nat) (args : Array Value) (ds : List (DataW H)) (p : List MemPlace)
    (hval : ∀ (j : Nat) t v, (#[22] : Array Nat)[j]? = some t → args[j]? = some v → Value.okWide Tryz.prog W .any base t v)
    (hA : DataW.TrodAll enc Tryz.prog W 0 (fun _ => true) true [22] args.toList ds p) (hS : (DataW.weightsEach Tryz.prog [22] ds).all (fun n => decide (n ≤ reachBytes)) = true)
    (hL : laidMet Tryz.prog Rows.dependOrderRow.laid W) :
    Calls Tryz.prog 3 args W fun e W' => e = .returned (.bool true) ∧ Fut W W' := by
  obtain ⟨v0, vs0, d0, ds0, p0, q0, hargs, rfl, rfl, h0, r0⟩ := trodAll_cons hA
  obtain ⟨rfl, rfl, rfl⟩ := trodAll_nil r0
  obtain rfl : args = #[v0] := Array.toList_inj.1 hargs
  have k0 := hval 0 22 v0 rfl rfl
  have s0 := weights_arg hS 0 rfl rfl
  clear hval hA hS
  obtain ⟨l, hl⟩ := reads_arg rRus h0 s0
  have hl := arg_slice hl Tryz.underlying22 k0
  exact order_any _ l W hl (by decide) (pows_of_laid hL (by simp [Rows.dependOrderRow]))
set_option maxRecDepth 100000 in
theorem DependOrder_lifted (os : Os) (started : os.Started) (H : Type) (enc : TypeId × Value → H) :
    ReturnsInHanded {} Tryz.checked os 3 .any (fun w args => (Rows.dependOrderSpec.pre enc Tryz.prog Tryz.f3 [] false w args ∧ laidMetH Tryz.prog Rows.dependOrderRow.laid w) ∧ sizedMet enc Tryz.prog Tryz.f3 (OpenSpec.ofChange Rows.dependOrderSpec) false w args)
      (Rows.dependOrderSpec.post enc Tryz.prog Tryz.f3 false true false false) := by
  refine returnsInHanded_of_change_and (C := Tryz.checked) (X := (fun w _ => laidMetH Tryz.prog Rows.dependOrderRow.laid w)) (fun _ _ _ hh h => h.of_heap hh) DependOrder_own started (by kernel_rfl) Tryz.func3
    (ChangeSpec.witness_shaped (enc := enc) (C := Tryz.checked) (os := os) (X := (fun w _ => laidMetH Tryz.prog Rows.dependOrderRow.laid w)) false (World.laidAll Tryz.prog os Rows.dependOrderRow.laid) #[.slice none 0 0] 8 (World.laidAll_os _ _ _)
      (World.shaped_of_ZipB (by kernel_rfl) (by kernel_rfl)) (by kernel_rfl) (by kernel_rfl) (by kernel_rfl)
      (by rw [MakeChecks.laidMetH_plain _ _ _ (by kernel_rfl)]; exact laidMet_laidAll _ (by kernel_rfl) (by kernel_rfl))) ?_
  intro W base args ds gs before hval0 hW _ hsz hL _
  have hW' := hW
  obtain ⟨p, q, hA0, hV, rfl, _, _⟩ := hW
  have hA : DataW.TrodAll enc Tryz.prog W 0 (fun _ => true) true [22] args.toList ds p := hA0
  obtain ⟨rfl, rfl⟩ := trodVars_none hV
  rw [List.append_nil] at hsz
  rw [MakeChecks.laidMetH_plain _ _ _ (by kernel_rfl)] at hL
  refine (DependOrder_row_walk W base args ds p hval0 hA hsz hL).mono fun e W' ⟨he, hf⟩ => ?_
  subst he
  obtain ⟨v0, vs0, d0, ds0, p0, q0, _, rfl, _, _, r0⟩ := trodAll_cons hA
  obtain ⟨_, rfl, _⟩ := trodAll_nil r0
  exact ⟨_, rfl, law_post (tb := 4) DependOrder_laidOut hW' rfl (by kernel_rfl) rfl Tryz.underlying4 rfl rfl rfl hf⟩
theorem DependOrder_said : Rows.DependOrderSaid :=
  OpenClaim.holds_of_wide 3 Tryz.f3 rfl rfl rfl rfl rfl rfl rfl ⟨rfl, rfl, rfl, rfl, rfl⟩ rfl rfl rfl rfl rfl (by kernel_rfl) Tryz.func3 DependOrder_facts
    (of_decide_eq_true (by kernel_rfl)) (by unfold Func.isWrapper; first | (rw [if_pos (by decide +kernel)]; kernel_rfl) | (rw [if_neg (by decide +kernel)]; exact ⟨rfl, rfl⟩))
    (fun os started H enc _ => DependOrder_lifted os started H enc)
theorem DependOrder_plain (f : FuncId) (fn : Func) (hf : Tryz.pinned.checked.prog.funcNamed "pedigree/pedigreelaw09.DependOrder" = some f) (hfn : Tryz.pinned.checked.prog.funcs[f]? = some fn) :
    Rows.dependOrderCard.stood.looks = Tryz.pinned.checked.prog.looks [] ∧ ∀ (j : Nat) t, fn.params[j]? = some t → Tryz.pinned.checked.prog.wantsStandIn t = false := by
  obtain rfl : f = 3 := Option.some.inj ((show Tryz.prog.funcNamed "pedigree/pedigreelaw09.DependOrder" = some 3 by kernel_rfl).symm.trans hf) |>.symm
  obtain rfl : fn = Tryz.f3 := (Option.some.inj (Tryz.func3.symm.trans hfn)).symm
  refine ⟨by kernel_rfl, fun j t ht => ?_⟩
  have hall : (Tryz.f3.params.toList.all fun t => !Tryz.prog.wantsStandIn t) = true := by kernel_rfl
  have := List.all_eq_true.1 hall t (by simpa using Array.mem_of_getElem? ht)
  exact (by simpa using this : Tryz.prog.wantsStandIn t = false)
theorem DependOrder_holds : Rows.DependOrderCardSaid :=
  Claim7.holds_tied_plain_at .later [] _ _ _ _ DependOrder_said (fun _ h => by cases h) (by kernel_rfl) (fun _ h => by cases h) dependOrder_row_tie rfl ⟨rfl, rfl⟩ (by kernel_rfl) rfl DependOrder_plain (by kernel_rfl)
#print axioms DependOrder_holds
end Go.Proofs.YtdjffkkbjbiihaaGreatDoor
