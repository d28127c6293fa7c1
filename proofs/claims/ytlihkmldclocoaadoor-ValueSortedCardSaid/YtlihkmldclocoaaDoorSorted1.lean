/- ValueSorted, walked: of at most 2,000 facts. -/
import Derived.Test.YtlihkmldclocoaaDoorSorted0
import Derived.Test.YtlihkmldclocoaaDoorLives
namespace Go.Proofs.YtlihkmldclocoaaDoor
open Go.RowKit
set_option linter.unusedSimpArgs false
set_option linter.unusedVariables false

theorem tyTG : 24 ≠ 54 := by decide
set_option maxHeartbeats 2000000 in
set_option maxRecDepth 100000 in
theorem sorted_walk (a : Value) (fs : List Fc) (w : World) (hT : Takes w) (hP : Pows w) (ha : Facs w a fs) (h2 : fs.length ≤ 2000) (hp : ¬ 1048576 < parts fs) (hm : ∀ f ∈ fs, f.a.length ≤ 1048576) :
    Calls Tryd.prog 7 #[a] w fun e w' => e = .returned (.bool true) ∧ Fut w w' := by
  have HT := Lib.hid hT
  have HP := Lib.hid hP
  have HA := Lib.hid ha.g
  have MF := Lib.hid hm
  have HBF := Lib.hid (beyondF_any a fs w ha)
  rw [decide_eq_false hp] at HBF
  have HSL := Lib.hid (sortU_len' (c := cmpF) fs)
  have HSM := Lib.hid (sort_mem fs)
  have HSS := Lib.hid (sort_step fs)
  have HSR := Lib.hid (sort_rev fs)
  have HSB := Lib.hid (sort_both fs)
  obtain ⟨S, hS⟩ : ∃ S, sortU cmpF fs = S := ⟨_, rfl⟩
  rw [hS] at HSL HSM HSR HSB
  have HSS2 := Lib.hid (show ∀ m (h : m + 1 < S.length), cmpF (S[m]'(by omega)) S[m + 1] = -1 from by subst hS; exact HSS.out)
  have HSE := Lib.hid hS
  clear HSS hS hm hp hT hP
  obtain ⟨A, cap, rfl, hcl, hcm⟩ := SlRep.form ha
  have d0 : ¬ (2000 : Int) < fs.length := by omega
  clear ha
  go_enter Tryd.func7, Tryd.ntmps7
  go_wp2_with fail
  refine HBF.out.mono ?_
  rintro e w0 ⟨rfl, hw0⟩
  have hw1 := hw0.symm
  subst hw1
  go_wp2_with fail
  refine (lives_any _ HT.out).mono ?_
  rintro e w1 ⟨rfl, f1⟩
  have F1 := Lib.hid f1
  clear f1
  go_wp2_with fail
  refine (twinG_any _ fs _ (HP.out.fut F1.out) (HA.out.fut RG.stays F1.out) (by omega) (fun t ht => by have := MF.out t ht; omega)).mono ?_
  rintro e w2 ⟨vg, rfl, hG, f2⟩
  have HG := Lib.hid hG
  have F2 := Lib.hid (F1.out.trans f2)
  clear hG f2
  go_wp2_with fail
  refine (facts_any _ fs _ (HG.out.facs HA.out.oks (fun t ht => by have := MF.out t ht; omega) (by omega)) (by omega) (fun t ht => by have := MF.out t ht; omega)).mono ?_
  rintro e w3 ⟨vo, rfl, hO, f3⟩
  rw [HSE.out] at hO
  have hO2 := OwnG.facs hO
  have HO := Lib.hid hO2
  obtain ⟨Ao, capo, rfl, hco, hco2⟩ := SlRep.form hO2
  have F3 := Lib.hid (F2.out.trans f3)
  clear hO hO2 f3 HG F2 F1
  go_wp2
  go_loopw [4] (fun i wr => ∃ k : Nat, k ≤ S.length ∧ i = .int .i64 k ∧ Hid (Fut w3 wr)) (fun i _ => S.length - (intOf i).toNat)
  case atStart => exact ⟨0, Nat.zero_le _, rfl, Lib.hid (Fut.refl _)⟩
  case round =>
    obtain ⟨k, hk, rfl, hF⟩ := hrel
    by_cases hlt : k < S.length
    · obtain ⟨b, off, A', cp, rfl, _, x0, x1, _, _, hv⟩ := FacsG.at_ (HO.out.fut RG.stays hF.out) hlt
      have HV := Lib.hid hv
      have hin := Lib.hid (decide_eq_true ((HSM.out _).1 (List.getElem_mem hlt)))
      clear hv
      by_cases hk0 : k = 0
      · subst hk0
        simp only [Nat.zero_mul, Nat.zero_add, Nat.add_zero] at x0 x1
        go_wp2
        refine wp_graph 24 [.d, .d, .d, .d, .d, .d, .d, .d, .d, .d, .d, .d, .d, .d, .d, .d, .d, .d, .d, .d, .d, .d, .d, .d] (by kernel_rfl) (by kernel_rfl) (by kernel_rfl) ?_
        simp only [List.take_succ_cons, List.take_zero, List.drop_succ_cons, List.drop_zero, Exs]
        iterate 24 apply Exists.intro
        apply Run.valG (wanted_none rfl _)
        · intro w1 h1 hk
          have p0 := h1.cell x0; have p1 := h1.cell x1
          have hcw := fun b o => Below.cell (p := ⟨b, o, none⟩) h1
          go_simp; rfl
        simp only [Act.put, List.setIfInBounds_toArray, List.set_cons_succ, List.set_cons_zero, List.nil_append, List.cons_append]
        apply Run.valG (wanted_none rfl _)
        · intro w1 h1 hk
          have p0 := h1.cell x0; have p1 := h1.cell x1
          have hcw := fun b o => Below.cell (p := ⟨b, o, none⟩) h1
          go_simp; rfl
        simp only [Act.put, List.setIfInBounds_toArray, List.set_cons_succ, List.set_cons_zero, List.nil_append, List.cons_append]
        apply Run.valG (wanted_none rfl _)
        · intro w1 h1 hk
          have p0 := h1.cell x0; have p1 := h1.cell x1
          have hcw := fun b o => Below.cell (p := ⟨b, o, none⟩) h1
          go_simp; rfl
        simp only [Act.put, List.setIfInBounds_toArray, List.set_cons_succ, List.set_cons_zero, List.nil_append, List.cons_append]
        apply Run.skip (by go_simp)
        simp only [Act.put, List.setIfInBounds_toArray, List.set_cons_succ, List.set_cons_zero, List.nil_append, List.cons_append]
        apply Run.skip (by go_simp)
        simp only [Act.put, List.setIfInBounds_toArray, List.set_cons_succ, List.set_cons_zero, List.nil_append, List.cons_append]
        apply Run.skip (by go_simp)
        simp only [Act.put, List.setIfInBounds_toArray, List.set_cons_succ, List.set_cons_zero, List.nil_append, List.cons_append]
        apply Run.skip (by go_simp)
        simp only [Act.put, List.setIfInBounds_toArray, List.set_cons_succ, List.set_cons_zero, List.nil_append, List.cons_append]
        apply Run.skip (by go_simp)
        simp only [Act.put, List.setIfInBounds_toArray, List.set_cons_succ, List.set_cons_zero, List.nil_append, List.cons_append]
        apply Run.skip (by go_simp)
        simp only [Act.put, List.setIfInBounds_toArray, List.set_cons_succ, List.set_cons_zero, List.nil_append, List.cons_append]
        apply Run.skip (by go_simp)
        simp only [Act.put, List.setIfInBounds_toArray, List.set_cons_succ, List.set_cons_zero, List.nil_append, List.cons_append]
        apply Run.skip (by go_simp)
        simp only [Act.put, List.setIfInBounds_toArray, List.set_cons_succ, List.set_cons_zero, List.nil_append, List.cons_append]
        apply Run.skip (by go_simp)
        simp only [Act.put, List.setIfInBounds_toArray, List.set_cons_succ, List.set_cons_zero, List.nil_append, List.cons_append]
        apply Run.skip (by go_simp)
        simp only [Act.put, List.setIfInBounds_toArray, List.set_cons_succ, List.set_cons_zero, List.nil_append, List.cons_append]
        apply Run.skip (by go_simp)
        simp only [Act.put, List.setIfInBounds_toArray, List.set_cons_succ, List.set_cons_zero, List.nil_append, List.cons_append]
        apply Run.valG (wanted_none rfl _)
        · intro w1 h1 hk
          have p0 := h1.cell x0; have p1 := h1.cell x1
          have hcw := fun b o => Below.cell (p := ⟨b, o, none⟩) h1
          go_simp; rfl
        simp only [Act.put, List.setIfInBounds_toArray, List.set_cons_succ, List.set_cons_zero, List.nil_append, List.cons_append]
        apply Run.valG (wanted_none rfl _)
        · intro w1 h1 hk
          have p0 := h1.cell x0; have p1 := h1.cell x1
          have hcw := fun b o => Below.cell (p := ⟨b, o, none⟩) h1
          go_simp; rfl
        simp only [Act.put, List.setIfInBounds_toArray, List.set_cons_succ, List.set_cons_zero, List.nil_append, List.cons_append]
        apply Run.valG (by go_simp)
        · intro w1 h1 hk
          have p0 := h1.cell x0; have p1 := h1.cell x1
          have hcw := fun b o => Below.cell (p := ⟨b, o, none⟩) h1
          go_simp; rfl
        simp only [Act.put, List.setIfInBounds_toArray, List.set_cons_succ, List.set_cons_zero, List.nil_append, List.cons_append]
        apply Run.valG (by go_simp)
        · intro w1 h1 hk
          have p0 := h1.cell x0; have p1 := h1.cell x1
          have hcw := fun b o => Below.cell (p := ⟨b, o, none⟩) h1
          go_simp; rfl
        simp only [Act.put, List.setIfInBounds_toArray, List.set_cons_succ, List.set_cons_zero, List.nil_append, List.cons_append]
        apply Run.valG (by go_simp)
        · intro w1 h1 hk
          have p0 := h1.cell x0; have p1 := h1.cell x1
          have hcw := fun b o => Below.cell (p := ⟨b, o, none⟩) h1
          go_simp; rfl
        simp only [Act.put, List.setIfInBounds_toArray, List.set_cons_succ, List.set_cons_zero, List.nil_append, List.cons_append]
        apply Run.valG (by go_simp)
        · intro w1 h1 hk
          have p0 := h1.cell x0; have p1 := h1.cell x1
          have hcw := fun b o => Below.cell (p := ⟨b, o, none⟩) h1
          go_simp; rfl
        simp only [Act.put, List.setIfInBounds_toArray, List.set_cons_succ, List.set_cons_zero, List.nil_append, List.cons_append]
        apply Run.valG (by go_simp)
        · intro w1 h1 hk
          have p0 := h1.cell x0; have p1 := h1.cell x1
          have hcw := fun b o => Below.cell (p := ⟨b, o, none⟩) h1
          go_simp; rfl
        simp only [Act.put, List.setIfInBounds_toArray, List.set_cons_succ, List.set_cons_zero, List.nil_append, List.cons_append]
        apply Run.call (by go_simp) (fun _ _ => by go_simp; exact ⟨rfl, rfl⟩)
        · intro w1 h1 hk
          have p0 := h1.cell x0; have p1 := h1.cell x1
          have := in_any S[0] _ _ fs _ (HV.out.fut RV.stays ((Fut.drew _).trans h1)) (HA.out.fut RG.stays ((F3.out.trans hF.out).trans ((Fut.drew _).trans h1))); rw [hin.out] at this; exact this
        simp only [Act.put, List.setIfInBounds_toArray, List.set_cons_succ, List.set_cons_zero, List.nil_append, List.cons_append]
        apply Run.valG (by go_simp)
        · intro w1 h1 hk
          have p0 := h1.cell x0; have p1 := h1.cell x1
          have hcw := fun b o => Below.cell (p := ⟨b, o, none⟩) h1
          go_simp; rfl
        simp only [Act.put, List.setIfInBounds_toArray, List.set_cons_succ, List.set_cons_zero, List.nil_append, List.cons_append]
        apply Run.valG (wanted_none rfl _)
        · intro w1 h1 hk
          have p0 := h1.cell x0; have p1 := h1.cell x1
          have hcw := fun b o => Below.cell (p := ⟨b, o, none⟩) h1
          go_simp; rfl
        simp only [Act.put, List.setIfInBounds_toArray, List.set_cons_succ, List.set_cons_zero, List.nil_append, List.cons_append]
        apply Run.done
        intro w2 h2 hk
        clear hk
        go_wp2
        go_roundw
        case rel => exact ⟨0 + 1, by omega, by go_num, Lib.hid (hF.out.trans ((Fut.drew _).trans h2))⟩
        case measure => simp [intOf] <;> omega
      · obtain ⟨m, rfl⟩ : ∃ m, k = m + 1 := ⟨k - 1, by omega⟩
        obtain ⟨b', off', B', cp', he, _, y0, y1, _, _, hv'⟩ := FacsG.at_ (HO.out.fut RG.stays hF.out) (show m < S.length by omega)
        injection he with he
        injection he with he1 he2
        subst he1; subst he2
        have HV' := Lib.hid hv'
        have hst := Lib.hid (HSS2.out m hlt)
        clear hv'
        have e1 : (0 : Int) < (m : Int) + 1 := by omega
        have e2 : IntKind.i64.wrap (m : Int) = m := by have := HSL.out; rw [IntKind.wrap_i64]; omega
        have e3 : (0 : Int) ≤ m ∧ (m : Int) < S.length := by omega
        have e4 : (0 : Int) ≤ (m : Int) + 1 ∧ (m : Int) + 1 < S.length := by omega
        go_wp2
        refine wp_graph 24 [.d, .d, .d, .d, .d, .d, .d, .d, .d, .d, .d, .d, .d, .d, .d, .d, .d, .d, .d, .d, .d, .d, .d, .d] (by kernel_rfl) (by kernel_rfl) (by kernel_rfl) ?_
        simp only [List.take_succ_cons, List.take_zero, List.drop_succ_cons, List.drop_zero, Exs]
        iterate 24 apply Exists.intro
        apply Run.valG (wanted_none rfl _)
        · intro w1 h1 hk
          have p0 := h1.cell x0; have p1 := h1.cell x1; have q0 := h1.cell y0; have q1 := h1.cell y1
          have hcw := fun b o => Below.cell (p := ⟨b, o, none⟩) h1
          go_simp; rfl
        simp only [Act.put, List.setIfInBounds_toArray, List.set_cons_succ, List.set_cons_zero, List.nil_append, List.cons_append]
        apply Run.valG (wanted_none rfl _)
        · intro w1 h1 hk
          have p0 := h1.cell x0; have p1 := h1.cell x1; have q0 := h1.cell y0; have q1 := h1.cell y1
          have hcw := fun b o => Below.cell (p := ⟨b, o, none⟩) h1
          go_simp; rfl
        simp only [Act.put, List.setIfInBounds_toArray, List.set_cons_succ, List.set_cons_zero, List.nil_append, List.cons_append]
        apply Run.valG (wanted_none rfl _)
        · intro w1 h1 hk
          have p0 := h1.cell x0; have p1 := h1.cell x1; have q0 := h1.cell y0; have q1 := h1.cell y1
          have hcw := fun b o => Below.cell (p := ⟨b, o, none⟩) h1
          go_simp; rfl
        simp only [Act.put, List.setIfInBounds_toArray, List.set_cons_succ, List.set_cons_zero, List.nil_append, List.cons_append]
        apply Run.valG (by go_simp)
        · intro w1 h1 hk
          have p0 := h1.cell x0; have p1 := h1.cell x1; have q0 := h1.cell y0; have q1 := h1.cell y1
          have hcw := fun b o => Below.cell (p := ⟨b, o, none⟩) h1
          go_simp; rfl
        simp only [Act.put, List.setIfInBounds_toArray, List.set_cons_succ, List.set_cons_zero, List.nil_append, List.cons_append]
        apply Run.valG (by go_simp)
        · intro w1 h1 hk
          have p0 := h1.cell x0; have p1 := h1.cell x1; have q0 := h1.cell y0; have q1 := h1.cell y1
          have hcw := fun b o => Below.cell (p := ⟨b, o, none⟩) h1
          go_simp; rfl
        simp only [Act.put, List.setIfInBounds_toArray, List.set_cons_succ, List.set_cons_zero, List.nil_append, List.cons_append]
        apply Run.valG (by go_simp)
        · intro w1 h1 hk
          have p0 := h1.cell x0; have p1 := h1.cell x1; have q0 := h1.cell y0; have q1 := h1.cell y1
          have hcw := fun b o => Below.cell (p := ⟨b, o, none⟩) h1
          go_simp; rfl
        simp only [Act.put, List.setIfInBounds_toArray, List.set_cons_succ, List.set_cons_zero, List.nil_append, List.cons_append]
        apply Run.valG (by go_simp)
        · intro w1 h1 hk
          have p0 := h1.cell x0; have p1 := h1.cell x1; have q0 := h1.cell y0; have q1 := h1.cell y1
          have hcw := fun b o => Below.cell (p := ⟨b, o, none⟩) h1
          go_simp; rfl
        simp only [Act.put, List.setIfInBounds_toArray, List.set_cons_succ, List.set_cons_zero, List.nil_append, List.cons_append]
        apply Run.valG (by go_simp)
        · intro w1 h1 hk
          have p0 := h1.cell x0; have p1 := h1.cell x1; have q0 := h1.cell y0; have q1 := h1.cell y1
          have hcw := fun b o => Below.cell (p := ⟨b, o, none⟩) h1
          go_simp; rfl
        simp only [Act.put, List.setIfInBounds_toArray, List.set_cons_succ, List.set_cons_zero, List.nil_append, List.cons_append]
        apply Run.valG (by go_simp)
        · intro w1 h1 hk
          have p0 := h1.cell x0; have p1 := h1.cell x1; have q0 := h1.cell y0; have q1 := h1.cell y1
          have hcw := fun b o => Below.cell (p := ⟨b, o, none⟩) h1
          go_simp; rfl
        simp only [Act.put, List.setIfInBounds_toArray, List.set_cons_succ, List.set_cons_zero, List.nil_append, List.cons_append]
        apply Run.valG (by go_simp)
        · intro w1 h1 hk
          have p0 := h1.cell x0; have p1 := h1.cell x1; have q0 := h1.cell y0; have q1 := h1.cell y1
          have hcw := fun b o => Below.cell (p := ⟨b, o, none⟩) h1
          go_simp; rfl
        simp only [Act.put, List.setIfInBounds_toArray, List.set_cons_succ, List.set_cons_zero, List.nil_append, List.cons_append]
        apply Run.valG (by go_simp)
        · intro w1 h1 hk
          have p0 := h1.cell x0; have p1 := h1.cell x1; have q0 := h1.cell y0; have q1 := h1.cell y1
          have hcw := fun b o => Below.cell (p := ⟨b, o, none⟩) h1
          go_simp; rfl
        simp only [Act.put, List.setIfInBounds_toArray, List.set_cons_succ, List.set_cons_zero, List.nil_append, List.cons_append]
        apply Run.valG (by go_simp)
        · intro w1 h1 hk
          have p0 := h1.cell x0; have p1 := h1.cell x1; have q0 := h1.cell y0; have q1 := h1.cell y1
          have hcw := fun b o => Below.cell (p := ⟨b, o, none⟩) h1
          go_simp; rfl
        simp only [Act.put, List.setIfInBounds_toArray, List.set_cons_succ, List.set_cons_zero, List.nil_append, List.cons_append]
        apply Run.call (by go_simp) (fun _ _ => by go_simp; exact ⟨rfl, rfl⟩)
        · intro w1 h1 hk
          have p0 := h1.cell x0; have p1 := h1.cell x1; have q0 := h1.cell y0; have q1 := h1.cell y1
          have := cmpF_any (S[m]'(by omega)) (S[m + 1]'(by omega)) _ _ _ (HV'.out.fut RV.stays ((Fut.drew _).trans h1)) (HV.out.fut RV.stays ((Fut.drew _).trans h1)); rw [hst.out] at this; exact this
        simp only [Act.put, List.setIfInBounds_toArray, List.set_cons_succ, List.set_cons_zero, List.nil_append, List.cons_append]
        apply Run.valG (by go_simp)
        · intro w1 h1 hk
          have p0 := h1.cell x0; have p1 := h1.cell x1; have q0 := h1.cell y0; have q1 := h1.cell y1
          have hcw := fun b o => Below.cell (p := ⟨b, o, none⟩) h1
          go_simp; rfl
        simp only [Act.put, List.setIfInBounds_toArray, List.set_cons_succ, List.set_cons_zero, List.nil_append, List.cons_append]
        apply Run.valG (wanted_none rfl _)
        · intro w1 h1 hk
          have p0 := h1.cell x0; have p1 := h1.cell x1; have q0 := h1.cell y0; have q1 := h1.cell y1
          have hcw := fun b o => Below.cell (p := ⟨b, o, none⟩) h1
          go_simp; rfl
        simp only [Act.put, List.setIfInBounds_toArray, List.set_cons_succ, List.set_cons_zero, List.nil_append, List.cons_append]
        apply Run.valG (wanted_none rfl _)
        · intro w1 h1 hk
          have p0 := h1.cell x0; have p1 := h1.cell x1; have q0 := h1.cell y0; have q1 := h1.cell y1
          have hcw := fun b o => Below.cell (p := ⟨b, o, none⟩) h1
          go_simp; rfl
        simp only [Act.put, List.setIfInBounds_toArray, List.set_cons_succ, List.set_cons_zero, List.nil_append, List.cons_append]
        apply Run.valG (by go_simp)
        · intro w1 h1 hk
          have p0 := h1.cell x0; have p1 := h1.cell x1; have q0 := h1.cell y0; have q1 := h1.cell y1
          have hcw := fun b o => Below.cell (p := ⟨b, o, none⟩) h1
          go_simp; rfl
        simp only [Act.put, List.setIfInBounds_toArray, List.set_cons_succ, List.set_cons_zero, List.nil_append, List.cons_append]
        apply Run.valG (by go_simp)
        · intro w1 h1 hk
          have p0 := h1.cell x0; have p1 := h1.cell x1; have q0 := h1.cell y0; have q1 := h1.cell y1
          have hcw := fun b o => Below.cell (p := ⟨b, o, none⟩) h1
          go_simp; rfl
        simp only [Act.put, List.setIfInBounds_toArray, List.set_cons_succ, List.set_cons_zero, List.nil_append, List.cons_append]
        apply Run.valG (by go_simp)
        · intro w1 h1 hk
          have p0 := h1.cell x0; have p1 := h1.cell x1; have q0 := h1.cell y0; have q1 := h1.cell y1
          have hcw := fun b o => Below.cell (p := ⟨b, o, none⟩) h1
          go_simp; rfl
        simp only [Act.put, List.setIfInBounds_toArray, List.set_cons_succ, List.set_cons_zero, List.nil_append, List.cons_append]
        apply Run.valG (by go_simp)
        · intro w1 h1 hk
          have p0 := h1.cell x0; have p1 := h1.cell x1; have q0 := h1.cell y0; have q1 := h1.cell y1
          have hcw := fun b o => Below.cell (p := ⟨b, o, none⟩) h1
          go_simp; rfl
        simp only [Act.put, List.setIfInBounds_toArray, List.set_cons_succ, List.set_cons_zero, List.nil_append, List.cons_append]
        apply Run.valG (by go_simp)
        · intro w1 h1 hk
          have p0 := h1.cell x0; have p1 := h1.cell x1; have q0 := h1.cell y0; have q1 := h1.cell y1
          have hcw := fun b o => Below.cell (p := ⟨b, o, none⟩) h1
          go_simp; rfl
        simp only [Act.put, List.setIfInBounds_toArray, List.set_cons_succ, List.set_cons_zero, List.nil_append, List.cons_append]
        apply Run.call (by go_simp) (fun _ _ => by go_simp; exact ⟨rfl, rfl⟩)
        · intro w1 h1 hk
          have p0 := h1.cell x0; have p1 := h1.cell x1; have q0 := h1.cell y0; have q1 := h1.cell y1
          have := in_any (S[m + 1]'(by omega)) _ _ fs _ (HV.out.fut RV.stays ((Fut.drew _).trans h1)) (HA.out.fut RG.stays ((F3.out.trans hF.out).trans ((Fut.drew _).trans h1))); rw [hin.out] at this; exact this
        simp only [Act.put, List.setIfInBounds_toArray, List.set_cons_succ, List.set_cons_zero, List.nil_append, List.cons_append]
        apply Run.valG (by go_simp)
        · intro w1 h1 hk
          have p0 := h1.cell x0; have p1 := h1.cell x1; have q0 := h1.cell y0; have q1 := h1.cell y1
          have hcw := fun b o => Below.cell (p := ⟨b, o, none⟩) h1
          go_simp; rfl
        simp only [Act.put, List.setIfInBounds_toArray, List.set_cons_succ, List.set_cons_zero, List.nil_append, List.cons_append]
        apply Run.valG (wanted_none rfl _)
        · intro w1 h1 hk
          have p0 := h1.cell x0; have p1 := h1.cell x1; have q0 := h1.cell y0; have q1 := h1.cell y1
          have hcw := fun b o => Below.cell (p := ⟨b, o, none⟩) h1
          go_simp; rfl
        simp only [Act.put, List.setIfInBounds_toArray, List.set_cons_succ, List.set_cons_zero, List.nil_append, List.cons_append]
        apply Run.done
        intro w2 h2 hk
        clear hk
        go_wp2
        go_roundw
        case rel => exact ⟨m + 1 + 1, by omega, by go_num, Lib.hid (hF.out.trans ((Fut.drew _).trans h2))⟩
        case measure => simp [intOf] <;> omega
    · obtain rfl : k = S.length := by omega
      go_wp2
      obtain ⟨wS, hwS⟩ : ∃ x, wr = x := ⟨_, rfl⟩
      rw [hwS] at hF ⊢
      have HOS := Lib.hid (HO.out.fut RG.stays hF.out)
      have FS := Lib.hid (F3.out.trans hF.out)
      clear hwS hF HO F3
      go_loopw [5, 6, 7, 8] (fun bk nn tp i wr => ∃ k : Nat, k ≤ fs.length ∧ ((k = 0 ∧ i = .int .i64 (-1)) ∨ ∃ m, k = m + 1 ∧ i = .int .i64 (m : Nat)) ∧ Hid (OwnL 2 wS.heap.size 54 (fun _ => RG w) wr bk (fs.drop k).reverse) ∧ Hid (OwnL 2 wS.heap.size 54 (fun _ => RG w) wr nn ((fs.drop k).reverse.map fun f => nm f.a)) ∧ Hid (OwnL 1 wS.heap.size 24 (fun _ => RT w) wr tp ((fs.drop k).reverse.map fun f => f.a)) ∧ Hid (Apart bk nn) ∧ Hid (Fut wS wr)) (fun _ _ _ i _ => (intOf i + 1).toNat)
      case atStart =>
        have h0 : ∀ k, k = fs.length → (fs.drop k).reverse = [] := fun k hk => by rw [hk, List.drop_length]; rfl
        cases hll : fs.length with
        | zero => exact ⟨0, by omega, .inl ⟨rfl, by simp⟩, Lib.hid (by rw [h0 0 hll.symm]; exact OwnL.nil), Lib.hid (by rw [h0 0 hll.symm]; exact OwnL.nil), Lib.hid (by rw [h0 0 hll.symm]; exact OwnL.nil), Lib.hid Apart.nil, Lib.hid (Fut.refl _)⟩
        | succ m => exact ⟨m + 1, by omega, .inr ⟨m, rfl, by go_num⟩, Lib.hid (by rw [h0 _ hll.symm]; exact OwnL.nil), Lib.hid (by rw [h0 _ hll.symm]; exact OwnL.nil), Lib.hid (by rw [h0 _ hll.symm]; exact OwnL.nil), Lib.hid Apart.nil, Lib.hid (Fut.refl _)⟩
      case round =>
        obtain ⟨k, hk, hi, hB, hN, hC, hAp, hF⟩ := hrel
        rcases hi with ⟨rfl, rfl⟩ | ⟨m, rfl, rfl⟩
        · simp only [List.drop_zero] at hB hN hC
          have hTm : (fs.reverse.map fun f => nm f.a) = (fs.reverse.map fun f => f.a).map nm := by rw [List.map_map]; rfl
          rw [hTm] at hN
          clear hTm
          have hTl : (fs.reverse.map fun f => f.a).length ≤ 2000 := by simp; exact h2
          have MT := Lib.hid (show ∀ t ∈ (fs.reverse.map fun f => f.a), t.length ≤ 1048576 from fun t ht => by
            obtain ⟨f, hf, rfl⟩ := List.mem_map.1 ht
            exact MF.out f (List.mem_reverse.1 hf))
          generalize (fs.reverse.map fun f => f.a) = T at hN hC hTl MT
          have MR := Lib.hid (show ∀ t ∈ fs.reverse, t.a.length ≤ 1048576 from fun t ht => MF.out t (List.mem_reverse.1 ht))
          have hRl : fs.reverse.length ≤ 2000 := by simp; exact h2
          have MB := Lib.hid (show ∀ t ∈ fs.reverse ++ fs, t.a.length ≤ 1048576 from fun t ht => by
            rcases List.mem_append.1 ht with h | h
            · exact MR.out t h
            · exact MF.out t h)
          have hBl : (fs.reverse ++ fs).length ≤ 4000 := by simp; omega
          have MN := Lib.hid (show ∀ t ∈ T.map nm, t.a.length ≤ 1048576 from fun t ht => by
            obtain ⟨f, hf, rfl⟩ := List.mem_map.1 ht
            exact MT.out f hf)
          have hNl : (T.map nm).length ≤ 2000 := by simpa using hTl
          have hL := Lib.hid (And.intro hTl (And.intro hRl (And.intro hBl hNl)))
          clear hTl hRl hBl hNl
          generalize fs.reverse = RV0 at hB HSR HSB MR MB hL
          have FW := Lib.hid (FS.out.trans hF.out)
          go_wp2_with fail
          refine (twinG_any _ RV0 _ (HP.out.fut FW.out) (OwnC.facs hB.out FW.out) (by have := hL.out; omega) (fun t ht => by have := MR.out t ht; omega)).mono ?_
          rintro e w4 ⟨v4, rfl, g4, f4⟩
          have G4 := Lib.hid (g4.facs (OwnC.facs hB.out FW.out).oks (fun t ht => by have := MR.out t ht; omega) (by have := hL.out; omega))
          have E4 := Lib.hid f4
          have F4 := Lib.hid (hF.out.trans f4)
          clear g4 f4
          go_wp2_with fail
          refine (facts_any _ RV0 _ G4.out (by have := hL.out; omega) (fun t ht => by have := MR.out t ht; omega)).mono ?_
          rintro e w5 ⟨v5, rfl, o5, f5⟩
          rw [HSR.out] at o5
          have O5 := Lib.hid (OwnG.facs o5)
          have E5 := Lib.hid (E4.out.trans f5)
          have F5 := Lib.hid (F4.out.trans f5)
          clear o5 f5 G4
          go_wp2_with fail
          refine (sameFs_any _ _ S S _ O5.out (HOS.out.fut RG.stays F5.out)).mono ?_
          rintro e w6 ⟨rfl, f6⟩
          rw [decide_eq_true rfl]
          have E6 := Lib.hid (E5.out.trans f6)
          have F6 := Lib.hid (F5.out.trans f6)
          have FW6 := Lib.hid (FS.out.trans F6.out)
          clear f6 O5
          have B6 := Lib.hid (OwnL.fut (fun _ _ _ _ _ h => h) hB.out E6.out)
          have N6 := Lib.hid (OwnL.fut (fun _ _ _ _ _ h => h) hN.out E6.out)
          have C6 := Lib.hid (OwnL.fut (fun _ _ _ _ _ h => h) hC.out E6.out)
          clear hB hN hC E4 E5 E6 F4 F5
          go_wp2_with (at_builtin; refine wpList_append_L (R := fun _ => RG w) (B := wS.heap.size) (xs := RV0) (ys := fs) (e := 54) (by go_simp) _ _ 44 rfl Tryd.underlying44 (.agg #[.string ⟨#[]⟩, .slice none 0 0]) 40 infoG rfl (by decide) (fun _ => RG.one w) (const_keeps w) rfl rfl B6.out (HA.out.const FW6.out) ?l1 ?l2 ?b1 ?k1)
          case l1 => have := hL.out; simp [maxLen]; omega
          case l2 => have := hL.out; simp; omega
          case b1 => exact F6.out.size
          case k1 =>
          intro v7 w7 o7 g7
          have F7 := Lib.hid (Fut.grown (w0 := wS) F6.out g7 (fun k hk => (B6.out.block k hk).1))
          have N7 := Lib.hid (N6.out.apart (fun _ _ h => h) g7 hAp.out)
          have C7 := Lib.hid (C6.out.kept (fun _ _ h => h) g7 B6.out.typed tyTG)
          have B7 := Lib.hid o7
          have FW7 := Lib.hid (FS.out.trans F7.out)
          clear o7 g7 N6 C6 B6
          go_wp2_with fail
          refine (twinG_any _ (RV0 ++ fs) _ (HP.out.fut FW7.out) (OwnC.facs B7.out FW7.out) (by have := hL.out; omega) (fun t ht => by have := MB.out t ht; omega)).mono ?_
          rintro e w8 ⟨v8, rfl, g8, f8⟩
          have G8 := Lib.hid (g8.facs (OwnC.facs B7.out FW7.out).oks (fun t ht => by have := MB.out t ht; omega) (by have := hL.out; omega))
          have E8 := Lib.hid f8
          clear g8 f8
          go_wp2_with fail
          refine (facts_any _ (RV0 ++ fs) _ G8.out (by have := hL.out; omega) (fun t ht => by have := MB.out t ht; omega)).mono ?_
          rintro e w9 ⟨v9, rfl, o9, f9⟩
          rw [HSB.out] at o9
          have O9 := Lib.hid (OwnG.facs o9)
          have E9 := Lib.hid (E8.out.trans f9)
          clear o9 f9 G8
          go_wp2_with fail
          refine (sameFs_any _ _ S S _ O9.out (HOS.out.fut RG.stays (F7.out.trans E9.out))).mono ?_
          rintro e w10 ⟨rfl, f10⟩
          rw [decide_eq_true rfl]
          have E10 := Lib.hid (E9.out.trans f10)
          have F10 := Lib.hid (F7.out.trans E10.out)
          have FW10 := Lib.hid (FS.out.trans F10.out)
          have N10 := Lib.hid (OwnL.fut (fun _ _ _ _ _ h => h) N7.out E10.out)
          have C10 := Lib.hid (OwnL.fut (fun _ _ _ _ _ h => h) C7.out E10.out)
          clear f10 O9 E8 E9 N7 C7 B7
          go_wp2_with fail
          refine (twinG_any _ (T.map nm) _ (HP.out.fut FW10.out) (OwnC.facs N10.out FW10.out) (by have := hL.out; omega) (fun t ht => by have := MN.out t ht; omega)).mono ?_
          rintro e w11 ⟨v11, rfl, g11, f11⟩
          have G11 := Lib.hid (g11.facs (OwnC.facs N10.out FW10.out).oks (fun t ht => by have := MN.out t ht; omega) (by have := hL.out; omega))
          have E11 := Lib.hid f11
          clear g11 f11
          go_wp2_with fail
          refine (facts_any _ (T.map nm) _ G11.out (by have := hL.out; omega) (fun t ht => by have := MN.out t ht; omega)).mono ?_
          rintro e w12 ⟨va, rfl, o12, f12⟩
          rw [sort_nm] at o12
          have O12 := Lib.hid (OwnG.facs o12)
          have E12 := Lib.hid (E11.out.trans f12)
          clear o12 f12 G11
          go_wp2_with fail
          refine (twinT_any _ T _ (OwnC.tups (OwnL.fut (fun _ _ _ _ _ h => h) C10.out E12.out) (FW10.out.trans E12.out)) (by have := hL.out; omega) (fun t ht => by have := MT.out t ht; omega)).mono ?_
          rintro e w13 ⟨v13, rfl, g13, f13⟩
          have G13 := Lib.hid (g13.tups (OwnC.tups (OwnL.fut (fun _ _ _ _ _ h => h) C10.out E12.out) (FW10.out.trans E12.out)).oks (fun t ht => by have := MT.out t ht; omega) (by have := hL.out; omega))
          have E13 := Lib.hid f13
          clear g13 f13
          go_wp2_with fail
          refine (tuples_any _ T _ G13.out (by have := hL.out; omega) (fun t ht => by have := MT.out t ht; omega)).mono ?_
          rintro e w14 ⟨vb, rfl, o14, f14⟩
          have O14 := OwnT.tups o14
          have E14 := Lib.hid (E13.out.trans f14)
          have O12' := O12.out.fut RG.stays E14.out
          have FZ := Lib.hid (FW10.out.trans (E12.out.trans E14.out))
          clear o14 f14 G13 O12
          generalize sortU cmpT T = Q at O14 O12'
          have HQa := Lib.hid O12'
          have HQb := Lib.hid O14
          obtain ⟨Aa, ca, hfa, ha1, ha2⟩ := SlRep.form O12'
          obtain ⟨Ab, cb, rfl, hb1, hb2⟩ := SlRep.form O14
          rw [List.length_map] at hfa ha1
          subst hfa
          clear O14 O12'
          go_wp2
          go_loopw [11] (fun i wq => ∃ k : Nat, k ≤ Q.length ∧ i = .int .i64 k ∧ Hid (Fut w14 wq)) (fun i _ => Q.length - (intOf i).toNat)
          case atStart => exact ⟨0, Nat.zero_le _, rfl, Lib.hid (Fut.refl _)⟩
          case round =>
            obtain ⟨k, hk, rfl, hq⟩ := hrel
            by_cases hlt : k < Q.length
            · obtain ⟨b, off, A', cp, rfl, _, x0, x1, _, _, hv⟩ := FacsG.at_ (HQa.out.fut RG.stays hq.out) (show k < (Q.map nm).length by rw [List.length_map]; exact hlt)
              obtain ⟨b', off', B', cp', rfl, y0, _, _, hv'⟩ := Tups.at_ (HQb.out.fut RT.stays hq.out) hlt
              simp only [List.getElem_map, nm, pB] at x0 x1 hv
              have HVa := Lib.hid hv
              have HVb := Lib.hid hv'
              clear hv hv'
              go_wp2
              refine wp_graph 19 [.d, .d, .d, .d, .d, .d, .d, .d, .d, .d, .d, .d, .d, .d, .d, .d, .d, .d, .d] (by kernel_rfl) (by kernel_rfl) (by kernel_rfl) ?_
              simp only [List.take_succ_cons, List.take_zero, List.drop_succ_cons, List.drop_zero, Exs]
              iterate 19 apply Exists.intro
              apply Run.valG (wanted_none rfl _)
              · intro w1 h1 hk
                have p0 := h1.cell x0; have p1 := h1.cell x1; have p2 := h1.cell y0
                have hcw := fun b o => Below.cell (p := ⟨b, o, none⟩) h1
                go_simp; rfl
              simp only [Act.put, List.setIfInBounds_toArray, List.set_cons_succ, List.set_cons_zero, List.nil_append, List.cons_append]
              apply Run.valG (wanted_none rfl _)
              · intro w1 h1 hk
                have p0 := h1.cell x0; have p1 := h1.cell x1; have p2 := h1.cell y0
                have hcw := fun b o => Below.cell (p := ⟨b, o, none⟩) h1
                go_simp; rfl
              simp only [Act.put, List.setIfInBounds_toArray, List.set_cons_succ, List.set_cons_zero, List.nil_append, List.cons_append]
              apply Run.valG (wanted_none rfl _)
              · intro w1 h1 hk
                have p0 := h1.cell x0; have p1 := h1.cell x1; have p2 := h1.cell y0
                have hcw := fun b o => Below.cell (p := ⟨b, o, none⟩) h1
                go_simp; rfl
              simp only [Act.put, List.setIfInBounds_toArray, List.set_cons_succ, List.set_cons_zero, List.nil_append, List.cons_append]
              apply Run.valG (wanted_none rfl _)
              · intro w1 h1 hk
                have p0 := h1.cell x0; have p1 := h1.cell x1; have p2 := h1.cell y0
                have hcw := fun b o => Below.cell (p := ⟨b, o, none⟩) h1
                go_simp; rfl
              simp only [Act.put, List.setIfInBounds_toArray, List.set_cons_succ, List.set_cons_zero, List.nil_append, List.cons_append]
              apply Run.valG (wanted_none rfl _)
              · intro w1 h1 hk
                have p0 := h1.cell x0; have p1 := h1.cell x1; have p2 := h1.cell y0
                have hcw := fun b o => Below.cell (p := ⟨b, o, none⟩) h1
                go_simp; rfl
              simp only [Act.put, List.setIfInBounds_toArray, List.set_cons_succ, List.set_cons_zero, List.nil_append, List.cons_append]
              apply Run.valG (wanted_none rfl _)
              · intro w1 h1 hk
                have p0 := h1.cell x0; have p1 := h1.cell x1; have p2 := h1.cell y0
                have hcw := fun b o => Below.cell (p := ⟨b, o, none⟩) h1
                go_simp; rfl
              simp only [Act.put, List.setIfInBounds_toArray, List.set_cons_succ, List.set_cons_zero, List.nil_append, List.cons_append]
              apply Run.valG (wanted_none rfl _)
              · intro w1 h1 hk
                have p0 := h1.cell x0; have p1 := h1.cell x1; have p2 := h1.cell y0
                have hcw := fun b o => Below.cell (p := ⟨b, o, none⟩) h1
                go_simp; rfl
              simp only [Act.put, List.setIfInBounds_toArray, List.set_cons_succ, List.set_cons_zero, List.nil_append, List.cons_append]
              apply Run.valG (by go_simp)
              · intro w1 h1 hk
                have p0 := h1.cell x0; have p1 := h1.cell x1; have p2 := h1.cell y0
                have hcw := fun b o => Below.cell (p := ⟨b, o, none⟩) h1
                go_simp; rfl
              simp only [Act.put, List.setIfInBounds_toArray, List.set_cons_succ, List.set_cons_zero, List.nil_append, List.cons_append]
              apply Run.valG (by go_simp)
              · intro w1 h1 hk
                have p0 := h1.cell x0; have p1 := h1.cell x1; have p2 := h1.cell y0
                have hcw := fun b o => Below.cell (p := ⟨b, o, none⟩) h1
                go_simp; rfl
              simp only [Act.put, List.setIfInBounds_toArray, List.set_cons_succ, List.set_cons_zero, List.nil_append, List.cons_append]
              apply Run.valG (by go_simp)
              · intro w1 h1 hk
                have p0 := h1.cell x0; have p1 := h1.cell x1; have p2 := h1.cell y0
                have hcw := fun b o => Below.cell (p := ⟨b, o, none⟩) h1
                go_simp; rfl
              simp only [Act.put, List.setIfInBounds_toArray, List.set_cons_succ, List.set_cons_zero, List.nil_append, List.cons_append]
              apply Run.valG (by go_simp)
              · intro w1 h1 hk
                have p0 := h1.cell x0; have p1 := h1.cell x1; have p2 := h1.cell y0
                have hcw := fun b o => Below.cell (p := ⟨b, o, none⟩) h1
                go_simp; rfl
              simp only [Act.put, List.setIfInBounds_toArray, List.set_cons_succ, List.set_cons_zero, List.nil_append, List.cons_append]
              apply Run.valG (by go_simp)
              · intro w1 h1 hk
                have p0 := h1.cell x0; have p1 := h1.cell x1; have p2 := h1.cell y0
                have hcw := fun b o => Below.cell (p := ⟨b, o, none⟩) h1
                go_simp; rfl
              simp only [Act.put, List.setIfInBounds_toArray, List.set_cons_succ, List.set_cons_zero, List.nil_append, List.cons_append]
              apply Run.valG (by go_simp)
              · intro w1 h1 hk
                have p0 := h1.cell x0; have p1 := h1.cell x1; have p2 := h1.cell y0
                have hcw := fun b o => Below.cell (p := ⟨b, o, none⟩) h1
                go_simp; rfl
              simp only [Act.put, List.setIfInBounds_toArray, List.set_cons_succ, List.set_cons_zero, List.nil_append, List.cons_append]
              apply Run.valG (by go_simp)
              · intro w1 h1 hk
                have p0 := h1.cell x0; have p1 := h1.cell x1; have p2 := h1.cell y0
                have hcw := fun b o => Below.cell (p := ⟨b, o, none⟩) h1
                go_simp; rfl
              simp only [Act.put, List.setIfInBounds_toArray, List.set_cons_succ, List.set_cons_zero, List.nil_append, List.cons_append]
              apply Run.valG (by go_simp)
              · intro w1 h1 hk
                have p0 := h1.cell x0; have p1 := h1.cell x1; have p2 := h1.cell y0
                have hcw := fun b o => Below.cell (p := ⟨b, o, none⟩) h1
                go_simp; rfl
              simp only [Act.put, List.setIfInBounds_toArray, List.set_cons_succ, List.set_cons_zero, List.nil_append, List.cons_append]
              apply Run.valG (by go_simp)
              · intro w1 h1 hk
                have p0 := h1.cell x0; have p1 := h1.cell x1; have p2 := h1.cell y0
                have hcw := fun b o => Below.cell (p := ⟨b, o, none⟩) h1
                go_simp; rfl
              simp only [Act.put, List.setIfInBounds_toArray, List.set_cons_succ, List.set_cons_zero, List.nil_append, List.cons_append]
              apply Run.call (by go_simp) (fun _ _ => by go_simp; exact ⟨rfl, rfl⟩)
              · intro w1 h1 hk
                have p0 := h1.cell x0; have p1 := h1.cell x1; have p2 := h1.cell y0
                have := same_any _ _ Q[k] Q[k] _ (HVa.out.fut RV.stays ((Fut.drew _).trans h1)) (HVb.out.fut RV.stays ((Fut.drew _).trans h1)); rw [decide_eq_true rfl] at this; exact this
              simp only [Act.put, List.setIfInBounds_toArray, List.set_cons_succ, List.set_cons_zero, List.nil_append, List.cons_append]
              apply Run.valG (by go_simp)
              · intro w1 h1 hk
                have p0 := h1.cell x0; have p1 := h1.cell x1; have p2 := h1.cell y0
                have hcw := fun b o => Below.cell (p := ⟨b, o, none⟩) h1
                go_simp; rfl
              simp only [Act.put, List.setIfInBounds_toArray, List.set_cons_succ, List.set_cons_zero, List.nil_append, List.cons_append]
              apply Run.valG (wanted_none rfl _)
              · intro w1 h1 hk
                have p0 := h1.cell x0; have p1 := h1.cell x1; have p2 := h1.cell y0
                have hcw := fun b o => Below.cell (p := ⟨b, o, none⟩) h1
                go_simp; rfl
              simp only [Act.put, List.setIfInBounds_toArray, List.set_cons_succ, List.set_cons_zero, List.nil_append, List.cons_append]
              apply Run.done
              intro w2 h2 hk
              clear hk
              go_wp2
              go_roundw
              case rel => exact ⟨k + 1, by omega, by go_num, Lib.hid (hq.out.trans ((Fut.drew _).trans h2))⟩
              case measure => simp [intOf] <;> omega
            · obtain rfl : k = Q.length := by omega
              go_wp2
              go_ret
              exact ⟨rfl, FZ.out.trans hq.out⟩
        · have hlt : m < fs.length := by omega
          obtain ⟨b, off, A', cp, rfl, hpz, x0, x1, hq1, hq2, hv⟩ := FacsG.at_ HA.out hlt
          have HV := Lib.hid hv
          have HG0 := Lib.hid (show RG w [.string (fs[m]).p, .slice A' (fs[m]).a.length cp] fs[m] from ⟨_, rfl, hpz, hv⟩)
          have HG1 := Lib.hid (show RG w [.string (nm (fs[m]).a).p, .slice A' (fs[m]).a.length cp] (nm (fs[m]).a) from ⟨_, rfl, show pB.size ≤ 140737488351232 by decide, hv⟩)
          have FA := Lib.hid (FS.out.trans hF.out)
          have X01 := Lib.hid (And.intro x0 x1)
          replace x0 := FA.out.cell x0
          replace x1 := FA.out.cell x1
          have hin := Lib.hid (decide_eq_true ((HSM.out _).2 (List.getElem_mem hlt)))
          have hdr := Lib.hid (show (fs.drop m).reverse = (fs.drop (m + 1)).reverse ++ [fs[m]] by rw [List.drop_eq_getElem_cons hlt, List.reverse_cons])
          have hln := Lib.hid (show (fs.drop (m + 1)).reverse.length ≤ 2000 by simp; omega)
          clear hv hpz
          go_wp2_with fail
          refine (in_any (fs[m]'(by omega)) _ _ S _ (HV.out.fut RV.stays FA.out) (HOS.out.fut RG.stays hF.out)).mono ?_
          rintro e w4 ⟨rfl, f4⟩
          rw [hin.out]
          have F4 := Lib.hid (hF.out.trans f4)
          have B4 := Lib.hid (OwnL.fut (fun _ _ _ _ _ h => h) hB.out f4)
          have N4 := Lib.hid (OwnL.fut (fun _ _ _ _ _ h => h) hN.out f4)
          have C4 := Lib.hid (OwnL.fut (fun _ _ _ _ _ h => h) hC.out f4)
          replace x0 := f4.cell x0
          replace x1 := f4.cell x1
          generalize (fs.drop (m + 1)).reverse = zs at B4 N4 C4 hdr hln hB hN hC
          go_wp2_with (at_builtin; refine wpList_append_at (R := fun _ => RG w) (B := wS.heap.size) (xs := zs) (ys := [fs[m]'(by omega)]) (e := 54) (by go_simp) _ _ 44 rfl Tryd.underlying44 (.agg #[.string ⟨#[]⟩, .slice none 0 0]) 40 infoG rfl (by decide) (fun _ => RG.one w) (const_keeps w) rfl rfl (OwnL.fut (fun _ _ _ _ _ h => h) B4.out (Fut.alloc _ _)) (facC_one _ HG0.out) ?l1 ?l2 ?b1 ?k1)
          case l1 => have := hln.out; simp [maxLen]; omega
          case l2 => have := hln.out; simp; omega
          case b1 => have := F4.out.size; simp; omega
          case k1 =>
          intro v5 w5 o5 g5 at5
          have F5 := Lib.hid (Fut.grown (F4.out.trans (Fut.alloc _ _)) g5 (fun k hk => (B4.out.block k hk).1))
          have N4a := OwnL.fut (fun _ _ _ _ _ h => h) N4.out (Fut.alloc w4 (.cells #[.string (fs[m]'(by omega)).p, .slice A' (fs[m]'(by omega)).a.length cp] 54))
          have C4a := OwnL.fut (fun _ _ _ _ _ h => h) C4.out (Fut.alloc w4 (.cells #[.string (fs[m]'(by omega)).p, .slice A' (fs[m]'(by omega)).a.length cp] 54))
          have B4a := OwnL.fut (fun _ _ _ _ _ h => h) B4.out (Fut.alloc w4 (.cells #[.string (fs[m]'(by omega)).p, .slice A' (fs[m]'(by omega)).a.length cp] 54))
          have N5 := Lib.hid (N4a.apart (fun _ _ h => h) g5 hAp.out)
          have C5 := Lib.hid (C4a.kept (fun _ _ h => h) g5 B4a.typed tyTG)
          have Ap5 := Lib.hid (hAp.out.grow at5 (fun k hk => by have := (N4a.block k hk).2; simpa using this))
          have B5 := Lib.hid o5
          clear o5 g5 at5 N4a C4a B4a x0 x1
          have x0 := (FS.out.trans F5.out).cell X01.out.1
          have x1 := (FS.out.trans F5.out).cell X01.out.2
          go_wp2_with (at_builtin; refine wpList_append_at (R := fun _ => RG w) (B := wS.heap.size) (xs := zs.map fun f => nm f.a) (ys := [nm (fs[m]'(by omega)).a]) (e := 54) (by go_simp) _ _ 44 rfl Tryd.underlying44 (.agg #[.string ⟨#[]⟩, .slice none 0 0]) 40 infoG rfl (by decide) (fun _ => RG.one w) (const_keeps w) rfl rfl (OwnL.fut (fun _ _ _ _ _ h => h) N5.out (Fut.alloc _ _)) (facC_one _ HG1.out) ?l3 ?l4 ?b3 ?k3)
          case l3 => have := hln.out; simp [maxLen]; omega
          case l4 => have := hln.out; simp; omega
          case b3 => have := F5.out.size; simp; omega
          case k3 =>
          intro v6 w6 o6 g6 at6
          have F6 := Lib.hid (Fut.grown (F5.out.trans (Fut.alloc _ _)) g6 (fun k hk => (N5.out.block k hk).1))
          have N5a := OwnL.fut (fun _ _ _ _ _ h => h) N5.out (Fut.alloc w5 (.cells #[.string pB, .slice A' (fs[m]'(by omega)).a.length cp] 54))
          have C5a := OwnL.fut (fun _ _ _ _ _ h => h) C5.out (Fut.alloc w5 (.cells #[.string pB, .slice A' (fs[m]'(by omega)).a.length cp] 54))
          have B5a := OwnL.fut (fun _ _ _ _ _ h => h) B5.out (Fut.alloc w5 (.cells #[.string pB, .slice A' (fs[m]'(by omega)).a.length cp] 54))
          have B6 := Lib.hid (B5a.apart (fun _ _ h => h) g6 Ap5.out.symm)
          have C6 := Lib.hid (C5a.kept (fun _ _ h => h) g6 N5a.typed tyTG)
          have Ap6 := Lib.hid ((Ap5.out.symm).grow at6 (fun k hk => by have := (B5a.block k hk).2; simpa using this)).symm
          have N6 := Lib.hid o6
          clear o6 g6 at6 N5a C5a B5a x0 x1
          have x0 := (FS.out.trans F6.out).cell X01.out.1
          have x1 := (FS.out.trans F6.out).cell X01.out.2
          go_wp2_with (at_builtin; refine wpList_append_at (R := fun _ => RT w) (B := wS.heap.size) (xs := zs.map fun f => f.a) (ys := [(fs[m]'(by omega)).a]) (e := 24) (by go_simp) _ _ 43 rfl Tryd.underlying43 (.slice none 0 0) 24 infoT rfl (by decide) (fun _ => RT.one w) (const_keeps w) rfl rfl (OwnL.fut (fun _ _ _ _ _ h => h) C6.out (Fut.alloc _ _)) (tupC_one _ HV.out) ?l5 ?l6 ?b5 ?k5)
          case l5 => have := hln.out; simp [maxLen]; omega
          case l6 => have := hln.out; simp; omega
          case b5 => have := F6.out.size; simp; omega
          case k5 =>
          intro v7 w7 o7 g7 at7
          have F7 := Lib.hid (Fut.grown (F6.out.trans (Fut.alloc _ _)) g7 (fun k hk => (C6.out.block k hk).1))
          have N6a := OwnL.fut (fun _ _ _ _ _ h => h) N6.out (Fut.alloc w6 (.cells #[.slice A' (fs[m]'(by omega)).a.length cp] 24))
          have C6a := OwnL.fut (fun _ _ _ _ _ h => h) C6.out (Fut.alloc w6 (.cells #[.slice A' (fs[m]'(by omega)).a.length cp] 24))
          have B6a := OwnL.fut (fun _ _ _ _ _ h => h) B6.out (Fut.alloc w6 (.cells #[.slice A' (fs[m]'(by omega)).a.length cp] 24))
          have B7 := Lib.hid (B6a.kept (fun _ _ h => h) g7 C6a.typed tyTG.symm)
          have N7 := Lib.hid (N6a.kept (fun _ _ h => h) g7 C6a.typed tyTG.symm)
          have C7 := Lib.hid o7
          clear o7 g7 at7 N6a C6a B6a x0 x1
          have hm1 : (zs.map fun f => nm f.a) ++ [nm (fs[m]'(by omega)).a] = ((fs.drop m).reverse.map fun f => nm f.a) := by rw [hdr.out]; simp
          have hm2 : (zs.map fun f => f.a) ++ [(fs[m]'(by omega)).a] = ((fs.drop m).reverse.map fun f => f.a) := by rw [hdr.out]; simp
          rw [← hdr.out] at B7
          rw [hm1] at N7
          rw [hm2] at C7
          clear hm1 hm2 hdr
          go_wp2
          refine ⟨⟨m, by omega, ?_, B7, N7, C7, Ap6, F7⟩, by simp [intOf] <;> omega⟩
          cases m with
          | zero => exact .inl ⟨rfl, by simp⟩
          | succ j => exact .inr ⟨j, rfl, by go_num⟩
end Go.Proofs.YtlihkmldclocoaaDoor
