/- RFacts -/
import Derived.Test.YtkdnplebgmmclaaDoorC11
/- The document's Facts: halved, sorted, joined. -/
namespace Go.Proofs.YtkdnplebgmmclaaDoor
open Go.RowKit
set_option linter.unusedSimpArgs false
set_option linter.unusedVariables false

set_option maxHeartbeats 1000000 in
set_option maxRecDepth 100000 in
theorem rfac_small (a : Value) (ts : List Fc) (w : World) (ha : FacsG w a ts) (hb : ts.length ≤ 1) (hl : ∀ t ∈ ts, t.a.length ≤ 4398046511104) :
    Calls Tryd.prog 15 #[a] w fun e w' => ∃ v, e = .returned v ∧ OwnL 2 w.heap.size 31 (RGo w.heap.size 52) w' v (sortU cmpF ts) ∧ Fut w w' := by
  rw [sortU_small ts hb]
  have hb1 : (ts.length : Int) ≤ 1 := by omega
  have HL := Lib.hid hl
  have HA := Lib.hid ha
  have HSZ := Lib.hid ha.size
  obtain ⟨A, cap, rfl, _, _⟩ := SlRep.form ha
  clear hl ha
  go_enter Tryd.func15, Tryd.ntmps15
  go_wp2
  go_loopw [3, 4] (fun o i wr => ∃ k : Nat, k ≤ ts.length ∧ i = .int .i64 k ∧ Hid (OwnL 2 w.heap.size 31 (RGo w.heap.size 52) wr o (ts.take k)) ∧ Hid (Fut w wr)) (fun _ i _ => ts.length - (intOf i).toNat)
  case atStart => exact ⟨0, Nat.zero_le _, rfl, Lib.hid OwnL.nil, Lib.hid (Fut.refl _)⟩
  case round =>
    obtain ⟨k, hk, rfl, hO, hF⟩ := hrel
    by_cases hlt : k < ts.length
    · obtain ⟨b, off, A', cp, rfl, _, x0, x1, _, _, hv⟩ := FacsG.at_ (HA.out.fut RG.stays hF.out) hlt
      have HV := Lib.hid hv
      have hlk := Lib.hid (HL.out _ (List.getElem_mem hlt))
      have hpk := Lib.hid (HSZ.out _ (List.getElem_mem hlt))
      have hnx := Lib.hid (List.take_succ_eq_append_getElem hlt)
      clear hv
      go_wp2
      refine wp_graph 14 [.d, .d, .d, .d, .d, .d, .d, .d, .d, .d, .d, .r (fun v w6 => ∃ A c, v = .slice A ts[k].a.length c ∧ OwnV w.heap.size 52 w6 v ts[k].a), .r (fun v w6 => ∃ u, v = .agg #[.string ts[k].p, u] ∧ OwnV w.heap.size 52 w6 u ts[k].a), .r (fun v w6 => SlRep 2 1 (RGo w.heap.size 52) w6 v [ts[k]])] (by kernel_rfl) (by kernel_rfl) (by kernel_rfl) ?_
      simp only [List.take_succ_cons, List.take_zero, List.drop_succ_cons, List.drop_zero, Exs]
      iterate 11 apply Exists.intro
      apply Run.valG (wanted_none rfl _)
      · intro w1 h1 hk
        have p0 := h1.cell x0; have p1 := h1.cell x1
        have hcw := fun b o => Below.cell (p := ⟨b, o, none⟩) h1
        go_simp; rfl
      simp only [Act.put, List.setIfInBounds_toArray, List.set_cons_succ, List.set_cons_zero, List.nil_append, List.cons_append]
      apply Run.valG (wanted_none rfl _)
      · intro w1 h1 hk
        have p0 := h1.cell x0; have p1 := h1.cell x1
        have hcw := fun b o => Below.cell (p := ⟨b, o, none⟩) h1
        go_simp; rfl
      simp only [Act.put, List.setIfInBounds_toArray, List.set_cons_succ, List.set_cons_zero, List.nil_append, List.cons_append]
      apply Run.valG (wanted_none rfl _)
      · intro w1 h1 hk
        have p0 := h1.cell x0; have p1 := h1.cell x1
        have hcw := fun b o => Below.cell (p := ⟨b, o, none⟩) h1
        go_simp; rfl
      simp only [Act.put, List.setIfInBounds_toArray, List.set_cons_succ, List.set_cons_zero, List.nil_append, List.cons_append]
      apply Run.valG (wanted_none rfl _)
      · intro w1 h1 hk
        have p0 := h1.cell x0; have p1 := h1.cell x1
        have hcw := fun b o => Below.cell (p := ⟨b, o, none⟩) h1
        go_simp; rfl
      simp only [Act.put, List.setIfInBounds_toArray, List.set_cons_succ, List.set_cons_zero, List.nil_append, List.cons_append]
      apply Run.valG (wanted_none rfl _)
      · intro w1 h1 hk
        have p0 := h1.cell x0; have p1 := h1.cell x1
        have hcw := fun b o => Below.cell (p := ⟨b, o, none⟩) h1
        go_simp; rfl
      simp only [Act.put, List.setIfInBounds_toArray, List.set_cons_succ, List.set_cons_zero, List.nil_append, List.cons_append]
      apply Run.valG (wanted_none rfl _)
      · intro w1 h1 hk
        have p0 := h1.cell x0; have p1 := h1.cell x1
        have hcw := fun b o => Below.cell (p := ⟨b, o, none⟩) h1
        go_simp; rfl
      simp only [Act.put, List.setIfInBounds_toArray, List.set_cons_succ, List.set_cons_zero, List.nil_append, List.cons_append]
      apply Run.valG (wanted_none rfl _)
      · intro w1 h1 hk
        have p0 := h1.cell x0; have p1 := h1.cell x1
        have hcw := fun b o => Below.cell (p := ⟨b, o, none⟩) h1
        go_simp; rfl
      simp only [Act.put, List.setIfInBounds_toArray, List.set_cons_succ, List.set_cons_zero, List.nil_append, List.cons_append]
      apply Run.valG (wanted_none rfl _)
      · intro w1 h1 hk
        have p0 := h1.cell x0; have p1 := h1.cell x1
        have hcw := fun b o => Below.cell (p := ⟨b, o, none⟩) h1
        go_simp; rfl
      simp only [Act.put, List.setIfInBounds_toArray, List.set_cons_succ, List.set_cons_zero, List.nil_append, List.cons_append]
      apply Run.valG (wanted_none rfl _)
      · intro w1 h1 hk
        have p0 := h1.cell x0; have p1 := h1.cell x1
        have hcw := fun b o => Below.cell (p := ⟨b, o, none⟩) h1
        go_simp; rfl
      simp only [Act.put, List.setIfInBounds_toArray, List.set_cons_succ, List.set_cons_zero, List.nil_append, List.cons_append]
      apply Run.valG (wanted_none rfl _)
      · intro w1 h1 hk
        have p0 := h1.cell x0; have p1 := h1.cell x1
        have hcw := fun b o => Below.cell (p := ⟨b, o, none⟩) h1
        go_simp; rfl
      simp only [Act.put, List.setIfInBounds_toArray, List.set_cons_succ, List.set_cons_zero, List.nil_append, List.cons_append]
      apply Run.valG (wanted_none rfl _)
      · intro w1 h1 hk
        have p0 := h1.cell x0; have p1 := h1.cell x1
        have hcw := fun b o => Below.cell (p := ⟨b, o, none⟩) h1
        go_simp; rfl
      simp only [Act.put, List.setIfInBounds_toArray, List.set_cons_succ, List.set_cons_zero, List.nil_append, List.cons_append]
      apply Run.valR (wanted_none rfl _) (by intro v w w' hf hs; exact by obtain ⟨A, c, h3, h4⟩ := hs; exact ⟨A, c, h3, h4.fut RV.stays hf⟩)
      · intro w1 h1 hk
        have p0 := h1.cell x0; have p1 := h1.cell x1
        obtain ⟨v6, w6, hr6, ho6, hg6⟩ := run_append_V (P := Tryd.prog) (t := 29) (ty := 29) (e := 52) (B := w.heap.size) (w := w1) (xs := []) (ys := ts[k].a) Tryd.underlying29 infoV OwnL.nil (HV.out.fut RV.stays ((Fut.drew _).trans h1)) (by have := hlk.out; simp; omega) ((hF.out.trans ((Fut.drew _).trans h1)).size); obtain ⟨A6, c6, h7, _, _⟩ := SlRep.form (OwnV.vals ho6); exact ⟨v6, w6, run_op_append rfl rfl rfl hr6, Fut.grown (w0 := w1) (Fut.refl _) hg6 (fun k hk => by cases hk), A6, c6, h7, ho6⟩
      intro v11
      simp only [Act.put, List.setIfInBounds_toArray, List.set_cons_succ, List.set_cons_zero, List.nil_append, List.cons_append]
      apply Run.valR (wanted_none rfl _) (by intro v w w' hf hs; exact by obtain ⟨u, h3, h4⟩ := hs; exact ⟨u, h3, h4.fut RV.stays hf⟩)
      · intro w1 h1 hk
        have f11 := Facts.get hk 0 rfl (by kernel_rfl)
        have p0 := h1.cell x0; have p1 := h1.cell x1
        obtain ⟨A5, c5, rfl, hO5⟩ := f11; go_simp; exact ⟨_, _, ⟨rfl, rfl⟩, Fut.refl _, _, rfl, hO5⟩
      intro v12
      simp only [Act.put, List.setIfInBounds_toArray, List.set_cons_succ, List.set_cons_zero, List.nil_append, List.cons_append]
      apply Run.valR (wanted_none rfl _) (by intro v w w' hf hs; exact hs.fut RGo.stays hf)
      · intro w1 h1 hk
        have f12 := Facts.get hk 1 rfl (by kernel_rfl)
        have p0 := h1.cell x0; have p1 := h1.cell x1
        obtain ⟨u6, rfl, hO6⟩ := f12; go_simp; exact ⟨_, _, ⟨rfl, rfl⟩, Fut.alloc _ _, fac_one _ hpk.out hO6⟩
      intro v13
      simp only [Act.put, List.setIfInBounds_toArray, List.set_cons_succ, List.set_cons_zero, List.nil_append, List.cons_append]
      apply Run.done
      intro w5 h5 hk
      obtain ⟨f11, f12, f13, _⟩ := hk
      have f13' := Lib.hid f13
      have OO := Lib.hid (hO.out.fut RGo.stays ((Fut.drew _).trans h5))
      have F5 := Lib.hid (hF.out.trans ((Fut.drew _).trans h5))
      clear f11 f12 f13
      go_wp2_with (at_builtin; refine wpList_append_L (R := RGo w.heap.size 52) (B := w.heap.size) (xs := ts.take k) (ys := [ts[k]]) (e := 31) (by go_simp) _ _ 22 rfl Tryd.underlying22 (.agg #[.string ⟨#[]⟩, .slice none 0 0]) 40 infoG rfl (by decide) RGo.one (RGo.keeps tyVG) rfl rfl OO.out f13'.out ?l3 ?l4 ?b3 ?k3)
      case l3 => simp [maxLen]; omega
      case l4 => simp; omega
      case b3 => exact F5.out.size
      case k3 =>
      intro v' w' o' g'
      have F' := Lib.hid (Fut.grown F5.out g' (fun k hk => (OO.out.block k hk).1))
      try rw [← hnx.out] at o'
      have O' := Lib.hid o'
      clear g' o'
      go_wp2
      exact ⟨⟨k + 1, by omega, by go_num, O', F'⟩, by simp [intOf] <;> omega⟩
    · obtain rfl : k = ts.length := by omega
      have hO2 := hO.out
      rw [List.take_length] at hO2
      have O2 := Lib.hid hO2
      clear hO hO2
      go_wp2
      go_ret
      exact ⟨_, rfl, O2.out, hF.out⟩

set_option maxHeartbeats 2000000 in
set_option maxRecDepth 100000 in
theorem rfac_big (a : Value) (ts : List Fc) (w : World) (ha : FacsG w a ts) (hb : ¬ ts.length ≤ 1) (hb' : ts.length ≤ 1000000000000) (hl : ∀ t ∈ ts, t.a.length ≤ 4398046511104)
    (ih : ∀ (a : Value) (us : List Fc) (w : World), us.length < ts.length → FacsG w a us → (∀ t ∈ us, t.a.length ≤ 4398046511104) → Calls Tryd.prog 15 #[a] w fun e w' => ∃ v, e = .returned v ∧ OwnL 2 w.heap.size 31 (RGo w.heap.size 52) w' v (sortU cmpF us) ∧ Fut w w') :
    Calls Tryd.prog 15 #[a] w fun e w' => ∃ v, e = .returned v ∧ OwnL 2 w.heap.size 31 (RGo w.heap.size 52) w' v (sortU cmpF ts) ∧ Fut w w' := by
  have HL := Lib.hid hl
  have HA := Lib.hid ha
  have HI := Lib.hid ih
  obtain ⟨A, cap, rfl, hcl, hcm⟩ := SlRep.form ha
  have hne : ∃ p, A = some p := by
    cases A with
    | none => exact absurd (ha.empty) (by intro e; subst e; simp at hb)
    | some p => exact ⟨p, rfl⟩
  obtain ⟨p, rfl⟩ := hne
  have hpf : ∃ b off, p = ⟨b, off, none⟩ := by
    obtain ⟨b, off, A', cp, he, _⟩ := FacsG.at_ ha (k := 0) (by omega)
    injection he with he
    exact ⟨b, off, he⟩
  obtain ⟨b, off, rfl⟩ := hpf
  obtain ⟨h, hh⟩ : ∃ h, ts.length / 2 = h := ⟨_, rfl⟩
  have hq : ((ts.length : Int).tdiv 2) = (h : Int) := by rw [Int.tdiv_eq_ediv_of_nonneg (by omega)]; omega
  have hd1 : ¬ (ts.length : Int) ≤ 1 := by omega
  have hh1 : h ≤ ts.length ∧ h < ts.length ∧ 0 < h := by omega
  have hLx := sortU_len (c := cmpF) (ts.take h)
  have hLy := sortU_len (c := cmpF) (ts.drop h)
  rw [List.length_take] at hLx
  rw [List.length_drop] at hLy
  have hUX := sortU_spec (ord_tot ordF) (ts.take h)
  have hUY := sortU_spec (ord_tot ordF) (ts.drop h)
  have HD := Lib.hid (SlRep.drop HA.out h hh1.1)
  have HTK := Lib.hid (SlRep.take HA.out h hh1.1)
  have HR1 := Lib.hid (fun w1 (f : Fut w w1) => HI.out _ (ts.take h) w1 (by rw [List.length_take]; omega) (HTK.out.fut RG.stays f) (fun t ht => HL.out t (List.mem_of_mem_take ht)))
  have HR2 := Lib.hid (fun w1 (f : Fut w w1) => HI.out _ (ts.drop h) w1 (by rw [List.length_drop]; omega) (HD.out.fut RG.stays f) (fun t ht => HL.out t (List.mem_of_mem_drop ht)))
  have hres := Lib.hid (fun xs (hj : Join cmpF (sortU cmpF (ts.take h)) (sortU cmpF (ts.drop h)) xs [] []) => (show xs = sortU cmpF ts from by
    have h3 := UpOf.join (ord_tot ordF) hUX hUY hj
    rw [List.take_append_drop] at h3
    exact h3.eq (ord_tot ordF)))
  have HLen := Lib.hid (show (sortU cmpF (ts.take h)).length + (sortU cmpF (ts.drop h)).length ≤ 2000000000000 by omega)
  have HUX := Lib.hid hUX.1
  have HUY := Lib.hid hUY.1
  generalize sortU cmpF (ts.take h) = X at HR1 hres HLen HUX
  generalize sortU cmpF (ts.drop h) = Y at HR2 hres HLen HUY
  clear hl ha ih hLx hLy hUX hUY HD HTK HI HL HA hb hb' hh
  obtain ⟨hh1, hh2, hh3⟩ := hh1
  go_enter Tryd.func15, Tryd.ntmps15
  go_wp2_with fail
  refine (HR1.out _ (Fut.refl _)).mono ?_
  rintro e w1 ⟨va, rfl, hOa, h1⟩
  obtain ⟨Aa, capa, rfl, hca, hma⟩ := SlRep.form hOa.rep
  have HOa := Lib.hid hOa
  have H1 := Lib.hid h1
  unfold maxLen at hma
  clear hOa h1
  go_wp2_with fail
  refine (HR2.out _ H1.out).mono ?_
  rintro e w2 ⟨vb, rfl, hOb, h2⟩
  obtain ⟨Ab, capb, rfl, hcb, hmb⟩ := SlRep.form hOb.rep
  have HOb := Lib.hid (OwnG.base hOb H1.out.size)
  have HOa2 := Lib.hid (HOa.out.fut RGo.stays h2)
  have H2 := Lib.hid (H1.out.trans h2)
  unfold maxLen at hmb
  clear hOb h2 HOa HR1 HR2
  go_wp2
  go_loopw [7, 8, 9] (fun o i k wr => ∃ (p q : Nat) (xs : List Fc), p ≤ X.length ∧ q ≤ Y.length ∧ i = .int .i64 p ∧ k = .int .i64 q ∧ Hid (Join cmpF X Y xs (X.drop p) (Y.drop q)) ∧ Hid (xs.length ≤ p + q) ∧ Hid (OwnL 2 w2.heap.size 31 (RGo w.heap.size 52) wr o xs) ∧ Hid (Fut w2 wr)) (fun _ i k _ => (X.length - (intOf i).toNat) + (Y.length - (intOf k).toNat))
  case atStart => exact ⟨0, 0, [], Nat.zero_le _, Nat.zero_le _, rfl, rfl, Lib.hid (Join.start HUX.out HUY.out), Lib.hid (Nat.le_refl _), Lib.hid OwnL.nil, Lib.hid (Fut.refl _)⟩
  case round =>
    obtain ⟨p, q, xs, hp, hq', rfl, rfl, hJ, hxl, hO, hF⟩ := hrel
    by_cases c1 : p < X.length
    · obtain ⟨b1, off1, A1, cp1, rfl, hxp, x0, x1, hox⟩ := ownG_at (HOa2.out.fut RGo.stays hF.out) c1
      have HOX := Lib.hid hox
      have HXP := Lib.hid hxp
      have hdx := Lib.hid (List.drop_eq_getElem_cons c1)
      clear hox hxp
      by_cases c2 : q < Y.length
      · obtain ⟨b2, off2, A2, cp2, rfl, hyp, y0, y1, hoy⟩ := ownG_at (HOb.out.fut RGo.stays hF.out) c2
        have HOY := Lib.hid hoy
        have HYP := Lib.hid hyp
        have hdy := Lib.hid (List.drop_eq_getElem_cons c2)
        clear hoy hyp
        have e1 : ((q : Int) == Y.length) = false := by simp <;> omega
        obtain ⟨c, hc⟩ : ∃ c, cmpF (X[p]'(by omega)) (Y[q]'(by omega)) = c := ⟨_, rfl⟩
        have hneg := Lib.hid ((ord_tot ordF).neg (X[p]'(by omega)) (Y[q]'(by omega)))
        have HC := Lib.hid hc
        clear hc
        go_wp2
        refine wp_graph 9 [.d, .d, .d, .d, .d, .d, .d, .d, .d] (by kernel_rfl) (by kernel_rfl) (by kernel_rfl) ?_
        simp only [List.take_succ_cons, List.take_zero, List.drop_succ_cons, List.drop_zero, Exs]
        iterate 9 apply Exists.intro
        apply Run.valG (wanted_none rfl _)
        · intro w1 h1 hk
          have p0 := h1.cell x0; have p1 := h1.cell y0; have p2 := h1.cell x1; have p3 := h1.cell y1
          have hcw := fun b o => Below.cell (p := ⟨b, o, none⟩) h1
          go_simp; rfl
        simp only [Act.put, List.setIfInBounds_toArray, List.set_cons_succ, List.set_cons_zero, List.nil_append, List.cons_append]
        apply Run.valG (wanted_none rfl _)
        · intro w1 h1 hk
          have p0 := h1.cell x0; have p1 := h1.cell y0; have p2 := h1.cell x1; have p3 := h1.cell y1
          have hcw := fun b o => Below.cell (p := ⟨b, o, none⟩) h1
          go_simp; rfl
        simp only [Act.put, List.setIfInBounds_toArray, List.set_cons_succ, List.set_cons_zero, List.nil_append, List.cons_append]
        apply Run.valG (wanted_none rfl _)
        · intro w1 h1 hk
          have p0 := h1.cell x0; have p1 := h1.cell y0; have p2 := h1.cell x1; have p3 := h1.cell y1
          have hcw := fun b o => Below.cell (p := ⟨b, o, none⟩) h1
          go_simp; rfl
        simp only [Act.put, List.setIfInBounds_toArray, List.set_cons_succ, List.set_cons_zero, List.nil_append, List.cons_append]
        apply Run.valG (wanted_none rfl _)
        · intro w1 h1 hk
          have p0 := h1.cell x0; have p1 := h1.cell y0; have p2 := h1.cell x1; have p3 := h1.cell y1
          have hcw := fun b o => Below.cell (p := ⟨b, o, none⟩) h1
          go_simp; rfl
        simp only [Act.put, List.setIfInBounds_toArray, List.set_cons_succ, List.set_cons_zero, List.nil_append, List.cons_append]
        apply Run.valG (wanted_none rfl _)
        · intro w1 h1 hk
          have p0 := h1.cell x0; have p1 := h1.cell y0; have p2 := h1.cell x1; have p3 := h1.cell y1
          have hcw := fun b o => Below.cell (p := ⟨b, o, none⟩) h1
          go_simp; rfl
        simp only [Act.put, List.setIfInBounds_toArray, List.set_cons_succ, List.set_cons_zero, List.nil_append, List.cons_append]
        apply Run.valG (wanted_none rfl _)
        · intro w1 h1 hk
          have p0 := h1.cell x0; have p1 := h1.cell y0; have p2 := h1.cell x1; have p3 := h1.cell y1
          have hcw := fun b o => Below.cell (p := ⟨b, o, none⟩) h1
          go_simp; rfl
        simp only [Act.put, List.setIfInBounds_toArray, List.set_cons_succ, List.set_cons_zero, List.nil_append, List.cons_append]
        apply Run.valG (wanted_none rfl _)
        · intro w1 h1 hk
          have p0 := h1.cell x0; have p1 := h1.cell y0; have p2 := h1.cell x1; have p3 := h1.cell y1
          have hcw := fun b o => Below.cell (p := ⟨b, o, none⟩) h1
          go_simp; rfl
        simp only [Act.put, List.setIfInBounds_toArray, List.set_cons_succ, List.set_cons_zero, List.nil_append, List.cons_append]
        apply Run.valG (wanted_none rfl _)
        · intro w1 h1 hk
          have p0 := h1.cell x0; have p1 := h1.cell y0; have p2 := h1.cell x1; have p3 := h1.cell y1
          have hcw := fun b o => Below.cell (p := ⟨b, o, none⟩) h1
          go_simp; rfl
        simp only [Act.put, List.setIfInBounds_toArray, List.set_cons_succ, List.set_cons_zero, List.nil_append, List.cons_append]
        apply Run.call (wanted_none rfl _) (fun _ _ => by go_simp; exact ⟨rfl, rfl⟩)
        · intro w1 h1 hk
          have p0 := h1.cell x0; have p1 := h1.cell y0; have p2 := h1.cell x1; have p3 := h1.cell y1
          have := rcmpF_any (X[p]'(by omega)) (Y[q]'(by omega)) _ _ _ (HOX.out.vals.fut RV.stays ((Fut.drew _).trans h1)) (HOY.out.vals.fut RV.stays ((Fut.drew _).trans h1)); rw [HC.out] at this; exact this
        simp only [Act.put, List.setIfInBounds_toArray, List.set_cons_succ, List.set_cons_zero, List.nil_append, List.cons_append]
        apply Run.done
        intro w4 h4 hk
        clear hk
        have F4 := Lib.hid ((Fut.drew _).trans h4)
        replace x0 := F4.out.cell x0
        replace y0 := F4.out.cell y0
        replace x1 := F4.out.cell x1
        replace y1 := F4.out.cell y1
        clear h4
        rcases (by omega : c < 0 ∨ c = 0 ∨ 0 < c) with d | d | d
        · have d1 : c ≤ 0 := by omega
          have d2 : (c == 0) = false := by simp <;> omega
          have d3 : ¬ 0 < c := by omega
          have hj' := Lib.hid (by have hj := hJ.out; rw [hdx.out] at hj; exact hj.left (ord_tot ordF) (fun y hy => by rw [hdy.out] at hy; injection hy with hy; rw [← hy, HC.out]; exact d))
          have OO := Lib.hid (hO.out.fut RGo.stays F4.out)
          have FF := Lib.hid (hF.out.trans F4.out)
          have HE := Lib.hid (OwnL.fut RV.stays HOX.out F4.out)
          have HEP := HXP
          go_wp2_with (at_builtin; refine wpList_append_L (R := RGo w.heap.size 52) (B := w2.heap.size) (xs := xs) (ys := [(X[p]'(by omega))]) (e := 31) (by go_simp) _ _ 22 rfl Tryd.underlying22 (.agg #[.string ⟨#[]⟩, .slice none 0 0]) 40 infoG rfl (by decide) RGo.one (RGo.keeps tyVG) rfl rfl (OO.out.fut RGo.stays (Fut.alloc _ _)) (fac_one _ HEP.out HE.out) ?l1 ?l2 ?b1 ?k1)
          case l1 => have := hxl.out; have := HLen.out; simp [maxLen]; omega
          case l2 => have := hxl.out; have := HLen.out; simp; omega
          case b1 => have := FF.out.size; simp; omega
          case k1 =>
          intro v' w' o' g'
          have F' := Lib.hid (Fut.grown (FF.out.trans (Fut.alloc _ _)) g' (fun k hk => (OO.out.block k hk).1))
          have O' := Lib.hid o'
          have X' := Lib.hid (show (xs ++ [(X[p]'(by omega))]).length ≤ (p + 1) + q by have := hxl.out; rw [List.length_append, List.length_singleton]; omega)
          clear g' o'
          go_wp2
          exact ⟨⟨(p + 1), q, _, by omega, by omega, by first | rfl | go_num, by first | rfl | go_num, hj', X', O', F'⟩, by simp [intOf] <;> omega⟩
        · subst d
          have hj' := Lib.hid (by have hj := hJ.out; rw [hdx.out, hdy.out] at hj; exact hj.both (ord_tot ordF) HC.out)
          have OO := Lib.hid (hO.out.fut RGo.stays F4.out)
          have FF := Lib.hid (hF.out.trans F4.out)
          have HE := Lib.hid (OwnL.fut RV.stays HOX.out F4.out)
          have HEP := HXP
          go_wp2_with (at_builtin; refine wpList_append_L (R := RGo w.heap.size 52) (B := w2.heap.size) (xs := xs) (ys := [(X[p]'(by omega))]) (e := 31) (by go_simp) _ _ 22 rfl Tryd.underlying22 (.agg #[.string ⟨#[]⟩, .slice none 0 0]) 40 infoG rfl (by decide) RGo.one (RGo.keeps tyVG) rfl rfl (OO.out.fut RGo.stays (Fut.alloc _ _)) (fac_one _ HEP.out HE.out) ?l1 ?l2 ?b1 ?k1)
          case l1 => have := hxl.out; have := HLen.out; simp [maxLen]; omega
          case l2 => have := hxl.out; have := HLen.out; simp; omega
          case b1 => have := FF.out.size; simp; omega
          case k1 =>
          intro v' w' o' g'
          have F' := Lib.hid (Fut.grown (FF.out.trans (Fut.alloc _ _)) g' (fun k hk => (OO.out.block k hk).1))
          have O' := Lib.hid o'
          have X' := Lib.hid (show (xs ++ [(X[p]'(by omega))]).length ≤ (p + 1) + (q + 1) by have := hxl.out; rw [List.length_append, List.length_singleton]; omega)
          clear g' o'
          go_wp2
          exact ⟨⟨(p + 1), (q + 1), _, by omega, by omega, by first | rfl | go_num, by first | rfl | go_num, hj', X', O', F'⟩, by simp [intOf] <;> omega⟩
        · have d1 : ¬ c ≤ 0 := by omega
          have d2 : (c == 0) = false := by simp <;> omega
          have d3 : 0 < c := by omega
          have hj' := Lib.hid (by have hj := hJ.out; rw [hdy.out] at hj; exact hj.right (ord_tot ordF) (fun y hy => by rw [hdx.out] at hy; injection hy with hy; rw [← hy]; have h5 := hneg.out; have h6 := HC.out; omega))
          have OO := Lib.hid (hO.out.fut RGo.stays F4.out)
          have FF := Lib.hid (hF.out.trans F4.out)
          have HE := Lib.hid (OwnL.fut RV.stays HOY.out F4.out)
          have HEP := HYP
          go_wp2_with (at_builtin; refine wpList_append_L (R := RGo w.heap.size 52) (B := w2.heap.size) (xs := xs) (ys := [(Y[q]'(by omega))]) (e := 31) (by go_simp) _ _ 22 rfl Tryd.underlying22 (.agg #[.string ⟨#[]⟩, .slice none 0 0]) 40 infoG rfl (by decide) RGo.one (RGo.keeps tyVG) rfl rfl (OO.out.fut RGo.stays (Fut.alloc _ _)) (fac_one _ HEP.out HE.out) ?l1 ?l2 ?b1 ?k1)
          case l1 => have := hxl.out; have := HLen.out; simp [maxLen]; omega
          case l2 => have := hxl.out; have := HLen.out; simp; omega
          case b1 => have := FF.out.size; simp; omega
          case k1 =>
          intro v' w' o' g'
          have F' := Lib.hid (Fut.grown (FF.out.trans (Fut.alloc _ _)) g' (fun k hk => (OO.out.block k hk).1))
          have O' := Lib.hid o'
          have X' := Lib.hid (show (xs ++ [(Y[q]'(by omega))]).length ≤ p + (q + 1) by have := hxl.out; rw [List.length_append, List.length_singleton]; omega)
          clear g' o'
          go_wp2
          exact ⟨⟨p, (q + 1), _, by omega, by omega, by first | rfl | go_num, by first | rfl | go_num, hj', X', O', F'⟩, by simp [intOf] <;> omega⟩
      · obtain rfl : q = Y.length := by omega
        have e1 : ((Y.length : Int) == Y.length) = true := by simp
        have hj' := Lib.hid (by have hj := hJ.out; rw [hdx.out] at hj; exact hj.left (ord_tot ordF) (fun y hy => by rw [List.drop_length] at hy; cases hy))
        have OO := Lib.hid (hO.out.fut RGo.stays (Fut.refl _))
        have FF := Lib.hid (hF.out)
        have HE := Lib.hid (OwnL.fut RV.stays HOX.out (Fut.refl _))
        have HEP := HXP
        go_wp2_with (at_builtin; refine wpList_append_L (R := RGo w.heap.size 52) (B := w2.heap.size) (xs := xs) (ys := [(X[p]'(by omega))]) (e := 31) (by go_simp) _ _ 22 rfl Tryd.underlying22 (.agg #[.string ⟨#[]⟩, .slice none 0 0]) 40 infoG rfl (by decide) RGo.one (RGo.keeps tyVG) rfl rfl (OO.out.fut RGo.stays (Fut.alloc _ _)) (fac_one _ HEP.out HE.out) ?l1 ?l2 ?b1 ?k1)
        case l1 => have := hxl.out; have := HLen.out; simp [maxLen]; omega
        case l2 => have := hxl.out; have := HLen.out; simp; omega
        case b1 => have := FF.out.size; simp; omega
        case k1 =>
        intro v' w' o' g'
        have F' := Lib.hid (Fut.grown (FF.out.trans (Fut.alloc _ _)) g' (fun k hk => (OO.out.block k hk).1))
        have O' := Lib.hid o'
        have X' := Lib.hid (show (xs ++ [(X[p]'(by omega))]).length ≤ (p + 1) + Y.length by have := hxl.out; rw [List.length_append, List.length_singleton]; omega)
        clear g' o'
        go_wp2
        exact ⟨⟨(p + 1), Y.length, _, by omega, by omega, by first | rfl | go_num, by first | rfl | go_num, hj', X', O', F'⟩, by simp [intOf] <;> omega⟩
    · obtain rfl : p = X.length := by omega
      by_cases c2 : q < Y.length
      · obtain ⟨b2, off2, A2, cp2, rfl, hyp, y0, y1, hoy⟩ := ownG_at (HOb.out.fut RGo.stays hF.out) c2
        have HOY := Lib.hid hoy
        have HYP := Lib.hid hyp
        have hdy := Lib.hid (List.drop_eq_getElem_cons c2)
        clear hoy hyp
        have e1 : ((q : Int) == Y.length) = false := by simp <;> omega
        have hj' := Lib.hid (by have hj := hJ.out; rw [hdy.out] at hj; exact hj.right (ord_tot ordF) (fun y hy => by rw [List.drop_length] at hy; cases hy))
        have OO := Lib.hid (hO.out.fut RGo.stays (Fut.refl _))
        have FF := Lib.hid (hF.out)
        have HE := Lib.hid (OwnL.fut RV.stays HOY.out (Fut.refl _))
        have HEP := HYP
        go_wp2_with (at_builtin; refine wpList_append_L (R := RGo w.heap.size 52) (B := w2.heap.size) (xs := xs) (ys := [(Y[q]'(by omega))]) (e := 31) (by go_simp) _ _ 22 rfl Tryd.underlying22 (.agg #[.string ⟨#[]⟩, .slice none 0 0]) 40 infoG rfl (by decide) RGo.one (RGo.keeps tyVG) rfl rfl (OO.out.fut RGo.stays (Fut.alloc _ _)) (fac_one _ HEP.out HE.out) ?l1 ?l2 ?b1 ?k1)
        case l1 => have := hxl.out; have := HLen.out; simp [maxLen]; omega
        case l2 => have := hxl.out; have := HLen.out; simp; omega
        case b1 => have := FF.out.size; simp; omega
        case k1 =>
        intro v' w' o' g'
        have F' := Lib.hid (Fut.grown (FF.out.trans (Fut.alloc _ _)) g' (fun k hk => (OO.out.block k hk).1))
        have O' := Lib.hid o'
        have X' := Lib.hid (show (xs ++ [(Y[q]'(by omega))]).length ≤ X.length + (q + 1) by have := hxl.out; rw [List.length_append, List.length_singleton]; omega)
        clear g' o'
        go_wp2
        exact ⟨⟨X.length, (q + 1), _, by omega, by omega, by first | rfl | go_num, by first | rfl | go_num, hj', X', O', F'⟩, by simp [intOf] <;> omega⟩
      · obtain rfl : q = Y.length := by omega
        have hR := Lib.hid (hres.out xs (by have hj := hJ.out; rw [List.drop_length, List.drop_length] at hj; exact hj))
        go_wp2
        go_ret
        exact ⟨_, rfl, by rw [← hR.out]; exact OwnL.base hO.out H2.out.size, H2.out.trans hF.out⟩
theorem rfacts_any (n : Nat) : ∀ (a : Value) (ts : List Fc) (w : World), ts.length = n → n ≤ 1000000000000 → FacsG w a ts → (∀ t ∈ ts, t.a.length ≤ 4398046511104) →
    Calls Tryd.prog 15 #[a] w fun e w' => ∃ v, e = .returned v ∧ OwnL 2 w.heap.size 31 (RGo w.heap.size 52) w' v (sortU cmpF ts) ∧ Fut w w' := by
  induction n using Nat.strongRecOn with
  | _ n ih =>
    intro a ts w hn hb ha hl
    by_cases h : ts.length ≤ 1
    · exact rfac_small a ts w ha h hl
    · exact rfac_big a ts w ha h (by omega) hl fun a us w hu hau hlu => ih us.length (by omega) a us w rfl (by omega) hau hlu
end Go.Proofs.YtkdnplebgmmclaaDoor
