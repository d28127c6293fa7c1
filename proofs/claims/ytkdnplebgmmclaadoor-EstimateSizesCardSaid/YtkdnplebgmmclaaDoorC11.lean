/- Facts, OwnG -/
import Derived.Test.YtkdnplebgmmclaaDoorC10
/- value.Facts: the facts in their order, each once, in memory of the call's own. Printed by facts.py. -/
namespace Go.Proofs.YtkdnplebgmmclaaDoor
open Go.RowKit
set_option linter.unusedSimpArgs false
set_option linter.unusedVariables false

/-- A slice literal of one fact. -/
theorem fac_one {B : Nat} {ev : TypeId} {w : World} {v : Value} {f : Fc} (e : TypeId) (hp : f.p.size ≤ 140737488351232) (h : OwnV B ev w v f.a) : SlRep 2 1 (RGo B ev) (w.alloc (.cells #[.string f.p, v] e)) (.slice (some ⟨w.heap.size, 0, none⟩) 1 1) [f] := by
  refine ⟨_, 1, rfl, Nat.le_refl _, Nat.le_refl _, fun i y hy => ⟨w.heap.size, 0, [.string f.p, v], rfl, rfl, fun j u hj => ?_, ?_⟩⟩
  · have hil : i < 1 := (List.getElem?_eq_some_iff.1 hy).1
    have hjl : j < 2 := (List.getElem?_eq_some_iff.1 hj).1
    obtain rfl : i = 0 := by omega
    refine (World.cell?_alloc_mark w _ _ (0, 0) _).trans ?_
    rcases (by omega : j = 0 ∨ j = 1) with rfl | rfl <;> simpa using hj
  · have hil : i < 1 := (List.getElem?_eq_some_iff.1 hy).1
    obtain rfl : i = 0 := by omega
    simp only [List.getElem?_cons_zero, Option.some.injEq] at hy
    subst hy
    exact ⟨_, rfl, hp, OwnL.fut RV.stays h (Fut.alloc _ _)⟩
theorem RGo.base {B B' : Nat} {ev : TypeId} {w : World} {cs : List Value} {x : Fc} (h : RGo B ev w cs x) (hB : B' ≤ B) : RGo B' ev w cs x := by
  obtain ⟨v, h1, h2, h3⟩ := h
  exact ⟨v, h1, h2, h3.base hB⟩
theorem OwnG.base {B B' : Nat} {e ev : TypeId} {w : World} {v : Value} {xs : List Fc} (h : OwnL 2 B e (RGo B ev) w v xs) (hB : B' ≤ B) : OwnL 2 B' e (RGo B' ev) w v xs :=
  (h.imp fun _ _ hr => hr.base hB).base hB
theorem tyVG : 52 ≠ 31 := by decide
theorem boxG_at (w : World) (s : ByteArray) (v : Value) (e : TypeId) : (w.alloc (.cells #[.string s, v] e)).cell? ⟨w.heap.size, 0, none⟩ = some (.string s) ∧ (w.alloc (.cells #[.string s, v] e)).cell? ⟨w.heap.size, 1, none⟩ = some v :=
  ⟨by go_simp, by go_simp⟩

set_option maxHeartbeats 2000000 in
set_option maxRecDepth 100000 in
theorem facts_any (a : Value) (ts : List Fc) (w : World) (ha : FacsG w a ts) (hb : ts.length ≤ 1000000000000) (hl : ∀ t ∈ ts, t.a.length ≤ 4398046511104) :
    Calls Tryd.prog 19 #[a] w fun e w' => ∃ v, e = .returned v ∧ OwnL 2 w.heap.size 31 (RGo w.heap.size 52) w' v (sortU cmpF ts) ∧ Fut w w' := by
  have HL := Lib.hid hl
  have HA := Lib.hid ha
  have HBN := Lib.hid hb
  have HSZ := Lib.hid ha.size
  obtain ⟨A0, cap0, rfl, _, _⟩ := SlRep.form ha
  clear hl ha hb
  go_enter Tryd.func19, Tryd.ntmps19
  go_wp2_with fail
  refine (clone_G _ ts _ HA.out (by have := HBN.out; omega)).mono ?_
  rintro e wc ⟨t, rfl, hO, h1⟩
  go_wp2_with fail
  refine (sortF_any w wc h1 t ts hO (by have := HBN.out; omega)).mono ?_
  rintro e wS ⟨rfl, ts', hperm, hsort, hT, h2⟩
  have HU := Lib.hid (sortU_congr (c := cmpF) (ord_tot ordF) (fun x => hperm.mem_iff (a := x)))
  have HL' := Lib.hid (show ∀ t ∈ ts', t.a.length ≤ 4398046511104 from fun t ht => HL.out t (hperm.mem_iff.1 ht))
  have HSZ' := Lib.hid (show ∀ t ∈ ts', t.p.size ≤ 140737488351232 from fun t ht => HSZ.out t (hperm.mem_iff.1 ht))
  have hlen := hperm.length_eq
  have HBN' := Lib.hid (show ts'.length ≤ 1000000000000 by rw [hlen]; exact HBN.out)
  have HS := Lib.hid hsort
  have H2 := Lib.hid h2
  have HT := Lib.hid hT
  obtain ⟨A, cap, rfl, hcl, hcm⟩ := SlRep.form hT
  clear hO h1 hperm hsort h2 hT hlen HA HL HBN HSZ
  go_wp2
  go_loopw [4, 13] (fun o i wr => ∃ (k : Nat) (xs : List Fc), k ≤ ts'.length ∧ i = .int .i64 k ∧ Hid (UpOf cmpF (ts'.take k) xs) ∧ Hid (xs.length ≤ k) ∧ Hid (OwnL 2 wS.heap.size 31 (RGo wS.heap.size 52) wr o xs) ∧ Hid (Fut wS wr)) (fun _ i _ => ts'.length - (intOf i).toNat)
  case atStart => exact ⟨0, [], Nat.zero_le _, rfl, Lib.hid ⟨by simp [Up], by simp⟩, Lib.hid (Nat.le_refl _), Lib.hid OwnL.nil, Lib.hid (Fut.refl _)⟩
  case round =>
    obtain ⟨k, xs, hk, rfl, hU, hxl, hO, hF⟩ := hrel
    by_cases hlt : k < ts'.length
    · obtain ⟨b, off, A', cp, rfl, _, x0, x1, hq1, hq2, hv⟩ := FacsG.at_ (HT.out.fut RG.stays hF.out) hlt
      have HV := Lib.hid hv
      have hlk := Lib.hid (HL'.out _ (List.getElem_mem hlt))
      have hpk := Lib.hid (HSZ'.out _ (List.getElem_mem hlt))
      clear hv
      by_cases hk0 : k = 0
      · subst hk0
        simp only [Nat.zero_mul, Nat.zero_add, Nat.add_zero] at x0 x1
        have hkeep := Lib.hid (UpOf.keep (ord_tot ordF) HS.out hlt hU.out (.inl rfl))
        go_wp2
        obtain ⟨t0, t1⟩ := boxG_at wr (ts'[0]'(by omega)).p (.slice A' (ts'[0]'(by omega)).a.length cp) 31
        have s0 := (Fut.alloc wr (.cells #[.string (ts'[0]'(by omega)).p, .slice A' (ts'[0]'(by omega)).a.length cp] 31)).cell x0
        have s1 := (Fut.alloc wr (.cells #[.string (ts'[0]'(by omega)).p, .slice A' (ts'[0]'(by omega)).a.length cp] 31)).cell x1
        have FWA := Lib.hid (Fut.alloc wr (.cells #[.string (ts'[0]'(by omega)).p, .slice A' (ts'[0]'(by omega)).a.length cp] 31))
        obtain ⟨W, hW⟩ : ∃ W, wr.alloc (.cells #[.string (ts'[0]'(by omega)).p, .slice A' (ts'[0]'(by omega)).a.length cp] 31) = W := ⟨_, rfl⟩
        rw [hW] at t0 t1 s0 s1 FWA ⊢
        have HVW := Lib.hid (HV.out.fut RV.stays FWA.out)
        have hOW := Lib.hid (hO.out.fut RGo.stays FWA.out)
        have FWW := Lib.hid (hF.out.trans FWA.out)
        clear hW
        refine wp_graph 12 [.d, .d, .d, .d, .d, .d, .d, .d, .d, .d, .d, .d] (by kernel_rfl) (by kernel_rfl) (by kernel_rfl) ?_
        simp only [List.take_succ_cons, List.take_zero, List.drop_succ_cons, List.drop_zero, Exs]
        iterate 12 apply Exists.intro
        apply Run.valG (wanted_none rfl _)
        · intro w1 h1 hk
          have hcw := fun b o => Below.cell (p := ⟨b, o, none⟩) h1
          go_simp; rfl
        simp only [Act.put, List.setIfInBounds_toArray, List.set_cons_succ, List.set_cons_zero, List.nil_append, List.cons_append]
        apply Run.valG (wanted_none rfl _)
        · intro w1 h1 hk
          have hcw := fun b o => Below.cell (p := ⟨b, o, none⟩) h1
          go_simp; rfl
        simp only [Act.put, List.setIfInBounds_toArray, List.set_cons_succ, List.set_cons_zero, List.nil_append, List.cons_append]
        apply Run.valG (wanted_none rfl _)
        · intro w1 h1 hk
          have hcw := fun b o => Below.cell (p := ⟨b, o, none⟩) h1
          go_simp; rfl
        simp only [Act.put, List.setIfInBounds_toArray, List.set_cons_succ, List.set_cons_zero, List.nil_append, List.cons_append]
        apply Run.skip (by go_simp)
        simp only [Act.put, List.setIfInBounds_toArray, List.set_cons_succ, List.set_cons_zero, List.nil_append, List.cons_append]
        apply Run.skip (by go_simp)
        simp only [Act.put, List.setIfInBounds_toArray, List.set_cons_succ, List.set_cons_zero, List.nil_append, List.cons_append]
        apply Run.skip (by go_simp)
        simp only [Act.put, List.setIfInBounds_toArray, List.set_cons_succ, List.set_cons_zero, List.nil_append, List.cons_append]
        apply Run.skip (by go_simp)
        simp only [Act.put, List.setIfInBounds_toArray, List.set_cons_succ, List.set_cons_zero, List.nil_append, List.cons_append]
        apply Run.skip (by go_simp)
        simp only [Act.put, List.setIfInBounds_toArray, List.set_cons_succ, List.set_cons_zero, List.nil_append, List.cons_append]
        apply Run.skip (by go_simp)
        simp only [Act.put, List.setIfInBounds_toArray, List.set_cons_succ, List.set_cons_zero, List.nil_append, List.cons_append]
        apply Run.skip (by go_simp)
        simp only [Act.put, List.setIfInBounds_toArray, List.set_cons_succ, List.set_cons_zero, List.nil_append, List.cons_append]
        apply Run.skip (by go_simp)
        simp only [Act.put, List.setIfInBounds_toArray, List.set_cons_succ, List.set_cons_zero, List.nil_append, List.cons_append]
        apply Run.valG (wanted_none rfl _)
        · intro w1 h1 hk
          have hcw := fun b o => Below.cell (p := ⟨b, o, none⟩) h1
          go_simp; rfl
        simp only [Act.put, List.setIfInBounds_toArray, List.set_cons_succ, List.set_cons_zero, List.nil_append, List.cons_append]
        apply Run.done
        intro w4 h4 hk
        clear hk
        replace t0 := h4.cell t0
        replace t1 := h4.cell t1
        replace HVW := Lib.hid (HVW.out.fut RV.stays ((Fut.drew _).trans h4))
        replace hOW := Lib.hid (hOW.out.fut RGo.stays ((Fut.drew _).trans h4))
        replace FWW := Lib.hid (FWW.out.trans ((Fut.drew _).trans h4))
        go_wp2
        refine wp_graph 8 [.d, .d, .d, .d, .d, .r (fun v w => ∃ A c, v = .slice A (ts'[0]'(by omega)).a.length c ∧ OwnV wS.heap.size 52 w v (ts'[0]'(by omega)).a), .r (fun v w => ∃ u, v = .agg #[.string (ts'[0]'(by omega)).p, u] ∧ OwnV wS.heap.size 52 w u (ts'[0]'(by omega)).a), .r (fun v w => SlRep 2 1 (RGo wS.heap.size 52) w v [(ts'[0]'(by omega))])] (by kernel_rfl) (by kernel_rfl) (by kernel_rfl) ?_
        simp only [List.take_succ_cons, List.take_zero, List.drop_succ_cons, List.drop_zero, Exs]
        iterate 5 apply Exists.intro
        apply Run.valG (wanted_none rfl _)
        · intro w1 h1 hk
          have p0 := h1.cell t0; have p1 := h1.cell t1
          have hcw := fun b o => Below.cell (p := ⟨b, o, none⟩) h1
          go_simp; rfl
        simp only [Act.put, List.setIfInBounds_toArray, List.set_cons_succ, List.set_cons_zero, List.nil_append, List.cons_append]
        apply Run.valG (wanted_none rfl _)
        · intro w1 h1 hk
          have p0 := h1.cell t0; have p1 := h1.cell t1
          have hcw := fun b o => Below.cell (p := ⟨b, o, none⟩) h1
          go_simp; rfl
        simp only [Act.put, List.setIfInBounds_toArray, List.set_cons_succ, List.set_cons_zero, List.nil_append, List.cons_append]
        apply Run.valG (wanted_none rfl _)
        · intro w1 h1 hk
          have p0 := h1.cell t0; have p1 := h1.cell t1
          have hcw := fun b o => Below.cell (p := ⟨b, o, none⟩) h1
          go_simp; rfl
        simp only [Act.put, List.setIfInBounds_toArray, List.set_cons_succ, List.set_cons_zero, List.nil_append, List.cons_append]
        apply Run.valG (wanted_none rfl _)
        · intro w1 h1 hk
          have p0 := h1.cell t0; have p1 := h1.cell t1
          have hcw := fun b o => Below.cell (p := ⟨b, o, none⟩) h1
          go_simp; rfl
        simp only [Act.put, List.setIfInBounds_toArray, List.set_cons_succ, List.set_cons_zero, List.nil_append, List.cons_append]
        apply Run.valG (wanted_none rfl _)
        · intro w1 h1 hk
          have p0 := h1.cell t0; have p1 := h1.cell t1
          have hcw := fun b o => Below.cell (p := ⟨b, o, none⟩) h1
          go_simp; rfl
        simp only [Act.put, List.setIfInBounds_toArray, List.set_cons_succ, List.set_cons_zero, List.nil_append, List.cons_append]
        apply Run.callR (wanted_none rfl _) (by intro v w w' hf hs; exact by obtain ⟨A, c, h3, h4⟩ := hs; exact ⟨A, c, h3, h4.fut RV.stays hf⟩) (fun _ _ => by go_simp; exact ⟨rfl, rfl⟩)
        · intro w1 h1 hk
          have p0 := h1.cell t0; have p1 := h1.cell t1
          exact (clone_V _ (ts'[0]'(by omega)).a _ (HVW.out.fut RV.stays ((Fut.drew _).trans h1)) hlk.out).mono fun e w' ⟨v, h3, h4, h6⟩ => by obtain ⟨A6, c6, h7, _, _⟩ := SlRep.form (OwnV.vals h4); exact ⟨v, h3, h6, A6, c6, h7, OwnL.base h4 (((FWW.out.trans (Fut.drew _)).trans h1).size)⟩
        intro v5
        simp only [Act.put, List.setIfInBounds_toArray, List.set_cons_succ, List.set_cons_zero, List.nil_append, List.cons_append]
        apply Run.valR (wanted_none rfl _) (by intro v w w' hf hs; exact by obtain ⟨u, h3, h4⟩ := hs; exact ⟨u, h3, h4.fut RV.stays hf⟩)
        · intro w1 h1 hk
          have f5 := Facts.get hk 0 rfl (by kernel_rfl)
          have p0 := h1.cell t0; have p1 := h1.cell t1
          obtain ⟨A5, c5, rfl, hO5⟩ := f5; go_simp; exact ⟨_, _, ⟨rfl, rfl⟩, Fut.refl _, _, rfl, hO5⟩
        intro v6
        simp only [Act.put, List.setIfInBounds_toArray, List.set_cons_succ, List.set_cons_zero, List.nil_append, List.cons_append]
        apply Run.valR (wanted_none rfl _) (by intro v w w' hf hs; exact hs.fut RGo.stays hf)
        · intro w1 h1 hk
          have f6 := Facts.get hk 1 rfl (by kernel_rfl)
          have p0 := h1.cell t0; have p1 := h1.cell t1
          obtain ⟨u6, rfl, hO6⟩ := f6; go_simp; exact ⟨_, _, ⟨rfl, rfl⟩, Fut.alloc _ _, fac_one _ hpk.out hO6⟩
        intro v7
        simp only [Act.put, List.setIfInBounds_toArray, List.set_cons_succ, List.set_cons_zero, List.nil_append, List.cons_append]
        apply Run.done
        intro w5 h5 hk
        obtain ⟨f5, f6, f7, _⟩ := hk
        have f7' := Lib.hid f7
        have OO := Lib.hid (hOW.out.fut RGo.stays ((Fut.drew _).trans h5))
        have F5 := Lib.hid (FWW.out.trans ((Fut.drew _).trans h5))
        clear f5 f6 f7
        go_wp2_with (at_builtin; refine wpList_append_L (R := RGo wS.heap.size 52) (B := wS.heap.size) (xs := xs) (ys := [(ts'[0]'(by omega))]) (e := 31) (by go_simp) _ _ 22 rfl Tryd.underlying22 (.agg #[.string ⟨#[]⟩, .slice none 0 0]) 40 infoG rfl (by decide) RGo.one (RGo.keeps tyVG) rfl rfl OO.out f7'.out ?l1 ?l2 ?b1 ?k1)
        case l1 => have := hxl.out; have := HBN'.out; simp [maxLen]; omega
        case l2 => have := hxl.out; have := HBN'.out; simp; omega
        case b1 => have := F5.out.size; simp; omega
        case k1 =>
        intro v' w' o' g'
        have F' := Lib.hid (Fut.grown F5.out g' (fun k hk => (OO.out.block k hk).1))
        have O' := Lib.hid o'
        have X' := Lib.hid (show (xs ++ [(ts'[0]'(by omega))]).length ≤ 0 + 1 by have := hxl.out; rw [List.length_append, List.length_singleton]; omega)
        clear g' o'
        go_wp2
        exact ⟨⟨0 + 1, _, by omega, by go_num, hkeep, X', O', F'⟩, by simp [intOf] <;> omega⟩
      · obtain ⟨m, rfl⟩ : ∃ m, k = m + 1 := ⟨k - 1, by omega⟩
        obtain ⟨b', off', B', cp', he, _, y0, y1, hq3, hq4, hv'⟩ := FacsG.at_ (HT.out.fut RG.stays hF.out) (show m < ts'.length by omega)
        injection he with he
        injection he with he1 he2
        subst he1; subst he2
        have HV' := Lib.hid hv'
        clear hv'
        have e1 : ¬ (m : Int) + 1 = 0 := by omega
        have e2 : IntKind.i64.wrap (m : Int) = m := by have := HBN'.out; rw [IntKind.wrap_i64]; omega
        have e3 : (0 : Int) ≤ m ∧ (m : Int) < ts'.length := by omega
        go_wp2
        obtain ⟨t0, t1⟩ := boxG_at wr (ts'[m + 1]'(by omega)).p (.slice A' (ts'[m + 1]'(by omega)).a.length cp) 31
        have s0 := (Fut.alloc wr (.cells #[.string (ts'[m + 1]'(by omega)).p, .slice A' (ts'[m + 1]'(by omega)).a.length cp] 31)).cell x0
        have s1 := (Fut.alloc wr (.cells #[.string (ts'[m + 1]'(by omega)).p, .slice A' (ts'[m + 1]'(by omega)).a.length cp] 31)).cell x1
        have FWA := Lib.hid (Fut.alloc wr (.cells #[.string (ts'[m + 1]'(by omega)).p, .slice A' (ts'[m + 1]'(by omega)).a.length cp] 31))
        obtain ⟨W, hW⟩ : ∃ W, wr.alloc (.cells #[.string (ts'[m + 1]'(by omega)).p, .slice A' (ts'[m + 1]'(by omega)).a.length cp] 31) = W := ⟨_, rfl⟩
        rw [hW] at t0 t1 s0 s1 FWA ⊢
        have HVW := Lib.hid (HV.out.fut RV.stays FWA.out)
        have hOW := Lib.hid (hO.out.fut RGo.stays FWA.out)
        have FWW := Lib.hid (hF.out.trans FWA.out)
        replace y0 := FWA.out.cell y0
        replace y1 := FWA.out.cell y1
        have HVW' := Lib.hid (HV'.out.fut RV.stays FWA.out)
        clear hW
        by_cases hc : cmpF (ts'[m]'(by omega)) (ts'[m + 1]'(by omega)) = 0
        · have hdrop := Lib.hid (UpOf.drop (ord_tot ordF) hlt hU.out (Nat.succ_pos _) hc)
          have d1 : (cmpF (ts'[m]'(by omega)) (ts'[m + 1]'(by omega)) != 0) = false := by simpa using hc
          have X' := Lib.hid (Nat.le_succ_of_le hxl.out)
          clear hc
          refine wp_graph 12 [.d, .d, .d, .d, .d, .d, .d, .d, .d, .d, .d, .d] (by kernel_rfl) (by kernel_rfl) (by kernel_rfl) ?_
          simp only [List.take_succ_cons, List.take_zero, List.drop_succ_cons, List.drop_zero, Exs]
          iterate 12 apply Exists.intro
          apply Run.valG (wanted_none rfl _)
          · intro w1 h1 hk
            have p0 := h1.cell t0; have p1 := h1.cell t1; have q0 := h1.cell y0; have q1 := h1.cell y1
            have hcw := fun b o => Below.cell (p := ⟨b, o, none⟩) h1
            go_simp; rfl
          simp only [Act.put, List.setIfInBounds_toArray, List.set_cons_succ, List.set_cons_zero, List.nil_append, List.cons_append]
          apply Run.valG (wanted_none rfl _)
          · intro w1 h1 hk
            have p0 := h1.cell t0; have p1 := h1.cell t1; have q0 := h1.cell y0; have q1 := h1.cell y1
            have hcw := fun b o => Below.cell (p := ⟨b, o, none⟩) h1
            go_simp; rfl
          simp only [Act.put, List.setIfInBounds_toArray, List.set_cons_succ, List.set_cons_zero, List.nil_append, List.cons_append]
          apply Run.valG (wanted_none rfl _)
          · intro w1 h1 hk
            have p0 := h1.cell t0; have p1 := h1.cell t1; have q0 := h1.cell y0; have q1 := h1.cell y1
            have hcw := fun b o => Below.cell (p := ⟨b, o, none⟩) h1
            go_simp; rfl
          simp only [Act.put, List.setIfInBounds_toArray, List.set_cons_succ, List.set_cons_zero, List.nil_append, List.cons_append]
          apply Run.valG (by go_simp)
          · intro w1 h1 hk
            have p0 := h1.cell t0; have p1 := h1.cell t1; have q0 := h1.cell y0; have q1 := h1.cell y1
            have hcw := fun b o => Below.cell (p := ⟨b, o, none⟩) h1
            go_simp; rfl
          simp only [Act.put, List.setIfInBounds_toArray, List.set_cons_succ, List.set_cons_zero, List.nil_append, List.cons_append]
          apply Run.valG (by go_simp)
          · intro w1 h1 hk
            have p0 := h1.cell t0; have p1 := h1.cell t1; have q0 := h1.cell y0; have q1 := h1.cell y1
            have hcw := fun b o => Below.cell (p := ⟨b, o, none⟩) h1
            go_simp; rfl
          simp only [Act.put, List.setIfInBounds_toArray, List.set_cons_succ, List.set_cons_zero, List.nil_append, List.cons_append]
          apply Run.valG (by go_simp)
          · intro w1 h1 hk
            have p0 := h1.cell t0; have p1 := h1.cell t1; have q0 := h1.cell y0; have q1 := h1.cell y1
            have hcw := fun b o => Below.cell (p := ⟨b, o, none⟩) h1
            go_simp; rfl
          simp only [Act.put, List.setIfInBounds_toArray, List.set_cons_succ, List.set_cons_zero, List.nil_append, List.cons_append]
          apply Run.valG (by go_simp)
          · intro w1 h1 hk
            have p0 := h1.cell t0; have p1 := h1.cell t1; have q0 := h1.cell y0; have q1 := h1.cell y1
            have hcw := fun b o => Below.cell (p := ⟨b, o, none⟩) h1
            go_simp; rfl
          simp only [Act.put, List.setIfInBounds_toArray, List.set_cons_succ, List.set_cons_zero, List.nil_append, List.cons_append]
          apply Run.valG (by go_simp)
          · intro w1 h1 hk
            have p0 := h1.cell t0; have p1 := h1.cell t1; have q0 := h1.cell y0; have q1 := h1.cell y1
            have hcw := fun b o => Below.cell (p := ⟨b, o, none⟩) h1
            go_simp; rfl
          simp only [Act.put, List.setIfInBounds_toArray, List.set_cons_succ, List.set_cons_zero, List.nil_append, List.cons_append]
          apply Run.valG (by go_simp)
          · intro w1 h1 hk
            have p0 := h1.cell t0; have p1 := h1.cell t1; have q0 := h1.cell y0; have q1 := h1.cell y1
            have hcw := fun b o => Below.cell (p := ⟨b, o, none⟩) h1
            go_simp; rfl
          simp only [Act.put, List.setIfInBounds_toArray, List.set_cons_succ, List.set_cons_zero, List.nil_append, List.cons_append]
          apply Run.call (by go_simp) (fun _ _ => by go_simp; exact ⟨rfl, rfl⟩)
          · intro w1 h1 hk
            have p0 := h1.cell t0; have p1 := h1.cell t1; have q0 := h1.cell y0; have q1 := h1.cell y1
            exact cmpF_any (ts'[m]'(by omega)) (ts'[m + 1]'(by omega)) _ _ _ (HVW'.out.fut RV.stays ((Fut.drew _).trans h1)) (HVW.out.fut RV.stays ((Fut.drew _).trans h1))
          simp only [Act.put, List.setIfInBounds_toArray, List.set_cons_succ, List.set_cons_zero, List.nil_append, List.cons_append]
          apply Run.valG (by go_simp)
          · intro w1 h1 hk
            have p0 := h1.cell t0; have p1 := h1.cell t1; have q0 := h1.cell y0; have q1 := h1.cell y1
            have hcw := fun b o => Below.cell (p := ⟨b, o, none⟩) h1
            go_simp; rfl
          simp only [Act.put, List.setIfInBounds_toArray, List.set_cons_succ, List.set_cons_zero, List.nil_append, List.cons_append]
          apply Run.valG (wanted_none rfl _)
          · intro w1 h1 hk
            have p0 := h1.cell t0; have p1 := h1.cell t1; have q0 := h1.cell y0; have q1 := h1.cell y1
            have hcw := fun b o => Below.cell (p := ⟨b, o, none⟩) h1
            go_simp; rfl
          simp only [Act.put, List.setIfInBounds_toArray, List.set_cons_succ, List.set_cons_zero, List.nil_append, List.cons_append]
          apply Run.done
          intro w4 h4 hk
          clear hk
          go_wp2
          exact ⟨⟨m + 1 + 1, xs, by omega, by go_num, hdrop, X', Lib.hid (hOW.out.fut RGo.stays ((Fut.drew _).trans h4)), Lib.hid (FWW.out.trans ((Fut.drew _).trans h4))⟩, by simp [intOf] <;> omega⟩
        · have hkeep := Lib.hid (UpOf.keep (ord_tot ordF) HS.out hlt hU.out (.inr ⟨by omega, hc⟩))
          have d1 : (cmpF (ts'[m]'(by omega)) (ts'[m + 1]'(by omega)) != 0) = true := by simpa using hc
          clear hc
          refine wp_graph 12 [.d, .d, .d, .d, .d, .d, .d, .d, .d, .d, .d, .d] (by kernel_rfl) (by kernel_rfl) (by kernel_rfl) ?_
          simp only [List.take_succ_cons, List.take_zero, List.drop_succ_cons, List.drop_zero, Exs]
          iterate 12 apply Exists.intro
          apply Run.valG (wanted_none rfl _)
          · intro w1 h1 hk
            have p0 := h1.cell t0; have p1 := h1.cell t1; have q0 := h1.cell y0; have q1 := h1.cell y1
            have hcw := fun b o => Below.cell (p := ⟨b, o, none⟩) h1
            go_simp; rfl
          simp only [Act.put, List.setIfInBounds_toArray, List.set_cons_succ, List.set_cons_zero, List.nil_append, List.cons_append]
          apply Run.valG (wanted_none rfl _)
          · intro w1 h1 hk
            have p0 := h1.cell t0; have p1 := h1.cell t1; have q0 := h1.cell y0; have q1 := h1.cell y1
            have hcw := fun b o => Below.cell (p := ⟨b, o, none⟩) h1
            go_simp; rfl
          simp only [Act.put, List.setIfInBounds_toArray, List.set_cons_succ, List.set_cons_zero, List.nil_append, List.cons_append]
          apply Run.valG (wanted_none rfl _)
          · intro w1 h1 hk
            have p0 := h1.cell t0; have p1 := h1.cell t1; have q0 := h1.cell y0; have q1 := h1.cell y1
            have hcw := fun b o => Below.cell (p := ⟨b, o, none⟩) h1
            go_simp; rfl
          simp only [Act.put, List.setIfInBounds_toArray, List.set_cons_succ, List.set_cons_zero, List.nil_append, List.cons_append]
          apply Run.valG (by go_simp)
          · intro w1 h1 hk
            have p0 := h1.cell t0; have p1 := h1.cell t1; have q0 := h1.cell y0; have q1 := h1.cell y1
            have hcw := fun b o => Below.cell (p := ⟨b, o, none⟩) h1
            go_simp; rfl
          simp only [Act.put, List.setIfInBounds_toArray, List.set_cons_succ, List.set_cons_zero, List.nil_append, List.cons_append]
          apply Run.valG (by go_simp)
          · intro w1 h1 hk
            have p0 := h1.cell t0; have p1 := h1.cell t1; have q0 := h1.cell y0; have q1 := h1.cell y1
            have hcw := fun b o => Below.cell (p := ⟨b, o, none⟩) h1
            go_simp; rfl
          simp only [Act.put, List.setIfInBounds_toArray, List.set_cons_succ, List.set_cons_zero, List.nil_append, List.cons_append]
          apply Run.valG (by go_simp)
          · intro w1 h1 hk
            have p0 := h1.cell t0; have p1 := h1.cell t1; have q0 := h1.cell y0; have q1 := h1.cell y1
            have hcw := fun b o => Below.cell (p := ⟨b, o, none⟩) h1
            go_simp; rfl
          simp only [Act.put, List.setIfInBounds_toArray, List.set_cons_succ, List.set_cons_zero, List.nil_append, List.cons_append]
          apply Run.valG (by go_simp)
          · intro w1 h1 hk
            have p0 := h1.cell t0; have p1 := h1.cell t1; have q0 := h1.cell y0; have q1 := h1.cell y1
            have hcw := fun b o => Below.cell (p := ⟨b, o, none⟩) h1
            go_simp; rfl
          simp only [Act.put, List.setIfInBounds_toArray, List.set_cons_succ, List.set_cons_zero, List.nil_append, List.cons_append]
          apply Run.valG (by go_simp)
          · intro w1 h1 hk
            have p0 := h1.cell t0; have p1 := h1.cell t1; have q0 := h1.cell y0; have q1 := h1.cell y1
            have hcw := fun b o => Below.cell (p := ⟨b, o, none⟩) h1
            go_simp; rfl
          simp only [Act.put, List.setIfInBounds_toArray, List.set_cons_succ, List.set_cons_zero, List.nil_append, List.cons_append]
          apply Run.valG (by go_simp)
          · intro w1 h1 hk
            have p0 := h1.cell t0; have p1 := h1.cell t1; have q0 := h1.cell y0; have q1 := h1.cell y1
            have hcw := fun b o => Below.cell (p := ⟨b, o, none⟩) h1
            go_simp; rfl
          simp only [Act.put, List.setIfInBounds_toArray, List.set_cons_succ, List.set_cons_zero, List.nil_append, List.cons_append]
          apply Run.call (by go_simp) (fun _ _ => by go_simp; exact ⟨rfl, rfl⟩)
          · intro w1 h1 hk
            have p0 := h1.cell t0; have p1 := h1.cell t1; have q0 := h1.cell y0; have q1 := h1.cell y1
            exact cmpF_any (ts'[m]'(by omega)) (ts'[m + 1]'(by omega)) _ _ _ (HVW'.out.fut RV.stays ((Fut.drew _).trans h1)) (HVW.out.fut RV.stays ((Fut.drew _).trans h1))
          simp only [Act.put, List.setIfInBounds_toArray, List.set_cons_succ, List.set_cons_zero, List.nil_append, List.cons_append]
          apply Run.valG (by go_simp)
          · intro w1 h1 hk
            have p0 := h1.cell t0; have p1 := h1.cell t1; have q0 := h1.cell y0; have q1 := h1.cell y1
            have hcw := fun b o => Below.cell (p := ⟨b, o, none⟩) h1
            go_simp; rfl
          simp only [Act.put, List.setIfInBounds_toArray, List.set_cons_succ, List.set_cons_zero, List.nil_append, List.cons_append]
          apply Run.valG (wanted_none rfl _)
          · intro w1 h1 hk
            have p0 := h1.cell t0; have p1 := h1.cell t1; have q0 := h1.cell y0; have q1 := h1.cell y1
            have hcw := fun b o => Below.cell (p := ⟨b, o, none⟩) h1
            go_simp; rfl
          simp only [Act.put, List.setIfInBounds_toArray, List.set_cons_succ, List.set_cons_zero, List.nil_append, List.cons_append]
          apply Run.done
          intro w4 h4 hk
          clear hk
          replace t0 := h4.cell t0
          replace t1 := h4.cell t1
          replace HVW := Lib.hid (HVW.out.fut RV.stays ((Fut.drew _).trans h4))
          replace hOW := Lib.hid (hOW.out.fut RGo.stays ((Fut.drew _).trans h4))
          replace FWW := Lib.hid (FWW.out.trans ((Fut.drew _).trans h4))
          go_wp2
          refine wp_graph 8 [.d, .d, .d, .d, .d, .r (fun v w => ∃ A c, v = .slice A (ts'[m + 1]'(by omega)).a.length c ∧ OwnV wS.heap.size 52 w v (ts'[m + 1]'(by omega)).a), .r (fun v w => ∃ u, v = .agg #[.string (ts'[m + 1]'(by omega)).p, u] ∧ OwnV wS.heap.size 52 w u (ts'[m + 1]'(by omega)).a), .r (fun v w => SlRep 2 1 (RGo wS.heap.size 52) w v [(ts'[m + 1]'(by omega))])] (by kernel_rfl) (by kernel_rfl) (by kernel_rfl) ?_
          simp only [List.take_succ_cons, List.take_zero, List.drop_succ_cons, List.drop_zero, Exs]
          iterate 5 apply Exists.intro
          apply Run.valG (wanted_none rfl _)
          · intro w1 h1 hk
            have p0 := h1.cell t0; have p1 := h1.cell t1
            have hcw := fun b o => Below.cell (p := ⟨b, o, none⟩) h1
            go_simp; rfl
          simp only [Act.put, List.setIfInBounds_toArray, List.set_cons_succ, List.set_cons_zero, List.nil_append, List.cons_append]
          apply Run.valG (wanted_none rfl _)
          · intro w1 h1 hk
            have p0 := h1.cell t0; have p1 := h1.cell t1
            have hcw := fun b o => Below.cell (p := ⟨b, o, none⟩) h1
            go_simp; rfl
          simp only [Act.put, List.setIfInBounds_toArray, List.set_cons_succ, List.set_cons_zero, List.nil_append, List.cons_append]
          apply Run.valG (wanted_none rfl _)
          · intro w1 h1 hk
            have p0 := h1.cell t0; have p1 := h1.cell t1
            have hcw := fun b o => Below.cell (p := ⟨b, o, none⟩) h1
            go_simp; rfl
          simp only [Act.put, List.setIfInBounds_toArray, List.set_cons_succ, List.set_cons_zero, List.nil_append, List.cons_append]
          apply Run.valG (wanted_none rfl _)
          · intro w1 h1 hk
            have p0 := h1.cell t0; have p1 := h1.cell t1
            have hcw := fun b o => Below.cell (p := ⟨b, o, none⟩) h1
            go_simp; rfl
          simp only [Act.put, List.setIfInBounds_toArray, List.set_cons_succ, List.set_cons_zero, List.nil_append, List.cons_append]
          apply Run.valG (wanted_none rfl _)
          · intro w1 h1 hk
            have p0 := h1.cell t0; have p1 := h1.cell t1
            have hcw := fun b o => Below.cell (p := ⟨b, o, none⟩) h1
            go_simp; rfl
          simp only [Act.put, List.setIfInBounds_toArray, List.set_cons_succ, List.set_cons_zero, List.nil_append, List.cons_append]
          apply Run.callR (wanted_none rfl _) (by intro v w w' hf hs; exact by obtain ⟨A, c, h3, h4⟩ := hs; exact ⟨A, c, h3, h4.fut RV.stays hf⟩) (fun _ _ => by go_simp; exact ⟨rfl, rfl⟩)
          · intro w1 h1 hk
            have p0 := h1.cell t0; have p1 := h1.cell t1
            exact (clone_V _ (ts'[m + 1]'(by omega)).a _ (HVW.out.fut RV.stays ((Fut.drew _).trans h1)) hlk.out).mono fun e w' ⟨v, h3, h4, h6⟩ => by obtain ⟨A6, c6, h7, _, _⟩ := SlRep.form (OwnV.vals h4); exact ⟨v, h3, h6, A6, c6, h7, OwnL.base h4 (((FWW.out.trans (Fut.drew _)).trans h1).size)⟩
          intro v5
          simp only [Act.put, List.setIfInBounds_toArray, List.set_cons_succ, List.set_cons_zero, List.nil_append, List.cons_append]
          apply Run.valR (wanted_none rfl _) (by intro v w w' hf hs; exact by obtain ⟨u, h3, h4⟩ := hs; exact ⟨u, h3, h4.fut RV.stays hf⟩)
          · intro w1 h1 hk
            have f5 := Facts.get hk 0 rfl (by kernel_rfl)
            have p0 := h1.cell t0; have p1 := h1.cell t1
            obtain ⟨A5, c5, rfl, hO5⟩ := f5; go_simp; exact ⟨_, _, ⟨rfl, rfl⟩, Fut.refl _, _, rfl, hO5⟩
          intro v6
          simp only [Act.put, List.setIfInBounds_toArray, List.set_cons_succ, List.set_cons_zero, List.nil_append, List.cons_append]
          apply Run.valR (wanted_none rfl _) (by intro v w w' hf hs; exact hs.fut RGo.stays hf)
          · intro w1 h1 hk
            have f6 := Facts.get hk 1 rfl (by kernel_rfl)
            have p0 := h1.cell t0; have p1 := h1.cell t1
            obtain ⟨u6, rfl, hO6⟩ := f6; go_simp; exact ⟨_, _, ⟨rfl, rfl⟩, Fut.alloc _ _, fac_one _ hpk.out hO6⟩
          intro v7
          simp only [Act.put, List.setIfInBounds_toArray, List.set_cons_succ, List.set_cons_zero, List.nil_append, List.cons_append]
          apply Run.done
          intro w5 h5 hk
          obtain ⟨f5, f6, f7, _⟩ := hk
          have f7' := Lib.hid f7
          have OO := Lib.hid (hOW.out.fut RGo.stays ((Fut.drew _).trans h5))
          have F5 := Lib.hid (FWW.out.trans ((Fut.drew _).trans h5))
          clear f5 f6 f7
          go_wp2_with (at_builtin; refine wpList_append_L (R := RGo wS.heap.size 52) (B := wS.heap.size) (xs := xs) (ys := [(ts'[m + 1]'(by omega))]) (e := 31) (by go_simp) _ _ 22 rfl Tryd.underlying22 (.agg #[.string ⟨#[]⟩, .slice none 0 0]) 40 infoG rfl (by decide) RGo.one (RGo.keeps tyVG) rfl rfl OO.out f7'.out ?l1 ?l2 ?b1 ?k1)
          case l1 => have := hxl.out; have := HBN'.out; simp [maxLen]; omega
          case l2 => have := hxl.out; have := HBN'.out; simp; omega
          case b1 => have := F5.out.size; simp; omega
          case k1 =>
          intro v' w' o' g'
          have F' := Lib.hid (Fut.grown F5.out g' (fun k hk => (OO.out.block k hk).1))
          have O' := Lib.hid o'
          have X' := Lib.hid (show (xs ++ [(ts'[m + 1]'(by omega))]).length ≤ m + 1 + 1 by have := hxl.out; rw [List.length_append, List.length_singleton]; omega)
          clear g' o'
          go_wp2
          exact ⟨⟨m + 1 + 1, _, by omega, by go_num, hkeep, X', O', F'⟩, by simp [intOf] <;> omega⟩
    · obtain rfl : k = ts'.length := by omega
      have hR := Lib.hid (show sortU cmpF ts = xs by
        have h3 := hU.out
        rw [List.take_length] at h3
        rw [← HU.out]; exact (h3.eq (ord_tot ordF)).symm)
      go_wp2
      go_ret
      exact ⟨_, rfl, by rw [hR.out]; exact OwnG.base hO.out H2.out.size, H2.out.trans hF.out⟩
end Go.Proofs.YtkdnplebgmmclaaDoor
/- A fact of a list of the call's own. -/
namespace Go.Proofs.YtkdnplebgmmclaaDoor
open Go.RowKit
set_option linter.unusedSimpArgs false
set_option linter.unusedVariables false

theorem ownG_at {B B' : Nat} {e ev : TypeId} {w : World} {A : Option Addr} {n cap : Nat} {X : List Fc} (h : OwnL 2 B e (RGo B' ev) w (.slice A n cap) X) {k : Nat} (hk : k < X.length) :
    ∃ b off A' cap', A = some ⟨b, off, none⟩ ∧ (X[k]).p.size ≤ 140737488351232 ∧ w.cell? ⟨b, off + k * 2, none⟩ = some (.string (X[k]).p) ∧ w.cell? ⟨b, off + k * 2 + 1, none⟩ = some (.slice A' (X[k]).a.length cap') ∧ OwnV B' ev w (.slice A' (X[k]).a.length cap') (X[k]).a := by
  obtain ⟨A1, cap1, hv, _, _, h3⟩ := h.rep
  obtain ⟨b, off, cs, hA, hl, hc, u, hr, hp, hu⟩ := h3 k _ (List.getElem?_eq_getElem hk)
  injection hv with hv _ _
  subst hr
  obtain ⟨A', cap', rfl, h4, h5⟩ := SlRep.form hu.vals
  exact ⟨b, off, A', cap', hv.trans hA, hp, hc 0 _ rfl, hc 1 _ rfl, hu⟩

end Go.Proofs.YtkdnplebgmmclaaDoor
