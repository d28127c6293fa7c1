/- The document's Tuples: halved, sorted, joined. -/
import Derived.Test.YtlihkmldclocoaaDoorTuples
import Derived.Test.YtlihkmldclocoaaDoorVals
namespace Go.Proofs.YtlihkmldclocoaaDoor
open Go.RowKit
set_option linter.unusedSimpArgs false
set_option linter.unusedVariables false

theorem sortU_small {α : Type} {c : α → α → Int} : ∀ (l : List α), l.length ≤ 1 → sortU c l = l
  | [], _ => rfl
  | [x], _ => rfl
  | _ :: _ :: _, h => by simp at h

set_option maxHeartbeats 1000000 in
set_option maxRecDepth 100000 in
theorem rtup_small (a : Value) (ts : List (List V)) (w : World) (ha : Tups w a ts) (hb : ts.length ≤ 1) (hl : ∀ t ∈ ts, t.length ≤ 4398046511104) :
    Calls Tryd.prog 20 #[a] w fun e w' => ∃ v, e = .returned v ∧ OwnL 1 w.heap.size 24 (RTo w.heap.size 27) w' v (sortU cmpT ts) ∧ Fut w w' := by
  rw [sortU_small ts hb]
  have hb1 : (ts.length : Int) ≤ 1 := by omega
  have HL := Lib.hid hl
  have HA := Lib.hid ha
  obtain ⟨A, cap, rfl, _, _⟩ := SlRep.form ha
  clear hl ha
  go_enter Tryd.func20, Tryd.ntmps20
  go_wp2
  go_loopw [3, 4] (fun o i wr => ∃ k : Nat, k ≤ ts.length ∧ i = .int .i64 k ∧ Hid (OwnL 1 w.heap.size 24 (RTo w.heap.size 27) wr o (ts.take k)) ∧ Hid (Fut w wr)) (fun _ i _ => ts.length - (intOf i).toNat)
  case atStart => exact ⟨0, Nat.zero_le _, rfl, Lib.hid OwnL.nil, Lib.hid (Fut.refl _)⟩
  case round =>
    obtain ⟨k, hk, rfl, hO, hF⟩ := hrel
    by_cases hlt : k < ts.length
    · obtain ⟨b, off, A', cp, rfl, x0, _, _, hv⟩ := Tups.at_ (HA.out.fut RT.stays hF.out) hlt
      have HV := Lib.hid hv
      have hlk := Lib.hid (HL.out _ (List.getElem_mem hlt))
      have hnx := Lib.hid (List.take_succ_eq_append_getElem hlt)
      clear hv
      go_wp2_with (at_builtin; refine wpList_append_V (by go_simp) _ _ 24 27 rfl Tryd.underlying24 infoV w.heap.size _ _ [] ts[k] rfl rfl OwnL.nil HV.out ?l1 ?b1 ?k1)
      case l1 => have := hlk.out; simp; omega
      case b1 => exact hF.out.size
      case k1 =>
      intro v3 w3 o3 g3
      have F3 := Lib.hid (Fut.grown (w0 := w) hF.out g3 (fun k hk => by cases hk))
      have F33 := Lib.hid (Fut.grown (w0 := wr) (Fut.refl _) g3 (fun k hk => by cases hk))
      obtain ⟨A4, cp4, rfl, _, _⟩ := SlRep.form o3.vals
      have HO3 := Lib.hid o3
      have OO := Lib.hid (hO.out.fut RTo.stays F33.out)
      clear g3 o3
      go_wp2_with (at_builtin; refine wpList_append_L (R := RTo w.heap.size 27) (B := w.heap.size) (xs := ts.take k) (ys := [ts[k]]) (e := 24) (by go_simp) _ _ 43 rfl Tryd.underlying43 (.slice none 0 0) 24 infoT rfl (by decide) RTo.one (RTo.keeps tyVT) rfl rfl (OO.out.fut RTo.stays (Fut.alloc _ _)) (tup_one _ HO3.out) ?l3 ?l4 ?b3 ?k3)
      case l3 => simp [maxLen]; omega
      case l4 => simp; omega
      case b3 => have := F3.out.size; simp; omega
      case k3 =>
      intro v' w' o' g'
      have F' := Lib.hid (Fut.grown (F3.out.trans (Fut.alloc _ _)) g' (fun k hk => (OO.out.block k hk).1))
      try rw [← hnx.out] at o'
      have O' := Lib.hid o'
      clear g' o'
      go_wp2
      exact ⟨⟨k + 1, by omega, by go_num, O', F'⟩, by simp [intOf] <;> omega⟩
    · obtain rfl : k = ts.length := by omega
      have hO2 := hO.out
      rw [List.take_length] at hO2
      have O2 := Lib.hid hO2
      clear hO hO2
      go_wp2
      go_ret
      exact ⟨_, rfl, O2.out, hF.out⟩

theorem sortU_len {α : Type} {c : α → α → Int} : ∀ l : List α, (sortU c l).length ≤ l.length := fun l => by
  have hi : ∀ (x : α) (m : List α), (insU c x m).length ≤ m.length + 1 := fun x m => by
    induction m with
    | nil => simp [insU]
    | cons y r ih =>
      unfold insU
      split
      · simp
      · split
        · simp
        · simp only [List.length_cons]; omega
  induction l with
  | nil => simp [sortU]
  | cons x r ih =>
    have := hi x (sortU c r)
    show (insU c x (sortU c r)).length ≤ _
    simp only [List.length_cons]; omega
theorem ownT_at {B B' : Nat} {e ev : TypeId} {w : World} {A : Option Addr} {n cap : Nat} {X : List (List V)} (h : OwnL 1 B e (RTo B' ev) w (.slice A n cap) X) {k : Nat} (hk : k < X.length) :
    ∃ b off A' cap', A = some ⟨b, off, none⟩ ∧ w.cell? ⟨b, off + k, none⟩ = some (.slice A' (X[k]).length cap') ∧ OwnV B' ev w (.slice A' (X[k]).length cap') X[k] := by
  obtain ⟨A1, cap1, hv, _, _, h3⟩ := h.rep
  obtain ⟨b, off, cs, hA, hl, hc, u, hr, hu⟩ := h3 k _ (List.getElem?_eq_getElem hk)
  injection hv with hv _ _
  subst hr
  obtain ⟨A', cap', rfl, h4, h5⟩ := SlRep.form hu.vals
  exact ⟨b, off, A', cap', hv.trans hA, by have := hc 0 _ rfl; simpa using this, hu⟩

set_option maxHeartbeats 2000000 in
set_option maxRecDepth 100000 in
theorem rtup_big (a : Value) (ts : List (List V)) (w : World) (ha : Tups w a ts) (hb : ¬ ts.length ≤ 1) (hb' : ts.length ≤ 1000000000000) (hl : ∀ t ∈ ts, t.length ≤ 4398046511104)
    (ih : ∀ (a : Value) (us : List (List V)) (w : World), us.length < ts.length → Tups w a us → (∀ t ∈ us, t.length ≤ 4398046511104) → Calls Tryd.prog 20 #[a] w fun e w' => ∃ v, e = .returned v ∧ OwnL 1 w.heap.size 24 (RTo w.heap.size 27) w' v (sortU cmpT us) ∧ Fut w w') :
    Calls Tryd.prog 20 #[a] w fun e w' => ∃ v, e = .returned v ∧ OwnL 1 w.heap.size 24 (RTo w.heap.size 27) w' v (sortU cmpT ts) ∧ Fut w w' := by
  have HL := Lib.hid hl
  have HA := Lib.hid ha
  have HI := Lib.hid ih
  obtain ⟨A, cap, rfl, hcl, hcm⟩ := SlRep.form ha
  have hne : ∃ p, A = some p := by
    cases A with
    | none => exact absurd (ha.empty) (by intro e; subst e; simp at hb)
    | some p => exact ⟨p, rfl⟩
  obtain ⟨p, rfl⟩ := hne
  have hpf : ∃ b off, p = ⟨b, off, none⟩ := by
    obtain ⟨b, off, A', cp, he, _⟩ := Tups.at_ ha (k := 0) (by omega)
    injection he with he
    exact ⟨b, off, he⟩
  obtain ⟨b, off, rfl⟩ := hpf
  obtain ⟨h, hh⟩ : ∃ h, ts.length / 2 = h := ⟨_, rfl⟩
  have hq : ((ts.length : Int).tdiv 2) = (h : Int) := by rw [Int.tdiv_eq_ediv_of_nonneg (by omega)]; omega
  have hd1 : ¬ (ts.length : Int) ≤ 1 := by omega
  have hh1 : h ≤ ts.length ∧ h < ts.length ∧ 0 < h := by omega
  have hLx := sortU_len (c := cmpT) (ts.take h)
  have hLy := sortU_len (c := cmpT) (ts.drop h)
  rw [List.length_take] at hLx
  rw [List.length_drop] at hLy
  have hUX := sortU_spec (ord_tot ordT) (ts.take h)
  have hUY := sortU_spec (ord_tot ordT) (ts.drop h)
  have HD := Lib.hid (SlRep.drop HA.out h hh1.1)
  have HTK := Lib.hid (SlRep.take HA.out h hh1.1)
  have HR1 := Lib.hid (fun w1 (f : Fut w w1) => HI.out _ (ts.take h) w1 (by rw [List.length_take]; omega) (HTK.out.fut RT.stays f) (fun t ht => HL.out t (List.mem_of_mem_take ht)))
  have HR2 := Lib.hid (fun w1 (f : Fut w w1) => HI.out _ (ts.drop h) w1 (by rw [List.length_drop]; omega) (HD.out.fut RT.stays f) (fun t ht => HL.out t (List.mem_of_mem_drop ht)))
  have hres := Lib.hid (fun xs (hj : Join cmpT (sortU cmpT (ts.take h)) (sortU cmpT (ts.drop h)) xs [] []) => (show xs = sortU cmpT ts from by
    have h3 := UpOf.join (ord_tot ordT) hUX hUY hj
    rw [List.take_append_drop] at h3
    exact h3.eq (ord_tot ordT)))
  have HLen := Lib.hid (show (sortU cmpT (ts.take h)).length + (sortU cmpT (ts.drop h)).length ≤ 2000000000000 by omega)
  have HUX := Lib.hid hUX.1
  have HUY := Lib.hid hUY.1
  generalize sortU cmpT (ts.take h) = X at HR1 hres HLen HUX
  generalize sortU cmpT (ts.drop h) = Y at HR2 hres HLen HUY
  simp only [Nat.mul_one] at HR2
  clear hl ha ih hLx hLy hUX hUY HD HTK HI HL HA hb hb' hh
  obtain ⟨hh1, hh2, hh3⟩ := hh1
  go_enter Tryd.func20, Tryd.ntmps20
  go_wp2_with fail
  refine (HR1.out _ (Fut.refl _)).mono ?_
  rintro e w1 ⟨va, rfl, hOa, h1⟩
  obtain ⟨Aa, capa, rfl, hca, hma⟩ := SlRep.form hOa.rep
  have HOa := Lib.hid hOa
  have H1 := Lib.hid h1
  unfold maxLen at hma
  clear hOa h1
  go_wp2_with fail
  refine (HR2.out _ H1.out).mono ?_
  rintro e w2 ⟨vb, rfl, hOb, h2⟩
  obtain ⟨Ab, capb, rfl, hcb, hmb⟩ := SlRep.form hOb.rep
  have HOb := Lib.hid (OwnT.base hOb H1.out.size)
  have HOa2 := Lib.hid (HOa.out.fut RTo.stays h2)
  have H2 := Lib.hid (H1.out.trans h2)
  unfold maxLen at hmb
  clear hOb h2 HOa HR1 HR2
  go_wp2
  go_loopw [7, 8, 9] (fun o i k wr => ∃ (p q : Nat) (xs : List (List V)), p ≤ X.length ∧ q ≤ Y.length ∧ i = .int .i64 p ∧ k = .int .i64 q ∧ Hid (Join cmpT X Y xs (X.drop p) (Y.drop q)) ∧ Hid (xs.length ≤ p + q) ∧ Hid (OwnL 1 w2.heap.size 24 (RTo w.heap.size 27) wr o xs) ∧ Hid (Fut w2 wr)) (fun _ i k _ => (X.length - (intOf i).toNat) + (Y.length - (intOf k).toNat))
  case atStart => exact ⟨0, 0, [], Nat.zero_le _, Nat.zero_le _, rfl, rfl, Lib.hid (Join.start HUX.out HUY.out), Lib.hid (Nat.le_refl _), Lib.hid OwnL.nil, Lib.hid (Fut.refl _)⟩
  case round =>
    obtain ⟨p, q, xs, hp, hq', rfl, rfl, hJ, hxl, hO, hF⟩ := hrel
    by_cases c1 : p < X.length
    · obtain ⟨b1, off1, A1, cp1, rfl, x0, hox⟩ := ownT_at (HOa2.out.fut RTo.stays hF.out) c1
      have HOX := Lib.hid hox
      have hdx := Lib.hid (List.drop_eq_getElem_cons c1)
      clear hox
      by_cases c2 : q < Y.length
      · obtain ⟨b2, off2, A2, cp2, rfl, y0, hoy⟩ := ownT_at (HOb.out.fut RTo.stays hF.out) c2
        have HOY := Lib.hid hoy
        have hdy := Lib.hid (List.drop_eq_getElem_cons c2)
        clear hoy
        have e1 : ((q : Int) == Y.length) = false := by simp <;> omega
        obtain ⟨c, hc⟩ : ∃ c, cmpT (X[p]'(by omega)) (Y[q]'(by omega)) = c := ⟨_, rfl⟩
        have hneg := Lib.hid ((ord_tot ordT).neg (X[p]'(by omega)) (Y[q]'(by omega)))
        have HC := Lib.hid hc
        clear hc
        go_wp2
        refine wp_graph 9 [.d, .d, .d, .d, .d, .d, .d, .d, .d] (by kernel_rfl) (by kernel_rfl) (by kernel_rfl) ?_
        simp only [List.take_succ_cons, List.take_zero, List.drop_succ_cons, List.drop_zero, Exs]
        iterate 9 apply Exists.intro
        apply Run.valG (wanted_none rfl _)
        · intro w1 h1 hk
          have p0 := h1.cell x0; have p1 := h1.cell y0
          have hcw := fun b o => Below.cell (p := ⟨b, o, none⟩) h1
          go_simp; rfl
        simp only [Act.put, List.setIfInBounds_toArray, List.set_cons_succ, List.set_cons_zero, List.nil_append, List.cons_append]
        apply Run.valG (wanted_none rfl _)
        · intro w1 h1 hk
          have p0 := h1.cell x0; have p1 := h1.cell y0
          have hcw := fun b o => Below.cell (p := ⟨b, o, none⟩) h1
          go_simp; rfl
        simp only [Act.put, List.setIfInBounds_toArray, List.set_cons_succ, List.set_cons_zero, List.nil_append, List.cons_append]
        apply Run.valG (wanted_none rfl _)
        · intro w1 h1 hk
          have p0 := h1.cell x0; have p1 := h1.cell y0
          have hcw := fun b o => Below.cell (p := ⟨b, o, none⟩) h1
          go_simp; rfl
        simp only [Act.put, List.setIfInBounds_toArray, List.set_cons_succ, List.set_cons_zero, List.nil_append, List.cons_append]
        apply Run.valG (wanted_none rfl _)
        · intro w1 h1 hk
          have p0 := h1.cell x0; have p1 := h1.cell y0
          have hcw := fun b o => Below.cell (p := ⟨b, o, none⟩) h1
          go_simp; rfl
        simp only [Act.put, List.setIfInBounds_toArray, List.set_cons_succ, List.set_cons_zero, List.nil_append, List.cons_append]
        apply Run.valG (wanted_none rfl _)
        · intro w1 h1 hk
          have p0 := h1.cell x0; have p1 := h1.cell y0
          have hcw := fun b o => Below.cell (p := ⟨b, o, none⟩) h1
          go_simp; rfl
        simp only [Act.put, List.setIfInBounds_toArray, List.set_cons_succ, List.set_cons_zero, List.nil_append, List.cons_append]
        apply Run.valG (wanted_none rfl _)
        · intro w1 h1 hk
          have p0 := h1.cell x0; have p1 := h1.cell y0
          have hcw := fun b o => Below.cell (p := ⟨b, o, none⟩) h1
          go_simp; rfl
        simp only [Act.put, List.setIfInBounds_toArray, List.set_cons_succ, List.set_cons_zero, List.nil_append, List.cons_append]
        apply Run.valG (wanted_none rfl _)
        · intro w1 h1 hk
          have p0 := h1.cell x0; have p1 := h1.cell y0
          have hcw := fun b o => Below.cell (p := ⟨b, o, none⟩) h1
          go_simp; rfl
        simp only [Act.put, List.setIfInBounds_toArray, List.set_cons_succ, List.set_cons_zero, List.nil_append, List.cons_append]
        apply Run.valG (wanted_none rfl _)
        · intro w1 h1 hk
          have p0 := h1.cell x0; have p1 := h1.cell y0
          have hcw := fun b o => Below.cell (p := ⟨b, o, none⟩) h1
          go_simp; rfl
        simp only [Act.put, List.setIfInBounds_toArray, List.set_cons_succ, List.set_cons_zero, List.nil_append, List.cons_append]
        apply Run.call (wanted_none rfl _) (fun _ _ => by go_simp; exact ⟨rfl, rfl⟩)
        · intro w1 h1 hk
          have p0 := h1.cell x0; have p1 := h1.cell y0
          have := rcmpT_any _ _ (X[p]'(by omega)) (Y[q]'(by omega)) _ (HOX.out.vals.fut RV.stays ((Fut.drew _).trans h1)) (HOY.out.vals.fut RV.stays ((Fut.drew _).trans h1)); rw [HC.out] at this; exact this
        simp only [Act.put, List.setIfInBounds_toArray, List.set_cons_succ, List.set_cons_zero, List.nil_append, List.cons_append]
        apply Run.done
        intro w4 h4 hk
        clear hk
        have F4 := Lib.hid ((Fut.drew _).trans h4)
        replace x0 := F4.out.cell x0
        replace y0 := F4.out.cell y0
        clear h4
        rcases (by omega : c < 0 ∨ c = 0 ∨ 0 < c) with d | d | d
        · have d1 : c ≤ 0 := by omega
          have d2 : (c == 0) = false := by simp <;> omega
          have d3 : ¬ 0 < c := by omega
          have hj' := Lib.hid (by have hj := hJ.out; rw [hdx.out] at hj; exact hj.left (ord_tot ordT) (fun y hy => by rw [hdy.out] at hy; injection hy with hy; rw [← hy, HC.out]; exact d))
          have OO := Lib.hid (hO.out.fut RTo.stays F4.out)
          have FF := Lib.hid (hF.out.trans F4.out)
          have HE := Lib.hid (OwnL.fut RV.stays HOX.out F4.out)
          go_wp2_with (at_builtin; refine wpList_append_L (R := RTo w.heap.size 27) (B := w2.heap.size) (xs := xs) (ys := [(X[p]'(by omega))]) (e := 24) (by go_simp) _ _ 43 rfl Tryd.underlying43 (.slice none 0 0) 24 infoT rfl (by decide) RTo.one (RTo.keeps tyVT) rfl rfl (OO.out.fut RTo.stays (Fut.alloc _ _)) (tup_one _ HE.out) ?l1 ?l2 ?b1 ?k1)
          case l1 => have := hxl.out; have := HLen.out; simp [maxLen]; omega
          case l2 => have := hxl.out; have := HLen.out; simp; omega
          case b1 => have := FF.out.size; simp; omega
          case k1 =>
          intro v' w' o' g'
          have F' := Lib.hid (Fut.grown (FF.out.trans (Fut.alloc _ _)) g' (fun k hk => (OO.out.block k hk).1))
          have O' := Lib.hid o'
          have X' := Lib.hid (show (xs ++ [(X[p]'(by omega))]).length ≤ (p + 1) + q by have := hxl.out; rw [List.length_append, List.length_singleton]; omega)
          clear g' o'
          go_wp2
          exact ⟨⟨(p + 1), q, _, by omega, by omega, by first | rfl | go_num, by first | rfl | go_num, hj', X', O', F'⟩, by simp [intOf] <;> omega⟩
        · subst d
          have hj' := Lib.hid (by have hj := hJ.out; rw [hdx.out, hdy.out] at hj; exact hj.both (ord_tot ordT) HC.out)
          have OO := Lib.hid (hO.out.fut RTo.stays F4.out)
          have FF := Lib.hid (hF.out.trans F4.out)
          have HE := Lib.hid (OwnL.fut RV.stays HOX.out F4.out)
          go_wp2_with (at_builtin; refine wpList_append_L (R := RTo w.heap.size 27) (B := w2.heap.size) (xs := xs) (ys := [(X[p]'(by omega))]) (e := 24) (by go_simp) _ _ 43 rfl Tryd.underlying43 (.slice none 0 0) 24 infoT rfl (by decide) RTo.one (RTo.keeps tyVT) rfl rfl (OO.out.fut RTo.stays (Fut.alloc _ _)) (tup_one _ HE.out) ?l1 ?l2 ?b1 ?k1)
          case l1 => have := hxl.out; have := HLen.out; simp [maxLen]; omega
          case l2 => have := hxl.out; have := HLen.out; simp; omega
          case b1 => have := FF.out.size; simp; omega
          case k1 =>
          intro v' w' o' g'
          have F' := Lib.hid (Fut.grown (FF.out.trans (Fut.alloc _ _)) g' (fun k hk => (OO.out.block k hk).1))
          have O' := Lib.hid o'
          have X' := Lib.hid (show (xs ++ [(X[p]'(by omega))]).length ≤ (p + 1) + (q + 1) by have := hxl.out; rw [List.length_append, List.length_singleton]; omega)
          clear g' o'
          go_wp2
          exact ⟨⟨(p + 1), (q + 1), _, by omega, by omega, by first | rfl | go_num, by first | rfl | go_num, hj', X', O', F'⟩, by simp [intOf] <;> omega⟩
        · have d1 : ¬ c ≤ 0 := by omega
          have d2 : (c == 0) = false := by simp <;> omega
          have d3 : 0 < c := by omega
          have hj' := Lib.hid (by have hj := hJ.out; rw [hdy.out] at hj; exact hj.right (ord_tot ordT) (fun y hy => by rw [hdx.out] at hy; injection hy with hy; rw [← hy]; have h5 := hneg.out; have h6 := HC.out; omega))
          have OO := Lib.hid (hO.out.fut RTo.stays F4.out)
          have FF := Lib.hid (hF.out.trans F4.out)
          have HE := Lib.hid (OwnL.fut RV.stays HOY.out F4.out)
          go_wp2_with (at_builtin; refine wpList_append_L (R := RTo w.heap.size 27) (B := w2.heap.size) (xs := xs) (ys := [(Y[q]'(by omega))]) (e := 24) (by go_simp) _ _ 43 rfl Tryd.underlying43 (.slice none 0 0) 24 infoT rfl (by decide) RTo.one (RTo.keeps tyVT) rfl rfl (OO.out.fut RTo.stays (Fut.alloc _ _)) (tup_one _ HE.out) ?l1 ?l2 ?b1 ?k1)
          case l1 => have := hxl.out; have := HLen.out; simp [maxLen]; omega
          case l2 => have := hxl.out; have := HLen.out; simp; omega
          case b1 => have := FF.out.size; simp; omega
          case k1 =>
          intro v' w' o' g'
          have F' := Lib.hid (Fut.grown (FF.out.trans (Fut.alloc _ _)) g' (fun k hk => (OO.out.block k hk).1))
          have O' := Lib.hid o'
          have X' := Lib.hid (show (xs ++ [(Y[q]'(by omega))]).length ≤ p + (q + 1) by have := hxl.out; rw [List.length_append, List.length_singleton]; omega)
          clear g' o'
          go_wp2
          exact ⟨⟨p, (q + 1), _, by omega, by omega, by first | rfl | go_num, by first | rfl | go_num, hj', X', O', F'⟩, by simp [intOf] <;> omega⟩
      · obtain rfl : q = Y.length := by omega
        have e1 : ((Y.length : Int) == Y.length) = true := by simp
        have hj' := Lib.hid (by have hj := hJ.out; rw [hdx.out] at hj; exact hj.left (ord_tot ordT) (fun y hy => by rw [List.drop_length] at hy; cases hy))
        have OO := Lib.hid (hO.out.fut RTo.stays (Fut.refl _))
        have FF := Lib.hid (hF.out)
        have HE := Lib.hid (OwnL.fut RV.stays HOX.out (Fut.refl _))
        go_wp2_with (at_builtin; refine wpList_append_L (R := RTo w.heap.size 27) (B := w2.heap.size) (xs := xs) (ys := [(X[p]'(by omega))]) (e := 24) (by go_simp) _ _ 43 rfl Tryd.underlying43 (.slice none 0 0) 24 infoT rfl (by decide) RTo.one (RTo.keeps tyVT) rfl rfl (OO.out.fut RTo.stays (Fut.alloc _ _)) (tup_one _ HE.out) ?l1 ?l2 ?b1 ?k1)
        case l1 => have := hxl.out; have := HLen.out; simp [maxLen]; omega
        case l2 => have := hxl.out; have := HLen.out; simp; omega
        case b1 => have := FF.out.size; simp; omega
        case k1 =>
        intro v' w' o' g'
        have F' := Lib.hid (Fut.grown (FF.out.trans (Fut.alloc _ _)) g' (fun k hk => (OO.out.block k hk).1))
        have O' := Lib.hid o'
        have X' := Lib.hid (show (xs ++ [(X[p]'(by omega))]).length ≤ (p + 1) + Y.length by have := hxl.out; rw [List.length_append, List.length_singleton]; omega)
        clear g' o'
        go_wp2
        exact ⟨⟨(p + 1), Y.length, _, by omega, by omega, by first | rfl | go_num, by first | rfl | go_num, hj', X', O', F'⟩, by simp [intOf] <;> omega⟩
    · obtain rfl : p = X.length := by omega
      by_cases c2 : q < Y.length
      · obtain ⟨b2, off2, A2, cp2, rfl, y0, hoy⟩ := ownT_at (HOb.out.fut RTo.stays hF.out) c2
        have HOY := Lib.hid hoy
        have hdy := Lib.hid (List.drop_eq_getElem_cons c2)
        clear hoy
        have e1 : ((q : Int) == Y.length) = false := by simp <;> omega
        have hj' := Lib.hid (by have hj := hJ.out; rw [hdy.out] at hj; exact hj.right (ord_tot ordT) (fun y hy => by rw [List.drop_length] at hy; cases hy))
        have OO := Lib.hid (hO.out.fut RTo.stays (Fut.refl _))
        have FF := Lib.hid (hF.out)
        have HE := Lib.hid (OwnL.fut RV.stays HOY.out (Fut.refl _))
        go_wp2_with (at_builtin; refine wpList_append_L (R := RTo w.heap.size 27) (B := w2.heap.size) (xs := xs) (ys := [(Y[q]'(by omega))]) (e := 24) (by go_simp) _ _ 43 rfl Tryd.underlying43 (.slice none 0 0) 24 infoT rfl (by decide) RTo.one (RTo.keeps tyVT) rfl rfl (OO.out.fut RTo.stays (Fut.alloc _ _)) (tup_one _ HE.out) ?l1 ?l2 ?b1 ?k1)
        case l1 => have := hxl.out; have := HLen.out; simp [maxLen]; omega
        case l2 => have := hxl.out; have := HLen.out; simp; omega
        case b1 => have := FF.out.size; simp; omega
        case k1 =>
        intro v' w' o' g'
        have F' := Lib.hid (Fut.grown (FF.out.trans (Fut.alloc _ _)) g' (fun k hk => (OO.out.block k hk).1))
        have O' := Lib.hid o'
        have X' := Lib.hid (show (xs ++ [(Y[q]'(by omega))]).length ≤ X.length + (q + 1) by have := hxl.out; rw [List.length_append, List.length_singleton]; omega)
        clear g' o'
        go_wp2
        exact ⟨⟨X.length, (q + 1), _, by omega, by omega, by first | rfl | go_num, by first | rfl | go_num, hj', X', O', F'⟩, by simp [intOf] <;> omega⟩
      · obtain rfl : q = Y.length := by omega
        have hR := Lib.hid (hres.out xs (by have hj := hJ.out; rw [List.drop_length, List.drop_length] at hj; exact hj))
        go_wp2
        go_ret
        exact ⟨_, rfl, by rw [← hR.out]; exact OwnL.base hO.out H2.out.size, H2.out.trans hF.out⟩
theorem rtuples_any (n : Nat) : ∀ (a : Value) (ts : List (List V)) (w : World), ts.length = n → n ≤ 1000000000000 → Tups w a ts → (∀ t ∈ ts, t.length ≤ 4398046511104) →
    Calls Tryd.prog 20 #[a] w fun e w' => ∃ v, e = .returned v ∧ OwnL 1 w.heap.size 24 (RTo w.heap.size 27) w' v (sortU cmpT ts) ∧ Fut w w' := by
  induction n using Nat.strongRecOn with
  | _ n ih =>
    intro a ts w hn hb ha hl
    by_cases h : ts.length ≤ 1
    · exact rtup_small a ts w ha h hl
    · exact rtup_big a ts w ha h (by omega) hl fun a us w hu hau hlu => ih us.length (by omega) a us w rfl (by omega) hau hlu
end Go.Proofs.YtlihkmldclocoaaDoor
