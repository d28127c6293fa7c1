/- For ValueSorted: 'in'; plain laws of the sorted list; literals of one fact, of one tuple that lay there before. -/
import Derived.Test.YtlihkmldclocoaaDoorOwnAt
import Derived.Test.YtlihkmldclocoaaDoorFacts
import Derived.Test.YtlihkmldclocoaaDoorTwinG
namespace Go.Proofs.YtlihkmldclocoaaDoor
open Go.RowKit
set_option linter.unusedSimpArgs false
set_option linter.unusedVariables false

set_option maxHeartbeats 1000000 in
theorem in_any (f : Fc) (u l : Value) (fs : List Fc) (w : World) (hu : Vals w u f.a) (hl : FacsG w l fs) :
    Calls Tryd.prog 31 #[.agg #[.string f.p, u], l] w fun e w' => e = .returned (.bool (decide (f ∈ fs))) ∧ Fut w w' := by
  obtain ⟨A, cap, rfl, hcl, hcm⟩ := SlRep.form hl
  obtain ⟨Au, cu, rfl, _, _⟩ := SlRep.form hu
  have HU := Lib.hid hu
  have HL := Lib.hid hl
  clear hu hl
  go_enter Tryd.func31, Tryd.ntmps31
  go_wp2
  obtain ⟨t0, t1⟩ := boxG_at w f.p (.slice Au f.a.length cu) 54
  have FW := Lib.hid (Fut.alloc w (.cells #[.string f.p, .slice Au f.a.length cu] 54))
  obtain ⟨W, hW⟩ : ∃ W, w.alloc (.cells #[.string f.p, .slice Au f.a.length cu] 54) = W := ⟨_, rfl⟩
  rw [hW] at t0 t1 FW ⊢
  clear hW
  go_loopw [5] (fun i wr => ∃ k : Nat, k ≤ fs.length ∧ i = .int .i64 k ∧ Hid (f ∉ fs.take k) ∧ Hid (Fut W wr)) (fun i _ => fs.length - (intOf i).toNat)
  case atStart => exact ⟨0, Nat.zero_le _, rfl, Lib.hid (by simp), Lib.hid (Fut.refl _)⟩
  case round =>
    obtain ⟨k, hk, rfl, hN, hF⟩ := hrel
    by_cases hlt : k < fs.length
    · have HF := Lib.hid (FW.out.trans hF.out)
      obtain ⟨b, off, A', cp, rfl, _, x0, x1, _, _, hv⟩ := FacsG.at_ (HL.out.fut RG.stays HF.out) hlt
      have HV := Lib.hid hv
      clear hv
      have u0 := hF.out.cell t0
      have u1 := hF.out.cell t1
      by_cases he : f = fs[k]
      · have hd : decide (f = fs[k]) = true := decide_eq_true he
        have hR := Lib.hid (show decide (f ∈ fs) = true from decide_eq_true (by rw [he]; exact List.getElem_mem hlt))
        clear he
        go_wp2
        refine wp_graph 6 [.d, .d, .d, .d, .d, .d] (by kernel_rfl) (by kernel_rfl) (by kernel_rfl) ?_
        simp only [List.take_succ_cons, List.take_zero, List.drop_succ_cons, List.drop_zero, Exs]
        iterate 6 apply Exists.intro
        apply Run.valG (wanted_none rfl _)
        · intro w1 h1 hk
          have p0 := h1.cell u0; have p1 := h1.cell u1; have q0 := h1.cell x0; have q1 := h1.cell x1
          have hcw := fun b o => Below.cell (p := ⟨b, o, none⟩) h1
          go_simp; rfl
        simp only [Act.put, List.setIfInBounds_toArray, List.set_cons_succ, List.set_cons_zero, List.nil_append, List.cons_append]
        apply Run.valG (wanted_none rfl _)
        · intro w1 h1 hk
          have p0 := h1.cell u0; have p1 := h1.cell u1; have q0 := h1.cell x0; have q1 := h1.cell x1
          have hcw := fun b o => Below.cell (p := ⟨b, o, none⟩) h1
          go_simp; rfl
        simp only [Act.put, List.setIfInBounds_toArray, List.set_cons_succ, List.set_cons_zero, List.nil_append, List.cons_append]
        apply Run.valG (wanted_none rfl _)
        · intro w1 h1 hk
          have p0 := h1.cell u0; have p1 := h1.cell u1; have q0 := h1.cell x0; have q1 := h1.cell x1
          have hcw := fun b o => Below.cell (p := ⟨b, o, none⟩) h1
          go_simp; rfl
        simp only [Act.put, List.setIfInBounds_toArray, List.set_cons_succ, List.set_cons_zero, List.nil_append, List.cons_append]
        apply Run.valG (wanted_none rfl _)
        · intro w1 h1 hk
          have p0 := h1.cell u0; have p1 := h1.cell u1; have q0 := h1.cell x0; have q1 := h1.cell x1
          have hcw := fun b o => Below.cell (p := ⟨b, o, none⟩) h1
          go_simp; rfl
        simp only [Act.put, List.setIfInBounds_toArray, List.set_cons_succ, List.set_cons_zero, List.nil_append, List.cons_append]
        apply Run.valG (wanted_none rfl _)
        · intro w1 h1 hk
          have p0 := h1.cell u0; have p1 := h1.cell u1; have q0 := h1.cell x0; have q1 := h1.cell x1
          have hcw := fun b o => Below.cell (p := ⟨b, o, none⟩) h1
          go_simp; rfl
        simp only [Act.put, List.setIfInBounds_toArray, List.set_cons_succ, List.set_cons_zero, List.nil_append, List.cons_append]
        apply Run.call (wanted_none rfl _) (fun _ _ => by go_simp; exact ⟨rfl, rfl⟩)
        · intro w1 h1 hk
          have p0 := h1.cell u0; have p1 := h1.cell u1; have q0 := h1.cell x0; have q1 := h1.cell x1
          have := sameF_any f fs[k] _ _ _ (HU.out.fut RV.stays (HF.out.trans ((Fut.drew _).trans h1))) (HV.out.fut RV.stays ((Fut.drew _).trans h1)); rw [hd] at this; exact this
        simp only [Act.put, List.setIfInBounds_toArray, List.set_cons_succ, List.set_cons_zero, List.nil_append, List.cons_append]
        apply Run.done
        intro w2 h2 hk
        clear hk
        go_wp2
        go_ret
        exact ⟨by rw [hR.out]; rfl, HF.out.trans ((Fut.drew _).trans h2)⟩
      · have hd : decide (f = fs[k]) = false := decide_eq_false he
        have hN' := Lib.hid (show f ∉ fs.take (k + 1) by
          rw [List.take_succ_eq_append_getElem hlt, List.mem_append, List.mem_singleton]
          rintro (h | h)
          · exact hN.out h
          · exact he h)
        clear he
        go_wp2
        refine wp_graph 6 [.d, .d, .d, .d, .d, .d] (by kernel_rfl) (by kernel_rfl) (by kernel_rfl) ?_
        simp only [List.take_succ_cons, List.take_zero, List.drop_succ_cons, List.drop_zero, Exs]
        iterate 6 apply Exists.intro
        apply Run.valG (wanted_none rfl _)
        · intro w1 h1 hk
          have p0 := h1.cell u0; have p1 := h1.cell u1; have q0 := h1.cell x0; have q1 := h1.cell x1
          have hcw := fun b o => Below.cell (p := ⟨b, o, none⟩) h1
          go_simp; rfl
        simp only [Act.put, List.setIfInBounds_toArray, List.set_cons_succ, List.set_cons_zero, List.nil_append, List.cons_append]
        apply Run.valG (wanted_none rfl _)
        · intro w1 h1 hk
          have p0 := h1.cell u0; have p1 := h1.cell u1; have q0 := h1.cell x0; have q1 := h1.cell x1
          have hcw := fun b o => Below.cell (p := ⟨b, o, none⟩) h1
          go_simp; rfl
        simp only [Act.put, List.setIfInBounds_toArray, List.set_cons_succ, List.set_cons_zero, List.nil_append, List.cons_append]
        apply Run.valG (wanted_none rfl _)
        · intro w1 h1 hk
          have p0 := h1.cell u0; have p1 := h1.cell u1; have q0 := h1.cell x0; have q1 := h1.cell x1
          have hcw := fun b o => Below.cell (p := ⟨b, o, none⟩) h1
          go_simp; rfl
        simp only [Act.put, List.setIfInBounds_toArray, List.set_cons_succ, List.set_cons_zero, List.nil_append, List.cons_append]
        apply Run.valG (wanted_none rfl _)
        · intro w1 h1 hk
          have p0 := h1.cell u0; have p1 := h1.cell u1; have q0 := h1.cell x0; have q1 := h1.cell x1
          have hcw := fun b o => Below.cell (p := ⟨b, o, none⟩) h1
          go_simp; rfl
        simp only [Act.put, List.setIfInBounds_toArray, List.set_cons_succ, List.set_cons_zero, List.nil_append, List.cons_append]
        apply Run.valG (wanted_none rfl _)
        · intro w1 h1 hk
          have p0 := h1.cell u0; have p1 := h1.cell u1; have q0 := h1.cell x0; have q1 := h1.cell x1
          have hcw := fun b o => Below.cell (p := ⟨b, o, none⟩) h1
          go_simp; rfl
        simp only [Act.put, List.setIfInBounds_toArray, List.set_cons_succ, List.set_cons_zero, List.nil_append, List.cons_append]
        apply Run.call (wanted_none rfl _) (fun _ _ => by go_simp; exact ⟨rfl, rfl⟩)
        · intro w1 h1 hk
          have p0 := h1.cell u0; have p1 := h1.cell u1; have q0 := h1.cell x0; have q1 := h1.cell x1
          have := sameF_any f fs[k] _ _ _ (HU.out.fut RV.stays (HF.out.trans ((Fut.drew _).trans h1))) (HV.out.fut RV.stays ((Fut.drew _).trans h1)); rw [hd] at this; exact this
        simp only [Act.put, List.setIfInBounds_toArray, List.set_cons_succ, List.set_cons_zero, List.nil_append, List.cons_append]
        apply Run.done
        intro w2 h2 hk
        clear hk
        go_wp2
        go_roundw
        case rel => exact ⟨k + 1, by omega, by go_num, hN', hF.out.trans ((Fut.drew _).trans h2)⟩
        case measure => simp [intOf]; omega
    · obtain rfl : k = fs.length := by omega
      have hR := Lib.hid (show decide (f ∈ fs) = false from decide_eq_false (by have := hN.out; rwa [List.take_length] at this))
      go_wp2
      go_ret
      exact ⟨by rw [hR.out]; rfl, FW.out.trans hF.out⟩

/-! ### Plain laws -/
theorem sortU_len' {α : Type} {c : α → α → Int} : ∀ l : List α, (sortU c l).length ≤ l.length := fun l => by
  have hi : ∀ (x : α) (m : List α), (insU c x m).length ≤ m.length + 1 := fun x m => by
    induction m with
    | nil => simp [insU]
    | cons y r ih =>
      unfold insU
      split
      · simp
      · split
        · simp
        · simp only [List.length_cons]; omega
  induction l with
  | nil => simp [sortU]
  | cons x r ih =>
    have := hi x (sortU c r)
    show (insU c x (sortU c r)).length ≤ _
    simp only [List.length_cons]; omega
def pB : ByteArray := ⟨#[112]⟩
def nm (a : List V) : Fc := ⟨pB, a⟩
theorem cmp_nm (a b : List V) : cmpF (nm a) (nm b) = cmpT a b := by
  unfold cmpF nm
  have h0 : cmpS pB pB = 0 := (ordS.zero _ _).2 rfl
  simp [firstNZ, h0]
  exact fun h => h.symm
theorem sort_nm (T : List (List V)) : sortU cmpF (T.map nm) = (sortU cmpT T).map nm := by
  have h := sortU_spec (ord_tot ordT) T
  refine (UpOf.eq (ord_tot ordF) ⟨?_, fun x => ?_⟩).symm
  · unfold Up
    rw [List.pairwise_map]
    exact h.1.imp fun {a b} hab => by rw [cmp_nm]; exact hab
  · simp only [List.mem_map]
    constructor
    · rintro ⟨a, ha, rfl⟩; exact ⟨a, (h.2 a).1 ha, rfl⟩
    · rintro ⟨a, ha, rfl⟩; exact ⟨a, (h.2 a).2 ha, rfl⟩
theorem sort_rev (L : List Fc) : sortU cmpF L.reverse = sortU cmpF L := sortU_congr (ord_tot ordF) fun x => List.mem_reverse
theorem sort_both (L : List Fc) : sortU cmpF (L.reverse ++ L) = sortU cmpF L := sortU_congr (ord_tot ordF) fun x => by simp
theorem sort_step (L : List Fc) (m : Nat) (h : m + 1 < (sortU cmpF L).length) : cmpF ((sortU cmpF L)[m]'(by omega)) (sortU cmpF L)[m + 1] = -1 := by
  have h1 := List.pairwise_iff_getElem.1 (sortU_spec (ord_tot ordF) L).1 m (m + 1) (by omega) h (by omega)
  rcases ordF.rng ((sortU cmpF L)[m]'(by omega)) (sortU cmpF L)[m + 1] with h2 | h2 | h2
  · exact h2
  · omega
  · omega
theorem sort_mem (L : List Fc) (x : Fc) : x ∈ sortU cmpF L ↔ x ∈ L := (sortU_spec (ord_tot ordF) L).2 x

/-- Literals of one element that lay there when the call began. -/
theorem facC_one {w w' : World} {v : Value} {f : Fc} (e : TypeId) (h : RG w [.string f.p, v] f) : SlRep 2 1 (fun _ => RG w) (w'.alloc (.cells #[.string f.p, v] e)) (.slice (some ⟨w'.heap.size, 0, none⟩) 1 1) [f] := by
  refine ⟨_, 1, rfl, Nat.le_refl _, Nat.le_refl _, fun i y hy => ⟨w'.heap.size, 0, [.string f.p, v], rfl, rfl, fun j u hj => ?_, ?_⟩⟩
  · have hil : i < 1 := (List.getElem?_eq_some_iff.1 hy).1
    have hjl : j < 2 := (List.getElem?_eq_some_iff.1 hj).1
    obtain rfl : i = 0 := by omega
    refine (World.cell?_alloc_mark w' _ _ (0, 0) _).trans ?_
    rcases (by omega : j = 0 ∨ j = 1) with rfl | rfl <;> simpa using hj
  · have hil : i < 1 := (List.getElem?_eq_some_iff.1 hy).1
    obtain rfl : i = 0 := by omega
    simp only [List.getElem?_cons_zero, Option.some.injEq] at hy
    subst hy
    exact h
theorem tupC_one {w w' : World} {v : Value} {x : List V} (e : TypeId) (h : Vals w v x) : SlRep 1 1 (fun _ => RT w) (w'.alloc (.cells #[v] e)) (.slice (some ⟨w'.heap.size, 0, none⟩) 1 1) [x] := by
  refine ⟨_, 1, rfl, Nat.le_refl _, Nat.le_refl _, fun i y hy => ⟨w'.heap.size, 0, [v], rfl, rfl, fun j u hj => ?_, ?_⟩⟩
  · have hil : i < 1 := (List.getElem?_eq_some_iff.1 hy).1
    have hjl : j < 1 := (List.getElem?_eq_some_iff.1 hj).1
    obtain rfl : i = 0 := by omega
    obtain rfl : j = 0 := by omega
    refine (World.cell?_alloc_mark w' _ _ (0, 0) _).trans ?_
    simpa using hj
  · have hil : i < 1 := (List.getElem?_eq_some_iff.1 hy).1
    obtain rfl : i = 0 := by omega
    simp only [List.getElem?_cons_zero, Option.some.injEq] at hy
    subst hy
    exact ⟨_, rfl, h⟩
/-- Such a list, read in a later world. -/
theorem OwnC.facs {B : Nat} {e : TypeId} {w w' : World} {v : Value} {fs : List Fc} (h : OwnL 2 B e (fun _ => RG w) w' v fs) (hf : Fut w w') : FacsG w' v fs :=
  (h.rep.imp fun cs x hr => RG.stays _ _ _ _ hf hr).more (by unfold maxLen; omega)
theorem OwnC.tups {B : Nat} {e : TypeId} {w w' : World} {v : Value} {ts : List (List V)} (h : OwnL 1 B e (fun _ => RT w) w' v ts) (hf : Fut w w') : Tups w' v ts :=
  (h.rep.imp fun cs x hr => RT.stays _ _ _ _ hf hr).more (by unfold maxLen; omega)
end Go.Proofs.YtlihkmldclocoaaDoor
