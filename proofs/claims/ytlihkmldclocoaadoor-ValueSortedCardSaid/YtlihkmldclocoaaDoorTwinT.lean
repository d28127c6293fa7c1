/- Copies of lists of tuples, of lists of facts, a mark behind each: TwinTuples, LeftTuples, TwinFacts, LeftFacts. -/
import Derived.Test.YtlihkmldclocoaaDoorTupW
import Derived.Test.YtlihkmldclocoaaDoorShow
import Derived.Test.YtlihkmldclocoaaDoorLives
namespace Go.Proofs.YtlihkmldclocoaaDoor
open Go.RowKit
set_option linter.unusedSimpArgs false
set_option linter.unusedVariables false

theorem vals_one (w : World) (x : V) (hx : x.ok) (e : TypeId) : Vals (w.alloc (.cells #[.int .i8 x.k, .int .i64 x.n, .string x.s] e)) (.slice (some ⟨w.heap.size, 0, none⟩) 1 1) [x] :=
  (own_one w x hx e w.heap.size (Nat.le_refl _)).vals
theorem markV_ok : markV.ok := ⟨by decide, by decide, Nat.zero_le _⟩
def markTR (w : World) (cs : List Value) : Prop := ∃ b, cs = [.slice (some ⟨b, 0, none⟩) 1 1] ∧ Vals w (.slice (some ⟨b, 0, none⟩) 1 1) [markV]
set_option maxHeartbeats 400000 in
theorem markT_any (w : World) : Calls Tryd.prog 56 #[.int .i64 777777] w fun e w' => (∃ b, e = .returned (.slice (some ⟨b, 0, none⟩) 1 1) ∧ w.heap.size ≤ b ∧ Vals w' (.slice (some ⟨b, 0, none⟩) 1 1) [markV]) ∧ Fut w w' := by
  have hv := vals_one w markV markV_ok 27
  unfold markV at hv
  go_enter Tryd.func56, Tryd.ntmps56
  go_wp2
  go_ret
  exact ⟨⟨_, rfl, Nat.le_refl _, hv⟩, Fut.alloc _ _⟩
set_option maxHeartbeats 400000 in
theorem isT_any (b : Nat) (w : World) (h : Vals w (.slice (some ⟨b, 0, none⟩) 1 1) [markV]) : Calls Tryd.prog 63 #[.slice (some ⟨b, 0, none⟩) 1 1, .int .i64 777777] w fun e w' => e = .returned (.bool true) ∧ Fut w w' := by
  obtain ⟨b', off, he, _, x0, x1, x2⟩ := Vals.at_ h (k := 0) (by simp)
  injection he with he
  injection he with he1 he2
  subst he1; subst he2
  simp only [List.getElem_cons_zero, Nat.zero_mul, Nat.add_zero, Nat.zero_add, markV] at x0 x1 x2
  clear h
  go_enter Tryd.func63, Tryd.ntmps63
  go_wp2
  go_ret
  exact ⟨by first | rfl | simp, Fut.refl _⟩

theorem vals_far {w : World} {b o n c : Nat} {xs : List V} (h : Vals w (.slice (some ⟨b, o, none⟩) n c) xs) {p : Addr} {v : Value} (hp : p.block ≠ b) : Vals (w.setCell p v) (.slice (some ⟨b, o, none⟩) n c) xs := by
  obtain ⟨A, cap, hv, h1, h2, h3⟩ := h
  refine ⟨A, cap, hv, h1, h2, fun i x hx => ?_⟩
  obtain ⟨b', off, cs, hA, hl, hc, hr⟩ := h3 i x hx
  refine ⟨b', off, cs, hA, hl, fun j u hj => ?_, hr⟩
  injection hv with e1 _ _
  rw [← e1] at hA
  injection hA with hA
  injection hA with e2 _
  rw [World.cell?_setCell_other _ _ _ _ (by intro e; apply hp; rw [e]; exact e2.symm)]
  exact hc j u hj
/-! ### Tuples -/
def RETw (B : Nat) (w : World) (cs : List Value) (x : List V) : Prop := ∃ u, cs = [u] ∧ TwinR B w u x
theorem RETw.stays (B : Nat) : Stays (RETw B) := fun _ _ _ _ hf ⟨u, h1, h2⟩ => ⟨u, h1, h2.fut hf⟩
theorem markTR.fut : ∀ w w' cs, Fut w w' → markTR w cs → markTR w' cs := fun _ _ _ hf ⟨b, h1, h2⟩ => ⟨b, h1, h2.fut RV.stays hf⟩
abbrev TwinT : Nat → World → Value → List (List V) → Prop := TwinE 1 24 [.slice none 0 0] RETw markTR
theorem TwinT.keep {B : Nat} {w w' : World} {v : Value} {ts : List (List V)} (h : TwinT B w v ts) (hf : Fut w w') : TwinT B w' v ts := TwinE.fut RETw.stays markTR.fut h hf
theorem TwinR.far {B : Nat} {w : World} {u : Value} {xs : List V} (h : TwinR B w u xs) {p : Addr} (hp : p.block < B) (v : Value) : TwinR B (w.setCell p v) u xs := by
  obtain ⟨g, h1, h2, h3⟩ := h
  exact ⟨g, h1, h2, h3.far (by omega) v⟩
theorem TwinR.low {B B' : Nat} {w : World} {u : Value} {xs : List V} (h : TwinR B w u xs) (hB : B' ≤ B) : TwinR B' w u xs := by
  obtain ⟨g, h1, h2, h3⟩ := h
  exact ⟨g, by omega, h2, h3⟩
theorem TwinT.tups {B : Nat} {w : World} {v : Value} {ts : List (List V)} (h : TwinT B w v ts) (hok : ∀ t ∈ ts, ∀ x ∈ t, x.ok) (hl : ∀ t ∈ ts, t.length < 4398046511104) (hm : ts.length < 4398046511104) : Tups w v ts :=
  TwinE.rep h (fun g cs x hx ⟨u, h1, h2⟩ => ⟨u, h1, h2.vals (hok x hx) (hl x hx)⟩) (by omega)
theorem Tups.oks {w : World} {v : Value} {ts : List (List V)} (h : Tups w v ts) : ∀ t ∈ ts, ∀ x ∈ t, x.ok := by
  obtain ⟨A, cap, _, _, _, h3⟩ := h
  intro t ht
  obtain ⟨i, hi⟩ := List.getElem?_of_mem ht
  obtain ⟨_, _, _, _, _, _, u, _, hu⟩ := h3 i t hi
  exact hu.oks

set_option maxHeartbeats 1000000 in
theorem twinT_any (a : Value) (ts : List (List V)) (w : World) (ha : Tups w a ts) (hn : ts.length < 4398046511104) (hl : ∀ t ∈ ts, t.length < 4398046511104) :
    Calls Tryd.prog 22 #[a] w fun e w' => ∃ v, e = .returned v ∧ TwinT w.heap.size w' v ts ∧ Fut w w' := by
  obtain ⟨A, cap, rfl, hcl, hm⟩ := SlRep.form ha
  obtain ⟨i0, hi0, hz0, hz1, hz2⟩ := info_parts infoT
  have hmk : ∀ W : World, (Instr.makeSlice 43 (.int .i64 ((ts.length : Int) + 1)) (.int .i64 ((ts.length : Int) + 1))).run Tryd.prog W =
      .ok (.slice (some ⟨W.heap.size, 0, none⟩) (ts.length + 1) (ts.length + 1)) (W.alloc (.cells (madeCells #[Value.slice none 0 0] ((ts.length + 1) * 1)) 24)) := fun W => by
    have := run_make_rowN (P := Tryd.prog) 43 24 i0 _ Tryd.underlying43 hi0 hz0 .i64 .i64 (ts.length + 1) (ts.length + 1) (Nat.le_refl _) (by rw [hz2]; omega) (by omega) W
    rw [hz1] at this
    exact this
  have HL := Lib.hid hl
  clear hl
  go_enter Tryd.func22, Tryd.ntmps22
  go_wp2
  go_loopw [4] (fun i wr => ∃ (k : Nat) (css : List (List Value)), k ≤ ts.length ∧ i = .int .i64 k ∧ css.length = k ∧ Hid (BlkF wr w.heap.size 24 ((ts.length + 1) * 1) (cellsAt css [.slice none 0 0] 1)) ∧ Hid (∀ (j : Nat) (x : List V) (cs : List Value), ts[j]? = some x → css[j]? = some cs → cs.length = 1 ∧ RETw (w.heap.size + 1) wr cs x) ∧ Hid (Fut w wr)) (fun i _ => ts.length - (intOf i).toNat)
  case atStart => exact ⟨0, [], Nat.zero_le _, rfl, rfl, Lib.hid (by
    have h := BlkF.new w 24 (madeCells #[Value.slice none 0 0] (ts.length + 1))
    rw [show (madeCells #[Value.slice none 0 0] (ts.length + 1)).size = (ts.length + 1) * 1 by simp [madeCells]] at h
    exact h.congr fun j hj => made_one _ _ j rfl (by omega)), Lib.hid (fun j x cs _ hc => by simp at hc), Fut.alloc _ _⟩
  case round =>
    obtain ⟨k, css, hk, rfl, hcs, hB, hE, hF⟩ := hrel
    have hsz : w.heap.size < wr.heap.size := hB.out.lt
    have HSZ := Lib.hid (show w.heap.size + 1 ≤ wr.heap.size from hsz)
    by_cases hlt : k < ts.length
    · obtain ⟨b, off, A', cp, rfl, x0, _, _, hv⟩ := Tups.at_ (ha.fut RT.stays hF.out) hlt
      have hlk := HL.out _ (List.getElem_mem hlt)
      have HV := Lib.hid hv
      clear hv
      go_wp2_with fail
      refine (twin_any _ ts[k] _ HV.out hlk).mono ?_
      rintro e w1 ⟨v, rfl, ht, h1⟩
      have HT := Lib.hid ht
      obtain ⟨g1, hg1, rfl, _⟩ := ht
      have hB1 := Lib.hid (hB.out.fut h1)
      have d0 := hB1.out.cell (j := k) (by omega)
      have e0 := hB1.out.free k
      have hF1 := Lib.hid (hF.out.trans h1)
      go_wp2
      refine ⟨⟨k + 1, css ++ [[.slice (some ⟨g1, 0, none⟩) ts[k].length (ts[k].length + 1)]], by omega, by go_num, by simp [hcs], Lib.hid ((hB1.out.set _ _).congr fun j hj => cellsAt_one css _ _ k j hcs), Lib.hid (fun j x cs hx hc => ?_), Lib.hid (hF1.out.set (Nat.le_refl _) _)⟩, by simp [intOf]; omega⟩
      rcases Nat.lt_or_ge j css.length with hj | hj
      · rw [List.getElem?_append_left hj] at hc
        obtain ⟨h2, u, h3, h4⟩ := hE.out j x cs hx hc
        exact ⟨h2, u, h3, (h4.fut h1).far (Nat.lt_succ_self _) _⟩
      · have hj' : j = k := by
          have := (List.getElem?_eq_some_iff.1 hc).1
          simp at this; omega
        subst hj'
        rw [List.getElem?_append_right hj, hcs, Nat.sub_self] at hc
        simp only [List.getElem?_cons_zero, Option.some.injEq] at hc
        subst hc
        rw [List.getElem?_eq_getElem hlt] at hx
        rw [← Option.some.inj hx]
        exact ⟨rfl, _, rfl, (HT.out.low HSZ.out).far (Nat.lt_succ_self _) _⟩
    · obtain rfl : k = ts.length := by omega
      go_wp2_with fail
      refine (markT_any _).mono ?_
      rintro e w1 ⟨⟨b, rfl, hb, hv⟩, h1⟩
      have hB1 := Lib.hid (hB.out.fut h1)
      have d0 := hB1.out.cell (j := ts.length) (by omega)
      have e0 := hB1.out.free ts.length
      have hF1 := Lib.hid (hF.out.trans h1)
      have HV := Lib.hid (vals_far hv (p := ⟨w.heap.size, ts.length, none⟩) (v := .slice (some ⟨b, 0, none⟩) 1 1) (by simp only; omega))
      clear hv
      go_wp2
      go_ret
      refine ⟨_, rfl, ⟨w.heap.size, css ++ [[.slice (some ⟨b, 0, none⟩) 1 1]], Nat.le_refl _, rfl, by simp [hcs], (hB1.out.set _ _).congr fun j hj => cellsAt_one css _ _ ts.length j hcs, fun j x cs hx hc => ?_, fun cs hc => ?_⟩, hF1.out.set (Nat.le_refl _) _⟩
      · have hj : j < css.length := by have := (List.getElem?_eq_some_iff.1 hx).1; omega
        rw [List.getElem?_append_left hj] at hc
        obtain ⟨h2, u, h3, h4⟩ := hE.out j x cs hx hc
        exact ⟨h2, u, h3, (h4.fut h1).far (Nat.lt_succ_self _) _⟩
      · rw [List.getElem?_append_right (by omega), hcs, Nat.sub_self] at hc
        simp only [List.getElem?_cons_zero, Option.some.injEq] at hc
        subst hc
        exact ⟨rfl, b, rfl, HV.out⟩

set_option maxHeartbeats 1000000 in
theorem leftT_any (B : Nat) (a b : Value) (ts : List (List V)) (w : World) (ha : TwinT B w a ts) (hb : Tups w b ts) (hn : ts.length < 4398046511104) (hl : ∀ t ∈ ts, t.length < 4398046511104) :
    Calls Tryd.prog 26 #[a, b] w fun e w' => e = .returned (.bool true) ∧ Fut w w' := by
  obtain ⟨A, cap, rfl, hcl, hm⟩ := SlRep.form hb
  obtain ⟨g, css, _, rfl, hcs, hB, hE, hM⟩ := ha
  have HL := Lib.hid hl
  have HB := Lib.hid hB
  have HE := Lib.hid hE
  obtain ⟨mcs, hmc⟩ : ∃ cs, css[ts.length]? = some cs := ⟨_, List.getElem?_eq_getElem (by omega)⟩
  obtain ⟨_, mb, rfl, hmv⟩ := hM _ hmc
  have HMV := Lib.hid hmv
  have HMC := Lib.hid hmc
  have hne : (((ts.length : Nat) : Int) != (ts.length : Nat)) = false := by simp
  clear hl hB hE hM hmv hmc
  go_enter Tryd.func26, Tryd.ntmps26
  go_wp2
  go_loopw [5] (fun i wr => ∃ k : Nat, k ≤ ts.length ∧ i = .int .i64 k ∧ Hid (Fut w wr)) (fun i _ => ts.length - (intOf i).toNat)
  case atStart => exact ⟨0, Nat.zero_le _, rfl, Fut.refl w⟩
  case round =>
    obtain ⟨k, hk, rfl, hF⟩ := hrel
    by_cases hlt : k < ts.length
    · obtain ⟨b, off, A', cp, rfl, y0, _, _, hv⟩ := Tups.at_ (hb.fut RT.stays hF.out) hlt
      have hck : css[k]? = some (css[k]'(by omega)) := List.getElem?_eq_getElem (by omega)
      obtain ⟨hc1, u, hcu, htw⟩ := HE.out k _ _ (List.getElem?_eq_getElem hlt) hck
      have HT := Lib.hid (htw.fut hF.out)
      obtain ⟨g1, _, rfl, _⟩ := htw
      have x0 := (HB.out.fut hF.out).cell (j := k * 1 + 0) (by omega)
      rw [cellsAt_get (i := k) (j := 0) hck (by rw [hcu]; rfl) (by omega)] at x0
      simp only [Nat.mul_one, Nat.add_zero] at x0
      have hlk := HL.out _ (List.getElem_mem hlt)
      have HV := Lib.hid hv
      clear hv hck hcu hc1
      go_wp2
      refine wp_graph 10 [.d, .d, .d, .d, .d, .d, .d, .d, .d, .d] (by kernel_rfl) (by kernel_rfl) (by kernel_rfl) ?_
      simp only [List.take_succ_cons, List.take_zero, List.drop_succ_cons, List.drop_zero, Exs]
      iterate 10 apply Exists.intro
      apply Run.valG (wanted_none rfl _)
      · intro w1 h1 hk
        have q0 := h1.cell x0; have r0 := h1.cell y0
        have hcw := fun b o => Below.cell (p := ⟨b, o, none⟩) h1
        go_simp; rfl
      simp only [Act.put, List.setIfInBounds_toArray, List.set_cons_succ, List.set_cons_zero, List.nil_append, List.cons_append]
      apply Run.valG (wanted_none rfl _)
      · intro w1 h1 hk
        have q0 := h1.cell x0; have r0 := h1.cell y0
        have hcw := fun b o => Below.cell (p := ⟨b, o, none⟩) h1
        go_simp; rfl
      simp only [Act.put, List.setIfInBounds_toArray, List.set_cons_succ, List.set_cons_zero, List.nil_append, List.cons_append]
      apply Run.valG (wanted_none rfl _)
      · intro w1 h1 hk
        have q0 := h1.cell x0; have r0 := h1.cell y0
        have hcw := fun b o => Below.cell (p := ⟨b, o, none⟩) h1
        go_simp; rfl
      simp only [Act.put, List.setIfInBounds_toArray, List.set_cons_succ, List.set_cons_zero, List.nil_append, List.cons_append]
      apply Run.valG (wanted_none rfl _)
      · intro w1 h1 hk
        have q0 := h1.cell x0; have r0 := h1.cell y0
        have hcw := fun b o => Below.cell (p := ⟨b, o, none⟩) h1
        go_simp; rfl
      simp only [Act.put, List.setIfInBounds_toArray, List.set_cons_succ, List.set_cons_zero, List.nil_append, List.cons_append]
      apply Run.valG (wanted_none rfl _)
      · intro w1 h1 hk
        have q0 := h1.cell x0; have r0 := h1.cell y0
        have hcw := fun b o => Below.cell (p := ⟨b, o, none⟩) h1
        go_simp; rfl
      simp only [Act.put, List.setIfInBounds_toArray, List.set_cons_succ, List.set_cons_zero, List.nil_append, List.cons_append]
      apply Run.valG (wanted_none rfl _)
      · intro w1 h1 hk
        have q0 := h1.cell x0; have r0 := h1.cell y0
        have hcw := fun b o => Below.cell (p := ⟨b, o, none⟩) h1
        go_simp; rfl
      simp only [Act.put, List.setIfInBounds_toArray, List.set_cons_succ, List.set_cons_zero, List.nil_append, List.cons_append]
      apply Run.valG (wanted_none rfl _)
      · intro w1 h1 hk
        have q0 := h1.cell x0; have r0 := h1.cell y0
        have hcw := fun b o => Below.cell (p := ⟨b, o, none⟩) h1
        go_simp; rfl
      simp only [Act.put, List.setIfInBounds_toArray, List.set_cons_succ, List.set_cons_zero, List.nil_append, List.cons_append]
      apply Run.valG (wanted_none rfl _)
      · intro w1 h1 hk
        have q0 := h1.cell x0; have r0 := h1.cell y0
        have hcw := fun b o => Below.cell (p := ⟨b, o, none⟩) h1
        go_simp; rfl
      simp only [Act.put, List.setIfInBounds_toArray, List.set_cons_succ, List.set_cons_zero, List.nil_append, List.cons_append]
      apply Run.call (wanted_none rfl _) (fun _ _ => by go_simp; exact ⟨rfl, rfl⟩)
      · intro w1 h1 hk
        have q0 := h1.cell x0; have r0 := h1.cell y0
        exact left_any _ _ _ ts[k] _ (HT.out.fut ((Fut.drew _).trans h1)) (HV.out.fut RV.stays ((Fut.drew _).trans h1)) hlk
      simp only [Act.put, List.setIfInBounds_toArray, List.set_cons_succ, List.set_cons_zero, List.nil_append, List.cons_append]
      apply Run.valG (wanted_none rfl _)
      · intro w1 h1 hk
        have q0 := h1.cell x0; have r0 := h1.cell y0
        have hcw := fun b o => Below.cell (p := ⟨b, o, none⟩) h1
        go_simp; rfl
      simp only [Act.put, List.setIfInBounds_toArray, List.set_cons_succ, List.set_cons_zero, List.nil_append, List.cons_append]
      apply Run.done
      intro w2 h2 hk
      clear hk
      go_wp2
      go_roundw
      case rel => exact ⟨k + 1, by omega, by go_num, hF.out.trans ((Fut.drew _).trans h2)⟩
      case measure => simp [intOf]; omega
    · obtain rfl : k = ts.length := by omega
      have x0 := (HB.out.fut hF.out).cell (j := ts.length * 1 + 0) (by omega)
      rw [cellsAt_get (i := ts.length) (j := 0) HMC.out rfl (by omega)] at x0
      simp only [Nat.mul_one, Nat.add_zero] at x0
      go_wp2_with fail
      refine (isT_any _ _ (HMV.out.fut RV.stays hF.out)).mono ?_
      rintro e w2 ⟨rfl, h2⟩
      go_wp2
      go_ret
      exact ⟨rfl, hF.out.trans h2⟩
end Go.Proofs.YtlihkmldclocoaaDoor
