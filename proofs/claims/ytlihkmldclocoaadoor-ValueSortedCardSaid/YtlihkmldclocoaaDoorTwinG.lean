/- Copies of lists of facts, a mark behind each: TwinFacts, LeftFacts. -/
import Derived.Test.YtlihkmldclocoaaDoorTwinT
import Derived.Test.YtlihkmldclocoaaDoorThere0
namespace Go.Proofs.YtlihkmldclocoaaDoor
open Go.RowKit
set_option linter.unusedSimpArgs false
set_option linter.unusedVariables false

def wordS : ByteArray := ⟨#[35]⟩ ++ ⟨(Lib.itoa 777777).toArray⟩
set_option maxHeartbeats 400000 in
theorem word_any' (w : World) (hP : Pows w) : Calls Tryd.prog 89 #[.int .i64 777777] w fun e w' => e = .returned (.string wordS) ∧ Fut w w' := by
  have HI : Hid (Calls Tryd.prog 111 #[.int .i64 777777] w fun e w' => e = .returned (.string ⟨(Lib.itoa 777777).toArray⟩) ∧ Fut w w') :=
    Lib.hid ((Tryd.strconv_Itoa 777777 (by omega) (by omega) w hP).mono fun e w' ⟨h, k, os, hw⟩ => ⟨h, hw ▸ fut_grow w k os⟩)
  have hsz : (⟨(Lib.itoa 777777).toArray⟩ : ByteArray).size ≤ 30 := by
    rw [Lib.size_eq]; exact itoa_len 777777 (by omega)
  unfold wordS
  generalize (⟨(Lib.itoa 777777).toArray⟩ : ByteArray) = t at HI hsz ⊢
  have h1 : (⟨#[35]⟩ : ByteArray).size = 1 := rfl
  go_enter Tryd.func89, Tryd.ntmps89
  go_wp2_with fail
  refine HI.out.mono ?_
  rintro e w1 ⟨rfl, h1⟩
  go_wp2
  go_ret
  exact ⟨rfl, h1⟩
set_option maxHeartbeats 400000 in
theorem markG_any (w : World) (hP : Pows w) : Calls Tryd.prog 58 #[.int .i64 777777] w fun e w' => e = .returned (.agg #[.string wordS, .slice none 0 0]) ∧ Fut w w' := by
  have HW := Lib.hid (fun w hP => word_any' w hP)
  generalize wordS = t at HW ⊢
  go_enter Tryd.func58, Tryd.ntmps58
  go_wp2_with fail
  refine (HW.out _ (hP.fut (Fut.alloc _ _))).mono ?_
  rintro e w1 ⟨rfl, h1⟩
  have c0 : w1.cell? ⟨w.heap.size, 0, none⟩ = some (.string ⟨#[]⟩) := h1.cell (by go_simp)
  have c1 : w1.cell? ⟨w.heap.size, 1, none⟩ = some (.slice none 0 0) := h1.cell (by go_simp)
  have z0 : w1.frozen? ⟨w.heap.size, 0, none⟩ = false := h1.free (by simp) (by go_simp)
  have z1 : w1.frozen? ⟨w.heap.size, 1, none⟩ = false := h1.free (by simp) (by go_simp)
  go_wp2
  exact bodyPost_ret (v := .agg #[.string t, .slice none 0 0]) (by simp [results, Tryd.results58, go_sem, c0, c1, z0, z1]) rfl ⟨rfl, (((Fut.alloc _ _).trans h1).set (Nat.le_refl _) _).set (Nat.le_refl _) _⟩
set_option maxHeartbeats 400000 in
theorem isG_any (w : World) (hP : Pows w) : Calls Tryd.prog 68 #[.agg #[.string wordS, .slice none 0 0], .int .i64 777777] w fun e w' => e = .returned (.bool true) ∧ Fut w w' := by
  have HP := Lib.hid hP
  have HW := Lib.hid (fun w hP => word_any' w hP)
  generalize wordS = t at HW ⊢
  go_enter Tryd.func68, Tryd.ntmps68
  go_wp2
  refine wp_graph 12 [.d, .d, .d, .d, .d, .d, .d, .d, .d, .d, .d, .d] (by kernel_rfl) (by kernel_rfl) (by kernel_rfl) ?_
  simp only [List.take_succ_cons, List.take_zero, List.drop_succ_cons, List.drop_zero, Exs]
  iterate 12 apply Exists.intro
  apply Run.valG (wanted_none rfl _)
  · intro w1 h1 hk
    have cx_0_0 : w1.cell? ⟨w.heap.size, 0, none⟩ = some (.string t) := Fut.cell h1 (by first | exact c0_0_0 | go_simp)
    have cx_0_1 : w1.cell? ⟨w.heap.size, 1, none⟩ = some (.slice none 0 0) := Fut.cell h1 (by first | exact c0_0_1 | go_simp)
    go_simp; rfl
  simp only [Act.put, List.setIfInBounds_toArray, List.set_cons_succ, List.set_cons_zero, List.nil_append, List.cons_append]
  apply Run.valG (wanted_none rfl _)
  · intro w1 h1 hk
    have cx_0_0 : w1.cell? ⟨w.heap.size, 0, none⟩ = some (.string t) := Fut.cell h1 (by first | exact c0_0_0 | go_simp)
    have cx_0_1 : w1.cell? ⟨w.heap.size, 1, none⟩ = some (.slice none 0 0) := Fut.cell h1 (by first | exact c0_0_1 | go_simp)
    go_simp; rfl
  simp only [Act.put, List.setIfInBounds_toArray, List.set_cons_succ, List.set_cons_zero, List.nil_append, List.cons_append]
  apply Run.valG (wanted_none rfl _)
  · intro w1 h1 hk
    have cx_0_0 : w1.cell? ⟨w.heap.size, 0, none⟩ = some (.string t) := Fut.cell h1 (by first | exact c0_0_0 | go_simp)
    have cx_0_1 : w1.cell? ⟨w.heap.size, 1, none⟩ = some (.slice none 0 0) := Fut.cell h1 (by first | exact c0_0_1 | go_simp)
    go_simp; rfl
  simp only [Act.put, List.setIfInBounds_toArray, List.set_cons_succ, List.set_cons_zero, List.nil_append, List.cons_append]
  apply Run.call (wanted_none rfl _) (fun _ _ => by go_simp; exact ⟨rfl, rfl⟩)
  · intro w1 h1 hk
    have cx_0_0 : w1.cell? ⟨w.heap.size, 0, none⟩ = some (.string t) := Fut.cell h1 (by first | exact c0_0_0 | go_simp)
    have cx_0_1 : w1.cell? ⟨w.heap.size, 1, none⟩ = some (.slice none 0 0) := Fut.cell h1 (by first | exact c0_0_1 | go_simp)
    exact HW.out _ (HP.out.fut (((Fut.alloc _ _).trans (Fut.drew _)).trans h1))
  simp only [Act.put, List.setIfInBounds_toArray, List.set_cons_succ, List.set_cons_zero, List.nil_append, List.cons_append]
  apply Run.valG (wanted_none rfl _)
  · intro w1 h1 hk
    have cx_0_0 : w1.cell? ⟨w.heap.size, 0, none⟩ = some (.string t) := Fut.cell h1 (by first | exact c0_0_0 | go_simp)
    have cx_0_1 : w1.cell? ⟨w.heap.size, 1, none⟩ = some (.slice none 0 0) := Fut.cell h1 (by first | exact c0_0_1 | go_simp)
    go_simp; rfl
  simp only [Act.put, List.setIfInBounds_toArray, List.set_cons_succ, List.set_cons_zero, List.nil_append, List.cons_append]
  apply Run.valG (wanted_none rfl _)
  · intro w1 h1 hk
    have cx_0_0 : w1.cell? ⟨w.heap.size, 0, none⟩ = some (.string t) := Fut.cell h1 (by first | exact c0_0_0 | go_simp)
    have cx_0_1 : w1.cell? ⟨w.heap.size, 1, none⟩ = some (.slice none 0 0) := Fut.cell h1 (by first | exact c0_0_1 | go_simp)
    go_simp; rfl
  simp only [Act.put, List.setIfInBounds_toArray, List.set_cons_succ, List.set_cons_zero, List.nil_append, List.cons_append]
  apply Run.valG (by go_simp)
  · intro w1 h1 hk
    have cx_0_0 : w1.cell? ⟨w.heap.size, 0, none⟩ = some (.string t) := Fut.cell h1 (by first | exact c0_0_0 | go_simp)
    have cx_0_1 : w1.cell? ⟨w.heap.size, 1, none⟩ = some (.slice none 0 0) := Fut.cell h1 (by first | exact c0_0_1 | go_simp)
    go_simp; rfl
  simp only [Act.put, List.setIfInBounds_toArray, List.set_cons_succ, List.set_cons_zero, List.nil_append, List.cons_append]
  apply Run.valG (by go_simp)
  · intro w1 h1 hk
    have cx_0_0 : w1.cell? ⟨w.heap.size, 0, none⟩ = some (.string t) := Fut.cell h1 (by first | exact c0_0_0 | go_simp)
    have cx_0_1 : w1.cell? ⟨w.heap.size, 1, none⟩ = some (.slice none 0 0) := Fut.cell h1 (by first | exact c0_0_1 | go_simp)
    go_simp; rfl
  simp only [Act.put, List.setIfInBounds_toArray, List.set_cons_succ, List.set_cons_zero, List.nil_append, List.cons_append]
  apply Run.valG (by go_simp)
  · intro w1 h1 hk
    have cx_0_0 : w1.cell? ⟨w.heap.size, 0, none⟩ = some (.string t) := Fut.cell h1 (by first | exact c0_0_0 | go_simp)
    have cx_0_1 : w1.cell? ⟨w.heap.size, 1, none⟩ = some (.slice none 0 0) := Fut.cell h1 (by first | exact c0_0_1 | go_simp)
    go_simp; rfl
  simp only [Act.put, List.setIfInBounds_toArray, List.set_cons_succ, List.set_cons_zero, List.nil_append, List.cons_append]
  apply Run.valG (by go_simp)
  · intro w1 h1 hk
    have cx_0_0 : w1.cell? ⟨w.heap.size, 0, none⟩ = some (.string t) := Fut.cell h1 (by first | exact c0_0_0 | go_simp)
    have cx_0_1 : w1.cell? ⟨w.heap.size, 1, none⟩ = some (.slice none 0 0) := Fut.cell h1 (by first | exact c0_0_1 | go_simp)
    go_simp; rfl
  simp only [Act.put, List.setIfInBounds_toArray, List.set_cons_succ, List.set_cons_zero, List.nil_append, List.cons_append]
  apply Run.valG (wanted_none rfl _)
  · intro w1 h1 hk
    have cx_0_0 : w1.cell? ⟨w.heap.size, 0, none⟩ = some (.string t) := Fut.cell h1 (by first | exact c0_0_0 | go_simp)
    have cx_0_1 : w1.cell? ⟨w.heap.size, 1, none⟩ = some (.slice none 0 0) := Fut.cell h1 (by first | exact c0_0_1 | go_simp)
    go_simp; rfl
  simp only [Act.put, List.setIfInBounds_toArray, List.set_cons_succ, List.set_cons_zero, List.nil_append, List.cons_append]
  apply Run.valG (wanted_none rfl _)
  · intro w1 h1 hk
    have cx_0_0 : w1.cell? ⟨w.heap.size, 0, none⟩ = some (.string t) := Fut.cell h1 (by first | exact c0_0_0 | go_simp)
    have cx_0_1 : w1.cell? ⟨w.heap.size, 1, none⟩ = some (.slice none 0 0) := Fut.cell h1 (by first | exact c0_0_1 | go_simp)
    go_simp; rfl
  simp only [Act.put, List.setIfInBounds_toArray, List.set_cons_succ, List.set_cons_zero, List.nil_append, List.cons_append]
  apply Run.done
  intro w2 h2 hk
  have c2_0_0 : w2.cell? ⟨w.heap.size, 0, none⟩ = some (.string t) := Fut.cell h2 (by first | exact c0_0_0 | go_simp)
  have c2_0_1 : w2.cell? ⟨w.heap.size, 1, none⟩ = some (.slice none 0 0) := Fut.cell h2 (by first | exact c0_0_1 | go_simp)
  clear hk
  go_wp2
  go_ret
  exact ⟨by first | rfl | simp, (Fut.alloc _ _).trans ((Fut.drew _).trans h2)⟩

/-! ### Facts -/
def RGw (B : Nat) (w : World) (cs : List Value) (x : Fc) : Prop := ∃ u, cs = [.string x.p, u] ∧ TwinR B w u x.a
theorem RGw.stays (B : Nat) : Stays (RGw B) := fun _ _ _ _ hf ⟨u, h1, h2⟩ => ⟨u, h1, h2.fut hf⟩
def markGR (_ : World) (cs : List Value) : Prop := cs = [.string wordS, .slice none 0 0]
theorem markGR.fut : ∀ w w' cs, Fut w w' → markGR w cs → markGR w' cs := fun _ _ _ _ h => h
abbrev TwinG : Nat → World → Value → List Fc → Prop := TwinE 2 54 [.string ⟨#[]⟩, .slice none 0 0] RGw markGR
theorem TwinG.keep {B : Nat} {w w' : World} {v : Value} {ts : List Fc} (h : TwinG B w v ts) (hf : Fut w w') : TwinG B w' v ts := TwinE.fut RGw.stays markGR.fut h hf
theorem TwinG.facs {B : Nat} {w : World} {v : Value} {ts : List Fc} (h : TwinG B w v ts) (hok : ∀ t ∈ ts, t.p.size ≤ 140737488351232 ∧ ∀ x ∈ t.a, x.ok) (hl : ∀ t ∈ ts, t.a.length < 4398046511104) (hm : ts.length < 4398046511104) : FacsG w v ts :=
  TwinE.rep h (fun g cs x hx ⟨u, h1, h2⟩ => ⟨u, h1, (hok x hx).1, h2.vals (hok x hx).2 (hl x hx)⟩) (by omega)
theorem FacsG.oks {w : World} {v : Value} {ts : List Fc} (h : FacsG w v ts) : ∀ t ∈ ts, t.p.size ≤ 140737488351232 ∧ ∀ x ∈ t.a, x.ok := by
  obtain ⟨A, cap, _, _, _, h3⟩ := h
  intro t ht
  obtain ⟨i, hi⟩ := List.getElem?_of_mem ht
  obtain ⟨_, _, _, _, _, _, u, _, hp, hu⟩ := h3 i t hi
  exact ⟨hp, hu.oks⟩

set_option maxHeartbeats 1000000 in
theorem twinG_any (a : Value) (ts : List Fc) (w : World) (hP : Pows w) (ha : FacsG w a ts) (hn : ts.length < 3000000000000) (hl : ∀ t ∈ ts, t.a.length < 4398046511104) :
    Calls Tryd.prog 23 #[a] w fun e w' => ∃ v, e = .returned v ∧ TwinG w.heap.size w' v ts ∧ Fut w w' := by
  obtain ⟨A, cap, rfl, hcl, hm⟩ := SlRep.form ha
  obtain ⟨i0, hi0, hz0, hz1, hz2⟩ := info_parts infoG
  have hmk : ∀ W : World, (Instr.makeSlice 44 (.int .i64 ((ts.length : Int) + 1)) (.int .i64 ((ts.length : Int) + 1))).run Tryd.prog W =
      .ok (.slice (some ⟨W.heap.size, 0, none⟩) (ts.length + 1) (ts.length + 1)) (W.alloc (.cells (madeCells #[Value.string ⟨#[]⟩, .slice none 0 0] ((ts.length + 1) * 2)) 54)) := fun W => by
    have := run_make_rowN (P := Tryd.prog) 44 54 i0 _ Tryd.underlying44 hi0 hz0 .i64 .i64 (ts.length + 1) (ts.length + 1) (Nat.le_refl _) (by rw [hz2]; omega) (by omega) W
    rw [hz1] at this
    exact this
  have HL := Lib.hid hl
  have HP := Lib.hid hP
  clear hl hP
  go_enter Tryd.func23, Tryd.ntmps23
  go_wp2
  go_loopw [4] (fun i wr => ∃ (k : Nat) (css : List (List Value)), k ≤ ts.length ∧ i = .int .i64 k ∧ css.length = k ∧ Hid (BlkF wr w.heap.size 54 ((ts.length + 1) * 2) (cellsAt css [.string ⟨#[]⟩, .slice none 0 0] 2)) ∧ Hid (∀ (j : Nat) (x : Fc) (cs : List Value), ts[j]? = some x → css[j]? = some cs → cs.length = 2 ∧ RGw (w.heap.size + 1) wr cs x) ∧ Hid (Fut w wr)) (fun i _ => ts.length - (intOf i).toNat)
  case atStart => exact ⟨0, [], Nat.zero_le _, rfl, rfl, Lib.hid (by
    have h := BlkF.new w 54 (madeCells #[Value.string ⟨#[]⟩, .slice none 0 0] ((ts.length + 1) * 2))
    rw [show (madeCells #[Value.string ⟨#[]⟩, .slice none 0 0] ((ts.length + 1) * 2)).size = (ts.length + 1) * 2 by simp [madeCells]] at h
    exact h.congr fun j hj => made_two _ _ _ j (by omega)), Lib.hid (fun j x cs _ hc => by simp at hc), Fut.alloc _ _⟩
  case round =>
    obtain ⟨k, css, hk, rfl, hcs, hB, hE, hF⟩ := hrel
    have hsz : w.heap.size < wr.heap.size := hB.out.lt
    have HSZ := Lib.hid (show w.heap.size + 1 ≤ wr.heap.size from hsz)
    by_cases hlt : k < ts.length
    · obtain ⟨b, off, A', cp, rfl, _, x0, x1, _, _, hv⟩ := FacsG.at_ (ha.fut RG.stays hF.out) hlt
      have hlk := HL.out _ (List.getElem_mem hlt)
      have HV := Lib.hid hv
      clear hv
      go_wp2_with fail
      refine (twinF_any ts[k] _ _ HV.out hlk).mono ?_
      rintro e w1 ⟨v, rfl, ht, h1⟩
      have HT := Lib.hid ht
      obtain ⟨g1, hg1, rfl, _⟩ := ht
      have hB1 := Lib.hid (hB.out.fut h1)
      have d0 := hB1.out.cell (j := k * 2) (by omega)
      have d1 := hB1.out.cell (j := k * 2 + 1) (by omega)
      have e0 := hB1.out.free (k * 2)
      have e1 := hB1.out.free (k * 2 + 1)
      have hF1 := Lib.hid (hF.out.trans h1)
      go_wp2
      refine ⟨⟨k + 1, css ++ [[.string ts[k].p, .slice (some ⟨g1, 0, none⟩) ts[k].a.length (ts[k].a.length + 1)]], by omega, by go_num, by simp [hcs], Lib.hid (((hB1.out.set _ _).set _ _).congr fun j hj => cellsAt_two css _ _ _ k j hcs), Lib.hid (fun j x cs hx hc => ?_), Lib.hid ((hF1.out.set (Nat.le_refl _) _).set (Nat.le_refl _) _)⟩, by simp [intOf]; omega⟩
      rcases Nat.lt_or_ge j css.length with hj | hj
      · rw [List.getElem?_append_left hj] at hc
        obtain ⟨h2, u, h3, h4⟩ := hE.out j x cs hx hc
        exact ⟨h2, u, h3, ((h4.fut h1).far (Nat.lt_succ_self _) _).far (Nat.lt_succ_self _) _⟩
      · have hj' : j = k := by
          have := (List.getElem?_eq_some_iff.1 hc).1
          simp at this; omega
        subst hj'
        rw [List.getElem?_append_right hj, hcs, Nat.sub_self] at hc
        simp only [List.getElem?_cons_zero, Option.some.injEq] at hc
        subst hc
        rw [List.getElem?_eq_getElem hlt] at hx
        rw [← Option.some.inj hx]
        exact ⟨rfl, _, rfl, ((HT.out.low HSZ.out).far (Nat.lt_succ_self _) _).far (Nat.lt_succ_self _) _⟩
    · obtain rfl : k = ts.length := by omega
      go_wp2_with fail
      refine (markG_any _ (HP.out.fut hF.out)).mono ?_
      rintro e w1 ⟨rfl, h1⟩
      have hB1 := Lib.hid (hB.out.fut h1)
      have d0 := hB1.out.cell (j := ts.length * 2) (by omega)
      have d1 := hB1.out.cell (j := ts.length * 2 + 1) (by omega)
      have e0 := hB1.out.free (ts.length * 2)
      have e1 := hB1.out.free (ts.length * 2 + 1)
      have hF1 := Lib.hid (hF.out.trans h1)
      go_wp2
      go_ret
      refine ⟨_, rfl, ⟨w.heap.size, css ++ [[.string wordS, .slice none 0 0]], Nat.le_refl _, rfl, by simp [hcs], ((hB1.out.set _ _).set _ _).congr fun j hj => cellsAt_two css _ _ _ ts.length j hcs, fun j x cs hx hc => ?_, fun cs hc => ?_⟩, (hF1.out.set (Nat.le_refl _) _).set (Nat.le_refl _) _⟩
      · have hj : j < css.length := by have := (List.getElem?_eq_some_iff.1 hx).1; omega
        rw [List.getElem?_append_left hj] at hc
        obtain ⟨h2, u, h3, h4⟩ := hE.out j x cs hx hc
        exact ⟨h2, u, h3, ((h4.fut h1).far (Nat.lt_succ_self _) _).far (Nat.lt_succ_self _) _⟩
      · rw [List.getElem?_append_right (by omega), hcs, Nat.sub_self] at hc
        simp only [List.getElem?_cons_zero, Option.some.injEq] at hc
        subst hc
        exact ⟨rfl, rfl⟩

set_option maxHeartbeats 1000000 in
theorem leftG_any (B : Nat) (a b : Value) (ts : List Fc) (w : World) (hP : Pows w) (ha : TwinG B w a ts) (hb : FacsG w b ts) (hn : ts.length < 4398046511104) (hl : ∀ t ∈ ts, t.a.length < 4398046511104) :
    Calls Tryd.prog 29 #[a, b] w fun e w' => e = .returned (.bool true) ∧ Fut w w' := by
  obtain ⟨A, cap, rfl, hcl, hm⟩ := SlRep.form hb
  obtain ⟨g, css, _, rfl, hcs, hB, hE, hM⟩ := ha
  have HL := Lib.hid hl
  have HB := Lib.hid hB
  have HE := Lib.hid hE
  have HP := Lib.hid hP
  obtain ⟨mcs, hmc⟩ : ∃ cs, css[ts.length]? = some cs := ⟨_, List.getElem?_eq_getElem (by omega)⟩
  obtain ⟨_, hmv⟩ := hM _ hmc
  have hmv : mcs = [.string wordS, .slice none 0 0] := hmv
  subst hmv
  have HMC := Lib.hid hmc
  have hne : (((ts.length : Nat) : Int) != (ts.length : Nat)) = false := by simp
  clear hl hB hE hM hmc hP
  go_enter Tryd.func29, Tryd.ntmps29
  go_wp2
  go_loopw [5] (fun i wr => ∃ k : Nat, k ≤ ts.length ∧ i = .int .i64 k ∧ Hid (Fut w wr)) (fun i _ => ts.length - (intOf i).toNat)
  case atStart => exact ⟨0, Nat.zero_le _, rfl, Fut.refl w⟩
  case round =>
    obtain ⟨k, hk, rfl, hF⟩ := hrel
    by_cases hlt : k < ts.length
    · obtain ⟨b, off, A', cp, rfl, _, y0, y1, _, _, hv⟩ := FacsG.at_ (hb.fut RG.stays hF.out) hlt
      have hck : css[k]? = some (css[k]'(by omega)) := List.getElem?_eq_getElem (by omega)
      obtain ⟨hc1, u, hcu, htw⟩ := HE.out k _ _ (List.getElem?_eq_getElem hlt) hck
      have HT := Lib.hid (htw.fut hF.out)
      obtain ⟨g1, _, rfl, _⟩ := htw
      have x0 := (HB.out.fut hF.out).cell (j := k * 2 + 0) (by omega)
      rw [cellsAt_get (i := k) (j := 0) hck (by rw [hcu]; rfl) (by omega)] at x0
      have x1 := (HB.out.fut hF.out).cell (j := k * 2 + 1) (by omega)
      rw [cellsAt_get (i := k) (j := 1) hck (by rw [hcu]; rfl) (by omega)] at x1
      simp only [Nat.add_zero] at x0
      have hlk := HL.out _ (List.getElem_mem hlt)
      have HV := Lib.hid hv
      clear hv hck hcu hc1
      go_wp2
      refine wp_graph 10 [.d, .d, .d, .d, .d, .d, .d, .d, .d, .d] (by kernel_rfl) (by kernel_rfl) (by kernel_rfl) ?_
      simp only [List.take_succ_cons, List.take_zero, List.drop_succ_cons, List.drop_zero, Exs]
      iterate 10 apply Exists.intro
      apply Run.valG (wanted_none rfl _)
      · intro w1 h1 hk
        have q0 := h1.cell x0; have r0 := h1.cell y0; have q1 := h1.cell x1; have r1 := h1.cell y1
        have hcw := fun b o => Below.cell (p := ⟨b, o, none⟩) h1
        go_simp; rfl
      simp only [Act.put, List.setIfInBounds_toArray, List.set_cons_succ, List.set_cons_zero, List.nil_append, List.cons_append]
      apply Run.valG (wanted_none rfl _)
      · intro w1 h1 hk
        have q0 := h1.cell x0; have r0 := h1.cell y0; have q1 := h1.cell x1; have r1 := h1.cell y1
        have hcw := fun b o => Below.cell (p := ⟨b, o, none⟩) h1
        go_simp; rfl
      simp only [Act.put, List.setIfInBounds_toArray, List.set_cons_succ, List.set_cons_zero, List.nil_append, List.cons_append]
      apply Run.valG (wanted_none rfl _)
      · intro w1 h1 hk
        have q0 := h1.cell x0; have r0 := h1.cell y0; have q1 := h1.cell x1; have r1 := h1.cell y1
        have hcw := fun b o => Below.cell (p := ⟨b, o, none⟩) h1
        go_simp; rfl
      simp only [Act.put, List.setIfInBounds_toArray, List.set_cons_succ, List.set_cons_zero, List.nil_append, List.cons_append]
      apply Run.valG (wanted_none rfl _)
      · intro w1 h1 hk
        have q0 := h1.cell x0; have r0 := h1.cell y0; have q1 := h1.cell x1; have r1 := h1.cell y1
        have hcw := fun b o => Below.cell (p := ⟨b, o, none⟩) h1
        go_simp; rfl
      simp only [Act.put, List.setIfInBounds_toArray, List.set_cons_succ, List.set_cons_zero, List.nil_append, List.cons_append]
      apply Run.valG (wanted_none rfl _)
      · intro w1 h1 hk
        have q0 := h1.cell x0; have r0 := h1.cell y0; have q1 := h1.cell x1; have r1 := h1.cell y1
        have hcw := fun b o => Below.cell (p := ⟨b, o, none⟩) h1
        go_simp; rfl
      simp only [Act.put, List.setIfInBounds_toArray, List.set_cons_succ, List.set_cons_zero, List.nil_append, List.cons_append]
      apply Run.valG (wanted_none rfl _)
      · intro w1 h1 hk
        have q0 := h1.cell x0; have r0 := h1.cell y0; have q1 := h1.cell x1; have r1 := h1.cell y1
        have hcw := fun b o => Below.cell (p := ⟨b, o, none⟩) h1
        go_simp; rfl
      simp only [Act.put, List.setIfInBounds_toArray, List.set_cons_succ, List.set_cons_zero, List.nil_append, List.cons_append]
      apply Run.valG (wanted_none rfl _)
      · intro w1 h1 hk
        have q0 := h1.cell x0; have r0 := h1.cell y0; have q1 := h1.cell x1; have r1 := h1.cell y1
        have hcw := fun b o => Below.cell (p := ⟨b, o, none⟩) h1
        go_simp; rfl
      simp only [Act.put, List.setIfInBounds_toArray, List.set_cons_succ, List.set_cons_zero, List.nil_append, List.cons_append]
      apply Run.valG (wanted_none rfl _)
      · intro w1 h1 hk
        have q0 := h1.cell x0; have r0 := h1.cell y0; have q1 := h1.cell x1; have r1 := h1.cell y1
        have hcw := fun b o => Below.cell (p := ⟨b, o, none⟩) h1
        go_simp; rfl
      simp only [Act.put, List.setIfInBounds_toArray, List.set_cons_succ, List.set_cons_zero, List.nil_append, List.cons_append]
      apply Run.call (wanted_none rfl _) (fun _ _ => by go_simp; exact ⟨rfl, rfl⟩)
      · intro w1 h1 hk
        have q0 := h1.cell x0; have r0 := h1.cell y0; have q1 := h1.cell x1; have r1 := h1.cell y1
        exact leftF_any _ ts[k] _ _ _ (HT.out.fut ((Fut.drew _).trans h1)) (HV.out.fut RV.stays ((Fut.drew _).trans h1)) hlk
      simp only [Act.put, List.setIfInBounds_toArray, List.set_cons_succ, List.set_cons_zero, List.nil_append, List.cons_append]
      apply Run.valG (wanted_none rfl _)
      · intro w1 h1 hk
        have q0 := h1.cell x0; have r0 := h1.cell y0; have q1 := h1.cell x1; have r1 := h1.cell y1
        have hcw := fun b o => Below.cell (p := ⟨b, o, none⟩) h1
        go_simp; rfl
      simp only [Act.put, List.setIfInBounds_toArray, List.set_cons_succ, List.set_cons_zero, List.nil_append, List.cons_append]
      apply Run.done
      intro w2 h2 hk
      clear hk
      go_wp2
      go_roundw
      case rel => exact ⟨k + 1, by omega, by go_num, hF.out.trans ((Fut.drew _).trans h2)⟩
      case measure => simp [intOf]; omega
    · obtain rfl : k = ts.length := by omega
      have x0 := (HB.out.fut hF.out).cell (j := ts.length * 2 + 0) (by omega)
      rw [cellsAt_get (i := ts.length) (j := 0) HMC.out rfl (by omega)] at x0
      have x1 := (HB.out.fut hF.out).cell (j := ts.length * 2 + 1) (by omega)
      rw [cellsAt_get (i := ts.length) (j := 1) HMC.out rfl (by omega)] at x1
      simp only [Nat.add_zero] at x0
      go_wp2_with fail
      refine (isG_any _ (HP.out.fut hF.out)).mono ?_
      rintro e w2 ⟨rfl, h2⟩
      go_wp2
      go_ret
      exact ⟨rfl, hF.out.trans h2⟩
end Go.Proofs.YtlihkmldclocoaaDoor
