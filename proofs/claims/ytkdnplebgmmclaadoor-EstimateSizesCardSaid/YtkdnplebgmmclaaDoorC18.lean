/- TwinG, Lives25W, RShare -/
import Derived.Test.YtkdnplebgmmclaaDoorC17
/- Copies of lists of facts, a mark behind each: TwinFacts, LeftFacts. -/
namespace Go.Proofs.YtkdnplebgmmclaaDoor
open Go.RowKit
set_option linter.unusedSimpArgs false
set_option linter.unusedVariables false

def wordS : ByteArray := ⟨#[35]⟩ ++ ⟨(Lib.itoa 777777).toArray⟩
set_option maxHeartbeats 400000 in
theorem word_any' (w : World) (hP : Pows w) : Calls Tryd.prog 30 #[.int .i64 777777] w fun e w' => e = .returned (.string wordS) ∧ Fut w w' := by
  have HI : Hid (Calls Tryd.prog 42 #[.int .i64 777777] w fun e w' => e = .returned (.string ⟨(Lib.itoa 777777).toArray⟩) ∧ Fut w w') :=
    Lib.hid ((Tryd.strconv_Itoa 777777 (by omega) (by omega) w hP).mono fun e w' ⟨h, k, os, hw⟩ => ⟨h, hw ▸ fut_grow w k os⟩)
  have hsz : (⟨(Lib.itoa 777777).toArray⟩ : ByteArray).size ≤ 30 := by
    rw [Lib.size_eq]; exact itoa_len 777777 (by omega)
  unfold wordS
  generalize (⟨(Lib.itoa 777777).toArray⟩ : ByteArray) = t at HI hsz ⊢
  have h1 : (⟨#[35]⟩ : ByteArray).size = 1 := rfl
  go_enter Tryd.func30, Tryd.ntmps30
  go_wp2_with fail
  refine HI.out.mono ?_
  rintro e w1 ⟨rfl, h1⟩
  go_wp2
  go_ret
  exact ⟨rfl, h1⟩
set_option maxHeartbeats 400000 in
theorem markG_any (w : World) (hP : Pows w) : Calls Tryd.prog 17 #[.int .i64 777777] w fun e w' => e = .returned (.agg #[.string wordS, .slice none 0 0]) ∧ Fut w w' := by
  have HW := Lib.hid (fun w hP => word_any' w hP)
  generalize wordS = t at HW ⊢
  go_enter Tryd.func17, Tryd.ntmps17
  go_wp2_with fail
  refine (HW.out _ (hP.fut (Fut.alloc _ _))).mono ?_
  rintro e w1 ⟨rfl, h1⟩
  have c0 : w1.cell? ⟨w.heap.size, 0, none⟩ = some (.string ⟨#[]⟩) := h1.cell (by go_simp)
  have c1 : w1.cell? ⟨w.heap.size, 1, none⟩ = some (.slice none 0 0) := h1.cell (by go_simp)
  have z0 : w1.frozen? ⟨w.heap.size, 0, none⟩ = false := h1.free (by simp) (by go_simp)
  have z1 : w1.frozen? ⟨w.heap.size, 1, none⟩ = false := h1.free (by simp) (by go_simp)
  go_wp2
  exact bodyPost_ret (v := .agg #[.string t, .slice none 0 0]) (by simp [results, Tryd.results17, go_sem, c0, c1, z0, z1]) rfl ⟨rfl, (((Fut.alloc _ _).trans h1).set (Nat.le_refl _) _).set (Nat.le_refl _) _⟩
set_option maxHeartbeats 400000 in
theorem isG_any (w : World) (hP : Pows w) : Calls Tryd.prog 23 #[.agg #[.string wordS, .slice none 0 0], .int .i64 777777] w fun e w' => e = .returned (.bool true) ∧ Fut w w' := by
  have HP := Lib.hid hP
  have HW := Lib.hid (fun w hP => word_any' w hP)
  generalize wordS = t at HW ⊢
  go_enter Tryd.func23, Tryd.ntmps23
  go_wp2
  refine wp_graph 12 [.d, .d, .d, .d, .d, .d, .d, .d, .d, .d, .d, .d] (by kernel_rfl) (by kernel_rfl) (by kernel_rfl) ?_
  simp only [List.take_succ_cons, List.take_zero, List.drop_succ_cons, List.drop_zero, Exs]
  iterate 12 apply Exists.intro
  apply Run.valG (wanted_none rfl _)
  · intro w1 h1 hk
    have cx_0_0 : w1.cell? ⟨w.heap.size, 0, none⟩ = some (.string t) := Fut.cell h1 (by first | exact c0_0_0 | go_simp)
    have cx_0_1 : w1.cell? ⟨w.heap.size, 1, none⟩ = some (.slice none 0 0) := Fut.cell h1 (by first | exact c0_0_1 | go_simp)
    go_simp; rfl
  simp only [Act.put, List.setIfInBounds_toArray, List.set_cons_succ, List.set_cons_zero, List.nil_append, List.cons_append]
  apply Run.valG (wanted_none rfl _)
  · intro w1 h1 hk
    have cx_0_0 : w1.cell? ⟨w.heap.size, 0, none⟩ = some (.string t) := Fut.cell h1 (by first | exact c0_0_0 | go_simp)
    have cx_0_1 : w1.cell? ⟨w.heap.size, 1, none⟩ = some (.slice none 0 0) := Fut.cell h1 (by first | exact c0_0_1 | go_simp)
    go_simp; rfl
  simp only [Act.put, List.setIfInBounds_toArray, List.set_cons_succ, List.set_cons_zero, List.nil_append, List.cons_append]
  apply Run.valG (wanted_none rfl _)
  · intro w1 h1 hk
    have cx_0_0 : w1.cell? ⟨w.heap.size, 0, none⟩ = some (.string t) := Fut.cell h1 (by first | exact c0_0_0 | go_simp)
    have cx_0_1 : w1.cell? ⟨w.heap.size, 1, none⟩ = some (.slice none 0 0) := Fut.cell h1 (by first | exact c0_0_1 | go_simp)
    go_simp; rfl
  simp only [Act.put, List.setIfInBounds_toArray, List.set_cons_succ, List.set_cons_zero, List.nil_append, List.cons_append]
  apply Run.call (wanted_none rfl _) (fun _ _ => by go_simp; exact ⟨rfl, rfl⟩)
  · intro w1 h1 hk
    have cx_0_0 : w1.cell? ⟨w.heap.size, 0, none⟩ = some (.string t) := Fut.cell h1 (by first | exact c0_0_0 | go_simp)
    have cx_0_1 : w1.cell? ⟨w.heap.size, 1, none⟩ = some (.slice none 0 0) := Fut.cell h1 (by first | exact c0_0_1 | go_simp)
    exact HW.out _ (HP.out.fut (((Fut.alloc _ _).trans (Fut.drew _)).trans h1))
  simp only [Act.put, List.setIfInBounds_toArray, List.set_cons_succ, List.set_cons_zero, List.nil_append, List.cons_append]
  apply Run.valG (wanted_none rfl _)
  · intro w1 h1 hk
    have cx_0_0 : w1.cell? ⟨w.heap.size, 0, none⟩ = some (.string t) := Fut.cell h1 (by first | exact c0_0_0 | go_simp)
    have cx_0_1 : w1.cell? ⟨w.heap.size, 1, none⟩ = some (.slice none 0 0) := Fut.cell h1 (by first | exact c0_0_1 | go_simp)
    go_simp; rfl
  simp only [Act.put, List.setIfInBounds_toArray, List.set_cons_succ, List.set_cons_zero, List.nil_append, List.cons_append]
  apply Run.valG (wanted_none rfl _)
  · intro w1 h1 hk
    have cx_0_0 : w1.cell? ⟨w.heap.size, 0, none⟩ = some (.string t) := Fut.cell h1 (by first | exact c0_0_0 | go_simp)
    have cx_0_1 : w1.cell? ⟨w.heap.size, 1, none⟩ = some (.slice none 0 0) := Fut.cell h1 (by first | exact c0_0_1 | go_simp)
    go_simp; rfl
  simp only [Act.put, List.setIfInBounds_toArray, List.set_cons_succ, List.set_cons_zero, List.nil_append, List.cons_append]
  apply Run.valG (by go_simp)
  · intro w1 h1 hk
    have cx_0_0 : w1.cell? ⟨w.heap.size, 0, none⟩ = some (.string t) := Fut.cell h1 (by first | exact c0_0_0 | go_simp)
    have cx_0_1 : w1.cell? ⟨w.heap.size, 1, none⟩ = some (.slice none 0 0) := Fut.cell h1 (by first | exact c0_0_1 | go_simp)
    go_simp; rfl
  simp only [Act.put, List.setIfInBounds_toArray, List.set_cons_succ, List.set_cons_zero, List.nil_append, List.cons_append]
  apply Run.valG (by go_simp)
  · intro w1 h1 hk
    have cx_0_0 : w1.cell? ⟨w.heap.size, 0, none⟩ = some (.string t) := Fut.cell h1 (by first | exact c0_0_0 | go_simp)
    have cx_0_1 : w1.cell? ⟨w.heap.size, 1, none⟩ = some (.slice none 0 0) := Fut.cell h1 (by first | exact c0_0_1 | go_simp)
    go_simp; rfl
  simp only [Act.put, List.setIfInBounds_toArray, List.set_cons_succ, List.set_cons_zero, List.nil_append, List.cons_append]
  apply Run.valG (by go_simp)
  · intro w1 h1 hk
    have cx_0_0 : w1.cell? ⟨w.heap.size, 0, none⟩ = some (.string t) := Fut.cell h1 (by first | exact c0_0_0 | go_simp)
    have cx_0_1 : w1.cell? ⟨w.heap.size, 1, none⟩ = some (.slice none 0 0) := Fut.cell h1 (by first | exact c0_0_1 | go_simp)
    go_simp; rfl
  simp only [Act.put, List.setIfInBounds_toArray, List.set_cons_succ, List.set_cons_zero, List.nil_append, List.cons_append]
  apply Run.valG (by go_simp)
  · intro w1 h1 hk
    have cx_0_0 : w1.cell? ⟨w.heap.size, 0, none⟩ = some (.string t) := Fut.cell h1 (by first | exact c0_0_0 | go_simp)
    have cx_0_1 : w1.cell? ⟨w.heap.size, 1, none⟩ = some (.slice none 0 0) := Fut.cell h1 (by first | exact c0_0_1 | go_simp)
    go_simp; rfl
  simp only [Act.put, List.setIfInBounds_toArray, List.set_cons_succ, List.set_cons_zero, List.nil_append, List.cons_append]
  apply Run.valG (wanted_none rfl _)
  · intro w1 h1 hk
    have cx_0_0 : w1.cell? ⟨w.heap.size, 0, none⟩ = some (.string t) := Fut.cell h1 (by first | exact c0_0_0 | go_simp)
    have cx_0_1 : w1.cell? ⟨w.heap.size, 1, none⟩ = some (.slice none 0 0) := Fut.cell h1 (by first | exact c0_0_1 | go_simp)
    go_simp; rfl
  simp only [Act.put, List.setIfInBounds_toArray, List.set_cons_succ, List.set_cons_zero, List.nil_append, List.cons_append]
  apply Run.valG (wanted_none rfl _)
  · intro w1 h1 hk
    have cx_0_0 : w1.cell? ⟨w.heap.size, 0, none⟩ = some (.string t) := Fut.cell h1 (by first | exact c0_0_0 | go_simp)
    have cx_0_1 : w1.cell? ⟨w.heap.size, 1, none⟩ = some (.slice none 0 0) := Fut.cell h1 (by first | exact c0_0_1 | go_simp)
    go_simp; rfl
  simp only [Act.put, List.setIfInBounds_toArray, List.set_cons_succ, List.set_cons_zero, List.nil_append, List.cons_append]
  apply Run.done
  intro w2 h2 hk
  have c2_0_0 : w2.cell? ⟨w.heap.size, 0, none⟩ = some (.string t) := Fut.cell h2 (by first | exact c0_0_0 | go_simp)
  have c2_0_1 : w2.cell? ⟨w.heap.size, 1, none⟩ = some (.slice none 0 0) := Fut.cell h2 (by first | exact c0_0_1 | go_simp)
  clear hk
  go_wp2
  go_ret
  exact ⟨by first | rfl | simp, (Fut.alloc _ _).trans ((Fut.drew _).trans h2)⟩

/-! ### Facts -/
def RGw (B : Nat) (w : World) (cs : List Value) (x : Fc) : Prop := ∃ u, cs = [.string x.p, u] ∧ TwinR B w u x.a
theorem RGw.stays (B : Nat) : Stays (RGw B) := fun _ _ _ _ hf ⟨u, h1, h2⟩ => ⟨u, h1, h2.fut hf⟩
def markGR (_ : World) (cs : List Value) : Prop := cs = [.string wordS, .slice none 0 0]
theorem markGR.fut : ∀ w w' cs, Fut w w' → markGR w cs → markGR w' cs := fun _ _ _ _ h => h
abbrev TwinG : Nat → World → Value → List Fc → Prop := TwinE 2 31 [.string ⟨#[]⟩, .slice none 0 0] RGw markGR
theorem TwinG.keep {B : Nat} {w w' : World} {v : Value} {ts : List Fc} (h : TwinG B w v ts) (hf : Fut w w') : TwinG B w' v ts := TwinE.fut RGw.stays markGR.fut h hf
theorem TwinG.facs {B : Nat} {w : World} {v : Value} {ts : List Fc} (h : TwinG B w v ts) (hok : ∀ t ∈ ts, t.p.size ≤ 140737488351232 ∧ ∀ x ∈ t.a, x.ok) (hl : ∀ t ∈ ts, t.a.length < 4398046511104) (hm : ts.length < 4398046511104) : FacsG w v ts :=
  TwinE.rep h (fun g cs x hx ⟨u, h1, h2⟩ => ⟨u, h1, (hok x hx).1, h2.vals (hok x hx).2 (hl x hx)⟩) (by omega)
theorem FacsG.oks {w : World} {v : Value} {ts : List Fc} (h : FacsG w v ts) : ∀ t ∈ ts, t.p.size ≤ 140737488351232 ∧ ∀ x ∈ t.a, x.ok := by
  obtain ⟨A, cap, _, _, _, h3⟩ := h
  intro t ht
  obtain ⟨i, hi⟩ := List.getElem?_of_mem ht
  obtain ⟨_, _, _, _, _, _, u, _, hp, hu⟩ := h3 i t hi
  exact ⟨hp, hu.oks⟩

set_option maxHeartbeats 1000000 in
theorem twinG_any (a : Value) (ts : List Fc) (w : World) (hP : Pows w) (ha : FacsG w a ts) (hn : ts.length < 3000000000000) (hl : ∀ t ∈ ts, t.a.length < 4398046511104) :
    Calls Tryd.prog 7 #[a] w fun e w' => ∃ v, e = .returned v ∧ TwinG w.heap.size w' v ts ∧ Fut w w' := by
  obtain ⟨A, cap, rfl, hcl, hm⟩ := SlRep.form ha
  obtain ⟨i0, hi0, hz0, hz1, hz2⟩ := info_parts infoG
  have hmk : ∀ W : World, (Instr.makeSlice 22 (.int .i64 ((ts.length : Int) + 1)) (.int .i64 ((ts.length : Int) + 1))).run Tryd.prog W =
      .ok (.slice (some ⟨W.heap.size, 0, none⟩) (ts.length + 1) (ts.length + 1)) (W.alloc (.cells (madeCells #[Value.string ⟨#[]⟩, .slice none 0 0] ((ts.length + 1) * 2)) 31)) := fun W => by
    have := run_make_rowN (P := Tryd.prog) 22 31 i0 _ Tryd.underlying22 hi0 hz0 .i64 .i64 (ts.length + 1) (ts.length + 1) (Nat.le_refl _) (by rw [hz2]; omega) (by omega) W
    rw [hz1] at this
    exact this
  have HL := Lib.hid hl
  have HP := Lib.hid hP
  clear hl hP
  go_enter Tryd.func7, Tryd.ntmps7
  go_wp2
  go_loopw [4] (fun i wr => ∃ (k : Nat) (css : List (List Value)), k ≤ ts.length ∧ i = .int .i64 k ∧ css.length = k ∧ Hid (BlkF wr w.heap.size 31 ((ts.length + 1) * 2) (cellsAt css [.string ⟨#[]⟩, .slice none 0 0] 2)) ∧ Hid (∀ (j : Nat) (x : Fc) (cs : List Value), ts[j]? = some x → css[j]? = some cs → cs.length = 2 ∧ RGw (w.heap.size + 1) wr cs x) ∧ Hid (Fut w wr)) (fun i _ => ts.length - (intOf i).toNat)
  case atStart => exact ⟨0, [], Nat.zero_le _, rfl, rfl, Lib.hid (by
    have h := BlkF.new w 31 (madeCells #[Value.string ⟨#[]⟩, .slice none 0 0] ((ts.length + 1) * 2))
    rw [show (madeCells #[Value.string ⟨#[]⟩, .slice none 0 0] ((ts.length + 1) * 2)).size = (ts.length + 1) * 2 by simp [madeCells]] at h
    exact h.congr fun j hj => made_two _ _ _ j (by omega)), Lib.hid (fun j x cs _ hc => by simp at hc), Fut.alloc _ _⟩
  case round =>
    obtain ⟨k, css, hk, rfl, hcs, hB, hE, hF⟩ := hrel
    have hsz : w.heap.size < wr.heap.size := hB.out.lt
    have HSZ := Lib.hid (show w.heap.size + 1 ≤ wr.heap.size from hsz)
    by_cases hlt : k < ts.length
    · obtain ⟨b, off, A', cp, rfl, _, x0, x1, _, _, hv⟩ := FacsG.at_ (ha.fut RG.stays hF.out) hlt
      have hlk := HL.out _ (List.getElem_mem hlt)
      have HV := Lib.hid hv
      clear hv
      go_wp2_with fail
      refine (twinF_any ts[k] _ _ HV.out hlk).mono ?_
      rintro e w1 ⟨v, rfl, ht, h1⟩
      have HT := Lib.hid ht
      obtain ⟨g1, hg1, rfl, _⟩ := ht
      have hB1 := Lib.hid (hB.out.fut h1)
      have d0 := hB1.out.cell (j := k * 2) (by omega)
      have d1 := hB1.out.cell (j := k * 2 + 1) (by omega)
      have e0 := hB1.out.free (k * 2)
      have e1 := hB1.out.free (k * 2 + 1)
      have hF1 := Lib.hid (hF.out.trans h1)
      go_wp2
      refine ⟨⟨k + 1, css ++ [[.string ts[k].p, .slice (some ⟨g1, 0, none⟩) ts[k].a.length (ts[k].a.length + 1)]], by omega, by go_num, by simp [hcs], Lib.hid (((hB1.out.set _ _).set _ _).congr fun j hj => cellsAt_two css _ _ _ k j hcs), Lib.hid (fun j x cs hx hc => ?_), Lib.hid ((hF1.out.set (Nat.le_refl _) _).set (Nat.le_refl _) _)⟩, by simp [intOf]; omega⟩
      rcases Nat.lt_or_ge j css.length with hj | hj
      · rw [List.getElem?_append_left hj] at hc
        obtain ⟨h2, u, h3, h4⟩ := hE.out j x cs hx hc
        exact ⟨h2, u, h3, ((h4.fut h1).far (Nat.lt_succ_self _) _).far (Nat.lt_succ_self _) _⟩
      · have hj' : j = k := by
          have := (List.getElem?_eq_some_iff.1 hc).1
          simp at this; omega
        subst hj'
        rw [List.getElem?_append_right hj, hcs, Nat.sub_self] at hc
        simp only [List.getElem?_cons_zero, Option.some.injEq] at hc
        subst hc
        rw [List.getElem?_eq_getElem hlt] at hx
        rw [← Option.some.inj hx]
        exact ⟨rfl, _, rfl, ((HT.out.low HSZ.out).far (Nat.lt_succ_self _) _).far (Nat.lt_succ_self _) _⟩
    · obtain rfl : k = ts.length := by omega
      go_wp2_with fail
      refine (markG_any _ (HP.out.fut hF.out)).mono ?_
      rintro e w1 ⟨rfl, h1⟩
      have hB1 := Lib.hid (hB.out.fut h1)
      have d0 := hB1.out.cell (j := ts.length * 2) (by omega)
      have d1 := hB1.out.cell (j := ts.length * 2 + 1) (by omega)
      have e0 := hB1.out.free (ts.length * 2)
      have e1 := hB1.out.free (ts.length * 2 + 1)
      have hF1 := Lib.hid (hF.out.trans h1)
      go_wp2
      go_ret
      refine ⟨_, rfl, ⟨w.heap.size, css ++ [[.string wordS, .slice none 0 0]], Nat.le_refl _, rfl, by simp [hcs], ((hB1.out.set _ _).set _ _).congr fun j hj => cellsAt_two css _ _ _ ts.length j hcs, fun j x cs hx hc => ?_, fun cs hc => ?_⟩, (hF1.out.set (Nat.le_refl _) _).set (Nat.le_refl _) _⟩
      · have hj : j < css.length := by have := (List.getElem?_eq_some_iff.1 hx).1; omega
        rw [List.getElem?_append_left hj] at hc
        obtain ⟨h2, u, h3, h4⟩ := hE.out j x cs hx hc
        exact ⟨h2, u, h3, ((h4.fut h1).far (Nat.lt_succ_self _) _).far (Nat.lt_succ_self _) _⟩
      · rw [List.getElem?_append_right (by omega), hcs, Nat.sub_self] at hc
        simp only [List.getElem?_cons_zero, Option.some.injEq] at hc
        subst hc
        exact ⟨rfl, rfl⟩

set_option maxHeartbeats 1000000 in
theorem leftG_any (B : Nat) (a b : Value) (ts : List Fc) (w : World) (hP : Pows w) (ha : TwinG B w a ts) (hb : FacsG w b ts) (hn : ts.length < 4398046511104) (hl : ∀ t ∈ ts, t.a.length < 4398046511104) :
    Calls Tryd.prog 10 #[a, b] w fun e w' => e = .returned (.bool true) ∧ Fut w w' := by
  obtain ⟨A, cap, rfl, hcl, hm⟩ := SlRep.form hb
  obtain ⟨g, css, _, rfl, hcs, hB, hE, hM⟩ := ha
  have HL := Lib.hid hl
  have HB := Lib.hid hB
  have HE := Lib.hid hE
  have HP := Lib.hid hP
  obtain ⟨mcs, hmc⟩ : ∃ cs, css[ts.length]? = some cs := ⟨_, List.getElem?_eq_getElem (by omega)⟩
  obtain ⟨_, hmv⟩ := hM _ hmc
  have hmv : mcs = [.string wordS, .slice none 0 0] := hmv
  subst hmv
  have HMC := Lib.hid hmc
  have hne : (((ts.length : Nat) : Int) != (ts.length : Nat)) = false := by simp
  clear hl hB hE hM hmc hP
  go_enter Tryd.func10, Tryd.ntmps10
  go_wp2
  go_loopw [5] (fun i wr => ∃ k : Nat, k ≤ ts.length ∧ i = .int .i64 k ∧ Hid (Fut w wr)) (fun i _ => ts.length - (intOf i).toNat)
  case atStart => exact ⟨0, Nat.zero_le _, rfl, Fut.refl w⟩
  case round =>
    obtain ⟨k, hk, rfl, hF⟩ := hrel
    by_cases hlt : k < ts.length
    · obtain ⟨b, off, A', cp, rfl, _, y0, y1, _, _, hv⟩ := FacsG.at_ (hb.fut RG.stays hF.out) hlt
      have hck : css[k]? = some (css[k]'(by omega)) := List.getElem?_eq_getElem (by omega)
      obtain ⟨hc1, u, hcu, htw⟩ := HE.out k _ _ (List.getElem?_eq_getElem hlt) hck
      have HT := Lib.hid (htw.fut hF.out)
      obtain ⟨g1, _, rfl, _⟩ := htw
      have x0 := (HB.out.fut hF.out).cell (j := k * 2 + 0) (by omega)
      rw [cellsAt_get (i := k) (j := 0) hck (by rw [hcu]; rfl) (by omega)] at x0
      have x1 := (HB.out.fut hF.out).cell (j := k * 2 + 1) (by omega)
      rw [cellsAt_get (i := k) (j := 1) hck (by rw [hcu]; rfl) (by omega)] at x1
      simp only [Nat.add_zero] at x0
      have hlk := HL.out _ (List.getElem_mem hlt)
      have HV := Lib.hid hv
      clear hv hck hcu hc1
      go_wp2
      refine wp_graph 10 [.d, .d, .d, .d, .d, .d, .d, .d, .d, .d] (by kernel_rfl) (by kernel_rfl) (by kernel_rfl) ?_
      simp only [List.take_succ_cons, List.take_zero, List.drop_succ_cons, List.drop_zero, Exs]
      iterate 10 apply Exists.intro
      apply Run.valG (wanted_none rfl _)
      · intro w1 h1 hk
        have q0 := h1.cell x0; have r0 := h1.cell y0; have q1 := h1.cell x1; have r1 := h1.cell y1
        have hcw := fun b o => Below.cell (p := ⟨b, o, none⟩) h1
        go_simp; rfl
      simp only [Act.put, List.setIfInBounds_toArray, List.set_cons_succ, List.set_cons_zero, List.nil_append, List.cons_append]
      apply Run.valG (wanted_none rfl _)
      · intro w1 h1 hk
        have q0 := h1.cell x0; have r0 := h1.cell y0; have q1 := h1.cell x1; have r1 := h1.cell y1
        have hcw := fun b o => Below.cell (p := ⟨b, o, none⟩) h1
        go_simp; rfl
      simp only [Act.put, List.setIfInBounds_toArray, List.set_cons_succ, List.set_cons_zero, List.nil_append, List.cons_append]
      apply Run.valG (wanted_none rfl _)
      · intro w1 h1 hk
        have q0 := h1.cell x0; have r0 := h1.cell y0; have q1 := h1.cell x1; have r1 := h1.cell y1
        have hcw := fun b o => Below.cell (p := ⟨b, o, none⟩) h1
        go_simp; rfl
      simp only [Act.put, List.setIfInBounds_toArray, List.set_cons_succ, List.set_cons_zero, List.nil_append, List.cons_append]
      apply Run.valG (wanted_none rfl _)
      · intro w1 h1 hk
        have q0 := h1.cell x0; have r0 := h1.cell y0; have q1 := h1.cell x1; have r1 := h1.cell y1
        have hcw := fun b o => Below.cell (p := ⟨b, o, none⟩) h1
        go_simp; rfl
      simp only [Act.put, List.setIfInBounds_toArray, List.set_cons_succ, List.set_cons_zero, List.nil_append, List.cons_append]
      apply Run.valG (wanted_none rfl _)
      · intro w1 h1 hk
        have q0 := h1.cell x0; have r0 := h1.cell y0; have q1 := h1.cell x1; have r1 := h1.cell y1
        have hcw := fun b o => Below.cell (p := ⟨b, o, none⟩) h1
        go_simp; rfl
      simp only [Act.put, List.setIfInBounds_toArray, List.set_cons_succ, List.set_cons_zero, List.nil_append, List.cons_append]
      apply Run.valG (wanted_none rfl _)
      · intro w1 h1 hk
        have q0 := h1.cell x0; have r0 := h1.cell y0; have q1 := h1.cell x1; have r1 := h1.cell y1
        have hcw := fun b o => Below.cell (p := ⟨b, o, none⟩) h1
        go_simp; rfl
      simp only [Act.put, List.setIfInBounds_toArray, List.set_cons_succ, List.set_cons_zero, List.nil_append, List.cons_append]
      apply Run.valG (wanted_none rfl _)
      · intro w1 h1 hk
        have q0 := h1.cell x0; have r0 := h1.cell y0; have q1 := h1.cell x1; have r1 := h1.cell y1
        have hcw := fun b o => Below.cell (p := ⟨b, o, none⟩) h1
        go_simp; rfl
      simp only [Act.put, List.setIfInBounds_toArray, List.set_cons_succ, List.set_cons_zero, List.nil_append, List.cons_append]
      apply Run.valG (wanted_none rfl _)
      · intro w1 h1 hk
        have q0 := h1.cell x0; have r0 := h1.cell y0; have q1 := h1.cell x1; have r1 := h1.cell y1
        have hcw := fun b o => Below.cell (p := ⟨b, o, none⟩) h1
        go_simp; rfl
      simp only [Act.put, List.setIfInBounds_toArray, List.set_cons_succ, List.set_cons_zero, List.nil_append, List.cons_append]
      apply Run.call (wanted_none rfl _) (fun _ _ => by go_simp; exact ⟨rfl, rfl⟩)
      · intro w1 h1 hk
        have q0 := h1.cell x0; have r0 := h1.cell y0; have q1 := h1.cell x1; have r1 := h1.cell y1
        exact leftF_any _ ts[k] _ _ _ (HT.out.fut ((Fut.drew _).trans h1)) (HV.out.fut RV.stays ((Fut.drew _).trans h1)) hlk
      simp only [Act.put, List.setIfInBounds_toArray, List.set_cons_succ, List.set_cons_zero, List.nil_append, List.cons_append]
      apply Run.valG (wanted_none rfl _)
      · intro w1 h1 hk
        have q0 := h1.cell x0; have r0 := h1.cell y0; have q1 := h1.cell x1; have r1 := h1.cell y1
        have hcw := fun b o => Below.cell (p := ⟨b, o, none⟩) h1
        go_simp; rfl
      simp only [Act.put, List.setIfInBounds_toArray, List.set_cons_succ, List.set_cons_zero, List.nil_append, List.cons_append]
      apply Run.done
      intro w2 h2 hk
      clear hk
      go_wp2
      go_roundw
      case rel => exact ⟨k + 1, by omega, by go_num, hF.out.trans ((Fut.drew _).trans h2)⟩
      case measure => simp [intOf]; omega
    · obtain rfl : k = ts.length := by omega
      have x0 := (HB.out.fut hF.out).cell (j := ts.length * 2 + 0) (by omega)
      rw [cellsAt_get (i := ts.length) (j := 0) HMC.out rfl (by omega)] at x0
      have x1 := (HB.out.fut hF.out).cell (j := ts.length * 2 + 1) (by omega)
      rw [cellsAt_get (i := ts.length) (j := 1) HMC.out rfl (by omega)] at x1
      simp only [Nat.add_zero] at x0
      go_wp2_with fail
      refine (isG_any _ (HP.out.fut hF.out)).mono ?_
      rintro e w2 ⟨rfl, h2⟩
      go_wp2
      go_ret
      exact ⟨rfl, hF.out.trans h2⟩
end Go.Proofs.YtkdnplebgmmclaaDoor
/- The example of layer 25: its sizes, mean and spread. -/
namespace Go.Proofs.YtkdnplebgmmclaaDoor
open Go.RowKit
set_option linter.unusedSimpArgs false
set_option linter.unusedVariables false

theorem sizes_any (a : Value) (ts : List Fc) (w : World) (ha : FacsG w a ts) (hb : ts.length ≤ 1048576) (hl : ∀ t ∈ ts, t.a.length ≤ 4398046511104) :
    Calls Tryd.prog 9 #[a] w fun e w' => ∃ v, e = .returned v ∧ OwnL 3 w.heap.size 40 (RSz w.heap.size) w' v (sizesOf (sortU cmpF ts)) ∧ Fut w w' := by
  have hm := fun t => (sortU_spec (tot_of ordF) ts).2 t
  obtain ⟨A, cap, hv, _, _⟩ := ha.form
  exact sizes_of a (sortU cmpF ts) w (fun w0 hf => facts_any _ ts w0 (ha.fut RG.stays hf) (by omega) hl) (Nat.le_trans (sortU_len ts) hb) (fun t ht => hl t ((hm t).1 ht)) (fun f hf v hv => (FacsG.oks ha f ((hm f).1 hf)).2 v hv) ⟨_, _, _, hv⟩
theorem facs_two' (w : World) (n : Nat) (f g : Fc) (u v : Value) (hn : n = w.heap.size) (hu : Vals w u f.a) (hv : Vals w v g.a) (hp : f.p.size ≤ 140737488351232) (hq : g.p.size ≤ 140737488351232) :
    FacsG (w.alloc (.cells #[.string f.p, u, .string g.p, v] 31)) (.slice (some ⟨n, 0, none⟩) 2 2) [f, g] := by
  subst hn
  have hF := Fut.alloc w (.cells #[.string f.p, u, .string g.p, v] 31)
  refine ⟨_, 2, rfl, Nat.le_refl _, by omega, fun i x hx => ?_⟩
  have hil : i < 2 := (List.getElem?_eq_some_iff.1 hx).1
  rcases (by omega : i = 0 ∨ i = 1) with rfl | rfl
  · simp at hx
    subst hx
    refine ⟨_, 0, [.string f.p, u], rfl, rfl, fun j c hj => ?_, u, rfl, hp, hu.fut RV.stays hF⟩
    have hjl : j < 2 := (List.getElem?_eq_some_iff.1 hj).1
    refine (World.cell?_alloc_mark w _ _ (0, 0) _).trans ?_
    rcases (by omega : j = 0 ∨ j = 1) with rfl | rfl <;> simpa using hj
  · simp at hx
    subst hx
    refine ⟨_, 0, [.string g.p, v], rfl, rfl, fun j c hj => ?_, v, rfl, hq, hv.fut RV.stays hF⟩
    have hjl : j < 2 := (List.getElem?_eq_some_iff.1 hj).1
    refine (World.cell?_alloc_mark w _ _ (0, 0) _).trans ?_
    rcases (by omega : j = 0 ∨ j = 1) with rfl | rfl <;> simpa using hj
set_option maxHeartbeats 400000 in
theorem rnum_any (n : Int) (w : World) : Calls Tryd.prog 25 #[.int .i64 n] w fun e w' => e = .returned (nV n).val ∧ Fut w w' := by
  unfold nV V.val
  go_enter Tryd.func25, Tryd.ntmps25
  go_wp2
  exact bodyPost_ret (v := .agg #[.int .i8 1, .int .i64 n, .string ⟨#[]⟩]) (by simp [results, Tryd.results25, go_sem]) rfl ⟨rfl, Fut.alloc _ _⟩
theorem nV_ok (n : Int) (h : (Lit.int .i64 n).wf = true) : (nV n).ok := ⟨(by decide : (Lit.int .i8 1).wf = true), h, Nat.zero_le _⟩
set_option maxHeartbeats 1600000 in
set_option maxRecDepth 100000 in
theorem lives25_any (w : World) : Calls Tryd.prog 12 #[] w fun e w' => e = .returned (.bool true) ∧ Fut w w' := by
  have k1 : (Lit.int .i64 1).wf = true := by decide
  have k2 : (Lit.int .i64 2).wf = true := by decide
  have k4 : (Lit.int .i64 4).wf = true := by decide
  go_enter Tryd.func12, Tryd.ntmps12
  go_wp2_with fail
  refine (rnum_any 1 _).mono ?_
  rintro e w1 ⟨rfl, h1⟩
  go_wp2_with fail
  refine (rnum_any 2 _).mono ?_
  rintro e w2 ⟨rfl, h2⟩
  simp only [nV, V.val]
  go_wp2_with fail
  have hv1 := vals_two w2 (nV 1) (nV 2) (nV_ok _ k1) (nV_ok _ k2) 52
  simp only [nV] at hv1
  have f3 := Fut.alloc w2 (.cells #[.int .i8 1, .int .i64 1, .string ⟨#[]⟩, .int .i8 1, .int .i64 2, .string ⟨#[]⟩] 52)
  obtain ⟨w3, hW⟩ : ∃ W, w2.alloc (.cells #[.int .i8 1, .int .i64 1, .string ⟨#[]⟩, .int .i8 1, .int .i64 2, .string ⟨#[]⟩] 52) = W := ⟨_, rfl⟩
  rw [hW] at hv1 f3 ⊢
  clear hW
  have F3 := Lib.hid ((h1.trans h2).trans f3)
  clear h1 h2 f3
  refine (rnum_any 1 _).mono ?_
  rintro e w4 ⟨rfl, h4⟩
  go_wp2_with fail
  refine (rnum_any 4 _).mono ?_
  rintro e w5 ⟨rfl, h5⟩
  simp only [nV, V.val]
  have f35 := h4.trans h5
  have hv2 := vals_two w5 (nV 1) (nV 4) (nV_ok _ k1) (nV_ok _ k4) 52
  simp only [nV] at hv2
  have f6 := Fut.alloc w5 (.cells #[.int .i8 1, .int .i64 1, .string ⟨#[]⟩, .int .i8 1, .int .i64 4, .string ⟨#[]⟩] 52)
  have hs6 : (w5.alloc (.cells #[.int .i8 1, .int .i64 1, .string ⟨#[]⟩, .int .i8 1, .int .i64 4, .string ⟨#[]⟩] 52)).heap.size = w5.heap.size + 1 := by simp
  have hf := facs_two' (w5.alloc (.cells #[.int .i8 1, .int .i64 1, .string ⟨#[]⟩, .int .i8 1, .int .i64 4, .string ⟨#[]⟩] 52)) (w5.heap.size + 1) ⟨eB, [nV 1, nV 2]⟩ ⟨eB, [nV 1, nV 4]⟩ (.slice (some ⟨w2.heap.size, 0, none⟩) 2 2) (.slice (some ⟨w5.heap.size, 0, none⟩) 2 2) hs6.symm (hv1.fut RV.stays (f35.trans f6)) hv2 (by decide) (by decide)
  have f7 := f6.trans (Fut.alloc (w5.alloc (.cells #[.int .i8 1, .int .i64 1, .string ⟨#[]⟩, .int .i8 1, .int .i64 4, .string ⟨#[]⟩] 52)) (.cells #[.string eB, .slice (some ⟨w2.heap.size, 0, none⟩) 2 2, .string eB, .slice (some ⟨w5.heap.size, 0, none⟩) 2 2] 31))
  have F7 := Lib.hid ((F3.out.trans f35).trans f7)
  have HF := Lib.hid hf
  clear hf f7 hs6 f6 hv2 f35 hv1 h4 h5 F3
  go_wp2_with fail
  refine (sizes_any _ exF _ HF.out (by decide) (by decide)).mono ?_
  rintro e w8 ⟨v, rfl, hS, f8⟩
  rw [ex_sort, ex_sizes] at hS
  obtain ⟨A8, c8, rfl, _, _⟩ := hS.rep.form
  have HS := Lib.hid hS
  have F8 := Lib.hid f8
  clear hS f8
  go_wp2_with fail
  refine (share_any _ exF eB 1 _ (HF.out.fut RG.stays F8.out) (by decide) (by decide)).mono ?_
  rintro e w9 ⟨rfl, f9⟩
  rw [ex_sort, ex_nums, ex_mean, ex_spread]
  obtain ⟨b1, o1, A', cp, rfl, y0, y1, y2, y3⟩ := sz_at (k := 0) (HS.out.fut RSz.stays f9) (by decide)
  have i0 := in_at (k := 0) y3.rep (by decide)
  have i1 := in_at (k := 1) y3.rep (by decide)
  obtain ⟨b2, o2, rfl, z0⟩ := i0
  obtain ⟨b3, o3, hA3, z1⟩ := i1
  injection hA3 with hA3
  injection hA3 with e3 e4 _
  subst e3; subst e4
  have F9 := Lib.hid ((F7.out.trans F8.out).trans f9)
  have y0' : w9.cell? ⟨b1, o1, none⟩ = some (.string ⟨#[101]⟩) := y0
  have y1' : w9.cell? ⟨b1, o1 + 1, none⟩ = some (.int .i64 2) := y1
  have y2' : w9.cell? ⟨b1, o1 + 2, none⟩ = some (.slice (some ⟨b2, o2, none⟩) 2 cp) := y2
  have z0' : w9.cell? ⟨b2, o2, none⟩ = some (.int .i64 1) := z0
  have z1' : w9.cell? ⟨b2, o2 + 1, none⟩ = some (.int .i64 2) := z1
  clear HS HF f9 F7 F8 y3 y0 y1 y2 z0 z1
  go_wp2
  go_ret
  exact ⟨rfl, F9.out⟩
end Go.Proofs.YtkdnplebgmmclaaDoor
/- Share: the document's. -/
namespace Go.Proofs.YtkdnplebgmmclaaDoor
open Go.RowKit
set_option linter.unusedSimpArgs false
set_option linter.unusedVariables false

set_option maxHeartbeats 2000000 in
set_option maxRecDepth 100000 in
theorem rshare_any (a : Value) (ts : List Fc) (p : ByteArray) (c : Int) (w : World) (ha : FacsG w a ts) (hb : ts.length ≤ 1048576) (hl : ∀ t ∈ ts, t.a.length ≤ 4398046511104) :
    Calls Tryd.prog 13 #[a, .string p, .int .i64 c] w fun e w' => e = .returned (.tuple #[.float .f64 (mOf (nums (sortU cmpF ts) p c)), .float .f64 (sOf (nums (sortU cmpF ts) p c)), .int .i64 (nums (sortU cmpF ts) p c).length]) ∧ Fut w w' := by
  have HA := Lib.hid ha
  have HL := Lib.hid hl
  have hX : (sortU cmpF ts).length ≤ 1048576 := Nat.le_trans (sortU_len ts) hb
  obtain ⟨A0, cap0, rfl, _, _⟩ := SlRep.form ha
  have HC := Lib.hid (rfacts_any ts.length _ ts w rfl (by omega) HA.out HL.out)
  clear ha hl HA HL
  generalize sortU cmpF ts = X at *
  obtain ⟨L, hL⟩ : ∃ L, nums X p c = L := ⟨_, rfl⟩
  rw [hL]
  go_enter Tryd.func13, Tryd.ntmps13
  go_wp2_with fail
  refine HC.out.mono ?_
  rintro e w1 ⟨v, rfl, hO, f1⟩
  have HO := Lib.hid hO
  have F1 := Lib.hid f1
  obtain ⟨A, cap, rfl, hcl, hcm⟩ := hO.rep.form
  clear hO f1 HC
  go_wp2_with fail
  go_loopw [9, 10] (fun o i wr => ∃ k : Nat, k ≤ X.length ∧ i = .int .i64 k ∧ Hid (OwnL 1 w1.heap.size 34 RFl wr o ((nums (X.take k) p c).map Fl.fl)) ∧ Hid (Fut w1 wr)) (fun _ i _ => X.length - (intOf i).toNat)
  case atStart => exact ⟨0, Nat.zero_le _, rfl, Lib.hid OwnL.nil, Lib.hid (Fut.refl _)⟩
  case round =>
    obtain ⟨k, hk, rfl, hF, hG⟩ := hrel
    by_cases hlt : k < X.length
    · obtain ⟨b, off, A', cp, rfl, hps, x0, x1, hv⟩ := ownG_at (HO.out.fut RGo.stays hG.out) hlt
      have hnx : X.take (k + 1) = X.take k ++ [X[k]] := List.take_succ_eq_append_getElem hlt
      generalize X[k] = f at *
      have hltI : (k : Int) < X.length := by omega
      have e0 : (0 : Int) ≤ k ∧ (k : Int) < X.length := by omega
      have hN0 : numAt p c f = none → nums (X.take (k + 1)) p c = nums (X.take k) p c := fun h => by rw [hnx, nums_snoc, h]; simp
      by_cases h1 : ¬ f.p = p
      · have hz := numAt_none (c := c) (fun h => h1 h.1)
        have hq : (f.p.toList == p.toList) = false := by
          rw [beq_eq_false_iff_ne]
          exact fun h => h1 (ByteArray.ext (by rw [ByteArray.toList_eq, ByteArray.toList_eq] at h; exact Array.toList_inj.1 h))
        go_wp2
        go_roundw
        case rel => exact ⟨k + 1, by omega, by go_num, Lib.hid (by rw [hN0 hz]; exact hF.out), hG⟩
        case measure => simp [intOf] <;> omega
      replace h1 := Decidable.of_not_not h1
      subst h1
      by_cases h2 : ¬ 0 ≤ c
      · have hz := numAt_none (p := f.p) (c := c) (f := f) (fun h => h2 h.2.1)
        go_wp2
        go_roundw
        case rel => exact ⟨k + 1, by omega, by go_num, Lib.hid (by rw [hN0 hz]; exact hF.out), hG⟩
        case measure => simp [intOf] <;> omega
      replace h2 := Decidable.of_not_not h2
      by_cases h3 : ¬ c < f.a.length
      · have hz := numAt_none (p := f.p) (c := c) (f := f) (fun h => h3 h.2.2.1)
        go_wp2
        go_roundw
        case rel => exact ⟨k + 1, by omega, by go_num, Lib.hid (by rw [hN0 hz]; exact hF.out), hG⟩
        case measure => simp [intOf] <;> omega
      replace h3 := Decidable.of_not_not h3
      obtain ⟨q, rfl⟩ : ∃ q : Nat, c = q := ⟨c.toNat, by omega⟩
      have hql : q < f.a.length := by omega
      have e3 : (0 : Int) ≤ q ∧ (q : Int) < f.a.length := by omega
      obtain ⟨b2, off2, rfl, hok, y0, y1, y2⟩ := hv.vals.at_ hql
      have hsome := fun hk h0 => numAt_some (p := f.p) (c := (q : Int)) (f := f) rfl rfl hql hk h0
      have hnon : ¬ (f.a[q].k = 1 ∧ chk f.a[q].k f.a[q].n f.a[q].s = 0) → numAt f.p q f = none := fun h => numAt_none (fun h' => h (by
        have hg : f.a.getD (q : Int).toNat val0 = f.a[q] := by simp [List.getD, hql]
        rw [hg] at h'
        exact ⟨h'.2.2.2.1, h'.2.2.2.2⟩))
      generalize f.a[q] = z at *
      by_cases h4 : ¬ z.k = 1
      · have hz := hnon (fun h => h4 h.1)
        have h4' : (z.k == 1) = false := by simpa using h4
        go_wp2
        go_roundw
        case rel => exact ⟨k + 1, by omega, by go_num, Lib.hid (by rw [hN0 hz]; exact hF.out), hG⟩
        case measure => simp [intOf] <;> omega
      replace h4 := Decidable.of_not_not h4
      obtain ⟨zk, zn, zs⟩ := z
      dsimp only at hok y0 y1 y2 hsome hnon h4
      subst h4
      have hsz : zs.size ≤ 140737488351232 := hok.2.2
      go_wp2_with fail
      refine (rcheck_any 1 zn zs wr hsz).mono ?_
      rintro e w4 ⟨rfl, F4⟩
      have xa := F4.cell x0
      have xb := F4.cell x1
      have z0 := F4.cell y0
      have z1 := F4.cell y1
      have z2 := F4.cell y2
      have F4' := Lib.hid F4
      have hF4 := Lib.hid (hF.out.fut RFl.stays F4)
      clear F4 x0 x1 y0 y1 y2 hF
      by_cases h5 : ¬ chk 1 zn zs = 0
      · have hz := hnon (fun h => h5 h.2)
        have h5' : chk 1 zn zs = 10 := (chk_two _ _ _).resolve_left h5
        rw [h5']
        go_wp2
        go_roundw
        case rel => exact ⟨k + 1, by omega, by go_num, Lib.hid (by rw [hN0 hz]; exact hF4.out), Lib.hid (hG.out.trans F4'.out)⟩
        case measure => simp [intOf] <;> omega
      · replace h5 := Decidable.of_not_not h5
        have hy := hsome trivial h5
        have hN1 : (nums (X.take (k + 1)) f.p q).map Fl.fl = (nums (X.take k) f.p q).map Fl.fl ++ [Fl.fl zn] := by rw [hnx, nums_snoc, hy]; simp
        have hln : (nums (X.take k) f.p q).length ≤ k := Nat.le_trans (nums_len _ _ _) (by simp; omega)
        rw [h5]
        go_wp2_with (at_builtin; refine wpList_append_L (R := RFl) (B := w1.heap.size) (xs := (nums (X.take k) f.p q).map Fl.fl) (ys := [Fl.fl zn]) (e := 34) (by go_simp) _ _ 64 rfl Tryd.underlying64 (.float .f64 0) 8 infoFl rfl (by decide) RFl.one RFl.keeps rfl rfl (hF4.out.fut RFl.stays (Fut.alloc _ _)) (flOne _ _) ?l3 ?l4 ?b3 ?k3)
        case l3 => simp [maxLen]; omega
        case l4 => simp; omega
        case b3 => have h1 := hG.out.size; have h2 := F4'.out.size; simp; omega
        case k3 =>
        intro v' w' o' g'
        have F' := Lib.hid (Fut.grown ((hG.out.trans F4'.out).trans (Fut.alloc _ _)) g' (fun k hk => (hF4.out.block k hk).1))
        rw [← hN1] at o'
        have O' := Lib.hid o'
        clear g' o'
        go_wp2
        go_roundw
        case rel => exact ⟨k + 1, by omega, by go_num, O', F'⟩
        case measure => simp [intOf] <;> omega
    · obtain rfl : k = X.length := by omega
      rw [List.take_length] at hF
      have hBd := nums_bd (ownG_ok HO.out) p c
      have hLl : (nums X p c).length ≤ 1048576 := Nat.le_trans (nums_len _ _ _) hX
      rw [hL] at hF hBd hLl
      clear hL
      obtain ⟨A5, c5, rfl, hc5, _⟩ := hF.out.rep.form
      by_cases hL0 : L = []
      · subst hL0
        go_wp2
        exact bodyPost_ret (v := .tuple #[.float .f64 0, .float .f64 0, .int .i64 0]) (by simp [results, Tryd.results13, go_sem]) rfl ⟨rfl, F1.out.trans hG.out⟩
      · have hpos : 0 < L.length := List.length_pos_iff.2 hL0
        have hm0 : mOf L = Fl.meanF (L.map Fl.fl) := if_neg hL0
        have hs0 : sOf L = Fl.spreadF (L.map Fl.fl) := if_neg hL0
        have hMl : (L.map Fl.fl).length = L.length := List.length_map _
        generalize hM : L.map Fl.fl = M at *
        have hMp : ¬ (M.length : Int) = 0 := by omega
        have hMpos : 0 < M.length := by omega
        have hMle : M.length ≤ 2 ^ 20 := by omega
        have HQ := Lib.hid (And.intro hm0 (And.intro hs0 hMl))
        clear hM hL0 hm0 hs0 hMl hpos hLl
        have HR := Lib.hid hF.out.rep
        have HBd := Lib.hid hBd
        have FW := Lib.hid (F1.out.trans hG.out)
        clear hF hBd hG F1 HO
        go_wp2_with fail
        go_loopw [11, 12] (fun t i wq => ∃ k : Nat, k ≤ M.length ∧ i = .int .i64 k ∧ t = .float .f64 ((M.take k).foldl Fl.addF 0) ∧ wq = wr) (fun _ i _ => M.length - (intOf i).toNat)
        case atStart => exact ⟨0, Nat.zero_le _, rfl, rfl, rfl⟩
        case round =>
          obtain ⟨k, hk, rfl, rfl, rfl⟩ := hrel
          by_cases hlt : k < M.length
          · have hltI : (k : Int) < M.length := by omega
            have e0 : (0 : Int) ≤ k ∧ (k : Int) < M.length := by omega
            obtain ⟨bm, om, rfl, xm⟩ := fl_at HR.out hlt
            have hs := take_fold Fl.addF 0 hlt
            have hbd : Fl.D.add ((M.take k).foldl Fl.addF 0) M[k] = some (Fl.addF ((M.take k).foldl Fl.addF 0) M[k]) := by
              have h1 := Fl.Bd.sum (l := M.take k) (fun x hx => HBd.out x (List.mem_of_mem_take hx)) 0 0 0 (Fl.Bd.zero 63) (by simp; omega)
              exact (h1.add (HBd.out _ (List.getElem_mem hlt)) (by simp; omega) (by decide)).1
            rw [← hs] at hbd
            have hbd' : floatBits .add .f64 ((M.take k).foldl Fl.addF 0) M[k] = some ((M.take (k + 1)).foldl Fl.addF 0) := hbd
            have hrun := fun W => run_float_arith (P := Tryd.prog) W .add 34 .f64 _ _ _ hbd'
            clear hbd hbd' hs
            go_wp2
            go_roundw
            case rel => exact ⟨k + 1, by omega, by go_num, rfl, trivial⟩
            case measure => simp [intOf] <;> omega
          · obtain rfl : k = M.length := by omega
            rw [List.take_length]
            have hmean := Fl.Bd.mean HBd.out hMpos hMle
            have hB2 := Lib.hid hmean.2
            have hdiv : floatBits .quo .f64 (M.foldl Fl.addF 0) (floatOfInt .f64 (M.length : Int)) = some (Fl.meanF M) := hmean.1
            have hrun := fun W => run_float_arith (P := Tryd.prog) W .quo 34 .f64 _ _ _ hdiv
            clear hmean hdiv
            generalize hmn : Fl.meanF M = mn at *
            go_wp2_with fail
            go_loopw [13, 14] (fun t i wq => ∃ k : Nat, k ≤ M.length ∧ i = .int .i64 k ∧ t = .float .f64 ((M.take k).foldl (fun s x => Fl.addF s (Fl.partF mn (Fl.fl M.length) x)) 0) ∧ wq = wr) (fun _ i _ => M.length - (intOf i).toNat)
            case atStart => exact ⟨0, Nat.zero_le _, rfl, rfl, rfl⟩
            case round =>
              obtain ⟨k, hk, rfl, rfl, rfl⟩ := hrel
              by_cases hlt : k < M.length
              · have hltI : (k : Int) < M.length := by omega
                have e0 : (0 : Int) ≤ k ∧ (k : Int) < M.length := by omega
                obtain ⟨bm, om, rfl, xm⟩ := fl_at HR.out hlt
                have hs := take_fold (fun s x => Fl.addF s (Fl.partF mn (Fl.fl M.length) x)) 0 hlt
                obtain ⟨p1, p2, p3, p4⟩ := Fl.Bd.part hB2.out (HBd.out _ (List.getElem_mem hlt)) hMpos hMle
                have p5 := ((spread_bd hB2.out hMpos hMle (M.take k) (fun x hx => HBd.out x (List.mem_of_mem_take hx)) 0 0 (Fl.Bd.zero 168) (by simp; omega)).add p4 (by simp; omega) (by decide)).1
                rw [← hs] at p5
                have q1 : floatBits .sub .f64 M[k] mn = some _ := p1
                have q2 : floatBits .mul .f64 (Fl.subF M[k] mn) (Fl.subF M[k] mn) = some _ := p2
                have q3 : floatBits .quo .f64 (Fl.mulF (Fl.subF M[k] mn) (Fl.subF M[k] mn)) (floatOfInt .f64 (M.length : Int)) = some _ := p3
                have q5 : floatBits .add .f64 ((M.take k).foldl (fun s x => Fl.addF s (Fl.partF mn (Fl.fl M.length) x)) 0) (Fl.partF mn (Fl.fl M.length) M[k]) = some _ := p5
                have r1 := fun W => run_float_arith (P := Tryd.prog) W .sub 34 .f64 _ _ _ q1
                have r2 := fun W => run_float_arith (P := Tryd.prog) W .mul 34 .f64 _ _ _ q2
                have r3 := fun W => run_float_arith (P := Tryd.prog) W .quo 34 .f64 _ _ _ q3
                have r5 := fun W => run_float_arith (P := Tryd.prog) W .add 34 .f64 _ _ _ q5
                clear p1 p2 p3 p4 p5 q1 q2 q3 q5 hs hrun
                go_wp2
                go_roundw
                case rel => exact ⟨k + 1, by omega, by go_num, rfl, trivial⟩
                case measure => simp [intOf] <;> omega
              · obtain rfl : k = M.length := by omega
                rw [List.take_length]
                have hsp : M.foldl (fun s x => Fl.addF s (Fl.partF mn (Fl.fl M.length) x)) 0 = Fl.spreadF M := by unfold Fl.spreadF; rw [hmn]
                rw [hsp]
                clear hrun
                go_wp2
                exact bodyPost_ret (v := .tuple #[.float .f64 mn, .float .f64 (Fl.spreadF M), .int .i64 M.length]) (by simp [results, Tryd.results13, go_sem]) rfl ⟨by rw [HQ.out.1, HQ.out.2.1, HQ.out.2.2], FW.out⟩
end Go.Proofs.YtkdnplebgmmclaaDoor
