/- Facts: BeyondFacts, TwinFact, LeftFact; the order of facts, of the program and of the reference. -/
import Derived.Test.YtlihkmldclocoaaDoorTwin
namespace Go.Proofs.YtlihkmldclocoaaDoor
open Go.RowKit
set_option linter.unusedSimpArgs false
set_option linter.unusedVariables false

theorem Facs.at_ {w : World} {A : Option Addr} {n cap : Nat} {fs : List Fc} (h : Facs w (.slice A n cap) fs) {k : Nat} (hk : k < fs.length) :
    ∃ b off A' cap', A = some ⟨b, off, none⟩ ∧ (fs[k]).p.size ≤ 140737488351232 ∧ w.cell? ⟨b, off + k * 2, none⟩ = some (.string (fs[k]).p) ∧ w.cell? ⟨b, off + k * 2 + 1, none⟩ = some (.slice A' (fs[k]).a.length cap') ∧ (fs[k]).a.length ≤ cap' ∧ cap' ≤ 4398046511104 ∧ Vals w (.slice A' (fs[k]).a.length cap') (fs[k]).a := by
  obtain ⟨A1, cap1, hv, _, _, h3⟩ := h
  obtain ⟨b, off, cs, hA, hl, hc, u, hr, hp, hu⟩ := h3 k _ (List.getElem?_eq_getElem hk)
  injection hv with hv _ _
  subst hr
  obtain ⟨A', cap', rfl, h4, h5⟩ := SlRep.form hu
  exact ⟨b, off, A', cap', hv.trans hA, hp, hc 0 _ rfl, hc 1 _ rfl, h4, h5, hu.vals⟩
def parts : List Fc → Nat
  | [] => 0
  | f :: r => 1 + f.a.length + parts r
theorem parts_take (fs : List Fc) (k : Nat) (hk : k < fs.length) : parts (fs.take (k + 1)) = parts (fs.take k) + (1 + (fs[k]).a.length) := by
  induction fs generalizing k with
  | nil => simp at hk
  | cons f r ih =>
    cases k with
    | zero => simp [parts]
    | succ k => simp only [List.take_succ_cons, parts, List.getElem_cons_succ]; rw [ih k (by simpa using hk)]; omega
theorem parts_le (fs : List Fc) (k : Nat) : parts (fs.take k) ≤ parts fs := by
  induction fs generalizing k with
  | nil => simp
  | cons f r ih =>
    cases k with
    | zero => simp [parts]
    | succ k => simp only [List.take_succ_cons, parts]; have := ih k; omega

set_option maxHeartbeats 400000 in
theorem beyondF_any (a : Value) (fs : List Fc) (w : World) (ha : Facs w a fs) :
    Calls Tryd.prog 19 #[a] w fun e w' => e = .returned (.bool (decide (1048576 < parts fs))) ∧ w' = w := by
  obtain ⟨A, cap, rfl, hl, hm⟩ := SlRep.form ha
  go_enter Tryd.func19, Tryd.ntmps19
  go_wp2
  go_loop [3, 4] (fun n i => ∃ k : Nat, k ≤ fs.length ∧ parts (fs.take k) ≤ 1048576 ∧ i = .int .i64 k ∧ n = .int .i64 (parts (fs.take k))) (fun _ i => fs.length - (intOf i).toNat)
  case atStart => exact ⟨0, Nat.zero_le _, by simp [parts], rfl, by simp [parts]⟩
  case round =>
    obtain ⟨k, hk, hp, rfl, rfl⟩ := hrel
    by_cases hlt : k < fs.length
    · obtain ⟨b, off, A', cap', rfl, _, x0, x1, hl', hm', _⟩ := Facs.at_ ha hlt
      have hpt := Lib.hid (parts_take fs k hlt)
      have hpl := Lib.hid (parts_le fs (k + 1))
      go_wp2
      · go_ret
        refine ⟨?_, rfl⟩
        have h1 := hpt.out
        have h2 := hpl.out
        rw [decide_eq_true (by omega)]
        rfl
      · go_round
        case rel => exact ⟨k + 1, by omega, by have h1 := hpt.out; omega, by go_num, by rw [hpt.out]; go_num⟩
        case measure => simp [intOf]; omega
    · obtain rfl : k = fs.length := by omega
      go_wp2
      go_ret
      refine ⟨?_, rfl⟩
      rw [List.take_length] at hp
      rw [decide_eq_false (by omega)]
      rfl

def Fc.cells (f : Fc) (u : Value) : List Value := [.string f.p, u]
set_option maxHeartbeats 400000 in
theorem twinF_any (f : Fc) (u : Value) (w : World) (hu : Vals w u f.a) (hn : f.a.length < 4398046511104) :
    Calls Tryd.prog 57 #[.agg #[.string f.p, u]] w fun e w' => ∃ v, e = .returned (.agg #[.string f.p, v]) ∧ TwinR w.heap.size w' v f.a ∧ Fut w w' := by
  obtain ⟨A, cap, rfl, hl, hm⟩ := SlRep.form hu
  go_enter Tryd.func57, Tryd.ntmps57
  go_wp2_with fail
  refine (twin_any _ f.a _ (hu.fut RV.stays ?_) hn).mono ?_
  · exact (Fut.alloc _ _).trans (Fut.alloc _ _)
  rintro e w1 ⟨v, rfl, ht, h1⟩
  obtain ⟨g, hg, rfl, hblk⟩ := ht
  have c00 : w1.cell? ⟨w.heap.size, 0, none⟩ = some (.string f.p) := h1.cell (by go_simp)
  have c01 : w1.cell? ⟨w.heap.size, 1, none⟩ = some (.slice A f.a.length cap) := h1.cell (by go_simp)
  have c10 : w1.cell? ⟨w.heap.size + 1, 0, none⟩ = some (.string ⟨#[]⟩) := h1.cell (by go_simp)
  have c11 : w1.cell? ⟨w.heap.size + 1, 1, none⟩ = some (.slice none 0 0) := h1.cell (by go_simp)
  have z01 : w1.frozen? ⟨w.heap.size, 1, none⟩ = false := h1.free (by simp <;> omega) (by go_simp)
  have z10 : w1.frozen? ⟨w.heap.size + 1, 0, none⟩ = false := h1.free (by simp <;> omega) (by go_simp)
  have z11 : w1.frozen? ⟨w.heap.size + 1, 1, none⟩ = false := h1.free (by simp <;> omega) (by go_simp)
  have hg' : w.heap.size + 2 ≤ g := by simpa using hg
  have HG := Lib.hid hg'
  have HB := Lib.hid hblk
  clear hg hg' hblk
  go_wp2
  refine bodyPost_ret (v := .agg #[.string f.p, .slice (some ⟨g, 0, none⟩) f.a.length (f.a.length + 1)]) (by simp [results, Tryd.results57, go_sem, c10, c11, z10, z11]) rfl ⟨_, rfl, ⟨g, ?_, rfl, ?_⟩, ?_⟩
  · have := HG.out; omega
  · exact ((HB.out.far (by have := HG.out; simp only; omega) _).far (by have := HG.out; simp only; omega) _).far (by have := HG.out; simp only; omega) _
  · exact (((((Fut.alloc _ _).trans (Fut.alloc _ _)).trans h1).set (Nat.le_refl _) _).set (Nat.le_succ _) _).set (Nat.le_succ _) _

set_option maxHeartbeats 400000 in
theorem leftF_any (B : Nat) (f : Fc) (v u : Value) (w : World) (ht : TwinR B w v f.a) (hu : Vals w u f.a) (hn : f.a.length < 4398046511104) :
    Calls Tryd.prog 67 #[.agg #[.string f.p, v], .agg #[.string f.p, u]] w fun e w' => e = .returned (.bool true) ∧ Fut w w' := by
  obtain ⟨A, cap, rfl, hl, hm⟩ := SlRep.form hu
  have ht0 := ht
  obtain ⟨g, hg, rfl, hblk⟩ := ht
  have HB := Lib.hid hblk
  clear hblk
  go_enter Tryd.func67, Tryd.ntmps67
  go_wp2_with fail
  refine (left_any B _ _ f.a _ (ht0.fut ?_) (hu.fut RV.stays ?_) hn).mono ?_
  · exact (Fut.alloc _ _).trans (Fut.alloc _ _)
  · exact (Fut.alloc _ _).trans (Fut.alloc _ _)
  rintro e w1 ⟨rfl, h1⟩
  go_wp2
  go_ret
  exact ⟨rfl, ((Fut.alloc _ _).trans (Fut.alloc _ _)).trans h1⟩

def cmpF (f g : Fc) : Int := firstNZ [cmpS f.p g.p, cmpT f.a g.a]
set_option maxHeartbeats 400000 in
theorem cmpF_any (f g : Fc) (u v : Value) (w : World) (hu : Vals w u f.a) (hv : Vals w v g.a) :
    Calls Tryd.prog 30 #[.agg #[.string f.p, u], .agg #[.string g.p, v]] w fun e w' => e = .returned (.int .i64 (cmpF f g)) ∧ Fut w w' := by
  obtain ⟨A, cap, rfl, hl, hm⟩ := SlRep.form hu
  obtain ⟨B, cap', rfl, hl', hm'⟩ := SlRep.form hv
  have hf0 : ∀ X Y, Fut w ((w.alloc X).alloc Y).drew := fun X Y => ((Fut.alloc _ _).trans (Fut.alloc _ _)).trans (Fut.drew _)
  go_enter Tryd.func30, Tryd.ntmps30
  go_wp2
  refine wp_graph 13 [.d, .d, .d, .d, .d, .d, .d, .d, .d, .d, .r (fun v w => SlRep 1 17592186044416 RI w v [cmpS f.p g.p, cmpT f.a g.a]), .d, .d] (by kernel_rfl) (by kernel_rfl) (by kernel_rfl) ?_
  simp only [List.take_succ_cons, List.take_zero, List.drop_succ_cons, List.drop_zero, Exs]
  iterate 12 apply Exists.intro
  apply Run.valG (wanted_none rfl _)
  · intro w1 h1 hk
    have cx_0_0 : w1.cell? ⟨w.heap.size, 0, none⟩ = some (.string f.p) := Fut.cell h1 (by first | exact c0_0_0 | go_simp)
    have cx_0_1 : w1.cell? ⟨w.heap.size, 1, none⟩ = some (.slice A f.a.length cap) := Fut.cell h1 (by first | exact c0_0_1 | go_simp)
    have cx_1_0 : w1.cell? ⟨w.heap.size + 1, 0, none⟩ = some (.string g.p) := Fut.cell h1 (by first | exact c0_1_0 | go_simp)
    have cx_1_1 : w1.cell? ⟨w.heap.size + 1, 1, none⟩ = some (.slice B g.a.length cap') := Fut.cell h1 (by first | exact c0_1_1 | go_simp)
    go_simp; rfl
  simp only [Act.put, List.setIfInBounds_toArray, List.set_cons_succ, List.set_cons_zero, List.nil_append, List.cons_append]
  apply Run.valG (wanted_none rfl _)
  · intro w1 h1 hk
    have cx_0_0 : w1.cell? ⟨w.heap.size, 0, none⟩ = some (.string f.p) := Fut.cell h1 (by first | exact c0_0_0 | go_simp)
    have cx_0_1 : w1.cell? ⟨w.heap.size, 1, none⟩ = some (.slice A f.a.length cap) := Fut.cell h1 (by first | exact c0_0_1 | go_simp)
    have cx_1_0 : w1.cell? ⟨w.heap.size + 1, 0, none⟩ = some (.string g.p) := Fut.cell h1 (by first | exact c0_1_0 | go_simp)
    have cx_1_1 : w1.cell? ⟨w.heap.size + 1, 1, none⟩ = some (.slice B g.a.length cap') := Fut.cell h1 (by first | exact c0_1_1 | go_simp)
    go_simp; rfl
  simp only [Act.put, List.setIfInBounds_toArray, List.set_cons_succ, List.set_cons_zero, List.nil_append, List.cons_append]
  apply Run.valG (wanted_none rfl _)
  · intro w1 h1 hk
    have cx_0_0 : w1.cell? ⟨w.heap.size, 0, none⟩ = some (.string f.p) := Fut.cell h1 (by first | exact c0_0_0 | go_simp)
    have cx_0_1 : w1.cell? ⟨w.heap.size, 1, none⟩ = some (.slice A f.a.length cap) := Fut.cell h1 (by first | exact c0_0_1 | go_simp)
    have cx_1_0 : w1.cell? ⟨w.heap.size + 1, 0, none⟩ = some (.string g.p) := Fut.cell h1 (by first | exact c0_1_0 | go_simp)
    have cx_1_1 : w1.cell? ⟨w.heap.size + 1, 1, none⟩ = some (.slice B g.a.length cap') := Fut.cell h1 (by first | exact c0_1_1 | go_simp)
    go_simp; rfl
  simp only [Act.put, List.setIfInBounds_toArray, List.set_cons_succ, List.set_cons_zero, List.nil_append, List.cons_append]
  apply Run.valG (wanted_none rfl _)
  · intro w1 h1 hk
    have cx_0_0 : w1.cell? ⟨w.heap.size, 0, none⟩ = some (.string f.p) := Fut.cell h1 (by first | exact c0_0_0 | go_simp)
    have cx_0_1 : w1.cell? ⟨w.heap.size, 1, none⟩ = some (.slice A f.a.length cap) := Fut.cell h1 (by first | exact c0_0_1 | go_simp)
    have cx_1_0 : w1.cell? ⟨w.heap.size + 1, 0, none⟩ = some (.string g.p) := Fut.cell h1 (by first | exact c0_1_0 | go_simp)
    have cx_1_1 : w1.cell? ⟨w.heap.size + 1, 1, none⟩ = some (.slice B g.a.length cap') := Fut.cell h1 (by first | exact c0_1_1 | go_simp)
    go_simp; rfl
  simp only [Act.put, List.setIfInBounds_toArray, List.set_cons_succ, List.set_cons_zero, List.nil_append, List.cons_append]
  apply Run.call (wanted_none rfl _) (fun _ _ => by go_simp; exact ⟨rfl, rfl⟩)
  · intro w1 h1 hk
    have cx_0_0 : w1.cell? ⟨w.heap.size, 0, none⟩ = some (.string f.p) := Fut.cell h1 (by first | exact c0_0_0 | go_simp)
    have cx_0_1 : w1.cell? ⟨w.heap.size, 1, none⟩ = some (.slice A f.a.length cap) := Fut.cell h1 (by first | exact c0_0_1 | go_simp)
    have cx_1_0 : w1.cell? ⟨w.heap.size + 1, 0, none⟩ = some (.string g.p) := Fut.cell h1 (by first | exact c0_1_0 | go_simp)
    have cx_1_1 : w1.cell? ⟨w.heap.size + 1, 1, none⟩ = some (.slice B g.a.length cap') := Fut.cell h1 (by first | exact c0_1_1 | go_simp)
    exact (Tryd.strings_Compare _ _ _).mono fun e w' ⟨h, hw⟩ => ⟨h, hw ▸ Fut.refl _⟩
  simp only [Act.put, List.setIfInBounds_toArray, List.set_cons_succ, List.set_cons_zero, List.nil_append, List.cons_append]
  apply Run.valG (wanted_none rfl _)
  · intro w1 h1 hk
    have cx_0_0 : w1.cell? ⟨w.heap.size, 0, none⟩ = some (.string f.p) := Fut.cell h1 (by first | exact c0_0_0 | go_simp)
    have cx_0_1 : w1.cell? ⟨w.heap.size, 1, none⟩ = some (.slice A f.a.length cap) := Fut.cell h1 (by first | exact c0_0_1 | go_simp)
    have cx_1_0 : w1.cell? ⟨w.heap.size + 1, 0, none⟩ = some (.string g.p) := Fut.cell h1 (by first | exact c0_1_0 | go_simp)
    have cx_1_1 : w1.cell? ⟨w.heap.size + 1, 1, none⟩ = some (.slice B g.a.length cap') := Fut.cell h1 (by first | exact c0_1_1 | go_simp)
    go_simp; rfl
  simp only [Act.put, List.setIfInBounds_toArray, List.set_cons_succ, List.set_cons_zero, List.nil_append, List.cons_append]
  apply Run.valG (wanted_none rfl _)
  · intro w1 h1 hk
    have cx_0_0 : w1.cell? ⟨w.heap.size, 0, none⟩ = some (.string f.p) := Fut.cell h1 (by first | exact c0_0_0 | go_simp)
    have cx_0_1 : w1.cell? ⟨w.heap.size, 1, none⟩ = some (.slice A f.a.length cap) := Fut.cell h1 (by first | exact c0_0_1 | go_simp)
    have cx_1_0 : w1.cell? ⟨w.heap.size + 1, 0, none⟩ = some (.string g.p) := Fut.cell h1 (by first | exact c0_1_0 | go_simp)
    have cx_1_1 : w1.cell? ⟨w.heap.size + 1, 1, none⟩ = some (.slice B g.a.length cap') := Fut.cell h1 (by first | exact c0_1_1 | go_simp)
    go_simp; rfl
  simp only [Act.put, List.setIfInBounds_toArray, List.set_cons_succ, List.set_cons_zero, List.nil_append, List.cons_append]
  apply Run.valG (wanted_none rfl _)
  · intro w1 h1 hk
    have cx_0_0 : w1.cell? ⟨w.heap.size, 0, none⟩ = some (.string f.p) := Fut.cell h1 (by first | exact c0_0_0 | go_simp)
    have cx_0_1 : w1.cell? ⟨w.heap.size, 1, none⟩ = some (.slice A f.a.length cap) := Fut.cell h1 (by first | exact c0_0_1 | go_simp)
    have cx_1_0 : w1.cell? ⟨w.heap.size + 1, 0, none⟩ = some (.string g.p) := Fut.cell h1 (by first | exact c0_1_0 | go_simp)
    have cx_1_1 : w1.cell? ⟨w.heap.size + 1, 1, none⟩ = some (.slice B g.a.length cap') := Fut.cell h1 (by first | exact c0_1_1 | go_simp)
    go_simp; rfl
  simp only [Act.put, List.setIfInBounds_toArray, List.set_cons_succ, List.set_cons_zero, List.nil_append, List.cons_append]
  apply Run.valG (wanted_none rfl _)
  · intro w1 h1 hk
    have cx_0_0 : w1.cell? ⟨w.heap.size, 0, none⟩ = some (.string f.p) := Fut.cell h1 (by first | exact c0_0_0 | go_simp)
    have cx_0_1 : w1.cell? ⟨w.heap.size, 1, none⟩ = some (.slice A f.a.length cap) := Fut.cell h1 (by first | exact c0_0_1 | go_simp)
    have cx_1_0 : w1.cell? ⟨w.heap.size + 1, 0, none⟩ = some (.string g.p) := Fut.cell h1 (by first | exact c0_1_0 | go_simp)
    have cx_1_1 : w1.cell? ⟨w.heap.size + 1, 1, none⟩ = some (.slice B g.a.length cap') := Fut.cell h1 (by first | exact c0_1_1 | go_simp)
    go_simp; rfl
  simp only [Act.put, List.setIfInBounds_toArray, List.set_cons_succ, List.set_cons_zero, List.nil_append, List.cons_append]
  apply Run.call (wanted_none rfl _) (fun _ _ => by go_simp; exact ⟨rfl, rfl⟩)
  · intro w1 h1 hk
    have cx_0_0 : w1.cell? ⟨w.heap.size, 0, none⟩ = some (.string f.p) := Fut.cell h1 (by first | exact c0_0_0 | go_simp)
    have cx_0_1 : w1.cell? ⟨w.heap.size, 1, none⟩ = some (.slice A f.a.length cap) := Fut.cell h1 (by first | exact c0_0_1 | go_simp)
    have cx_1_0 : w1.cell? ⟨w.heap.size + 1, 0, none⟩ = some (.string g.p) := Fut.cell h1 (by first | exact c0_1_0 | go_simp)
    have cx_1_1 : w1.cell? ⟨w.heap.size + 1, 1, none⟩ = some (.slice B g.a.length cap') := Fut.cell h1 (by first | exact c0_1_1 | go_simp)
    exact cmpT_any _ _ f.a g.a _ (hu.fut RV.stays ((hf0 _ _).trans h1)) (hv.fut RV.stays ((hf0 _ _).trans h1))
  simp only [Act.put, List.setIfInBounds_toArray, List.set_cons_succ, List.set_cons_zero, List.nil_append, List.cons_append]
  apply Run.valR (wanted_none rfl _) (by intro v w w' hf hs; exact hs.fut RI.stays hf)
  · intro w1 h1 hk
    have cx_0_0 : w1.cell? ⟨w.heap.size, 0, none⟩ = some (.string f.p) := Fut.cell h1 (by first | exact c0_0_0 | go_simp)
    have cx_0_1 : w1.cell? ⟨w.heap.size, 1, none⟩ = some (.slice A f.a.length cap) := Fut.cell h1 (by first | exact c0_0_1 | go_simp)
    have cx_1_0 : w1.cell? ⟨w.heap.size + 1, 0, none⟩ = some (.string g.p) := Fut.cell h1 (by first | exact c0_1_0 | go_simp)
    have cx_1_1 : w1.cell? ⟨w.heap.size + 1, 1, none⟩ = some (.slice B g.a.length cap') := Fut.cell h1 (by first | exact c0_1_1 | go_simp)
    go_simp; exact ⟨_, _, ⟨rfl, rfl⟩, Fut.alloc _ _, ints_new w1 _ [cmpS f.p g.p, cmpT f.a g.a] (by simp)⟩
  intro v10
  simp only [Act.put, List.setIfInBounds_toArray, List.set_cons_succ, List.set_cons_zero, List.nil_append, List.cons_append]
  apply Run.call (wanted_none rfl _) (fun _ _ => by go_simp; exact ⟨rfl, rfl⟩)
  · intro w1 h1 hk
    have f10 := Facts.get hk 0 rfl (by kernel_rfl)
    have cx_0_0 : w1.cell? ⟨w.heap.size, 0, none⟩ = some (.string f.p) := Fut.cell h1 (by first | exact c0_0_0 | go_simp)
    have cx_0_1 : w1.cell? ⟨w.heap.size, 1, none⟩ = some (.slice A f.a.length cap) := Fut.cell h1 (by first | exact c0_0_1 | go_simp)
    have cx_1_0 : w1.cell? ⟨w.heap.size + 1, 0, none⟩ = some (.string g.p) := Fut.cell h1 (by first | exact c0_1_0 | go_simp)
    have cx_1_1 : w1.cell? ⟨w.heap.size + 1, 1, none⟩ = some (.slice B g.a.length cap') := Fut.cell h1 (by first | exact c0_1_1 | go_simp)
    exact (or_any _ _ _ f10).mono fun e w' ⟨h, hw⟩ => ⟨h, hw ▸ Fut.refl _⟩
  simp only [Act.put, List.setIfInBounds_toArray, List.set_cons_succ, List.set_cons_zero, List.nil_append, List.cons_append]
  apply Run.valG (wanted_none rfl _)
  · intro w1 h1 hk
    have cx_0_0 : w1.cell? ⟨w.heap.size, 0, none⟩ = some (.string f.p) := Fut.cell h1 (by first | exact c0_0_0 | go_simp)
    have cx_0_1 : w1.cell? ⟨w.heap.size, 1, none⟩ = some (.slice A f.a.length cap) := Fut.cell h1 (by first | exact c0_0_1 | go_simp)
    have cx_1_0 : w1.cell? ⟨w.heap.size + 1, 0, none⟩ = some (.string g.p) := Fut.cell h1 (by first | exact c0_1_0 | go_simp)
    have cx_1_1 : w1.cell? ⟨w.heap.size + 1, 1, none⟩ = some (.slice B g.a.length cap') := Fut.cell h1 (by first | exact c0_1_1 | go_simp)
    go_simp; rfl
  simp only [Act.put, List.setIfInBounds_toArray, List.set_cons_succ, List.set_cons_zero, List.nil_append, List.cons_append]
  apply Run.done
  intro w2 h2 hk
  have c2_0_0 : w2.cell? ⟨w.heap.size, 0, none⟩ = some (.string f.p) := Fut.cell h2 (by first | exact c0_0_0 | go_simp)
  have c2_0_1 : w2.cell? ⟨w.heap.size, 1, none⟩ = some (.slice A f.a.length cap) := Fut.cell h2 (by first | exact c0_0_1 | go_simp)
  have c2_1_0 : w2.cell? ⟨w.heap.size + 1, 0, none⟩ = some (.string g.p) := Fut.cell h2 (by first | exact c0_1_0 | go_simp)
  have c2_1_1 : w2.cell? ⟨w.heap.size + 1, 1, none⟩ = some (.slice B g.a.length cap') := Fut.cell h2 (by first | exact c0_1_1 | go_simp)
  obtain ⟨f10, _⟩ := hk
  go_wp2
  go_ret
  exact ⟨rfl, (hf0 _ _).trans h2⟩
theorem cmpF_spec (f g : Fc) : cmpF f g = if Op.bytesLess f.p.toList g.p.toList = true then -1 else if Op.bytesLess g.p.toList f.p.toList = true then 1 else cmpT f.a g.a := by
  rw [cmpBytes_less, cmpBytes_less, ByteArray.toList_eq, ByteArray.toList_eq]
  unfold cmpF cmpS
  rw [cmpBytes_swap f.p.data.toList g.p.data.toList]
  simp only [decide_eq_true_eq, firstNZ]
  rcases cmpBytes_range f.p.data.toList g.p.data.toList with h | h | h
  · simp [h]
  · simp only [h]
    by_cases h0 : cmpT f.a g.a = 0 <;> simp [h0]
  · simp [h]
set_option maxHeartbeats 400000 in
theorem rcmpF_any (f g : Fc) (u v : Value) (w : World) (hu : Vals w u f.a) (hv : Vals w v g.a) :
    Calls Tryd.prog 55 #[.agg #[.string f.p, u], .agg #[.string g.p, v]] w fun e w' => e = .returned (.int .i64 (cmpF f g)) ∧ Fut w w' := by
  obtain ⟨A, cap, rfl, hl, hm⟩ := SlRep.form hu
  obtain ⟨B, cap', rfl, hl', hm'⟩ := SlRep.form hv
  have hf0 : ∀ X Y, Fut w ((w.alloc X).alloc Y) := fun X Y => ((Fut.alloc _ _).trans (Fut.alloc _ _))
  have hspec := Lib.hid (cmpF_spec f g)
  by_cases c1 : Op.bytesLess f.p.toList g.p.toList = true
  · go_enter Tryd.func55, Tryd.ntmps55
    go_wp2
    go_ret
    refine ⟨?_, hf0 _ _⟩
    rw [hspec.out, if_pos c1]
    rfl
  · have c1' : Op.bytesLess f.p.toList g.p.toList = false := by simpa using c1
    have C1 := Lib.hid c1
    clear c1
    by_cases c2 : Op.bytesLess g.p.toList f.p.toList = true
    · have c3 : (f.p.toList == g.p.toList) = false := by
        rw [beq_eq_false_iff_ne]
        intro e
        rw [e, bytesLess_irrefl] at c2
        cases c2
      go_enter Tryd.func55, Tryd.ntmps55
      go_wp2
      go_ret
      refine ⟨?_, hf0 _ _⟩
      rw [hspec.out, if_neg C1.out, if_pos c2]
      rfl
    · have c2' : Op.bytesLess g.p.toList f.p.toList = false := by simpa using c2
      have c3 : (f.p.toList == g.p.toList) = true := by
        rw [beq_iff_eq]
        rw [cmpBytes_less, decide_eq_false_iff_not] at c1' c2'
        rw [cmpBytes_swap f.p.toList] at c2'
        exact (cmpBytes_zero _ _).1 (by omega)
      have C2 := Lib.hid c2
      clear c2
      go_enter Tryd.func55, Tryd.ntmps55
      go_wp2_with fail
      refine (rcmpT_any _ _ f.a g.a _ (hu.fut RV.stays (hf0 _ _)) (hv.fut RV.stays (hf0 _ _))).mono ?_
      rintro e w1 ⟨rfl, h1⟩
      go_wp2
      go_ret
      refine ⟨?_, (hf0 _ _).trans h1⟩
      rw [hspec.out, if_neg C1.out, if_neg C2.out]
      rfl

end Go.Proofs.YtlihkmldclocoaaDoor
