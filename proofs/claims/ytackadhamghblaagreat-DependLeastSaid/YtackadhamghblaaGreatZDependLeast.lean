/- Least, DependLeast -/
import Derived.Test.YtackadhamghblaaGreatRows
import Derived.SevenTiedAt
import Derived.Lay
import Derived.LaidOnce
import Derived.ChangeMaps5
import Derived.Test.YtackadhamghblaaGreatC25
/- The law DependLeast: levels hold along every edge and are the least that do; where there are none, a strict edge lies on a way round. -/
namespace Go.Proofs.YtackadhamghblaaGreat
open Go.RowKit Go.WideMaps Go.Maps
set_option linter.unusedSimpArgs false
set_option linter.unusedVariables false

theorem small_of {rs : List Ru} (h : Within rs) : Small rs := by
  unfold Small
  have := h.1
  omega
/-- A strict edge's kind. -/
theorem kind_of {rs : List Ru} {e : Ed} (he : e ∈ edgesP rs) (hs : e.strict = true) : e.k = 2 ∨ e.k = 3 ∨ e.k = 4 := by
  obtain ⟨r, hr, l, hl, ha, e1, e2, e3⟩ := tri_of he
  have h1 : e.k ≠ 1 := fun h9 => by
    unfold Ed.strict at hs
    rw [h9] at hs
    exact absurd hs (by decide)
  by_cases h2 : l.k = 2
  · rw [if_pos h2] at e3
    exact .inl e3
  · rw [if_neg h2] at e3
    unfold Ru.kind at e3
    split at e3
    · exact .inr (.inl e3)
    · split at e3
      · exact .inr (.inr e3)
      · exact absurd e3 h1
/-- The first strict edge on a way round, among the first k. -/
def FirstB (rs : List Ru) (es : List Ed) (k : Nat) (bad : Value) : Prop :=
  (bad = .int .i64 (-1) ∧ ∀ y ∈ es.take k, ¬ RoundE rs y) ∨ ∃ (b : Nat) (x : Ed), bad = .int .i64 b ∧ b < es.length ∧ es[b]? = some x ∧ RoundE rs x ∧ ∀ y ∈ es.take b, ¬ RoundE rs y
theorem FirstB.split {rs : List Ru} {es a c : List Ed} {x : Ed} {k : Nat} {bad : Value} (h : FirstB rs es k bad) (he : es = a ++ x :: c) (hx : RoundE rs x) (ha : ∀ y ∈ a, ¬ RoundE rs y) (hk : bad = .int .i64 (-1) → k = es.length) : bad = .int .i64 (a.length : Nat) := by
  have hgx : es[a.length]? = some x := by rw [he]; simp
  rcases h with ⟨h1, h2⟩ | ⟨b, y, h1, h2, h3, h4, h5⟩
  · have := hk h1
    subst this
    rw [List.take_length] at h2
    exact absurd hx (h2 x (by rw [he]; simp))
  · rw [h1]
    have : b = a.length := by
      rcases Nat.lt_trichotomy b a.length with q | q | q
      · rw [he, List.getElem?_append_left q] at h3
        exact absurd h4 (ha y (List.mem_of_getElem? h3))
      · exact q
      · refine absurd hx (h5 x ?_)
        refine List.mem_of_getElem? (i := a.length) ?_
        rw [List.getElem?_take, if_pos q]
        exact hgx
    rw [this]
theorem FirstB.none {rs : List Ru} {es : List Ed} {k : Nat} {bad : Value} (h : FirstB rs es k bad) (hn : ∀ y ∈ es, ¬ RoundE rs y) : bad = .int .i64 (-1) := by
  rcases h with ⟨h1, _⟩ | ⟨b, y, h1, h2, h3, h4, h5⟩
  · exact h1
  · exact absurd h4 (hn y (List.mem_of_getElem? h3))
theorem less_lt {x y : ByteArray} (h : cmpS x y < 0) : Op.bytesLess x.toList y.toList = true := by rw [less_cmpS]; exact decide_eq_true h
theorem less_ge {x y : ByteArray} (h : cmpS x y < 0) : Op.bytesLess y.toList x.toList = false := by
  rw [less_cmpS]
  have := totS.neg x y
  exact decide_eq_false (by omega)
set_option maxHeartbeats 8000000 in
set_option maxRecDepth 100000 in
theorem least_any {M : Nat} (a : Value) (rs : List Ru) (w : World) (h : SlRep 3 M RRu w a rs) (hM : M ≤ 9223372036854775807) :
    Calls Tryz.prog 3 #[a] w fun e w' => e = .returned (.bool true) ∧ Fut w w' := by
  have HB := Lib.hid (beyondR_any a rs w h hM)
  obtain ⟨A, c, rfl, hl1, hl2⟩ := h.form
  have hxl : rs.length ≤ 9223372036854775807 := by omega
  have H := Lib.hid h
  have hszs := Lib.hid (rus_ok h)
  clear hl1 hl2 h
  go_enter Tryz.func3, Tryz.ntmps3
  go_wp2_with fail
  refine HB.out.mono ?_
  rintro e w1 ⟨b, rfl, hb, f1⟩
  cases b
  rotate_left
  · go_wp2
    go_ret
    exact ⟨rfl, f1⟩
  have hS := small_of (hb rfl)
  obtain ⟨wp, hwp⟩ : ∃ W, w1.alloc (.cells #[.slice A rs.length c] 25) = W := ⟨_, rfl⟩
  have hpb : wp.heap[w1.heap.size]? = some (.cells #[.slice A rs.length c] 25 (0, 0)) := by rw [← hwp]; exact heap_alloc_new w1 _
  have FP : Fut w wp := f1.trans (by rw [← hwp]; exact Fut.alloc _ _)
  have y0 := cell_at hpb 0 _ rfl
  have HE := Lib.hid (edges_any A c rs wp (H.out.fut RRu.stays FP) hM hS)
  have HPB := Lib.hid hpb
  have HFP := Lib.hid FP
  have HS := Lib.hid hS
  have hwph := Lib.hid hwp
  obtain ⟨pb, hpbe⟩ : ∃ q, w1.heap.size = q := ⟨_, rfl⟩
  rw [hpbe] at HPB y0
  clear hb HB f1 hpb FP hS
  go_wp2_with fail
  try rw [hwp]
  try rw [hpbe]
  clear hwp hpbe
  refine HE.out.mono ?_
  rintro e w2 ⟨ev, rfl, hev, f2⟩
  have F2 := Lib.hid (HFP.out.trans f2)
  obtain ⟨Ae, ce, rfl, he1, he2⟩ := hev.rep.form
  have HEv := Lib.hid hev
  have hel : (edgesP rs).length ≤ 10000000 := HS.out.edges
  have y2 := cell_at (f2.block HPB.out) 0 _ rfl
  have HPB2 := Lib.hid (f2.block HPB.out)
  have HLv := Lib.hid (levelsAll_any A c rs w2 (H.out.fut RRu.stays F2.out) hM HS.out)
  clear hev f2 HE y0
  have hin := Lib.hid (fun y (hy : y ∈ edgesP rs) => hy)
  have hnm := Lib.hid (fun y (hy : y ∈ edgesP rs) => edge_names hy)
  have hkd := Lib.hid (fun y (hy : y ∈ edgesP rs) => kind_of (rs := rs) hy)
  have hpt := Lib.hid (fun y (hy : y ∈ edgesP rs) => names_ok H.out y.t (edge_names hy).2)
  have hbd := Lib.hid (fun nf hn hl s => least_bound HS.out (nf := nf) hn hl s)
  obtain ⟨es, hes⟩ : ∃ es, edgesP rs = es := ⟨_, rfl⟩
  rw [hes] at HEv hel he1 HLv hin hnm hkd hpt hbd ⊢
  clear hes hin
  go_wp2_with fail
  refine HLv.out.mono ?_
  rintro e w3 ⟨hres, f3⟩
  have F3 := Lib.hid (F2.out.trans f3)
  have HF3 := Lib.hid f3
  clear f3 HLv y2
  obtain ⟨lv, nn, ee, rfl, hAB⟩ : ∃ (lv : Value) (nn ee : Int), e = .returned (.tuple #[lv, .int .i64 nn, .int .i64 ee]) ∧ ((∃ a x c', es = a ++ x :: c' ∧ RoundE rs x ∧ (∀ y ∈ a, ¬ RoundE rs y) ∧ lv = .slice none 0 0 ∧ nn = x.r ∧ ee = x.errno) ∨
      (nn = 0 ∧ ee = 0 ∧ (∀ y ∈ es, ¬ RoundE rs y) ∧ ∃ nf, LeastL es nf ∧ OwnL 2 w2.heap.size tLev RLv w3 lv ((drawP rs).sorted.map fun s => (s, nf s)))) := by
    rcases hres with ⟨a, x, c', hea, hx, ha, rfl⟩ | ⟨hno, nf, v, hnf, rfl, hv⟩
    · exact ⟨_, _, _, rfl, .inl ⟨a, x, c', hea, hx, ha, rfl, rfl, rfl⟩⟩
    · exact ⟨_, _, _, rfl, .inr ⟨rfl, rfl, hno, nf, hnf, hv⟩⟩
  replace hAB := Lib.hid hAB
  clear hres
  go_wp2_with fail
  go_loopw [8, 9] (fun bad i W => ∃ k : Nat, k ≤ es.length ∧ i = .int .i64 k ∧ Hid (FirstB rs es k bad) ∧ Hid (Fut w3 W)) (fun _ i _ => es.length - (intOf i).toNat)
  case atStart => exact ⟨0, Nat.zero_le _, rfl, Lib.hid (.inl ⟨rfl, fun y hy => by simp at hy⟩), Lib.hid (Fut.refl _)⟩
  case round =>
    obtain ⟨k, hk, rfl, hFB, hG⟩ := hrel
    obtain ⟨wq, rfl⟩ : ∃ x, x = wr := ⟨_, rfl⟩
    by_cases hgo : k < es.length ∧ u8 = .int .i64 (-1)
    · obtain ⟨hlt, rfl⟩ := hgo
      have hltI : (k : Int) < es.length := by omega
      have e0 : (0 : Int) ≤ k ∧ (k : Int) < es.length := by omega
      obtain ⟨be, oe, rfl, hce⟩ := ed_at (HEv.out.fut REd.stays (HF3.out.trans hG.out)).rep hlt
      have hmem := Lib.hid (List.getElem_mem hlt)
      have htk := Lib.hid (List.take_succ_eq_append_getElem hlt)
      have hgx := Lib.hid (List.getElem?_eq_getElem hlt)
      generalize es[k] = e at *
      have u0 : wq.cell? ⟨be, oe + k * 4, none⟩ = some (.string e.f) := hce 0 _ rfl
      have u1 := hce 1 _ rfl
      have u2 := hce 2 _ rfl
      have up := cell_at ((HF3.out.trans hG.out).block HPB2.out) 0 _ rfl
      have FW := Lib.hid (F3.out.trans hG.out)
      have hall : ∀ y ∈ es.take k, ¬ RoundE rs y := by
        rcases hFB.out with ⟨_, q⟩ | ⟨b, y, q, _⟩
        · exact q
        · injection q with _ q
          exact absurd q (by omega)
      have hall' := Lib.hid hall
      clear hall hFB hce
      by_cases hst : e.strict = true
      rotate_left
      · have hk1 : e.k = 1 := by
          refine Decidable.byContradiction fun h9 => hst ?_
          unfold Ed.strict
          rw [decide_eq_false h9]; rfl
        have HFB2 := Lib.hid (show FirstB rs es (k + 1) (.int .i64 (-1)) from .inl ⟨rfl, fun y hy hr => by
          rw [htk.out, List.mem_append, List.mem_singleton] at hy
          rcases hy with hy | rfl
          · exact hall'.out y hy hr
          · exact hst hr.1⟩)
        rw [hk1] at u2
        go_wp2_with fail
        refine wp_graph 21 [.d, .d, .d, .d, .d, .d, .d, .d, .d, .d, .d, .d, .d, .d, .d, .d, .d, .d, .d, .d, .d] (by kernel_rfl) (by kernel_rfl) (by kernel_rfl) ?_
        simp only [List.take_succ_cons, List.take_zero, List.drop_succ_cons, List.drop_zero, Exs]
        iterate 21 apply Exists.intro
        apply Run.valG (wanted_none rfl _)
        · intro w1 h1 hk
          have q2 := h1.cell u2
          have hcw := fun b o => Below.cell (p := ⟨b, o, none⟩) h1
          go_simp; rfl
        simp only [Act.put, List.setIfInBounds_toArray, List.set_cons_succ, List.set_cons_zero, List.nil_append, List.cons_append]
        apply Run.valG (wanted_none rfl _)
        · intro w1 h1 hk
          have q2 := h1.cell u2
          have hcw := fun b o => Below.cell (p := ⟨b, o, none⟩) h1
          go_simp; rfl
        simp only [Act.put, List.setIfInBounds_toArray, List.set_cons_succ, List.set_cons_zero, List.nil_append, List.cons_append]
        apply Run.valG (wanted_none rfl _)
        · intro w1 h1 hk
          have q2 := h1.cell u2
          have hcw := fun b o => Below.cell (p := ⟨b, o, none⟩) h1
          go_simp; rfl
        simp only [Act.put, List.setIfInBounds_toArray, List.set_cons_succ, List.set_cons_zero, List.nil_append, List.cons_append]
        apply Run.valG (wanted_none rfl _)
        · intro w1 h1 hk
          have q2 := h1.cell u2
          have hcw := fun b o => Below.cell (p := ⟨b, o, none⟩) h1
          go_simp; rfl
        simp only [Act.put, List.setIfInBounds_toArray, List.set_cons_succ, List.set_cons_zero, List.nil_append, List.cons_append]
        apply Run.valG (wanted_none rfl _)
        · intro w1 h1 hk
          have q2 := h1.cell u2
          have hcw := fun b o => Below.cell (p := ⟨b, o, none⟩) h1
          go_simp; rfl
        simp only [Act.put, List.setIfInBounds_toArray, List.set_cons_succ, List.set_cons_zero, List.nil_append, List.cons_append]
        apply Run.valG (wanted_none rfl _)
        · intro w1 h1 hk
          have q2 := h1.cell u2
          have hcw := fun b o => Below.cell (p := ⟨b, o, none⟩) h1
          go_simp; rfl
        simp only [Act.put, List.setIfInBounds_toArray, List.set_cons_succ, List.set_cons_zero, List.nil_append, List.cons_append]
        apply Run.valG (wanted_none rfl _)
        · intro w1 h1 hk
          have q2 := h1.cell u2
          have hcw := fun b o => Below.cell (p := ⟨b, o, none⟩) h1
          go_simp; rfl
        simp only [Act.put, List.setIfInBounds_toArray, List.set_cons_succ, List.set_cons_zero, List.nil_append, List.cons_append]
        apply Run.skip (by first | (go_simp; done) | (go_simp; exact fun h => nomatch h))
        simp only [Act.put, List.setIfInBounds_toArray, List.set_cons_succ, List.set_cons_zero, List.nil_append, List.cons_append]
        apply Run.skip (by first | (go_simp; done) | (go_simp; exact fun h => nomatch h))
        simp only [Act.put, List.setIfInBounds_toArray, List.set_cons_succ, List.set_cons_zero, List.nil_append, List.cons_append]
        apply Run.skip (by first | (go_simp; done) | (go_simp; exact fun h => nomatch h))
        simp only [Act.put, List.setIfInBounds_toArray, List.set_cons_succ, List.set_cons_zero, List.nil_append, List.cons_append]
        apply Run.skip (by first | (go_simp; done) | (go_simp; exact fun h => nomatch h))
        simp only [Act.put, List.setIfInBounds_toArray, List.set_cons_succ, List.set_cons_zero, List.nil_append, List.cons_append]
        apply Run.skip (by first | (go_simp; done) | (go_simp; exact fun h => nomatch h))
        simp only [Act.put, List.setIfInBounds_toArray, List.set_cons_succ, List.set_cons_zero, List.nil_append, List.cons_append]
        apply Run.skip (by first | (go_simp; done) | (go_simp; exact fun h => nomatch h))
        simp only [Act.put, List.setIfInBounds_toArray, List.set_cons_succ, List.set_cons_zero, List.nil_append, List.cons_append]
        apply Run.skip (by first | (go_simp; done) | (go_simp; exact fun h => nomatch h))
        simp only [Act.put, List.setIfInBounds_toArray, List.set_cons_succ, List.set_cons_zero, List.nil_append, List.cons_append]
        apply Run.skip (by first | (go_simp; done) | (go_simp; exact fun h => nomatch h))
        simp only [Act.put, List.setIfInBounds_toArray, List.set_cons_succ, List.set_cons_zero, List.nil_append, List.cons_append]
        apply Run.skip (by first | (go_simp; done) | (go_simp; exact fun h => nomatch h))
        simp only [Act.put, List.setIfInBounds_toArray, List.set_cons_succ, List.set_cons_zero, List.nil_append, List.cons_append]
        apply Run.skip (by first | (go_simp; done) | (go_simp; exact fun h => nomatch h))
        simp only [Act.put, List.setIfInBounds_toArray, List.set_cons_succ, List.set_cons_zero, List.nil_append, List.cons_append]
        apply Run.skip (by first | (go_simp; done) | (go_simp; exact fun h => nomatch h))
        simp only [Act.put, List.setIfInBounds_toArray, List.set_cons_succ, List.set_cons_zero, List.nil_append, List.cons_append]
        apply Run.skip (by first | (go_simp; done) | (go_simp; exact fun h => nomatch h))
        simp only [Act.put, List.setIfInBounds_toArray, List.set_cons_succ, List.set_cons_zero, List.nil_append, List.cons_append]
        apply Run.skip (by first | (go_simp; done) | (go_simp; exact fun h => nomatch h))
        simp only [Act.put, List.setIfInBounds_toArray, List.set_cons_succ, List.set_cons_zero, List.nil_append, List.cons_append]
        apply Run.valG (wanted_none rfl _)
        · intro w1 h1 hk
          have q2 := h1.cell u2
          have hcw := fun b o => Below.cell (p := ⟨b, o, none⟩) h1
          go_simp; rfl
        simp only [Act.put, List.setIfInBounds_toArray, List.set_cons_succ, List.set_cons_zero, List.nil_append, List.cons_append]
        apply Run.done
        intro w2 h2 hk
        clear hk
        have HG2 := Lib.hid (hG.out.trans ((Fut.drew _).trans h2))
        clear h2
        go_wp2
        go_roundw
        case rel => exact ⟨k + 1, by omega, by go_num, HFB2, HG2⟩
        case measure => simp [intOf] <;> omega
      · have hkn : ¬ e.k = 1 := by
          unfold Ed.strict at hst
          intro h9
          rw [h9] at hst
          exact absurd hst (by decide)
        have hkb : (e.k == 1) = false := by rw [beq_eq_false_iff_ne]; exact hkn
        have HRe := Lib.hid (fun W (hW : Fut w W) => reachW_any A c rs e.t W (H.out.fut RRu.stays hW) hM HS.out (hpt.out e hmem.out))
        have hge := Lib.hid (show FirstB rs es (k + 1) (.int .i64 (k : Nat)) ∨ ¬ RoundE rs e from by
          by_cases hR : RoundE rs e
          · exact .inl (.inr ⟨k, e, rfl, hlt, hgx.out, hR, hall'.out⟩)
          · exact .inr hR)
        by_cases hR : RoundE rs e
        · have HFB2 := Lib.hid (show FirstB rs es (k + 1) (.int .i64 (k : Nat)) from .inr ⟨k, e, rfl, hlt, hgx.out, hR, hall'.out⟩)
          have hdec := Lib.hid (fun L (hL : ReachOf rs e.t L) => decide_eq_true ((hL.2 e.f).2 hR.2))
          clear hst hge
          go_wp2_with fail
          refine wp_graph 21 [.d, .d, .d, .d, .d, .d, .d, .d, .d, .d, .d, .d, .d, .r (fun v W => ∃ L, ReachOf rs e.t L ∧ Nms w.heap.size W v L), .d, .d, .d, .d, .d, .d, .d] (by kernel_rfl) (by kernel_rfl) (by kernel_rfl) ?_
          simp only [List.take_succ_cons, List.take_zero, List.drop_succ_cons, List.drop_zero, Exs]
          iterate 20 apply Exists.intro
          apply Run.valG (wanted_none rfl _)
          · intro w1 h1 hk
            have q0 := h1.cell u0; have q1 := h1.cell u1; have q2 := h1.cell u2; have qp := h1.cell up; have hg := (FW.out.trans (Fut.drew _)).trans h1
            have hcw := fun b o => Below.cell (p := ⟨b, o, none⟩) h1
            go_simp; rfl
          simp only [Act.put, List.setIfInBounds_toArray, List.set_cons_succ, List.set_cons_zero, List.nil_append, List.cons_append]
          apply Run.valG (wanted_none rfl _)
          · intro w1 h1 hk
            have q0 := h1.cell u0; have q1 := h1.cell u1; have q2 := h1.cell u2; have qp := h1.cell up; have hg := (FW.out.trans (Fut.drew _)).trans h1
            have hcw := fun b o => Below.cell (p := ⟨b, o, none⟩) h1
            go_simp; rfl
          simp only [Act.put, List.setIfInBounds_toArray, List.set_cons_succ, List.set_cons_zero, List.nil_append, List.cons_append]
          apply Run.valG (wanted_none rfl _)
          · intro w1 h1 hk
            have q0 := h1.cell u0; have q1 := h1.cell u1; have q2 := h1.cell u2; have qp := h1.cell up; have hg := (FW.out.trans (Fut.drew _)).trans h1
            have hcw := fun b o => Below.cell (p := ⟨b, o, none⟩) h1
            go_simp; rfl
          simp only [Act.put, List.setIfInBounds_toArray, List.set_cons_succ, List.set_cons_zero, List.nil_append, List.cons_append]
          apply Run.valG (wanted_none rfl _)
          · intro w1 h1 hk
            have q0 := h1.cell u0; have q1 := h1.cell u1; have q2 := h1.cell u2; have qp := h1.cell up; have hg := (FW.out.trans (Fut.drew _)).trans h1
            have hcw := fun b o => Below.cell (p := ⟨b, o, none⟩) h1
            go_simp; rfl
          simp only [Act.put, List.setIfInBounds_toArray, List.set_cons_succ, List.set_cons_zero, List.nil_append, List.cons_append]
          apply Run.valG (wanted_none rfl _)
          · intro w1 h1 hk
            have q0 := h1.cell u0; have q1 := h1.cell u1; have q2 := h1.cell u2; have qp := h1.cell up; have hg := (FW.out.trans (Fut.drew _)).trans h1
            have hcw := fun b o => Below.cell (p := ⟨b, o, none⟩) h1
            go_simp; rfl
          simp only [Act.put, List.setIfInBounds_toArray, List.set_cons_succ, List.set_cons_zero, List.nil_append, List.cons_append]
          apply Run.valG (wanted_none rfl _)
          · intro w1 h1 hk
            have q0 := h1.cell u0; have q1 := h1.cell u1; have q2 := h1.cell u2; have qp := h1.cell up; have hg := (FW.out.trans (Fut.drew _)).trans h1
            have hcw := fun b o => Below.cell (p := ⟨b, o, none⟩) h1
            go_simp; rfl
          simp only [Act.put, List.setIfInBounds_toArray, List.set_cons_succ, List.set_cons_zero, List.nil_append, List.cons_append]
          apply Run.valG (wanted_none rfl _)
          · intro w1 h1 hk
            have q0 := h1.cell u0; have q1 := h1.cell u1; have q2 := h1.cell u2; have qp := h1.cell up; have hg := (FW.out.trans (Fut.drew _)).trans h1
            have hcw := fun b o => Below.cell (p := ⟨b, o, none⟩) h1
            go_simp; rfl
          simp only [Act.put, List.setIfInBounds_toArray, List.set_cons_succ, List.set_cons_zero, List.nil_append, List.cons_append]
          apply Run.valG (by go_simp)
          · intro w1 h1 hk
            have q0 := h1.cell u0; have q1 := h1.cell u1; have q2 := h1.cell u2; have qp := h1.cell up; have hg := (FW.out.trans (Fut.drew _)).trans h1
            have hcw := fun b o => Below.cell (p := ⟨b, o, none⟩) h1
            go_simp; rfl
          simp only [Act.put, List.setIfInBounds_toArray, List.set_cons_succ, List.set_cons_zero, List.nil_append, List.cons_append]
          apply Run.valG (by go_simp)
          · intro w1 h1 hk
            have q0 := h1.cell u0; have q1 := h1.cell u1; have q2 := h1.cell u2; have qp := h1.cell up; have hg := (FW.out.trans (Fut.drew _)).trans h1
            have hcw := fun b o => Below.cell (p := ⟨b, o, none⟩) h1
            go_simp; rfl
          simp only [Act.put, List.setIfInBounds_toArray, List.set_cons_succ, List.set_cons_zero, List.nil_append, List.cons_append]
          apply Run.valG (by go_simp)
          · intro w1 h1 hk
            have q0 := h1.cell u0; have q1 := h1.cell u1; have q2 := h1.cell u2; have qp := h1.cell up; have hg := (FW.out.trans (Fut.drew _)).trans h1
            have hcw := fun b o => Below.cell (p := ⟨b, o, none⟩) h1
            go_simp; rfl
          simp only [Act.put, List.setIfInBounds_toArray, List.set_cons_succ, List.set_cons_zero, List.nil_append, List.cons_append]
          apply Run.valG (by go_simp)
          · intro w1 h1 hk
            have q0 := h1.cell u0; have q1 := h1.cell u1; have q2 := h1.cell u2; have qp := h1.cell up; have hg := (FW.out.trans (Fut.drew _)).trans h1
            have hcw := fun b o => Below.cell (p := ⟨b, o, none⟩) h1
            go_simp; rfl
          simp only [Act.put, List.setIfInBounds_toArray, List.set_cons_succ, List.set_cons_zero, List.nil_append, List.cons_append]
          apply Run.valG (by go_simp)
          · intro w1 h1 hk
            have q0 := h1.cell u0; have q1 := h1.cell u1; have q2 := h1.cell u2; have qp := h1.cell up; have hg := (FW.out.trans (Fut.drew _)).trans h1
            have hcw := fun b o => Below.cell (p := ⟨b, o, none⟩) h1
            go_simp; rfl
          simp only [Act.put, List.setIfInBounds_toArray, List.set_cons_succ, List.set_cons_zero, List.nil_append, List.cons_append]
          apply Run.valG (by go_simp)
          · intro w1 h1 hk
            have q0 := h1.cell u0; have q1 := h1.cell u1; have q2 := h1.cell u2; have qp := h1.cell up; have hg := (FW.out.trans (Fut.drew _)).trans h1
            have hcw := fun b o => Below.cell (p := ⟨b, o, none⟩) h1
            go_simp; rfl
          simp only [Act.put, List.setIfInBounds_toArray, List.set_cons_succ, List.set_cons_zero, List.nil_append, List.cons_append]
          apply Run.callR (by go_simp) (by intro v w w' hf hs; exact (by obtain ⟨L, q1, q2⟩ := hs; exact ⟨L, q1, q2.fut RNm.stays hf⟩)) (fun _ _ => by go_simp; exact ⟨rfl, rfl⟩)
          · intro w1 h1 hk
            have q0 := h1.cell u0; have q1 := h1.cell u1; have q2 := h1.cell u2; have qp := h1.cell up; have hg := (FW.out.trans (Fut.drew _)).trans h1
            refine (HRe.out _ hg).mono ?_; rintro e9 w9 ⟨v, L, rfl, q1, q2, q3⟩; exact ⟨_, rfl, q3, L, q1, q2.base hg.size⟩
          intro v13
          simp only [Act.put, List.setIfInBounds_toArray, List.set_cons_succ, List.set_cons_zero, List.nil_append, List.cons_append]
          apply Run.valG (by go_simp)
          · intro w1 h1 hk
            have q0 := h1.cell u0; have q1 := h1.cell u1; have q2 := h1.cell u2; have qp := h1.cell up; have hg := (FW.out.trans (Fut.drew _)).trans h1
            have hcw := fun b o => Below.cell (p := ⟨b, o, none⟩) h1
            go_simp; rfl
          simp only [Act.put, List.setIfInBounds_toArray, List.set_cons_succ, List.set_cons_zero, List.nil_append, List.cons_append]
          apply Run.valG (by go_simp)
          · intro w1 h1 hk
            have q0 := h1.cell u0; have q1 := h1.cell u1; have q2 := h1.cell u2; have qp := h1.cell up; have hg := (FW.out.trans (Fut.drew _)).trans h1
            have hcw := fun b o => Below.cell (p := ⟨b, o, none⟩) h1
            go_simp; rfl
          simp only [Act.put, List.setIfInBounds_toArray, List.set_cons_succ, List.set_cons_zero, List.nil_append, List.cons_append]
          apply Run.valG (by go_simp)
          · intro w1 h1 hk
            have q0 := h1.cell u0; have q1 := h1.cell u1; have q2 := h1.cell u2; have qp := h1.cell up; have hg := (FW.out.trans (Fut.drew _)).trans h1
            have hcw := fun b o => Below.cell (p := ⟨b, o, none⟩) h1
            go_simp; rfl
          simp only [Act.put, List.setIfInBounds_toArray, List.set_cons_succ, List.set_cons_zero, List.nil_append, List.cons_append]
          apply Run.valG (by go_simp)
          · intro w1 h1 hk
            have q0 := h1.cell u0; have q1 := h1.cell u1; have q2 := h1.cell u2; have qp := h1.cell up; have hg := (FW.out.trans (Fut.drew _)).trans h1
            have hcw := fun b o => Below.cell (p := ⟨b, o, none⟩) h1
            go_simp; rfl
          simp only [Act.put, List.setIfInBounds_toArray, List.set_cons_succ, List.set_cons_zero, List.nil_append, List.cons_append]
          apply Run.valG (by go_simp)
          · intro w1 h1 hk
            have q0 := h1.cell u0; have q1 := h1.cell u1; have q2 := h1.cell u2; have qp := h1.cell up; have hg := (FW.out.trans (Fut.drew _)).trans h1
            have hcw := fun b o => Below.cell (p := ⟨b, o, none⟩) h1
            go_simp; rfl
          simp only [Act.put, List.setIfInBounds_toArray, List.set_cons_succ, List.set_cons_zero, List.nil_append, List.cons_append]
          apply Run.call (by go_simp) (fun _ _ => by go_simp; exact ⟨rfl, rfl⟩)
          · intro w1 h1 hk
            have f13 := Facts.get hk 0 rfl (by kernel_rfl)
            have q0 := h1.cell u0; have q1 := h1.cell u1; have q2 := h1.cell u2; have qp := h1.cell up; have hg := (FW.out.trans (Fut.drew _)).trans h1
            obtain ⟨L, qL, qO⟩ := f13; obtain ⟨AL, cL, rfl, _, _⟩ := qO.rep.form; refine (lhas_any e.f AL cL L _ qO.rep (by decide)).mono ?_; rintro e9 w9 ⟨rfl, rfl⟩; rw [hdec.out L qL]; exact ⟨rfl, Fut.refl _⟩
          simp only [Act.put, List.setIfInBounds_toArray, List.set_cons_succ, List.set_cons_zero, List.nil_append, List.cons_append]
          apply Run.valG (wanted_none rfl _)
          · intro w1 h1 hk
            have q0 := h1.cell u0; have q1 := h1.cell u1; have q2 := h1.cell u2; have qp := h1.cell up; have hg := (FW.out.trans (Fut.drew _)).trans h1
            have hcw := fun b o => Below.cell (p := ⟨b, o, none⟩) h1
            go_simp; rfl
          simp only [Act.put, List.setIfInBounds_toArray, List.set_cons_succ, List.set_cons_zero, List.nil_append, List.cons_append]
          apply Run.done
          intro w2 h2 hk
          obtain ⟨f13, _⟩ := hk
          have HG2 := Lib.hid (hG.out.trans ((Fut.drew _).trans h2))
          clear h2 f13
          go_wp2
          go_roundw
          case rel => exact ⟨k + 1, by omega, by go_num, HFB2, HG2⟩
          case measure => simp [intOf] <;> omega
        · have HFB2 := Lib.hid (show FirstB rs es (k + 1) (.int .i64 (-1)) from .inl ⟨rfl, fun y hy hr => by
            rw [htk.out, List.mem_append, List.mem_singleton] at hy
            rcases hy with hy | rfl
            · exact hall'.out y hy hr
            · exact hR hr⟩)
          have hdec := Lib.hid (fun L (hL : ReachOf rs e.t L) => decide_eq_false (fun h9 => hR ⟨hst, (hL.2 e.f).1 h9⟩))
          clear hst hge
          go_wp2_with fail
          refine wp_graph 21 [.d, .d, .d, .d, .d, .d, .d, .d, .d, .d, .d, .d, .d, .r (fun v W => ∃ L, ReachOf rs e.t L ∧ Nms w.heap.size W v L), .d, .d, .d, .d, .d, .d, .d] (by kernel_rfl) (by kernel_rfl) (by kernel_rfl) ?_
          simp only [List.take_succ_cons, List.take_zero, List.drop_succ_cons, List.drop_zero, Exs]
          iterate 20 apply Exists.intro
          apply Run.valG (wanted_none rfl _)
          · intro w1 h1 hk
            have q0 := h1.cell u0; have q1 := h1.cell u1; have q2 := h1.cell u2; have qp := h1.cell up; have hg := (FW.out.trans (Fut.drew _)).trans h1
            have hcw := fun b o => Below.cell (p := ⟨b, o, none⟩) h1
            go_simp; rfl
          simp only [Act.put, List.setIfInBounds_toArray, List.set_cons_succ, List.set_cons_zero, List.nil_append, List.cons_append]
          apply Run.valG (wanted_none rfl _)
          · intro w1 h1 hk
            have q0 := h1.cell u0; have q1 := h1.cell u1; have q2 := h1.cell u2; have qp := h1.cell up; have hg := (FW.out.trans (Fut.drew _)).trans h1
            have hcw := fun b o => Below.cell (p := ⟨b, o, none⟩) h1
            go_simp; rfl
          simp only [Act.put, List.setIfInBounds_toArray, List.set_cons_succ, List.set_cons_zero, List.nil_append, List.cons_append]
          apply Run.valG (wanted_none rfl _)
          · intro w1 h1 hk
            have q0 := h1.cell u0; have q1 := h1.cell u1; have q2 := h1.cell u2; have qp := h1.cell up; have hg := (FW.out.trans (Fut.drew _)).trans h1
            have hcw := fun b o => Below.cell (p := ⟨b, o, none⟩) h1
            go_simp; rfl
          simp only [Act.put, List.setIfInBounds_toArray, List.set_cons_succ, List.set_cons_zero, List.nil_append, List.cons_append]
          apply Run.valG (wanted_none rfl _)
          · intro w1 h1 hk
            have q0 := h1.cell u0; have q1 := h1.cell u1; have q2 := h1.cell u2; have qp := h1.cell up; have hg := (FW.out.trans (Fut.drew _)).trans h1
            have hcw := fun b o => Below.cell (p := ⟨b, o, none⟩) h1
            go_simp; rfl
          simp only [Act.put, List.setIfInBounds_toArray, List.set_cons_succ, List.set_cons_zero, List.nil_append, List.cons_append]
          apply Run.valG (wanted_none rfl _)
          · intro w1 h1 hk
            have q0 := h1.cell u0; have q1 := h1.cell u1; have q2 := h1.cell u2; have qp := h1.cell up; have hg := (FW.out.trans (Fut.drew _)).trans h1
            have hcw := fun b o => Below.cell (p := ⟨b, o, none⟩) h1
            go_simp; rfl
          simp only [Act.put, List.setIfInBounds_toArray, List.set_cons_succ, List.set_cons_zero, List.nil_append, List.cons_append]
          apply Run.valG (wanted_none rfl _)
          · intro w1 h1 hk
            have q0 := h1.cell u0; have q1 := h1.cell u1; have q2 := h1.cell u2; have qp := h1.cell up; have hg := (FW.out.trans (Fut.drew _)).trans h1
            have hcw := fun b o => Below.cell (p := ⟨b, o, none⟩) h1
            go_simp; rfl
          simp only [Act.put, List.setIfInBounds_toArray, List.set_cons_succ, List.set_cons_zero, List.nil_append, List.cons_append]
          apply Run.valG (wanted_none rfl _)
          · intro w1 h1 hk
            have q0 := h1.cell u0; have q1 := h1.cell u1; have q2 := h1.cell u2; have qp := h1.cell up; have hg := (FW.out.trans (Fut.drew _)).trans h1
            have hcw := fun b o => Below.cell (p := ⟨b, o, none⟩) h1
            go_simp; rfl
          simp only [Act.put, List.setIfInBounds_toArray, List.set_cons_succ, List.set_cons_zero, List.nil_append, List.cons_append]
          apply Run.valG (by go_simp)
          · intro w1 h1 hk
            have q0 := h1.cell u0; have q1 := h1.cell u1; have q2 := h1.cell u2; have qp := h1.cell up; have hg := (FW.out.trans (Fut.drew _)).trans h1
            have hcw := fun b o => Below.cell (p := ⟨b, o, none⟩) h1
            go_simp; rfl
          simp only [Act.put, List.setIfInBounds_toArray, List.set_cons_succ, List.set_cons_zero, List.nil_append, List.cons_append]
          apply Run.valG (by go_simp)
          · intro w1 h1 hk
            have q0 := h1.cell u0; have q1 := h1.cell u1; have q2 := h1.cell u2; have qp := h1.cell up; have hg := (FW.out.trans (Fut.drew _)).trans h1
            have hcw := fun b o => Below.cell (p := ⟨b, o, none⟩) h1
            go_simp; rfl
          simp only [Act.put, List.setIfInBounds_toArray, List.set_cons_succ, List.set_cons_zero, List.nil_append, List.cons_append]
          apply Run.valG (by go_simp)
          · intro w1 h1 hk
            have q0 := h1.cell u0; have q1 := h1.cell u1; have q2 := h1.cell u2; have qp := h1.cell up; have hg := (FW.out.trans (Fut.drew _)).trans h1
            have hcw := fun b o => Below.cell (p := ⟨b, o, none⟩) h1
            go_simp; rfl
          simp only [Act.put, List.setIfInBounds_toArray, List.set_cons_succ, List.set_cons_zero, List.nil_append, List.cons_append]
          apply Run.valG (by go_simp)
          · intro w1 h1 hk
            have q0 := h1.cell u0; have q1 := h1.cell u1; have q2 := h1.cell u2; have qp := h1.cell up; have hg := (FW.out.trans (Fut.drew _)).trans h1
            have hcw := fun b o => Below.cell (p := ⟨b, o, none⟩) h1
            go_simp; rfl
          simp only [Act.put, List.setIfInBounds_toArray, List.set_cons_succ, List.set_cons_zero, List.nil_append, List.cons_append]
          apply Run.valG (by go_simp)
          · intro w1 h1 hk
            have q0 := h1.cell u0; have q1 := h1.cell u1; have q2 := h1.cell u2; have qp := h1.cell up; have hg := (FW.out.trans (Fut.drew _)).trans h1
            have hcw := fun b o => Below.cell (p := ⟨b, o, none⟩) h1
            go_simp; rfl
          simp only [Act.put, List.setIfInBounds_toArray, List.set_cons_succ, List.set_cons_zero, List.nil_append, List.cons_append]
          apply Run.valG (by go_simp)
          · intro w1 h1 hk
            have q0 := h1.cell u0; have q1 := h1.cell u1; have q2 := h1.cell u2; have qp := h1.cell up; have hg := (FW.out.trans (Fut.drew _)).trans h1
            have hcw := fun b o => Below.cell (p := ⟨b, o, none⟩) h1
            go_simp; rfl
          simp only [Act.put, List.setIfInBounds_toArray, List.set_cons_succ, List.set_cons_zero, List.nil_append, List.cons_append]
          apply Run.callR (by go_simp) (by intro v w w' hf hs; exact (by obtain ⟨L, q1, q2⟩ := hs; exact ⟨L, q1, q2.fut RNm.stays hf⟩)) (fun _ _ => by go_simp; exact ⟨rfl, rfl⟩)
          · intro w1 h1 hk
            have q0 := h1.cell u0; have q1 := h1.cell u1; have q2 := h1.cell u2; have qp := h1.cell up; have hg := (FW.out.trans (Fut.drew _)).trans h1
            refine (HRe.out _ hg).mono ?_; rintro e9 w9 ⟨v, L, rfl, q1, q2, q3⟩; exact ⟨_, rfl, q3, L, q1, q2.base hg.size⟩
          intro v13
          simp only [Act.put, List.setIfInBounds_toArray, List.set_cons_succ, List.set_cons_zero, List.nil_append, List.cons_append]
          apply Run.valG (by go_simp)
          · intro w1 h1 hk
            have q0 := h1.cell u0; have q1 := h1.cell u1; have q2 := h1.cell u2; have qp := h1.cell up; have hg := (FW.out.trans (Fut.drew _)).trans h1
            have hcw := fun b o => Below.cell (p := ⟨b, o, none⟩) h1
            go_simp; rfl
          simp only [Act.put, List.setIfInBounds_toArray, List.set_cons_succ, List.set_cons_zero, List.nil_append, List.cons_append]
          apply Run.valG (by go_simp)
          · intro w1 h1 hk
            have q0 := h1.cell u0; have q1 := h1.cell u1; have q2 := h1.cell u2; have qp := h1.cell up; have hg := (FW.out.trans (Fut.drew _)).trans h1
            have hcw := fun b o => Below.cell (p := ⟨b, o, none⟩) h1
            go_simp; rfl
          simp only [Act.put, List.setIfInBounds_toArray, List.set_cons_succ, List.set_cons_zero, List.nil_append, List.cons_append]
          apply Run.valG (by go_simp)
          · intro w1 h1 hk
            have q0 := h1.cell u0; have q1 := h1.cell u1; have q2 := h1.cell u2; have qp := h1.cell up; have hg := (FW.out.trans (Fut.drew _)).trans h1
            have hcw := fun b o => Below.cell (p := ⟨b, o, none⟩) h1
            go_simp; rfl
          simp only [Act.put, List.setIfInBounds_toArray, List.set_cons_succ, List.set_cons_zero, List.nil_append, List.cons_append]
          apply Run.valG (by go_simp)
          · intro w1 h1 hk
            have q0 := h1.cell u0; have q1 := h1.cell u1; have q2 := h1.cell u2; have qp := h1.cell up; have hg := (FW.out.trans (Fut.drew _)).trans h1
            have hcw := fun b o => Below.cell (p := ⟨b, o, none⟩) h1
            go_simp; rfl
          simp only [Act.put, List.setIfInBounds_toArray, List.set_cons_succ, List.set_cons_zero, List.nil_append, List.cons_append]
          apply Run.valG (by go_simp)
          · intro w1 h1 hk
            have q0 := h1.cell u0; have q1 := h1.cell u1; have q2 := h1.cell u2; have qp := h1.cell up; have hg := (FW.out.trans (Fut.drew _)).trans h1
            have hcw := fun b o => Below.cell (p := ⟨b, o, none⟩) h1
            go_simp; rfl
          simp only [Act.put, List.setIfInBounds_toArray, List.set_cons_succ, List.set_cons_zero, List.nil_append, List.cons_append]
          apply Run.call (by go_simp) (fun _ _ => by go_simp; exact ⟨rfl, rfl⟩)
          · intro w1 h1 hk
            have f13 := Facts.get hk 0 rfl (by kernel_rfl)
            have q0 := h1.cell u0; have q1 := h1.cell u1; have q2 := h1.cell u2; have qp := h1.cell up; have hg := (FW.out.trans (Fut.drew _)).trans h1
            obtain ⟨L, qL, qO⟩ := f13; obtain ⟨AL, cL, rfl, _, _⟩ := qO.rep.form; refine (lhas_any e.f AL cL L _ qO.rep (by decide)).mono ?_; rintro e9 w9 ⟨rfl, rfl⟩; rw [hdec.out L qL]; exact ⟨rfl, Fut.refl _⟩
          simp only [Act.put, List.setIfInBounds_toArray, List.set_cons_succ, List.set_cons_zero, List.nil_append, List.cons_append]
          apply Run.valG (wanted_none rfl _)
          · intro w1 h1 hk
            have q0 := h1.cell u0; have q1 := h1.cell u1; have q2 := h1.cell u2; have qp := h1.cell up; have hg := (FW.out.trans (Fut.drew _)).trans h1
            have hcw := fun b o => Below.cell (p := ⟨b, o, none⟩) h1
            go_simp; rfl
          simp only [Act.put, List.setIfInBounds_toArray, List.set_cons_succ, List.set_cons_zero, List.nil_append, List.cons_append]
          apply Run.done
          intro w2 h2 hk
          obtain ⟨f13, _⟩ := hk
          have HG2 := Lib.hid (hG.out.trans ((Fut.drew _).trans h2))
          clear h2 f13
          go_wp2
          go_roundw
          case rel => exact ⟨k + 1, by omega, by go_num, HFB2, HG2⟩
          case measure => simp [intOf] <;> omega
    · rcases hAB.out with hA | hB
      · clear hAB
        obtain ⟨a, x, c', hea, hx, ha, hlv9, hnn9, hee9⟩ := hA
        obtain ⟨qa, hqa⟩ : ∃ q, a.length = q := ⟨_, rfl⟩
        have hxm : x ∈ es := by rw [hea]; simp
        have hgx : es[qa]? = some x := by rw [hea, ← hqa]; simp
        have hk3 := hkd.out x hxm hx.1
        have hbad := hFB.out.split hea hx ha (fun h9 => by
          rcases Nat.lt_or_ge k es.length with q | q
          · exact absurd ⟨q, h9⟩ hgo
          · omega)
        rw [hqa] at hbad
        subst hbad
        subst hlv9
        subst hnn9
        have hql : qa < es.length := (List.getElem?_eq_some_iff.1 hgx).1
        have hqI : (qa : Int) < es.length := by omega
        have e1 : (0 : Int) ≤ qa ∧ (qa : Int) < es.length := by omega
        have hneg : ¬ ((qa : Int) < 0) := by omega
        obtain ⟨be, oe, rfl, hce⟩ := ed_at (HEv.out.fut REd.stays (HF3.out.trans hG.out)).rep hql
        have hxe : es[qa] = x := by
          rw [List.getElem?_eq_getElem hql] at hgx
          exact Option.some.inj hgx
        rw [hxe] at hce
        have u2 := hce 2 _ rfl
        have u3 := hce 3 _ rfl
        have FW := Lib.hid (F3.out.trans hG.out)
        clear hce hxe hgx hFB hgo hea hx ha hxm hqa
        rcases hk3 with hkx | hkx | hkx
        · have hxe9 : x.errno = 90 := by unfold Ed.errno; rw [hkx]; rfl
          rw [hxe9] at hee9
          subst hee9
          rw [hkx] at u2
          clear hxe9 hkx
          by_cases hlt : k < es.length
          · have hltI : (k : Int) < es.length := by omega
            go_wp2_with fail
            refine (lives9_any _).mono ?_
            rintro e9 w9 ⟨rfl, f9⟩
            go_wp2
            go_ret
            exact ⟨rfl, FW.out.trans f9⟩
          · have hltI : ¬ (k : Int) < es.length := by omega
            go_wp2_with fail
            refine (lives9_any _).mono ?_
            rintro e9 w9 ⟨rfl, f9⟩
            go_wp2
            go_ret
            exact ⟨rfl, FW.out.trans f9⟩
        · have hxe9 : x.errno = 91 := by unfold Ed.errno; rw [hkx]; rfl
          rw [hxe9] at hee9
          subst hee9
          rw [hkx] at u2
          clear hxe9 hkx
          by_cases hlt : k < es.length
          · have hltI : (k : Int) < es.length := by omega
            go_wp2_with fail
            refine (lives9_any _).mono ?_
            rintro e9 w9 ⟨rfl, f9⟩
            go_wp2
            go_ret
            exact ⟨rfl, FW.out.trans f9⟩
          · have hltI : ¬ (k : Int) < es.length := by omega
            go_wp2_with fail
            refine (lives9_any _).mono ?_
            rintro e9 w9 ⟨rfl, f9⟩
            go_wp2
            go_ret
            exact ⟨rfl, FW.out.trans f9⟩
        · have hxe9 : x.errno = 92 := by unfold Ed.errno; rw [hkx]; rfl
          rw [hxe9] at hee9
          subst hee9
          rw [hkx] at u2
          clear hxe9 hkx
          by_cases hlt : k < es.length
          · have hltI : (k : Int) < es.length := by omega
            go_wp2_with fail
            refine (lives9_any _).mono ?_
            rintro e9 w9 ⟨rfl, f9⟩
            go_wp2
            go_ret
            exact ⟨rfl, FW.out.trans f9⟩
          · have hltI : ¬ (k : Int) < es.length := by omega
            go_wp2_with fail
            refine (lives9_any _).mono ?_
            rintro e9 w9 ⟨rfl, f9⟩
            go_wp2
            go_ret
            exact ⟨rfl, FW.out.trans f9⟩
      · clear hAB
        obtain ⟨hnn9, hee9, hno, nf, hnf, hv⟩ := hB
        subst hnn9
        subst hee9
        have hbad := hFB.out.none hno
        subst hbad
        obtain ⟨N, hN⟩ : ∃ N, (drawP rs).sorted = N := ⟨_, rfl⟩
        have hNm := Lib.hid (show ∀ s ∈ (drawP rs).names, s ∈ N from fun s hs => by rw [← hN]; exact ((sortU_spec totS _).2 s).2 hs)
        have hUp0 : Up cmpS N := by rw [← hN]; exact (sortU_spec totS _).1
        have hUp := Lib.hid (fun (i j : Nat) (hij : i < j) (hi : i < N.length) (hj : j < N.length) => show cmpS N[i] N[j] < 0 from List.pairwise_iff_getElem.1 hUp0 i j hi hj hij)
        rw [hN] at hv
        have hfN := Lib.hid (fun e (he : e ∈ es) => hNm.out _ (hnm.out e he).1)
        have htN := Lib.hid (fun e (he : e ∈ es) => hNm.out _ (hnm.out e he).2)
        have hLv := Lib.hid hv.rep
        obtain ⟨Av, cv, rfl, hv1, hv2⟩ := hv.rep.form
        rw [List.length_map] at hLv hv1 ⊢
        replace hno := Lib.hid hno
        replace hnf := Lib.hid hnf
        have hNx : N.length ≤ 9223372036854775807 := by unfold maxLen at hv2; omega
        clear hv hN hUp0 hNm
        obtain rfl : k = es.length := by
          rcases Nat.lt_or_ge k es.length with q | q
          · exact absurd ⟨q, rfl⟩ hgo
          · omega
        have FW := Lib.hid (F3.out.trans hG.out)
        have HLq := Lib.hid (hLv.out.fut RLv.stays hG.out)
        clear hFB hgo
        go_wp2_with fail
        go_loopw [11] (fun i W => ∃ k : Nat, k ≤ N.length ∧ i = .int .i64 k ∧ Hid (Fut wq W)) (fun i _ => N.length - (intOf i).toNat)
        case atStart => exact ⟨0, Nat.zero_le _, rfl, Lib.hid (Fut.refl _)⟩
        case round =>
          obtain ⟨k, hk, rfl, hI⟩ := hrel
          obtain ⟨wz, rfl⟩ : ∃ x, x = wr := ⟨_, rfl⟩
          by_cases hlt : k < N.length
          · have hltI : (k : Int) < N.length := by omega
            have e0 : (0 : Int) ≤ k ∧ (k : Int) < N.length := by omega
            obtain ⟨bl, ol, rfl, x0, x1⟩ := lvl_at (HLq.out.fut RLv.stays hI.out) hlt
            have HRs := Lib.hid (fun (h0 : 0 < nf N[k]) W (hW : Fut wq W) => reason_any Ae (some ⟨bl, ol, none⟩) ce cv es N nf N[k] W (HEv.out.fut REd.stays ((HF3.out.trans hG.out).trans hW)).rep (HLq.out.fut RLv.stays hW) (by decide) (by decide) hel htN.out hnf.out (hbd.out nf hno.out hnf.out) h0)
            have hnb := hbd.out nf hno.out hnf.out N[k]
            have hprev : 0 < k → ∃ z, cmpS z N[k] < 0 ∧ wz.cell? ⟨bl, ol + (k - 1) * 2, none⟩ = some (.string z) := fun h0 => by
              have hk1 : k - 1 < N.length := by omega
              obtain ⟨bl', ol', hA', z0, _⟩ := lvl_at (HLq.out.fut RLv.stays hI.out) hk1
              injection hA' with hA'
              injection hA' with q1 q2 _
              subst q1; subst q2
              exact ⟨N[k - 1], hUp.out (k - 1) k (by omega) hk1 hlt, z0⟩
            generalize N[k] = s at *
            obtain ⟨m, hm⟩ : ∃ m, nf s = m := ⟨_, rfl⟩
            rw [hm] at x1 hnb
            simp only [hm] at HRs
            have FZ := Lib.hid (FW.out.trans hI.out)
            have hm0 : ¬ ((m : Int) < 0) := by omega
            rcases Nat.eq_zero_or_pos k with rfl | hkp
            · have hki : ¬ (((0 : Nat) : Int) > 0) := by omega
              rcases Nat.eq_zero_or_pos m with rfl | hmp
              · clear HRs hprev
                go_wp2_with fail
                refine wp_graph 48 [.d, .d, .d, .d, .d, .d, .d, .d, .d, .d, .d, .d, .d, .d, .d, .d, .d, .d, .d, .d, .d, .d, .d, .d, .d, .d, .d, .d, .d, .d, .d, .d, .d, .d, .d, .d, .d, .d, .d, .d, .d, .d, .d, .d, .d, .d, .d, .d] (by kernel_rfl) (by kernel_rfl) (by kernel_rfl) ?_
                simp only [List.take_succ_cons, List.take_zero, List.drop_succ_cons, List.drop_zero, Exs]
                iterate 48 apply Exists.intro
                apply Run.valG (wanted_none rfl _)
                · intro w1 h1 hk
                  have q0 := h1.cell x0; have q1 := h1.cell x1
                  have hcw := fun b o => Below.cell (p := ⟨b, o, none⟩) h1
                  go_simp; rfl
                simp only [Act.put, List.setIfInBounds_toArray, List.set_cons_succ, List.set_cons_zero, List.nil_append, List.cons_append]
                apply Run.valG (wanted_none rfl _)
                · intro w1 h1 hk
                  have q0 := h1.cell x0; have q1 := h1.cell x1
                  have hcw := fun b o => Below.cell (p := ⟨b, o, none⟩) h1
                  go_simp; rfl
                simp only [Act.put, List.setIfInBounds_toArray, List.set_cons_succ, List.set_cons_zero, List.nil_append, List.cons_append]
                apply Run.valG (wanted_none rfl _)
                · intro w1 h1 hk
                  have q0 := h1.cell x0; have q1 := h1.cell x1
                  have hcw := fun b o => Below.cell (p := ⟨b, o, none⟩) h1
                  go_simp; rfl
                simp only [Act.put, List.setIfInBounds_toArray, List.set_cons_succ, List.set_cons_zero, List.nil_append, List.cons_append]
                apply Run.skip (by first | (go_simp; done) | (go_simp; exact fun h => nomatch h))
                simp only [Act.put, List.setIfInBounds_toArray, List.set_cons_succ, List.set_cons_zero, List.nil_append, List.cons_append]
                apply Run.skip (by first | (go_simp; done) | (go_simp; exact fun h => nomatch h))
                simp only [Act.put, List.setIfInBounds_toArray, List.set_cons_succ, List.set_cons_zero, List.nil_append, List.cons_append]
                apply Run.skip (by first | (go_simp; done) | (go_simp; exact fun h => nomatch h))
                simp only [Act.put, List.setIfInBounds_toArray, List.set_cons_succ, List.set_cons_zero, List.nil_append, List.cons_append]
                apply Run.skip (by first | (go_simp; done) | (go_simp; exact fun h => nomatch h))
                simp only [Act.put, List.setIfInBounds_toArray, List.set_cons_succ, List.set_cons_zero, List.nil_append, List.cons_append]
                apply Run.skip (by first | (go_simp; done) | (go_simp; exact fun h => nomatch h))
                simp only [Act.put, List.setIfInBounds_toArray, List.set_cons_succ, List.set_cons_zero, List.nil_append, List.cons_append]
                apply Run.skip (by first | (go_simp; done) | (go_simp; exact fun h => nomatch h))
                simp only [Act.put, List.setIfInBounds_toArray, List.set_cons_succ, List.set_cons_zero, List.nil_append, List.cons_append]
                apply Run.skip (by first | (go_simp; done) | (go_simp; exact fun h => nomatch h))
                simp only [Act.put, List.setIfInBounds_toArray, List.set_cons_succ, List.set_cons_zero, List.nil_append, List.cons_append]
                apply Run.skip (by first | (go_simp; done) | (go_simp; exact fun h => nomatch h))
                simp only [Act.put, List.setIfInBounds_toArray, List.set_cons_succ, List.set_cons_zero, List.nil_append, List.cons_append]
                apply Run.skip (by first | (go_simp; done) | (go_simp; exact fun h => nomatch h))
                simp only [Act.put, List.setIfInBounds_toArray, List.set_cons_succ, List.set_cons_zero, List.nil_append, List.cons_append]
                apply Run.skip (by first | (go_simp; done) | (go_simp; exact fun h => nomatch h))
                simp only [Act.put, List.setIfInBounds_toArray, List.set_cons_succ, List.set_cons_zero, List.nil_append, List.cons_append]
                apply Run.skip (by first | (go_simp; done) | (go_simp; exact fun h => nomatch h))
                simp only [Act.put, List.setIfInBounds_toArray, List.set_cons_succ, List.set_cons_zero, List.nil_append, List.cons_append]
                apply Run.skip (by first | (go_simp; done) | (go_simp; exact fun h => nomatch h))
                simp only [Act.put, List.setIfInBounds_toArray, List.set_cons_succ, List.set_cons_zero, List.nil_append, List.cons_append]
                apply Run.valG (wanted_none rfl _)
                · intro w1 h1 hk
                  have q0 := h1.cell x0; have q1 := h1.cell x1
                  have hcw := fun b o => Below.cell (p := ⟨b, o, none⟩) h1
                  go_simp; rfl
                simp only [Act.put, List.setIfInBounds_toArray, List.set_cons_succ, List.set_cons_zero, List.nil_append, List.cons_append]
                apply Run.valG (wanted_none rfl _)
                · intro w1 h1 hk
                  have q0 := h1.cell x0; have q1 := h1.cell x1
                  have hcw := fun b o => Below.cell (p := ⟨b, o, none⟩) h1
                  go_simp; rfl
                simp only [Act.put, List.setIfInBounds_toArray, List.set_cons_succ, List.set_cons_zero, List.nil_append, List.cons_append]
                apply Run.valG (by go_simp)
                · intro w1 h1 hk
                  have q0 := h1.cell x0; have q1 := h1.cell x1
                  have hcw := fun b o => Below.cell (p := ⟨b, o, none⟩) h1
                  go_simp; rfl
                simp only [Act.put, List.setIfInBounds_toArray, List.set_cons_succ, List.set_cons_zero, List.nil_append, List.cons_append]
                apply Run.valG (by go_simp)
                · intro w1 h1 hk
                  have q0 := h1.cell x0; have q1 := h1.cell x1
                  have hcw := fun b o => Below.cell (p := ⟨b, o, none⟩) h1
                  go_simp; rfl
                simp only [Act.put, List.setIfInBounds_toArray, List.set_cons_succ, List.set_cons_zero, List.nil_append, List.cons_append]
                apply Run.valG (by go_simp)
                · intro w1 h1 hk
                  have q0 := h1.cell x0; have q1 := h1.cell x1
                  have hcw := fun b o => Below.cell (p := ⟨b, o, none⟩) h1
                  go_simp; rfl
                simp only [Act.put, List.setIfInBounds_toArray, List.set_cons_succ, List.set_cons_zero, List.nil_append, List.cons_append]
                apply Run.valG (by go_simp)
                · intro w1 h1 hk
                  have q0 := h1.cell x0; have q1 := h1.cell x1
                  have hcw := fun b o => Below.cell (p := ⟨b, o, none⟩) h1
                  go_simp; rfl
                simp only [Act.put, List.setIfInBounds_toArray, List.set_cons_succ, List.set_cons_zero, List.nil_append, List.cons_append]
                apply Run.valG (by go_simp)
                · intro w1 h1 hk
                  have q0 := h1.cell x0; have q1 := h1.cell x1
                  have hcw := fun b o => Below.cell (p := ⟨b, o, none⟩) h1
                  go_simp; rfl
                simp only [Act.put, List.setIfInBounds_toArray, List.set_cons_succ, List.set_cons_zero, List.nil_append, List.cons_append]
                apply Run.valG (by go_simp)
                · intro w1 h1 hk
                  have q0 := h1.cell x0; have q1 := h1.cell x1
                  have hcw := fun b o => Below.cell (p := ⟨b, o, none⟩) h1
                  go_simp; rfl
                simp only [Act.put, List.setIfInBounds_toArray, List.set_cons_succ, List.set_cons_zero, List.nil_append, List.cons_append]
                apply Run.valG (wanted_none rfl _)
                · intro w1 h1 hk
                  have q0 := h1.cell x0; have q1 := h1.cell x1
                  have hcw := fun b o => Below.cell (p := ⟨b, o, none⟩) h1
                  go_simp; rfl
                simp only [Act.put, List.setIfInBounds_toArray, List.set_cons_succ, List.set_cons_zero, List.nil_append, List.cons_append]
                apply Run.valG (wanted_none rfl _)
                · intro w1 h1 hk
                  have q0 := h1.cell x0; have q1 := h1.cell x1
                  have hcw := fun b o => Below.cell (p := ⟨b, o, none⟩) h1
                  go_simp; rfl
                simp only [Act.put, List.setIfInBounds_toArray, List.set_cons_succ, List.set_cons_zero, List.nil_append, List.cons_append]
                apply Run.valG (by go_simp)
                · intro w1 h1 hk
                  have q0 := h1.cell x0; have q1 := h1.cell x1
                  have hcw := fun b o => Below.cell (p := ⟨b, o, none⟩) h1
                  go_simp; rfl
                simp only [Act.put, List.setIfInBounds_toArray, List.set_cons_succ, List.set_cons_zero, List.nil_append, List.cons_append]
                apply Run.valG (by go_simp)
                · intro w1 h1 hk
                  have q0 := h1.cell x0; have q1 := h1.cell x1
                  have hcw := fun b o => Below.cell (p := ⟨b, o, none⟩) h1
                  go_simp; rfl
                simp only [Act.put, List.setIfInBounds_toArray, List.set_cons_succ, List.set_cons_zero, List.nil_append, List.cons_append]
                apply Run.valG (by go_simp)
                · intro w1 h1 hk
                  have q0 := h1.cell x0; have q1 := h1.cell x1
                  have hcw := fun b o => Below.cell (p := ⟨b, o, none⟩) h1
                  go_simp; rfl
                simp only [Act.put, List.setIfInBounds_toArray, List.set_cons_succ, List.set_cons_zero, List.nil_append, List.cons_append]
                apply Run.valG (by go_simp)
                · intro w1 h1 hk
                  have q0 := h1.cell x0; have q1 := h1.cell x1
                  have hcw := fun b o => Below.cell (p := ⟨b, o, none⟩) h1
                  go_simp; rfl
                simp only [Act.put, List.setIfInBounds_toArray, List.set_cons_succ, List.set_cons_zero, List.nil_append, List.cons_append]
                apply Run.valG (by go_simp)
                · intro w1 h1 hk
                  have q0 := h1.cell x0; have q1 := h1.cell x1
                  have hcw := fun b o => Below.cell (p := ⟨b, o, none⟩) h1
                  go_simp; rfl
                simp only [Act.put, List.setIfInBounds_toArray, List.set_cons_succ, List.set_cons_zero, List.nil_append, List.cons_append]
                apply Run.valG (by go_simp)
                · intro w1 h1 hk
                  have q0 := h1.cell x0; have q1 := h1.cell x1
                  have hcw := fun b o => Below.cell (p := ⟨b, o, none⟩) h1
                  go_simp; rfl
                simp only [Act.put, List.setIfInBounds_toArray, List.set_cons_succ, List.set_cons_zero, List.nil_append, List.cons_append]
                apply Run.valG (by go_simp)
                · intro w1 h1 hk
                  have q0 := h1.cell x0; have q1 := h1.cell x1
                  have hcw := fun b o => Below.cell (p := ⟨b, o, none⟩) h1
                  go_simp; rfl
                simp only [Act.put, List.setIfInBounds_toArray, List.set_cons_succ, List.set_cons_zero, List.nil_append, List.cons_append]
                apply Run.skip (by first | (go_simp; done) | (go_simp; exact fun h => nomatch h))
                simp only [Act.put, List.setIfInBounds_toArray, List.set_cons_succ, List.set_cons_zero, List.nil_append, List.cons_append]
                apply Run.skip (by first | (go_simp; done) | (go_simp; exact fun h => nomatch h))
                simp only [Act.put, List.setIfInBounds_toArray, List.set_cons_succ, List.set_cons_zero, List.nil_append, List.cons_append]
                apply Run.skip (by first | (go_simp; done) | (go_simp; exact fun h => nomatch h))
                simp only [Act.put, List.setIfInBounds_toArray, List.set_cons_succ, List.set_cons_zero, List.nil_append, List.cons_append]
                apply Run.skip (by first | (go_simp; done) | (go_simp; exact fun h => nomatch h))
                simp only [Act.put, List.setIfInBounds_toArray, List.set_cons_succ, List.set_cons_zero, List.nil_append, List.cons_append]
                apply Run.skip (by first | (go_simp; done) | (go_simp; exact fun h => nomatch h))
                simp only [Act.put, List.setIfInBounds_toArray, List.set_cons_succ, List.set_cons_zero, List.nil_append, List.cons_append]
                apply Run.skip (by first | (go_simp; done) | (go_simp; exact fun h => nomatch h))
                simp only [Act.put, List.setIfInBounds_toArray, List.set_cons_succ, List.set_cons_zero, List.nil_append, List.cons_append]
                apply Run.skip (by first | (go_simp; done) | (go_simp; exact fun h => nomatch h))
                simp only [Act.put, List.setIfInBounds_toArray, List.set_cons_succ, List.set_cons_zero, List.nil_append, List.cons_append]
                apply Run.skip (by first | (go_simp; done) | (go_simp; exact fun h => nomatch h))
                simp only [Act.put, List.setIfInBounds_toArray, List.set_cons_succ, List.set_cons_zero, List.nil_append, List.cons_append]
                apply Run.skip (by first | (go_simp; done) | (go_simp; exact fun h => nomatch h))
                simp only [Act.put, List.setIfInBounds_toArray, List.set_cons_succ, List.set_cons_zero, List.nil_append, List.cons_append]
                apply Run.skip (by first | (go_simp; done) | (go_simp; exact fun h => nomatch h))
                simp only [Act.put, List.setIfInBounds_toArray, List.set_cons_succ, List.set_cons_zero, List.nil_append, List.cons_append]
                apply Run.skip (by first | (go_simp; done) | (go_simp; exact fun h => nomatch h))
                simp only [Act.put, List.setIfInBounds_toArray, List.set_cons_succ, List.set_cons_zero, List.nil_append, List.cons_append]
                apply Run.skip (by first | (go_simp; done) | (go_simp; exact fun h => nomatch h))
                simp only [Act.put, List.setIfInBounds_toArray, List.set_cons_succ, List.set_cons_zero, List.nil_append, List.cons_append]
                apply Run.skip (by first | (go_simp; done) | (go_simp; exact fun h => nomatch h))
                simp only [Act.put, List.setIfInBounds_toArray, List.set_cons_succ, List.set_cons_zero, List.nil_append, List.cons_append]
                apply Run.skip (by first | (go_simp; done) | (go_simp; exact fun h => nomatch h))
                simp only [Act.put, List.setIfInBounds_toArray, List.set_cons_succ, List.set_cons_zero, List.nil_append, List.cons_append]
                apply Run.valG (by go_simp)
                · intro w1 h1 hk
                  have q0 := h1.cell x0; have q1 := h1.cell x1
                  have hcw := fun b o => Below.cell (p := ⟨b, o, none⟩) h1
                  go_simp; rfl
                simp only [Act.put, List.setIfInBounds_toArray, List.set_cons_succ, List.set_cons_zero, List.nil_append, List.cons_append]
                apply Run.valG (wanted_none rfl _)
                · intro w1 h1 hk
                  have q0 := h1.cell x0; have q1 := h1.cell x1
                  have hcw := fun b o => Below.cell (p := ⟨b, o, none⟩) h1
                  go_simp; rfl
                simp only [Act.put, List.setIfInBounds_toArray, List.set_cons_succ, List.set_cons_zero, List.nil_append, List.cons_append]
                apply Run.done
                intro w2 h2 hk
                clear hk
                have HI2 := Lib.hid (hI.out.trans ((Fut.drew _).trans h2))
                clear h2
                go_wp2
                go_roundw
                case rel => exact ⟨0 + 1, by omega, by go_num, HI2⟩
                case measure => simp [intOf] <;> omega
              · have hmI : (m : Int) > 0 := by omega
                have HR2 := Lib.hid (HRs.out hmp)
                have x2 : wz.cell? ⟨bl, ol, none⟩ = some (.string s) := by simpa using x0
                clear HRs hprev
                go_wp2_with fail
                refine wp_graph 48 [.d, .d, .d, .d, .d, .d, .d, .d, .d, .d, .d, .d, .d, .d, .d, .d, .d, .d, .d, .d, .d, .d, .d, .d, .d, .d, .d, .d, .d, .d, .d, .d, .d, .d, .d, .d, .d, .d, .d, .d, .d, .d, .d, .d, .d, .d, .d, .d] (by kernel_rfl) (by kernel_rfl) (by kernel_rfl) ?_
                simp only [List.take_succ_cons, List.take_zero, List.drop_succ_cons, List.drop_zero, Exs]
                iterate 48 apply Exists.intro
                apply Run.valG (wanted_none rfl _)
                · intro w1 h1 hk
                  have q0 := h1.cell x0; have q2 := h1.cell x2; have q1 := h1.cell x1; have hg := (hI.out.trans (Fut.drew _)).trans h1
                  have hcw := fun b o => Below.cell (p := ⟨b, o, none⟩) h1
                  go_simp; rfl
                simp only [Act.put, List.setIfInBounds_toArray, List.set_cons_succ, List.set_cons_zero, List.nil_append, List.cons_append]
                apply Run.valG (wanted_none rfl _)
                · intro w1 h1 hk
                  have q0 := h1.cell x0; have q2 := h1.cell x2; have q1 := h1.cell x1; have hg := (hI.out.trans (Fut.drew _)).trans h1
                  have hcw := fun b o => Below.cell (p := ⟨b, o, none⟩) h1
                  go_simp; rfl
                simp only [Act.put, List.setIfInBounds_toArray, List.set_cons_succ, List.set_cons_zero, List.nil_append, List.cons_append]
                apply Run.valG (wanted_none rfl _)
                · intro w1 h1 hk
                  have q0 := h1.cell x0; have q2 := h1.cell x2; have q1 := h1.cell x1; have hg := (hI.out.trans (Fut.drew _)).trans h1
                  have hcw := fun b o => Below.cell (p := ⟨b, o, none⟩) h1
                  go_simp; rfl
                simp only [Act.put, List.setIfInBounds_toArray, List.set_cons_succ, List.set_cons_zero, List.nil_append, List.cons_append]
                apply Run.skip (by first | (go_simp; done) | (go_simp; exact fun h => nomatch h))
                simp only [Act.put, List.setIfInBounds_toArray, List.set_cons_succ, List.set_cons_zero, List.nil_append, List.cons_append]
                apply Run.skip (by first | (go_simp; done) | (go_simp; exact fun h => nomatch h))
                simp only [Act.put, List.setIfInBounds_toArray, List.set_cons_succ, List.set_cons_zero, List.nil_append, List.cons_append]
                apply Run.skip (by first | (go_simp; done) | (go_simp; exact fun h => nomatch h))
                simp only [Act.put, List.setIfInBounds_toArray, List.set_cons_succ, List.set_cons_zero, List.nil_append, List.cons_append]
                apply Run.skip (by first | (go_simp; done) | (go_simp; exact fun h => nomatch h))
                simp only [Act.put, List.setIfInBounds_toArray, List.set_cons_succ, List.set_cons_zero, List.nil_append, List.cons_append]
                apply Run.skip (by first | (go_simp; done) | (go_simp; exact fun h => nomatch h))
                simp only [Act.put, List.setIfInBounds_toArray, List.set_cons_succ, List.set_cons_zero, List.nil_append, List.cons_append]
                apply Run.skip (by first | (go_simp; done) | (go_simp; exact fun h => nomatch h))
                simp only [Act.put, List.setIfInBounds_toArray, List.set_cons_succ, List.set_cons_zero, List.nil_append, List.cons_append]
                apply Run.skip (by first | (go_simp; done) | (go_simp; exact fun h => nomatch h))
                simp only [Act.put, List.setIfInBounds_toArray, List.set_cons_succ, List.set_cons_zero, List.nil_append, List.cons_append]
                apply Run.skip (by first | (go_simp; done) | (go_simp; exact fun h => nomatch h))
                simp only [Act.put, List.setIfInBounds_toArray, List.set_cons_succ, List.set_cons_zero, List.nil_append, List.cons_append]
                apply Run.skip (by first | (go_simp; done) | (go_simp; exact fun h => nomatch h))
                simp only [Act.put, List.setIfInBounds_toArray, List.set_cons_succ, List.set_cons_zero, List.nil_append, List.cons_append]
                apply Run.skip (by first | (go_simp; done) | (go_simp; exact fun h => nomatch h))
                simp only [Act.put, List.setIfInBounds_toArray, List.set_cons_succ, List.set_cons_zero, List.nil_append, List.cons_append]
                apply Run.skip (by first | (go_simp; done) | (go_simp; exact fun h => nomatch h))
                simp only [Act.put, List.setIfInBounds_toArray, List.set_cons_succ, List.set_cons_zero, List.nil_append, List.cons_append]
                apply Run.skip (by first | (go_simp; done) | (go_simp; exact fun h => nomatch h))
                simp only [Act.put, List.setIfInBounds_toArray, List.set_cons_succ, List.set_cons_zero, List.nil_append, List.cons_append]
                apply Run.valG (wanted_none rfl _)
                · intro w1 h1 hk
                  have q0 := h1.cell x0; have q2 := h1.cell x2; have q1 := h1.cell x1; have hg := (hI.out.trans (Fut.drew _)).trans h1
                  have hcw := fun b o => Below.cell (p := ⟨b, o, none⟩) h1
                  go_simp; rfl
                simp only [Act.put, List.setIfInBounds_toArray, List.set_cons_succ, List.set_cons_zero, List.nil_append, List.cons_append]
                apply Run.valG (wanted_none rfl _)
                · intro w1 h1 hk
                  have q0 := h1.cell x0; have q2 := h1.cell x2; have q1 := h1.cell x1; have hg := (hI.out.trans (Fut.drew _)).trans h1
                  have hcw := fun b o => Below.cell (p := ⟨b, o, none⟩) h1
                  go_simp; rfl
                simp only [Act.put, List.setIfInBounds_toArray, List.set_cons_succ, List.set_cons_zero, List.nil_append, List.cons_append]
                apply Run.valG (by go_simp)
                · intro w1 h1 hk
                  have q0 := h1.cell x0; have q2 := h1.cell x2; have q1 := h1.cell x1; have hg := (hI.out.trans (Fut.drew _)).trans h1
                  have hcw := fun b o => Below.cell (p := ⟨b, o, none⟩) h1
                  go_simp; rfl
                simp only [Act.put, List.setIfInBounds_toArray, List.set_cons_succ, List.set_cons_zero, List.nil_append, List.cons_append]
                apply Run.valG (by go_simp)
                · intro w1 h1 hk
                  have q0 := h1.cell x0; have q2 := h1.cell x2; have q1 := h1.cell x1; have hg := (hI.out.trans (Fut.drew _)).trans h1
                  have hcw := fun b o => Below.cell (p := ⟨b, o, none⟩) h1
                  go_simp; rfl
                simp only [Act.put, List.setIfInBounds_toArray, List.set_cons_succ, List.set_cons_zero, List.nil_append, List.cons_append]
                apply Run.valG (by go_simp)
                · intro w1 h1 hk
                  have q0 := h1.cell x0; have q2 := h1.cell x2; have q1 := h1.cell x1; have hg := (hI.out.trans (Fut.drew _)).trans h1
                  have hcw := fun b o => Below.cell (p := ⟨b, o, none⟩) h1
                  go_simp; rfl
                simp only [Act.put, List.setIfInBounds_toArray, List.set_cons_succ, List.set_cons_zero, List.nil_append, List.cons_append]
                apply Run.valG (by go_simp)
                · intro w1 h1 hk
                  have q0 := h1.cell x0; have q2 := h1.cell x2; have q1 := h1.cell x1; have hg := (hI.out.trans (Fut.drew _)).trans h1
                  have hcw := fun b o => Below.cell (p := ⟨b, o, none⟩) h1
                  go_simp; rfl
                simp only [Act.put, List.setIfInBounds_toArray, List.set_cons_succ, List.set_cons_zero, List.nil_append, List.cons_append]
                apply Run.valG (by go_simp)
                · intro w1 h1 hk
                  have q0 := h1.cell x0; have q2 := h1.cell x2; have q1 := h1.cell x1; have hg := (hI.out.trans (Fut.drew _)).trans h1
                  have hcw := fun b o => Below.cell (p := ⟨b, o, none⟩) h1
                  go_simp; rfl
                simp only [Act.put, List.setIfInBounds_toArray, List.set_cons_succ, List.set_cons_zero, List.nil_append, List.cons_append]
                apply Run.valG (by go_simp)
                · intro w1 h1 hk
                  have q0 := h1.cell x0; have q2 := h1.cell x2; have q1 := h1.cell x1; have hg := (hI.out.trans (Fut.drew _)).trans h1
                  have hcw := fun b o => Below.cell (p := ⟨b, o, none⟩) h1
                  go_simp; rfl
                simp only [Act.put, List.setIfInBounds_toArray, List.set_cons_succ, List.set_cons_zero, List.nil_append, List.cons_append]
                apply Run.valG (wanted_none rfl _)
                · intro w1 h1 hk
                  have q0 := h1.cell x0; have q2 := h1.cell x2; have q1 := h1.cell x1; have hg := (hI.out.trans (Fut.drew _)).trans h1
                  have hcw := fun b o => Below.cell (p := ⟨b, o, none⟩) h1
                  go_simp; rfl
                simp only [Act.put, List.setIfInBounds_toArray, List.set_cons_succ, List.set_cons_zero, List.nil_append, List.cons_append]
                apply Run.valG (wanted_none rfl _)
                · intro w1 h1 hk
                  have q0 := h1.cell x0; have q2 := h1.cell x2; have q1 := h1.cell x1; have hg := (hI.out.trans (Fut.drew _)).trans h1
                  have hcw := fun b o => Below.cell (p := ⟨b, o, none⟩) h1
                  go_simp; rfl
                simp only [Act.put, List.setIfInBounds_toArray, List.set_cons_succ, List.set_cons_zero, List.nil_append, List.cons_append]
                apply Run.valG (by go_simp)
                · intro w1 h1 hk
                  have q0 := h1.cell x0; have q2 := h1.cell x2; have q1 := h1.cell x1; have hg := (hI.out.trans (Fut.drew _)).trans h1
                  have hcw := fun b o => Below.cell (p := ⟨b, o, none⟩) h1
                  go_simp; rfl
                simp only [Act.put, List.setIfInBounds_toArray, List.set_cons_succ, List.set_cons_zero, List.nil_append, List.cons_append]
                apply Run.valG (by go_simp)
                · intro w1 h1 hk
                  have q0 := h1.cell x0; have q2 := h1.cell x2; have q1 := h1.cell x1; have hg := (hI.out.trans (Fut.drew _)).trans h1
                  have hcw := fun b o => Below.cell (p := ⟨b, o, none⟩) h1
                  go_simp; rfl
                simp only [Act.put, List.setIfInBounds_toArray, List.set_cons_succ, List.set_cons_zero, List.nil_append, List.cons_append]
                apply Run.valG (by go_simp)
                · intro w1 h1 hk
                  have q0 := h1.cell x0; have q2 := h1.cell x2; have q1 := h1.cell x1; have hg := (hI.out.trans (Fut.drew _)).trans h1
                  have hcw := fun b o => Below.cell (p := ⟨b, o, none⟩) h1
                  go_simp; rfl
                simp only [Act.put, List.setIfInBounds_toArray, List.set_cons_succ, List.set_cons_zero, List.nil_append, List.cons_append]
                apply Run.valG (by go_simp)
                · intro w1 h1 hk
                  have q0 := h1.cell x0; have q2 := h1.cell x2; have q1 := h1.cell x1; have hg := (hI.out.trans (Fut.drew _)).trans h1
                  have hcw := fun b o => Below.cell (p := ⟨b, o, none⟩) h1
                  go_simp; rfl
                simp only [Act.put, List.setIfInBounds_toArray, List.set_cons_succ, List.set_cons_zero, List.nil_append, List.cons_append]
                apply Run.valG (by go_simp)
                · intro w1 h1 hk
                  have q0 := h1.cell x0; have q2 := h1.cell x2; have q1 := h1.cell x1; have hg := (hI.out.trans (Fut.drew _)).trans h1
                  have hcw := fun b o => Below.cell (p := ⟨b, o, none⟩) h1
                  go_simp; rfl
                simp only [Act.put, List.setIfInBounds_toArray, List.set_cons_succ, List.set_cons_zero, List.nil_append, List.cons_append]
                apply Run.valG (by go_simp)
                · intro w1 h1 hk
                  have q0 := h1.cell x0; have q2 := h1.cell x2; have q1 := h1.cell x1; have hg := (hI.out.trans (Fut.drew _)).trans h1
                  have hcw := fun b o => Below.cell (p := ⟨b, o, none⟩) h1
                  go_simp; rfl
                simp only [Act.put, List.setIfInBounds_toArray, List.set_cons_succ, List.set_cons_zero, List.nil_append, List.cons_append]
                apply Run.valG (by go_simp)
                · intro w1 h1 hk
                  have q0 := h1.cell x0; have q2 := h1.cell x2; have q1 := h1.cell x1; have hg := (hI.out.trans (Fut.drew _)).trans h1
                  have hcw := fun b o => Below.cell (p := ⟨b, o, none⟩) h1
                  go_simp; rfl
                simp only [Act.put, List.setIfInBounds_toArray, List.set_cons_succ, List.set_cons_zero, List.nil_append, List.cons_append]
                apply Run.valG (by go_simp)
                · intro w1 h1 hk
                  have q0 := h1.cell x0; have q2 := h1.cell x2; have q1 := h1.cell x1; have hg := (hI.out.trans (Fut.drew _)).trans h1
                  have hcw := fun b o => Below.cell (p := ⟨b, o, none⟩) h1
                  go_simp; rfl
                simp only [Act.put, List.setIfInBounds_toArray, List.set_cons_succ, List.set_cons_zero, List.nil_append, List.cons_append]
                apply Run.valG (by go_simp)
                · intro w1 h1 hk
                  have q0 := h1.cell x0; have q2 := h1.cell x2; have q1 := h1.cell x1; have hg := (hI.out.trans (Fut.drew _)).trans h1
                  have hcw := fun b o => Below.cell (p := ⟨b, o, none⟩) h1
                  go_simp; rfl
                simp only [Act.put, List.setIfInBounds_toArray, List.set_cons_succ, List.set_cons_zero, List.nil_append, List.cons_append]
                apply Run.valG (by go_simp)
                · intro w1 h1 hk
                  have q0 := h1.cell x0; have q2 := h1.cell x2; have q1 := h1.cell x1; have hg := (hI.out.trans (Fut.drew _)).trans h1
                  have hcw := fun b o => Below.cell (p := ⟨b, o, none⟩) h1
                  go_simp; rfl
                simp only [Act.put, List.setIfInBounds_toArray, List.set_cons_succ, List.set_cons_zero, List.nil_append, List.cons_append]
                apply Run.valG (by go_simp)
                · intro w1 h1 hk
                  have q0 := h1.cell x0; have q2 := h1.cell x2; have q1 := h1.cell x1; have hg := (hI.out.trans (Fut.drew _)).trans h1
                  have hcw := fun b o => Below.cell (p := ⟨b, o, none⟩) h1
                  go_simp; rfl
                simp only [Act.put, List.setIfInBounds_toArray, List.set_cons_succ, List.set_cons_zero, List.nil_append, List.cons_append]
                apply Run.valG (by go_simp)
                · intro w1 h1 hk
                  have q0 := h1.cell x0; have q2 := h1.cell x2; have q1 := h1.cell x1; have hg := (hI.out.trans (Fut.drew _)).trans h1
                  have hcw := fun b o => Below.cell (p := ⟨b, o, none⟩) h1
                  go_simp; rfl
                simp only [Act.put, List.setIfInBounds_toArray, List.set_cons_succ, List.set_cons_zero, List.nil_append, List.cons_append]
                apply Run.valG (by go_simp)
                · intro w1 h1 hk
                  have q0 := h1.cell x0; have q2 := h1.cell x2; have q1 := h1.cell x1; have hg := (hI.out.trans (Fut.drew _)).trans h1
                  have hcw := fun b o => Below.cell (p := ⟨b, o, none⟩) h1
                  go_simp; rfl
                simp only [Act.put, List.setIfInBounds_toArray, List.set_cons_succ, List.set_cons_zero, List.nil_append, List.cons_append]
                apply Run.valG (by go_simp)
                · intro w1 h1 hk
                  have q0 := h1.cell x0; have q2 := h1.cell x2; have q1 := h1.cell x1; have hg := (hI.out.trans (Fut.drew _)).trans h1
                  have hcw := fun b o => Below.cell (p := ⟨b, o, none⟩) h1
                  go_simp; rfl
                simp only [Act.put, List.setIfInBounds_toArray, List.set_cons_succ, List.set_cons_zero, List.nil_append, List.cons_append]
                apply Run.valG (by go_simp)
                · intro w1 h1 hk
                  have q0 := h1.cell x0; have q2 := h1.cell x2; have q1 := h1.cell x1; have hg := (hI.out.trans (Fut.drew _)).trans h1
                  have hcw := fun b o => Below.cell (p := ⟨b, o, none⟩) h1
                  go_simp; rfl
                simp only [Act.put, List.setIfInBounds_toArray, List.set_cons_succ, List.set_cons_zero, List.nil_append, List.cons_append]
                apply Run.valG (by go_simp)
                · intro w1 h1 hk
                  have q0 := h1.cell x0; have q2 := h1.cell x2; have q1 := h1.cell x1; have hg := (hI.out.trans (Fut.drew _)).trans h1
                  have hcw := fun b o => Below.cell (p := ⟨b, o, none⟩) h1
                  go_simp; rfl
                simp only [Act.put, List.setIfInBounds_toArray, List.set_cons_succ, List.set_cons_zero, List.nil_append, List.cons_append]
                apply Run.valG (by go_simp)
                · intro w1 h1 hk
                  have q0 := h1.cell x0; have q2 := h1.cell x2; have q1 := h1.cell x1; have hg := (hI.out.trans (Fut.drew _)).trans h1
                  have hcw := fun b o => Below.cell (p := ⟨b, o, none⟩) h1
                  go_simp; rfl
                simp only [Act.put, List.setIfInBounds_toArray, List.set_cons_succ, List.set_cons_zero, List.nil_append, List.cons_append]
                apply Run.valG (by go_simp)
                · intro w1 h1 hk
                  have q0 := h1.cell x0; have q2 := h1.cell x2; have q1 := h1.cell x1; have hg := (hI.out.trans (Fut.drew _)).trans h1
                  have hcw := fun b o => Below.cell (p := ⟨b, o, none⟩) h1
                  go_simp; rfl
                simp only [Act.put, List.setIfInBounds_toArray, List.set_cons_succ, List.set_cons_zero, List.nil_append, List.cons_append]
                apply Run.valG (by go_simp)
                · intro w1 h1 hk
                  have q0 := h1.cell x0; have q2 := h1.cell x2; have q1 := h1.cell x1; have hg := (hI.out.trans (Fut.drew _)).trans h1
                  have hcw := fun b o => Below.cell (p := ⟨b, o, none⟩) h1
                  go_simp; rfl
                simp only [Act.put, List.setIfInBounds_toArray, List.set_cons_succ, List.set_cons_zero, List.nil_append, List.cons_append]
                apply Run.call (by go_simp) (fun _ _ => by go_simp; exact ⟨rfl, rfl⟩)
                · intro w1 h1 hk
                  have q0 := h1.cell x0; have q2 := h1.cell x2; have q1 := h1.cell x1; have hg := (hI.out.trans (Fut.drew _)).trans h1
                  exact HR2.out _ hg
                simp only [Act.put, List.setIfInBounds_toArray, List.set_cons_succ, List.set_cons_zero, List.nil_append, List.cons_append]
                apply Run.valG (by go_simp)
                · intro w1 h1 hk
                  have q0 := h1.cell x0; have q2 := h1.cell x2; have q1 := h1.cell x1; have hg := (hI.out.trans (Fut.drew _)).trans h1
                  have hcw := fun b o => Below.cell (p := ⟨b, o, none⟩) h1
                  go_simp; rfl
                simp only [Act.put, List.setIfInBounds_toArray, List.set_cons_succ, List.set_cons_zero, List.nil_append, List.cons_append]
                apply Run.valG (by go_simp)
                · intro w1 h1 hk
                  have q0 := h1.cell x0; have q2 := h1.cell x2; have q1 := h1.cell x1; have hg := (hI.out.trans (Fut.drew _)).trans h1
                  have hcw := fun b o => Below.cell (p := ⟨b, o, none⟩) h1
                  go_simp; rfl
                simp only [Act.put, List.setIfInBounds_toArray, List.set_cons_succ, List.set_cons_zero, List.nil_append, List.cons_append]
                apply Run.valG (wanted_none rfl _)
                · intro w1 h1 hk
                  have q0 := h1.cell x0; have q2 := h1.cell x2; have q1 := h1.cell x1; have hg := (hI.out.trans (Fut.drew _)).trans h1
                  have hcw := fun b o => Below.cell (p := ⟨b, o, none⟩) h1
                  go_simp; rfl
                simp only [Act.put, List.setIfInBounds_toArray, List.set_cons_succ, List.set_cons_zero, List.nil_append, List.cons_append]
                apply Run.done
                intro w2 h2 hk
                clear hk
                have HI2 := Lib.hid (hI.out.trans ((Fut.drew _).trans h2))
                clear h2
                go_wp2
                go_roundw
                case rel => exact ⟨0 + 1, by omega, by go_num, HI2⟩
                case measure => simp [intOf] <;> omega
            · obtain ⟨z, hz, z0⟩ := hprev hkp
              have hki : (k : Int) > 0 := by omega
              have hk1 : IntKind.i64.wrap ((k : Int) - 1) = ((k - 1 : Nat) : Int) := by rw [IntKind.wrap_i64]; omega
              have e3 : (0 : Int) ≤ ((k - 1 : Nat) : Int) ∧ ((k - 1 : Nat) : Int) < N.length := by omega
              have hl1 := less_lt hz
              have hl2 := less_ge hz
              rcases Nat.eq_zero_or_pos m with rfl | hmp
              · clear HRs hprev
                go_wp2_with fail
                refine wp_graph 48 [.d, .d, .d, .d, .d, .d, .d, .d, .d, .d, .d, .d, .d, .d, .d, .d, .d, .d, .d, .d, .d, .d, .d, .d, .d, .d, .d, .d, .d, .d, .d, .d, .d, .d, .d, .d, .d, .d, .d, .d, .d, .d, .d, .d, .d, .d, .d, .d] (by kernel_rfl) (by kernel_rfl) (by kernel_rfl) ?_
                simp only [List.take_succ_cons, List.take_zero, List.drop_succ_cons, List.drop_zero, Exs]
                iterate 48 apply Exists.intro
                apply Run.valG (wanted_none rfl _)
                · intro w1 h1 hk
                  have q0 := h1.cell x0; have q1 := h1.cell x1; have qz := h1.cell z0
                  have hcw := fun b o => Below.cell (p := ⟨b, o, none⟩) h1
                  go_simp; rfl
                simp only [Act.put, List.setIfInBounds_toArray, List.set_cons_succ, List.set_cons_zero, List.nil_append, List.cons_append]
                apply Run.valG (wanted_none rfl _)
                · intro w1 h1 hk
                  have q0 := h1.cell x0; have q1 := h1.cell x1; have qz := h1.cell z0
                  have hcw := fun b o => Below.cell (p := ⟨b, o, none⟩) h1
                  go_simp; rfl
                simp only [Act.put, List.setIfInBounds_toArray, List.set_cons_succ, List.set_cons_zero, List.nil_append, List.cons_append]
                apply Run.valG (wanted_none rfl _)
                · intro w1 h1 hk
                  have q0 := h1.cell x0; have q1 := h1.cell x1; have qz := h1.cell z0
                  have hcw := fun b o => Below.cell (p := ⟨b, o, none⟩) h1
                  go_simp; rfl
                simp only [Act.put, List.setIfInBounds_toArray, List.set_cons_succ, List.set_cons_zero, List.nil_append, List.cons_append]
                apply Run.valG (by go_simp)
                · intro w1 h1 hk
                  have q0 := h1.cell x0; have q1 := h1.cell x1; have qz := h1.cell z0
                  have hcw := fun b o => Below.cell (p := ⟨b, o, none⟩) h1
                  go_simp; rfl
                simp only [Act.put, List.setIfInBounds_toArray, List.set_cons_succ, List.set_cons_zero, List.nil_append, List.cons_append]
                apply Run.valG (by go_simp)
                · intro w1 h1 hk
                  have q0 := h1.cell x0; have q1 := h1.cell x1; have qz := h1.cell z0
                  have hcw := fun b o => Below.cell (p := ⟨b, o, none⟩) h1
                  go_simp; rfl
                simp only [Act.put, List.setIfInBounds_toArray, List.set_cons_succ, List.set_cons_zero, List.nil_append, List.cons_append]
                apply Run.valG (by go_simp)
                · intro w1 h1 hk
                  have q0 := h1.cell x0; have q1 := h1.cell x1; have qz := h1.cell z0
                  have hcw := fun b o => Below.cell (p := ⟨b, o, none⟩) h1
                  go_simp; rfl
                simp only [Act.put, List.setIfInBounds_toArray, List.set_cons_succ, List.set_cons_zero, List.nil_append, List.cons_append]
                apply Run.valG (by go_simp)
                · intro w1 h1 hk
                  have q0 := h1.cell x0; have q1 := h1.cell x1; have qz := h1.cell z0
                  have hcw := fun b o => Below.cell (p := ⟨b, o, none⟩) h1
                  go_simp; rfl
                simp only [Act.put, List.setIfInBounds_toArray, List.set_cons_succ, List.set_cons_zero, List.nil_append, List.cons_append]
                apply Run.valG (by go_simp)
                · intro w1 h1 hk
                  have q0 := h1.cell x0; have q1 := h1.cell x1; have qz := h1.cell z0
                  have hcw := fun b o => Below.cell (p := ⟨b, o, none⟩) h1
                  go_simp; rfl
                simp only [Act.put, List.setIfInBounds_toArray, List.set_cons_succ, List.set_cons_zero, List.nil_append, List.cons_append]
                apply Run.valG (by go_simp)
                · intro w1 h1 hk
                  have q0 := h1.cell x0; have q1 := h1.cell x1; have qz := h1.cell z0
                  have hcw := fun b o => Below.cell (p := ⟨b, o, none⟩) h1
                  go_simp; rfl
                simp only [Act.put, List.setIfInBounds_toArray, List.set_cons_succ, List.set_cons_zero, List.nil_append, List.cons_append]
                apply Run.valG (by go_simp)
                · intro w1 h1 hk
                  have q0 := h1.cell x0; have q1 := h1.cell x1; have qz := h1.cell z0
                  have hcw := fun b o => Below.cell (p := ⟨b, o, none⟩) h1
                  go_simp; rfl
                simp only [Act.put, List.setIfInBounds_toArray, List.set_cons_succ, List.set_cons_zero, List.nil_append, List.cons_append]
                apply Run.valG (by go_simp)
                · intro w1 h1 hk
                  have q0 := h1.cell x0; have q1 := h1.cell x1; have qz := h1.cell z0
                  have hcw := fun b o => Below.cell (p := ⟨b, o, none⟩) h1
                  go_simp; rfl
                simp only [Act.put, List.setIfInBounds_toArray, List.set_cons_succ, List.set_cons_zero, List.nil_append, List.cons_append]
                apply Run.valG (by go_simp)
                · intro w1 h1 hk
                  have q0 := h1.cell x0; have q1 := h1.cell x1; have qz := h1.cell z0
                  have hcw := fun b o => Below.cell (p := ⟨b, o, none⟩) h1
                  go_simp; rfl
                simp only [Act.put, List.setIfInBounds_toArray, List.set_cons_succ, List.set_cons_zero, List.nil_append, List.cons_append]
                apply Run.valG (by go_simp)
                · intro w1 h1 hk
                  have q0 := h1.cell x0; have q1 := h1.cell x1; have qz := h1.cell z0
                  have hcw := fun b o => Below.cell (p := ⟨b, o, none⟩) h1
                  go_simp; rfl
                simp only [Act.put, List.setIfInBounds_toArray, List.set_cons_succ, List.set_cons_zero, List.nil_append, List.cons_append]
                apply Run.valG (by go_simp)
                · intro w1 h1 hk
                  have q0 := h1.cell x0; have q1 := h1.cell x1; have qz := h1.cell z0
                  have hcw := fun b o => Below.cell (p := ⟨b, o, none⟩) h1
                  go_simp; rfl
                simp only [Act.put, List.setIfInBounds_toArray, List.set_cons_succ, List.set_cons_zero, List.nil_append, List.cons_append]
                apply Run.valG (by go_simp)
                · intro w1 h1 hk
                  have q0 := h1.cell x0; have q1 := h1.cell x1; have qz := h1.cell z0
                  have hcw := fun b o => Below.cell (p := ⟨b, o, none⟩) h1
                  go_simp; rfl
                simp only [Act.put, List.setIfInBounds_toArray, List.set_cons_succ, List.set_cons_zero, List.nil_append, List.cons_append]
                apply Run.valG (wanted_none rfl _)
                · intro w1 h1 hk
                  have q0 := h1.cell x0; have q1 := h1.cell x1; have qz := h1.cell z0
                  have hcw := fun b o => Below.cell (p := ⟨b, o, none⟩) h1
                  go_simp; rfl
                simp only [Act.put, List.setIfInBounds_toArray, List.set_cons_succ, List.set_cons_zero, List.nil_append, List.cons_append]
                apply Run.valG (wanted_none rfl _)
                · intro w1 h1 hk
                  have q0 := h1.cell x0; have q1 := h1.cell x1; have qz := h1.cell z0
                  have hcw := fun b o => Below.cell (p := ⟨b, o, none⟩) h1
                  go_simp; rfl
                simp only [Act.put, List.setIfInBounds_toArray, List.set_cons_succ, List.set_cons_zero, List.nil_append, List.cons_append]
                apply Run.valG (by go_simp)
                · intro w1 h1 hk
                  have q0 := h1.cell x0; have q1 := h1.cell x1; have qz := h1.cell z0
                  have hcw := fun b o => Below.cell (p := ⟨b, o, none⟩) h1
                  go_simp; rfl
                simp only [Act.put, List.setIfInBounds_toArray, List.set_cons_succ, List.set_cons_zero, List.nil_append, List.cons_append]
                apply Run.valG (by go_simp)
                · intro w1 h1 hk
                  have q0 := h1.cell x0; have q1 := h1.cell x1; have qz := h1.cell z0
                  have hcw := fun b o => Below.cell (p := ⟨b, o, none⟩) h1
                  go_simp; rfl
                simp only [Act.put, List.setIfInBounds_toArray, List.set_cons_succ, List.set_cons_zero, List.nil_append, List.cons_append]
                apply Run.valG (by go_simp)
                · intro w1 h1 hk
                  have q0 := h1.cell x0; have q1 := h1.cell x1; have qz := h1.cell z0
                  have hcw := fun b o => Below.cell (p := ⟨b, o, none⟩) h1
                  go_simp; rfl
                simp only [Act.put, List.setIfInBounds_toArray, List.set_cons_succ, List.set_cons_zero, List.nil_append, List.cons_append]
                apply Run.valG (by go_simp)
                · intro w1 h1 hk
                  have q0 := h1.cell x0; have q1 := h1.cell x1; have qz := h1.cell z0
                  have hcw := fun b o => Below.cell (p := ⟨b, o, none⟩) h1
                  go_simp; rfl
                simp only [Act.put, List.setIfInBounds_toArray, List.set_cons_succ, List.set_cons_zero, List.nil_append, List.cons_append]
                apply Run.valG (by go_simp)
                · intro w1 h1 hk
                  have q0 := h1.cell x0; have q1 := h1.cell x1; have qz := h1.cell z0
                  have hcw := fun b o => Below.cell (p := ⟨b, o, none⟩) h1
                  go_simp; rfl
                simp only [Act.put, List.setIfInBounds_toArray, List.set_cons_succ, List.set_cons_zero, List.nil_append, List.cons_append]
                apply Run.valG (by go_simp)
                · intro w1 h1 hk
                  have q0 := h1.cell x0; have q1 := h1.cell x1; have qz := h1.cell z0
                  have hcw := fun b o => Below.cell (p := ⟨b, o, none⟩) h1
                  go_simp; rfl
                simp only [Act.put, List.setIfInBounds_toArray, List.set_cons_succ, List.set_cons_zero, List.nil_append, List.cons_append]
                apply Run.valG (wanted_none rfl _)
                · intro w1 h1 hk
                  have q0 := h1.cell x0; have q1 := h1.cell x1; have qz := h1.cell z0
                  have hcw := fun b o => Below.cell (p := ⟨b, o, none⟩) h1
                  go_simp; rfl
                simp only [Act.put, List.setIfInBounds_toArray, List.set_cons_succ, List.set_cons_zero, List.nil_append, List.cons_append]
                apply Run.valG (wanted_none rfl _)
                · intro w1 h1 hk
                  have q0 := h1.cell x0; have q1 := h1.cell x1; have qz := h1.cell z0
                  have hcw := fun b o => Below.cell (p := ⟨b, o, none⟩) h1
                  go_simp; rfl
                simp only [Act.put, List.setIfInBounds_toArray, List.set_cons_succ, List.set_cons_zero, List.nil_append, List.cons_append]
                apply Run.valG (by go_simp)
                · intro w1 h1 hk
                  have q0 := h1.cell x0; have q1 := h1.cell x1; have qz := h1.cell z0
                  have hcw := fun b o => Below.cell (p := ⟨b, o, none⟩) h1
                  go_simp; rfl
                simp only [Act.put, List.setIfInBounds_toArray, List.set_cons_succ, List.set_cons_zero, List.nil_append, List.cons_append]
                apply Run.valG (by go_simp)
                · intro w1 h1 hk
                  have q0 := h1.cell x0; have q1 := h1.cell x1; have qz := h1.cell z0
                  have hcw := fun b o => Below.cell (p := ⟨b, o, none⟩) h1
                  go_simp; rfl
                simp only [Act.put, List.setIfInBounds_toArray, List.set_cons_succ, List.set_cons_zero, List.nil_append, List.cons_append]
                apply Run.valG (by go_simp)
                · intro w1 h1 hk
                  have q0 := h1.cell x0; have q1 := h1.cell x1; have qz := h1.cell z0
                  have hcw := fun b o => Below.cell (p := ⟨b, o, none⟩) h1
                  go_simp; rfl
                simp only [Act.put, List.setIfInBounds_toArray, List.set_cons_succ, List.set_cons_zero, List.nil_append, List.cons_append]
                apply Run.valG (by go_simp)
                · intro w1 h1 hk
                  have q0 := h1.cell x0; have q1 := h1.cell x1; have qz := h1.cell z0
                  have hcw := fun b o => Below.cell (p := ⟨b, o, none⟩) h1
                  go_simp; rfl
                simp only [Act.put, List.setIfInBounds_toArray, List.set_cons_succ, List.set_cons_zero, List.nil_append, List.cons_append]
                apply Run.valG (by go_simp)
                · intro w1 h1 hk
                  have q0 := h1.cell x0; have q1 := h1.cell x1; have qz := h1.cell z0
                  have hcw := fun b o => Below.cell (p := ⟨b, o, none⟩) h1
                  go_simp; rfl
                simp only [Act.put, List.setIfInBounds_toArray, List.set_cons_succ, List.set_cons_zero, List.nil_append, List.cons_append]
                apply Run.valG (by go_simp)
                · intro w1 h1 hk
                  have q0 := h1.cell x0; have q1 := h1.cell x1; have qz := h1.cell z0
                  have hcw := fun b o => Below.cell (p := ⟨b, o, none⟩) h1
                  go_simp; rfl
                simp only [Act.put, List.setIfInBounds_toArray, List.set_cons_succ, List.set_cons_zero, List.nil_append, List.cons_append]
                apply Run.valG (by go_simp)
                · intro w1 h1 hk
                  have q0 := h1.cell x0; have q1 := h1.cell x1; have qz := h1.cell z0
                  have hcw := fun b o => Below.cell (p := ⟨b, o, none⟩) h1
                  go_simp; rfl
                simp only [Act.put, List.setIfInBounds_toArray, List.set_cons_succ, List.set_cons_zero, List.nil_append, List.cons_append]
                apply Run.skip (by first | (go_simp; done) | (go_simp; exact fun h => nomatch h))
                simp only [Act.put, List.setIfInBounds_toArray, List.set_cons_succ, List.set_cons_zero, List.nil_append, List.cons_append]
                apply Run.skip (by first | (go_simp; done) | (go_simp; exact fun h => nomatch h))
                simp only [Act.put, List.setIfInBounds_toArray, List.set_cons_succ, List.set_cons_zero, List.nil_append, List.cons_append]
                apply Run.skip (by first | (go_simp; done) | (go_simp; exact fun h => nomatch h))
                simp only [Act.put, List.setIfInBounds_toArray, List.set_cons_succ, List.set_cons_zero, List.nil_append, List.cons_append]
                apply Run.skip (by first | (go_simp; done) | (go_simp; exact fun h => nomatch h))
                simp only [Act.put, List.setIfInBounds_toArray, List.set_cons_succ, List.set_cons_zero, List.nil_append, List.cons_append]
                apply Run.skip (by first | (go_simp; done) | (go_simp; exact fun h => nomatch h))
                simp only [Act.put, List.setIfInBounds_toArray, List.set_cons_succ, List.set_cons_zero, List.nil_append, List.cons_append]
                apply Run.skip (by first | (go_simp; done) | (go_simp; exact fun h => nomatch h))
                simp only [Act.put, List.setIfInBounds_toArray, List.set_cons_succ, List.set_cons_zero, List.nil_append, List.cons_append]
                apply Run.skip (by first | (go_simp; done) | (go_simp; exact fun h => nomatch h))
                simp only [Act.put, List.setIfInBounds_toArray, List.set_cons_succ, List.set_cons_zero, List.nil_append, List.cons_append]
                apply Run.skip (by first | (go_simp; done) | (go_simp; exact fun h => nomatch h))
                simp only [Act.put, List.setIfInBounds_toArray, List.set_cons_succ, List.set_cons_zero, List.nil_append, List.cons_append]
                apply Run.skip (by first | (go_simp; done) | (go_simp; exact fun h => nomatch h))
                simp only [Act.put, List.setIfInBounds_toArray, List.set_cons_succ, List.set_cons_zero, List.nil_append, List.cons_append]
                apply Run.skip (by first | (go_simp; done) | (go_simp; exact fun h => nomatch h))
                simp only [Act.put, List.setIfInBounds_toArray, List.set_cons_succ, List.set_cons_zero, List.nil_append, List.cons_append]
                apply Run.skip (by first | (go_simp; done) | (go_simp; exact fun h => nomatch h))
                simp only [Act.put, List.setIfInBounds_toArray, List.set_cons_succ, List.set_cons_zero, List.nil_append, List.cons_append]
                apply Run.skip (by first | (go_simp; done) | (go_simp; exact fun h => nomatch h))
                simp only [Act.put, List.setIfInBounds_toArray, List.set_cons_succ, List.set_cons_zero, List.nil_append, List.cons_append]
                apply Run.skip (by first | (go_simp; done) | (go_simp; exact fun h => nomatch h))
                simp only [Act.put, List.setIfInBounds_toArray, List.set_cons_succ, List.set_cons_zero, List.nil_append, List.cons_append]
                apply Run.skip (by first | (go_simp; done) | (go_simp; exact fun h => nomatch h))
                simp only [Act.put, List.setIfInBounds_toArray, List.set_cons_succ, List.set_cons_zero, List.nil_append, List.cons_append]
                apply Run.valG (by go_simp)
                · intro w1 h1 hk
                  have q0 := h1.cell x0; have q1 := h1.cell x1; have qz := h1.cell z0
                  have hcw := fun b o => Below.cell (p := ⟨b, o, none⟩) h1
                  go_simp; rfl
                simp only [Act.put, List.setIfInBounds_toArray, List.set_cons_succ, List.set_cons_zero, List.nil_append, List.cons_append]
                apply Run.valG (wanted_none rfl _)
                · intro w1 h1 hk
                  have q0 := h1.cell x0; have q1 := h1.cell x1; have qz := h1.cell z0
                  have hcw := fun b o => Below.cell (p := ⟨b, o, none⟩) h1
                  go_simp; rfl
                simp only [Act.put, List.setIfInBounds_toArray, List.set_cons_succ, List.set_cons_zero, List.nil_append, List.cons_append]
                apply Run.done
                intro w2 h2 hk
                clear hk
                have HI2 := Lib.hid (hI.out.trans ((Fut.drew _).trans h2))
                clear h2
                go_wp2
                go_roundw
                case rel => exact ⟨k + 1, by omega, by go_num, HI2⟩
                case measure => simp [intOf] <;> omega
              · have hmI : (m : Int) > 0 := by omega
                have HR2 := Lib.hid (HRs.out hmp)
                clear HRs hprev
                go_wp2_with fail
                refine wp_graph 48 [.d, .d, .d, .d, .d, .d, .d, .d, .d, .d, .d, .d, .d, .d, .d, .d, .d, .d, .d, .d, .d, .d, .d, .d, .d, .d, .d, .d, .d, .d, .d, .d, .d, .d, .d, .d, .d, .d, .d, .d, .d, .d, .d, .d, .d, .d, .d, .d] (by kernel_rfl) (by kernel_rfl) (by kernel_rfl) ?_
                simp only [List.take_succ_cons, List.take_zero, List.drop_succ_cons, List.drop_zero, Exs]
                iterate 48 apply Exists.intro
                apply Run.valG (wanted_none rfl _)
                · intro w1 h1 hk
                  have q0 := h1.cell x0; have q1 := h1.cell x1; have qz := h1.cell z0; have hg := (hI.out.trans (Fut.drew _)).trans h1
                  have hcw := fun b o => Below.cell (p := ⟨b, o, none⟩) h1
                  go_simp; rfl
                simp only [Act.put, List.setIfInBounds_toArray, List.set_cons_succ, List.set_cons_zero, List.nil_append, List.cons_append]
                apply Run.valG (wanted_none rfl _)
                · intro w1 h1 hk
                  have q0 := h1.cell x0; have q1 := h1.cell x1; have qz := h1.cell z0; have hg := (hI.out.trans (Fut.drew _)).trans h1
                  have hcw := fun b o => Below.cell (p := ⟨b, o, none⟩) h1
                  go_simp; rfl
                simp only [Act.put, List.setIfInBounds_toArray, List.set_cons_succ, List.set_cons_zero, List.nil_append, List.cons_append]
                apply Run.valG (wanted_none rfl _)
                · intro w1 h1 hk
                  have q0 := h1.cell x0; have q1 := h1.cell x1; have qz := h1.cell z0; have hg := (hI.out.trans (Fut.drew _)).trans h1
                  have hcw := fun b o => Below.cell (p := ⟨b, o, none⟩) h1
                  go_simp; rfl
                simp only [Act.put, List.setIfInBounds_toArray, List.set_cons_succ, List.set_cons_zero, List.nil_append, List.cons_append]
                apply Run.valG (by go_simp)
                · intro w1 h1 hk
                  have q0 := h1.cell x0; have q1 := h1.cell x1; have qz := h1.cell z0; have hg := (hI.out.trans (Fut.drew _)).trans h1
                  have hcw := fun b o => Below.cell (p := ⟨b, o, none⟩) h1
                  go_simp; rfl
                simp only [Act.put, List.setIfInBounds_toArray, List.set_cons_succ, List.set_cons_zero, List.nil_append, List.cons_append]
                apply Run.valG (by go_simp)
                · intro w1 h1 hk
                  have q0 := h1.cell x0; have q1 := h1.cell x1; have qz := h1.cell z0; have hg := (hI.out.trans (Fut.drew _)).trans h1
                  have hcw := fun b o => Below.cell (p := ⟨b, o, none⟩) h1
                  go_simp; rfl
                simp only [Act.put, List.setIfInBounds_toArray, List.set_cons_succ, List.set_cons_zero, List.nil_append, List.cons_append]
                apply Run.valG (by go_simp)
                · intro w1 h1 hk
                  have q0 := h1.cell x0; have q1 := h1.cell x1; have qz := h1.cell z0; have hg := (hI.out.trans (Fut.drew _)).trans h1
                  have hcw := fun b o => Below.cell (p := ⟨b, o, none⟩) h1
                  go_simp; rfl
                simp only [Act.put, List.setIfInBounds_toArray, List.set_cons_succ, List.set_cons_zero, List.nil_append, List.cons_append]
                apply Run.valG (by go_simp)
                · intro w1 h1 hk
                  have q0 := h1.cell x0; have q1 := h1.cell x1; have qz := h1.cell z0; have hg := (hI.out.trans (Fut.drew _)).trans h1
                  have hcw := fun b o => Below.cell (p := ⟨b, o, none⟩) h1
                  go_simp; rfl
                simp only [Act.put, List.setIfInBounds_toArray, List.set_cons_succ, List.set_cons_zero, List.nil_append, List.cons_append]
                apply Run.valG (by go_simp)
                · intro w1 h1 hk
                  have q0 := h1.cell x0; have q1 := h1.cell x1; have qz := h1.cell z0; have hg := (hI.out.trans (Fut.drew _)).trans h1
                  have hcw := fun b o => Below.cell (p := ⟨b, o, none⟩) h1
                  go_simp; rfl
                simp only [Act.put, List.setIfInBounds_toArray, List.set_cons_succ, List.set_cons_zero, List.nil_append, List.cons_append]
                apply Run.valG (by go_simp)
                · intro w1 h1 hk
                  have q0 := h1.cell x0; have q1 := h1.cell x1; have qz := h1.cell z0; have hg := (hI.out.trans (Fut.drew _)).trans h1
                  have hcw := fun b o => Below.cell (p := ⟨b, o, none⟩) h1
                  go_simp; rfl
                simp only [Act.put, List.setIfInBounds_toArray, List.set_cons_succ, List.set_cons_zero, List.nil_append, List.cons_append]
                apply Run.valG (by go_simp)
                · intro w1 h1 hk
                  have q0 := h1.cell x0; have q1 := h1.cell x1; have qz := h1.cell z0; have hg := (hI.out.trans (Fut.drew _)).trans h1
                  have hcw := fun b o => Below.cell (p := ⟨b, o, none⟩) h1
                  go_simp; rfl
                simp only [Act.put, List.setIfInBounds_toArray, List.set_cons_succ, List.set_cons_zero, List.nil_append, List.cons_append]
                apply Run.valG (by go_simp)
                · intro w1 h1 hk
                  have q0 := h1.cell x0; have q1 := h1.cell x1; have qz := h1.cell z0; have hg := (hI.out.trans (Fut.drew _)).trans h1
                  have hcw := fun b o => Below.cell (p := ⟨b, o, none⟩) h1
                  go_simp; rfl
                simp only [Act.put, List.setIfInBounds_toArray, List.set_cons_succ, List.set_cons_zero, List.nil_append, List.cons_append]
                apply Run.valG (by go_simp)
                · intro w1 h1 hk
                  have q0 := h1.cell x0; have q1 := h1.cell x1; have qz := h1.cell z0; have hg := (hI.out.trans (Fut.drew _)).trans h1
                  have hcw := fun b o => Below.cell (p := ⟨b, o, none⟩) h1
                  go_simp; rfl
                simp only [Act.put, List.setIfInBounds_toArray, List.set_cons_succ, List.set_cons_zero, List.nil_append, List.cons_append]
                apply Run.valG (by go_simp)
                · intro w1 h1 hk
                  have q0 := h1.cell x0; have q1 := h1.cell x1; have qz := h1.cell z0; have hg := (hI.out.trans (Fut.drew _)).trans h1
                  have hcw := fun b o => Below.cell (p := ⟨b, o, none⟩) h1
                  go_simp; rfl
                simp only [Act.put, List.setIfInBounds_toArray, List.set_cons_succ, List.set_cons_zero, List.nil_append, List.cons_append]
                apply Run.valG (by go_simp)
                · intro w1 h1 hk
                  have q0 := h1.cell x0; have q1 := h1.cell x1; have qz := h1.cell z0; have hg := (hI.out.trans (Fut.drew _)).trans h1
                  have hcw := fun b o => Below.cell (p := ⟨b, o, none⟩) h1
                  go_simp; rfl
                simp only [Act.put, List.setIfInBounds_toArray, List.set_cons_succ, List.set_cons_zero, List.nil_append, List.cons_append]
                apply Run.valG (by go_simp)
                · intro w1 h1 hk
                  have q0 := h1.cell x0; have q1 := h1.cell x1; have qz := h1.cell z0; have hg := (hI.out.trans (Fut.drew _)).trans h1
                  have hcw := fun b o => Below.cell (p := ⟨b, o, none⟩) h1
                  go_simp; rfl
                simp only [Act.put, List.setIfInBounds_toArray, List.set_cons_succ, List.set_cons_zero, List.nil_append, List.cons_append]
                apply Run.valG (wanted_none rfl _)
                · intro w1 h1 hk
                  have q0 := h1.cell x0; have q1 := h1.cell x1; have qz := h1.cell z0; have hg := (hI.out.trans (Fut.drew _)).trans h1
                  have hcw := fun b o => Below.cell (p := ⟨b, o, none⟩) h1
                  go_simp; rfl
                simp only [Act.put, List.setIfInBounds_toArray, List.set_cons_succ, List.set_cons_zero, List.nil_append, List.cons_append]
                apply Run.valG (wanted_none rfl _)
                · intro w1 h1 hk
                  have q0 := h1.cell x0; have q1 := h1.cell x1; have qz := h1.cell z0; have hg := (hI.out.trans (Fut.drew _)).trans h1
                  have hcw := fun b o => Below.cell (p := ⟨b, o, none⟩) h1
                  go_simp; rfl
                simp only [Act.put, List.setIfInBounds_toArray, List.set_cons_succ, List.set_cons_zero, List.nil_append, List.cons_append]
                apply Run.valG (by go_simp)
                · intro w1 h1 hk
                  have q0 := h1.cell x0; have q1 := h1.cell x1; have qz := h1.cell z0; have hg := (hI.out.trans (Fut.drew _)).trans h1
                  have hcw := fun b o => Below.cell (p := ⟨b, o, none⟩) h1
                  go_simp; rfl
                simp only [Act.put, List.setIfInBounds_toArray, List.set_cons_succ, List.set_cons_zero, List.nil_append, List.cons_append]
                apply Run.valG (by go_simp)
                · intro w1 h1 hk
                  have q0 := h1.cell x0; have q1 := h1.cell x1; have qz := h1.cell z0; have hg := (hI.out.trans (Fut.drew _)).trans h1
                  have hcw := fun b o => Below.cell (p := ⟨b, o, none⟩) h1
                  go_simp; rfl
                simp only [Act.put, List.setIfInBounds_toArray, List.set_cons_succ, List.set_cons_zero, List.nil_append, List.cons_append]
                apply Run.valG (by go_simp)
                · intro w1 h1 hk
                  have q0 := h1.cell x0; have q1 := h1.cell x1; have qz := h1.cell z0; have hg := (hI.out.trans (Fut.drew _)).trans h1
                  have hcw := fun b o => Below.cell (p := ⟨b, o, none⟩) h1
                  go_simp; rfl
                simp only [Act.put, List.setIfInBounds_toArray, List.set_cons_succ, List.set_cons_zero, List.nil_append, List.cons_append]
                apply Run.valG (by go_simp)
                · intro w1 h1 hk
                  have q0 := h1.cell x0; have q1 := h1.cell x1; have qz := h1.cell z0; have hg := (hI.out.trans (Fut.drew _)).trans h1
                  have hcw := fun b o => Below.cell (p := ⟨b, o, none⟩) h1
                  go_simp; rfl
                simp only [Act.put, List.setIfInBounds_toArray, List.set_cons_succ, List.set_cons_zero, List.nil_append, List.cons_append]
                apply Run.valG (by go_simp)
                · intro w1 h1 hk
                  have q0 := h1.cell x0; have q1 := h1.cell x1; have qz := h1.cell z0; have hg := (hI.out.trans (Fut.drew _)).trans h1
                  have hcw := fun b o => Below.cell (p := ⟨b, o, none⟩) h1
                  go_simp; rfl
                simp only [Act.put, List.setIfInBounds_toArray, List.set_cons_succ, List.set_cons_zero, List.nil_append, List.cons_append]
                apply Run.valG (by go_simp)
                · intro w1 h1 hk
                  have q0 := h1.cell x0; have q1 := h1.cell x1; have qz := h1.cell z0; have hg := (hI.out.trans (Fut.drew _)).trans h1
                  have hcw := fun b o => Below.cell (p := ⟨b, o, none⟩) h1
                  go_simp; rfl
                simp only [Act.put, List.setIfInBounds_toArray, List.set_cons_succ, List.set_cons_zero, List.nil_append, List.cons_append]
                apply Run.valG (wanted_none rfl _)
                · intro w1 h1 hk
                  have q0 := h1.cell x0; have q1 := h1.cell x1; have qz := h1.cell z0; have hg := (hI.out.trans (Fut.drew _)).trans h1
                  have hcw := fun b o => Below.cell (p := ⟨b, o, none⟩) h1
                  go_simp; rfl
                simp only [Act.put, List.setIfInBounds_toArray, List.set_cons_succ, List.set_cons_zero, List.nil_append, List.cons_append]
                apply Run.valG (wanted_none rfl _)
                · intro w1 h1 hk
                  have q0 := h1.cell x0; have q1 := h1.cell x1; have qz := h1.cell z0; have hg := (hI.out.trans (Fut.drew _)).trans h1
                  have hcw := fun b o => Below.cell (p := ⟨b, o, none⟩) h1
                  go_simp; rfl
                simp only [Act.put, List.setIfInBounds_toArray, List.set_cons_succ, List.set_cons_zero, List.nil_append, List.cons_append]
                apply Run.valG (by go_simp)
                · intro w1 h1 hk
                  have q0 := h1.cell x0; have q1 := h1.cell x1; have qz := h1.cell z0; have hg := (hI.out.trans (Fut.drew _)).trans h1
                  have hcw := fun b o => Below.cell (p := ⟨b, o, none⟩) h1
                  go_simp; rfl
                simp only [Act.put, List.setIfInBounds_toArray, List.set_cons_succ, List.set_cons_zero, List.nil_append, List.cons_append]
                apply Run.valG (by go_simp)
                · intro w1 h1 hk
                  have q0 := h1.cell x0; have q1 := h1.cell x1; have qz := h1.cell z0; have hg := (hI.out.trans (Fut.drew _)).trans h1
                  have hcw := fun b o => Below.cell (p := ⟨b, o, none⟩) h1
                  go_simp; rfl
                simp only [Act.put, List.setIfInBounds_toArray, List.set_cons_succ, List.set_cons_zero, List.nil_append, List.cons_append]
                apply Run.valG (by go_simp)
                · intro w1 h1 hk
                  have q0 := h1.cell x0; have q1 := h1.cell x1; have qz := h1.cell z0; have hg := (hI.out.trans (Fut.drew _)).trans h1
                  have hcw := fun b o => Below.cell (p := ⟨b, o, none⟩) h1
                  go_simp; rfl
                simp only [Act.put, List.setIfInBounds_toArray, List.set_cons_succ, List.set_cons_zero, List.nil_append, List.cons_append]
                apply Run.valG (by go_simp)
                · intro w1 h1 hk
                  have q0 := h1.cell x0; have q1 := h1.cell x1; have qz := h1.cell z0; have hg := (hI.out.trans (Fut.drew _)).trans h1
                  have hcw := fun b o => Below.cell (p := ⟨b, o, none⟩) h1
                  go_simp; rfl
                simp only [Act.put, List.setIfInBounds_toArray, List.set_cons_succ, List.set_cons_zero, List.nil_append, List.cons_append]
                apply Run.valG (by go_simp)
                · intro w1 h1 hk
                  have q0 := h1.cell x0; have q1 := h1.cell x1; have qz := h1.cell z0; have hg := (hI.out.trans (Fut.drew _)).trans h1
                  have hcw := fun b o => Below.cell (p := ⟨b, o, none⟩) h1
                  go_simp; rfl
                simp only [Act.put, List.setIfInBounds_toArray, List.set_cons_succ, List.set_cons_zero, List.nil_append, List.cons_append]
                apply Run.valG (by go_simp)
                · intro w1 h1 hk
                  have q0 := h1.cell x0; have q1 := h1.cell x1; have qz := h1.cell z0; have hg := (hI.out.trans (Fut.drew _)).trans h1
                  have hcw := fun b o => Below.cell (p := ⟨b, o, none⟩) h1
                  go_simp; rfl
                simp only [Act.put, List.setIfInBounds_toArray, List.set_cons_succ, List.set_cons_zero, List.nil_append, List.cons_append]
                apply Run.valG (by go_simp)
                · intro w1 h1 hk
                  have q0 := h1.cell x0; have q1 := h1.cell x1; have qz := h1.cell z0; have hg := (hI.out.trans (Fut.drew _)).trans h1
                  have hcw := fun b o => Below.cell (p := ⟨b, o, none⟩) h1
                  go_simp; rfl
                simp only [Act.put, List.setIfInBounds_toArray, List.set_cons_succ, List.set_cons_zero, List.nil_append, List.cons_append]
                apply Run.valG (by go_simp)
                · intro w1 h1 hk
                  have q0 := h1.cell x0; have q1 := h1.cell x1; have qz := h1.cell z0; have hg := (hI.out.trans (Fut.drew _)).trans h1
                  have hcw := fun b o => Below.cell (p := ⟨b, o, none⟩) h1
                  go_simp; rfl
                simp only [Act.put, List.setIfInBounds_toArray, List.set_cons_succ, List.set_cons_zero, List.nil_append, List.cons_append]
                apply Run.valG (by go_simp)
                · intro w1 h1 hk
                  have q0 := h1.cell x0; have q1 := h1.cell x1; have qz := h1.cell z0; have hg := (hI.out.trans (Fut.drew _)).trans h1
                  have hcw := fun b o => Below.cell (p := ⟨b, o, none⟩) h1
                  go_simp; rfl
                simp only [Act.put, List.setIfInBounds_toArray, List.set_cons_succ, List.set_cons_zero, List.nil_append, List.cons_append]
                apply Run.valG (by go_simp)
                · intro w1 h1 hk
                  have q0 := h1.cell x0; have q1 := h1.cell x1; have qz := h1.cell z0; have hg := (hI.out.trans (Fut.drew _)).trans h1
                  have hcw := fun b o => Below.cell (p := ⟨b, o, none⟩) h1
                  go_simp; rfl
                simp only [Act.put, List.setIfInBounds_toArray, List.set_cons_succ, List.set_cons_zero, List.nil_append, List.cons_append]
                apply Run.valG (by go_simp)
                · intro w1 h1 hk
                  have q0 := h1.cell x0; have q1 := h1.cell x1; have qz := h1.cell z0; have hg := (hI.out.trans (Fut.drew _)).trans h1
                  have hcw := fun b o => Below.cell (p := ⟨b, o, none⟩) h1
                  go_simp; rfl
                simp only [Act.put, List.setIfInBounds_toArray, List.set_cons_succ, List.set_cons_zero, List.nil_append, List.cons_append]
                apply Run.valG (by go_simp)
                · intro w1 h1 hk
                  have q0 := h1.cell x0; have q1 := h1.cell x1; have qz := h1.cell z0; have hg := (hI.out.trans (Fut.drew _)).trans h1
                  have hcw := fun b o => Below.cell (p := ⟨b, o, none⟩) h1
                  go_simp; rfl
                simp only [Act.put, List.setIfInBounds_toArray, List.set_cons_succ, List.set_cons_zero, List.nil_append, List.cons_append]
                apply Run.valG (by go_simp)
                · intro w1 h1 hk
                  have q0 := h1.cell x0; have q1 := h1.cell x1; have qz := h1.cell z0; have hg := (hI.out.trans (Fut.drew _)).trans h1
                  have hcw := fun b o => Below.cell (p := ⟨b, o, none⟩) h1
                  go_simp; rfl
                simp only [Act.put, List.setIfInBounds_toArray, List.set_cons_succ, List.set_cons_zero, List.nil_append, List.cons_append]
                apply Run.valG (by go_simp)
                · intro w1 h1 hk
                  have q0 := h1.cell x0; have q1 := h1.cell x1; have qz := h1.cell z0; have hg := (hI.out.trans (Fut.drew _)).trans h1
                  have hcw := fun b o => Below.cell (p := ⟨b, o, none⟩) h1
                  go_simp; rfl
                simp only [Act.put, List.setIfInBounds_toArray, List.set_cons_succ, List.set_cons_zero, List.nil_append, List.cons_append]
                apply Run.valG (by go_simp)
                · intro w1 h1 hk
                  have q0 := h1.cell x0; have q1 := h1.cell x1; have qz := h1.cell z0; have hg := (hI.out.trans (Fut.drew _)).trans h1
                  have hcw := fun b o => Below.cell (p := ⟨b, o, none⟩) h1
                  go_simp; rfl
                simp only [Act.put, List.setIfInBounds_toArray, List.set_cons_succ, List.set_cons_zero, List.nil_append, List.cons_append]
                apply Run.valG (by go_simp)
                · intro w1 h1 hk
                  have q0 := h1.cell x0; have q1 := h1.cell x1; have qz := h1.cell z0; have hg := (hI.out.trans (Fut.drew _)).trans h1
                  have hcw := fun b o => Below.cell (p := ⟨b, o, none⟩) h1
                  go_simp; rfl
                simp only [Act.put, List.setIfInBounds_toArray, List.set_cons_succ, List.set_cons_zero, List.nil_append, List.cons_append]
                apply Run.valG (by go_simp)
                · intro w1 h1 hk
                  have q0 := h1.cell x0; have q1 := h1.cell x1; have qz := h1.cell z0; have hg := (hI.out.trans (Fut.drew _)).trans h1
                  have hcw := fun b o => Below.cell (p := ⟨b, o, none⟩) h1
                  go_simp; rfl
                simp only [Act.put, List.setIfInBounds_toArray, List.set_cons_succ, List.set_cons_zero, List.nil_append, List.cons_append]
                apply Run.valG (by go_simp)
                · intro w1 h1 hk
                  have q0 := h1.cell x0; have q1 := h1.cell x1; have qz := h1.cell z0; have hg := (hI.out.trans (Fut.drew _)).trans h1
                  have hcw := fun b o => Below.cell (p := ⟨b, o, none⟩) h1
                  go_simp; rfl
                simp only [Act.put, List.setIfInBounds_toArray, List.set_cons_succ, List.set_cons_zero, List.nil_append, List.cons_append]
                apply Run.valG (by go_simp)
                · intro w1 h1 hk
                  have q0 := h1.cell x0; have q1 := h1.cell x1; have qz := h1.cell z0; have hg := (hI.out.trans (Fut.drew _)).trans h1
                  have hcw := fun b o => Below.cell (p := ⟨b, o, none⟩) h1
                  go_simp; rfl
                simp only [Act.put, List.setIfInBounds_toArray, List.set_cons_succ, List.set_cons_zero, List.nil_append, List.cons_append]
                apply Run.call (by go_simp) (fun _ _ => by go_simp; exact ⟨rfl, rfl⟩)
                · intro w1 h1 hk
                  have q0 := h1.cell x0; have q1 := h1.cell x1; have qz := h1.cell z0; have hg := (hI.out.trans (Fut.drew _)).trans h1
                  exact HR2.out _ hg
                simp only [Act.put, List.setIfInBounds_toArray, List.set_cons_succ, List.set_cons_zero, List.nil_append, List.cons_append]
                apply Run.valG (by go_simp)
                · intro w1 h1 hk
                  have q0 := h1.cell x0; have q1 := h1.cell x1; have qz := h1.cell z0; have hg := (hI.out.trans (Fut.drew _)).trans h1
                  have hcw := fun b o => Below.cell (p := ⟨b, o, none⟩) h1
                  go_simp; rfl
                simp only [Act.put, List.setIfInBounds_toArray, List.set_cons_succ, List.set_cons_zero, List.nil_append, List.cons_append]
                apply Run.valG (by go_simp)
                · intro w1 h1 hk
                  have q0 := h1.cell x0; have q1 := h1.cell x1; have qz := h1.cell z0; have hg := (hI.out.trans (Fut.drew _)).trans h1
                  have hcw := fun b o => Below.cell (p := ⟨b, o, none⟩) h1
                  go_simp; rfl
                simp only [Act.put, List.setIfInBounds_toArray, List.set_cons_succ, List.set_cons_zero, List.nil_append, List.cons_append]
                apply Run.valG (wanted_none rfl _)
                · intro w1 h1 hk
                  have q0 := h1.cell x0; have q1 := h1.cell x1; have qz := h1.cell z0; have hg := (hI.out.trans (Fut.drew _)).trans h1
                  have hcw := fun b o => Below.cell (p := ⟨b, o, none⟩) h1
                  go_simp; rfl
                simp only [Act.put, List.setIfInBounds_toArray, List.set_cons_succ, List.set_cons_zero, List.nil_append, List.cons_append]
                apply Run.done
                intro w2 h2 hk
                clear hk
                have HI2 := Lib.hid (hI.out.trans ((Fut.drew _).trans h2))
                clear h2
                go_wp2
                go_roundw
                case rel => exact ⟨k + 1, by omega, by go_num, HI2⟩
                case measure => simp [intOf] <;> omega
          · obtain rfl : k = N.length := by omega
            have FZ := Lib.hid (FW.out.trans hI.out)
            have HLz := Lib.hid (HLq.out.fut RLv.stays hI.out)
            go_wp2_with fail
            go_loopw [12, 13, 14, 15, 16] (fun i _ _ _ _ W => ∃ k : Nat, k ≤ es.length ∧ i = .int .i64 k ∧ Hid (W = wz)) (fun i _ _ _ _ _ => es.length - (intOf i).toNat)
            case atStart => exact ⟨0, Nat.zero_le _, rfl, Lib.hid rfl⟩
            case round =>
              obtain ⟨k, hk, rfl, hW⟩ := hrel
              obtain rfl := hW.out
              by_cases hlt : k < es.length
              · have hltI : (k : Int) < es.length := by omega
                have e0 : (0 : Int) ≤ k ∧ (k : Int) < es.length := by omega
                obtain ⟨be, oe, rfl, hce⟩ := ed_at (HEv.out.fut REd.stays ((HF3.out.trans hG.out).trans hI.out)).rep hlt
                have hmem := List.getElem_mem hlt
                generalize es[k] = e at *
                have u0 : wr.cell? ⟨be, oe + k * 4, none⟩ = some (.string e.f) := hce 0 _ rfl
                have u1 := hce 1 _ rfl
                have u2 := hce 2 _ rfl
                have HL1 := Lib.hid (level_any e.f Av cv N nf wr HLz.out (by decide) (hfN.out e hmem))
                have HL2 := Lib.hid (level_any e.t Av cv N nf wr HLz.out (by decide) (htN.out e hmem))
                have hho := hnf.out.1 e hmem
                have hup : e.up = if e.strict = true then 1 else 0 := rfl
                clear hce hmem
                generalize nf e.f = mf at *
                generalize nf e.t = mt at *
                have hlt2 : ¬ ((mf : Int) < (mt : Int)) := by omega
                by_cases heq : mf = mt
                · have hnst : ¬ e.strict = true := fun h9 => by
                    rw [if_pos h9] at hup
                    omega
                  have hk1 : e.k = 1 := by
                    refine Decidable.byContradiction fun h9 => hnst ?_
                    unfold Ed.strict
                    rw [decide_eq_false h9]; rfl
                  rw [hk1] at u2
                  subst heq
                  have heb : ((mf : Int) == (mf : Int)) = true := by simp
                  clear hup hnst hho
                  go_wp2_with fail
                  refine HL1.out.mono ?_
                  rintro e8 w8 ⟨rfl, rfl⟩
                  go_wp2_with fail
                  refine HL2.out.mono ?_
                  rintro e8 w8 ⟨rfl, rfl⟩
                  go_wp2
                  go_roundw
                  case rel => exact ⟨k + 1, by omega, by go_num, (by first | exact Lib.hid trivial | exact Lib.hid rfl)⟩
                  case measure => simp [intOf] <;> omega
                · have heb : ((mf : Int) == (mt : Int)) = false := by rw [beq_eq_false_iff_ne]; omega
                  clear hup hho
                  go_wp2_with fail
                  refine HL1.out.mono ?_
                  rintro e8 w8 ⟨rfl, rfl⟩
                  go_wp2_with fail
                  refine HL2.out.mono ?_
                  rintro e8 w8 ⟨rfl, rfl⟩
                  go_wp2
                  go_roundw
                  case rel => exact ⟨k + 1, by omega, by go_num, (by first | exact Lib.hid trivial | exact Lib.hid rfl)⟩
                  case measure => simp [intOf] <;> omega
              · obtain rfl : k = es.length := by omega
                go_wp2_with fail
                refine (lives9_any _).mono ?_
                rintro e8 w8 ⟨rfl, f8⟩
                go_wp2
                go_ret
                exact ⟨rfl, FZ.out.trans f8⟩
end Go.Proofs.YtackadhamghblaaGreat
/- The law DependLeast holds: the levels are least. No condition. -/
namespace Go.Proofs.YtackadhamghblaaGreat
open Go.RowKit Go.ChangeShapes Go.WideShapes Go.ChangeAt Go.ChangeMaps
set_option linter.unusedSimpArgs false
set_option linter.unusedVariables false
set_option maxRecDepth 100000

theorem DependLeast_own : ownKnob Tryz.prog.godebug = none := by kernel_rfl
theorem DependLeast_laidOut : laidOutB Tryz.prog = true := by kernel_rfl
theorem DependLeast_row_walk {H : Type} {enc : TypeId × Value → H} (W : World) (base : Nat) (args : Array Value) (ds : List (DataW H)) (p : List MemPlace)
    (hval : ∀ (j : Nat) t v, (#[22] : Array Nat)[j]? = some t → args[j]? = some v → Value.okWide Tryz.prog W .any base t v)
    (hA : DataW.TrodAll enc Tryz.prog W 0 (fun _ => true) true [22] args.toList ds p) (hS : (DataW.weightsEach Tryz.prog [22] ds).all (fun n => decide (n ≤ reachBytes)) = true) :
    Calls Tryz.prog 3 args W fun e W' => e = .returned (.bool true) ∧ Fut W W' := by
  obtain ⟨v0, vs0, d0, ds0, p0, q0, hargs, rfl, rfl, h0, r0⟩ := trodAll_cons hA
  obtain ⟨rfl, rfl, rfl⟩ := trodAll_nil r0
  obtain rfl : args = #[v0] := by cases args; simp_all
  have k0 := hval 0 22 v0 rfl rfl
  have s0 := weights_arg hS 0 rfl rfl
  clear hval hA hS
  obtain ⟨l, hl⟩ := reads_arg rRus h0 s0
  have hl := arg_slice hl Tryz.underlying22 k0
  exact least_any _ l W hl (by decide)
set_option maxRecDepth 100000 in
theorem DependLeast_lifted (os : Os) (started : os.Started) (H : Type) (enc : TypeId × Value → H) :
    ReturnsInHanded {} Tryz.checked os 3 .any (Rows.dependLeastSpec.pre6 enc Tryz.prog Tryz.f3 Rows.dependLeastRow.domain false) (Rows.dependLeastSpec.post enc Tryz.prog Tryz.f3 false true false false) := by
  refine returnsInHanded_of_change_sized (C := Tryz.checked) DependLeast_own started (by kernel_rfl) Tryz.func3
    (ChangeSpec.witness6 (enc := enc) (C := Tryz.checked) false ⟨#[], #[.slice none 0 0], []⟩ 8 (by kernel_rfl) (by kernel_rfl) (by kernel_rfl) (by kernel_rfl)) ?_
  intro W base args ds gs before hval0 hW _ hsz _
  have hW' := hW
  obtain ⟨p, q, hA0, hV, rfl, _, _⟩ := hW
  have hA : DataW.TrodAll enc Tryz.prog W 0 (fun _ => true) true [22] args.toList ds p := hA0
  obtain ⟨rfl, rfl⟩ := trodVars_none hV
  rw [List.append_nil] at hsz
  refine (DependLeast_row_walk W base args ds p hval0 hA hsz).mono fun e W' ⟨he, hf⟩ => ?_
  subst he
  obtain ⟨v0, vs0, d0, ds0, p0, q0, _, rfl, _, _, r0⟩ := trodAll_cons hA
  obtain ⟨_, rfl, _⟩ := trodAll_nil r0
  exact ⟨_, rfl, law_post (tb := 4) DependLeast_laidOut hW' rfl (by kernel_rfl) rfl Tryz.underlying4 rfl rfl rfl hf⟩
theorem DependLeast_holds : Rows.DependLeastSaid :=
  OpenClaim.holds_of_wide 3 Tryz.f3 rfl rfl rfl rfl rfl rfl rfl ⟨rfl, rfl, rfl, rfl, rfl⟩ rfl rfl rfl rfl rfl (by kernel_rfl) Tryz.func3 (by kernel_rfl)
    (of_decide_eq_true (by kernel_rfl)) (by unfold Func.isWrapper; first | (rw [if_pos (by decide +kernel)]; kernel_rfl) | (rw [if_neg (by decide +kernel)]; exact ⟨rfl, rfl⟩))
    (fun os started H enc _ => DependLeast_lifted os started H enc)
#print axioms DependLeast_holds
end Go.Proofs.YtackadhamghblaaGreat
