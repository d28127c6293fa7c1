/- SortG, CmpGr, SortLay, SortX -/
import Derived.Shelf.SlSortCmp.Whole1
import Derived.Shelf.SlSortCmp.WholeK
import Derived.Ground.SlsfProg
import Derived.Test.YtkdnplebgmmclaaProg
import Derived.Shelf.SlSortCmp.NoneTotal
import Derived.Test.YtkdnplebgmmclaaC06
/- slices.SortFunc of lists of tuples, of lists of facts: what the row holds behind it. Generic in the program. -/
namespace Go.Proofs.Ytkdnplebgmmclaa
open Go.RowKit Go.Sort Go.Shelf
set_option linter.unusedSimpArgs false
set_option linter.unusedVariables false

/-- A list of the call's own that is not empty: its row. -/
theorem own_row {α : Type} {sz B : Nat} {e : TypeId} {R : World → List Value → α → Prop} {w : World} {v : Value} {xs : List α} (h : OwnL sz B e R w v xs) (hne : xs ≠ []) :
    ∃ g cap, ∃ css : List (List Value), v = .slice (some ⟨g, 0, none⟩) xs.length cap ∧ xs.length ≤ cap ∧ cap ≤ maxLen ∧ B ≤ g ∧ g < w.heap.size ∧ css.length = xs.length ∧ (∀ (i : Nat) (cs : List Value) (x : α), css[i]? = some cs → xs[i]? = some x → cs.length = sz ∧ R w cs x) ∧
      (∀ j u, css.flatten[j]? = some u → w.cell? ⟨g, j, none⟩ = some u ∧ w.frozen? ⟨g, j, none⟩ = false) := by
  obtain ⟨css, h1, h2, h3, h4⟩ := h
  rcases h4 with ⟨_, h5⟩ | ⟨g, cap, cur, rfl, a2, a3, a4, a5, a6, a7⟩
  · exact absurd (List.length_eq_zero_iff.1 h5) hne
  · refine ⟨g, cap, css, rfl, a4, a5, a2, lt_of_block a3, h1, h2, fun j u hj => ⟨?_, by simp [World.frozen?, a3]⟩⟩
    rw [← a7, List.getElem?_take] at hj
    split at hj
    · simp [World.cell?, a3]; simpa using hj
    · cases hj

theorem pull_swo {α β : Type} {c : β → β → Int} (h : TotC c) (f : α → β) : SWO (ltOf fun x y : α => c (f x) (f y)) where
  irrefl x := h.swo.irrefl (f x)
  trans x y z := h.swo.trans (f x) (f y) (f z)
  ntrans x y z := h.swo.ntrans (f x) (f y) (f z)

set_option maxHeartbeats 1000000 in
theorem sort_tups {P : Program} {ρ : Ren} (L : SlLaysF.n6 P ρ) {e : TypeId} (g : Nat) (eg : ∀ args w, (callFunc g args).run P w = .ok (.enter g args) w) (c : List V → List V → Int) (hT : TotC c)
    (hc : ∀ (a b : Value) (xs ys : List V) (W : World), Vals W a xs → Vals W b ys → Calls P g #[a, b] W fun x W' => x = .returned (.int .i64 (c xs ys)) ∧ Gr.Fut W W')
    (w w1 : World) (hw : Fut w w1) (t : Value) (ts : List (List V)) (h : OwnL 1 w.heap.size e (fun _ => RT w) w1 t ts) (hne : ts ≠ []) (hlen : ts.length < 4611686018427387904) :
    Calls P (ρ.f 6) #[t, .func (.func g) #[] #[]] w1 fun x w2 => x = .returned (.tuple #[]) ∧ ∃ ts' : List (List V), ts'.Perm ts ∧ Sorted c ts' ∧ Tups w2 t ts' ∧ Fut w w2 := by
  obtain ⟨blk, cap, css, rfl, hcl, hcm, hB, hlt, hcs, hel, hcells⟩ := own_row h hne
  have hvs : ∀ i (hi : i < css.length), ∃ v, css[i] = [v] ∧ ∃ h' : i < ts.length, Vals w v ts[i] := fun i hi => by
    obtain ⟨_, v, h1, h2⟩ := hel i _ _ (List.getElem?_eq_getElem hi) (List.getElem?_eq_getElem (by omega))
    exact ⟨v, h1, _, h2⟩
  obtain ⟨d, hd1, hd2⟩ := zip_sub (p := fun q : Value × List V => Vals w q.1 q.2) (css.map fun cs => cs.headD undef) ts (by simp [hcs]) fun i v x hi hx => by
    have hil : i < css.length := by have := (List.getElem?_eq_some_iff.1 hi).1; simpa using this
    obtain ⟨v', h1, h', h2⟩ := hvs i hil
    simp only [List.getElem?_map, List.getElem?_eq_getElem hil, Option.map_some, Option.some.injEq] at hi
    rw [List.getElem?_eq_getElem h'] at hx
    rw [← hi, ← Option.some.inj hx, h1]
    exact h2
  have hdl : d.length = ts.length := by rw [← hd2, List.length_map]
  have hfl : css.flatten = d.map fun q => q.1.1 := by
    rw [hd1]
    have : ∀ l : List (List Value), (∀ cs ∈ l, ∃ v, cs = [v]) → l.flatten = l.map fun cs => cs.headD undef := fun l hl => by
      induction l with
      | nil => rfl
      | cons a r ih =>
        obtain ⟨v, hv⟩ := hl a (by simp)
        rw [List.flatten_cons, ih fun cs hcs => hl cs (by simp [hcs]), hv]; rfl
    refine this css fun cs hcs' => ?_
    obtain ⟨i, hi⟩ := List.getElem?_of_mem hcs'
    have hil := (List.getElem?_eq_some_iff.1 hi).1
    obtain ⟨v, h1, _⟩ := hvs i hil
    rw [List.getElem?_eq_getElem hil] at hi
    exact ⟨v, by rw [← Option.some.inj hi, h1]⟩
  cases d with
  | nil => exact absurd (List.length_eq_zero_iff.1 hdl.symm) hne
  | cons d0 dr =>
  haveI : Inhabited {q : Value × List V // Vals w q.1 q.2} := ⟨d0⟩
  generalize d0 :: dr = d at hd1 hd2 hdl hfl
  have hsz : d.toArray.size = ts.length := by simpa using hdl
  have hone : OneCell (fun q : {q : Value × List V // Vals w q.1 q.2} => q.1.1) := fun q => by
    obtain ⟨⟨v, x⟩, hq⟩ := q
    obtain ⟨A, cp, hv, _⟩ := SlRep.form hq
    simp only at hv ⊢
    rw [hv]; rfl
  have hH : Holds (fun q : {q : Value × List V // Vals w q.1 q.2} => q.1.1) w1 blk 0 d.toArray := fun j hj => by
    have hj' : j < d.length := by simpa using hj
    have := hcells j (d[j].1.1) (by rw [hfl, List.getElem?_map, List.getElem?_eq_getElem hj']; rfl)
    rw [Nat.zero_add, getElem!_pos d.toArray j hj]
    simpa using this
  have hbw : w.heap.size ≤ w1.heap.size := hw.size
  have hS := Any.slices_SortFunc L (fun q : {q : Value × List V // Vals w q.1 q.2} => q.1.1) hone (fun x y => c x.1.2 y.1.2) (pull_swo hT fun q : {q : Value × List V // Vals w q.1 q.2} => q.1.2) g #[] blk 0 cap d.toArray w1 eg
    (fun m os dk hdk x y => by
      have F : Fut w (sortWorld (fun q : {q : Value × List V // Vals w q.1 q.2} => q.1.1) w1 blk 0 m dk os) := fut_sort hw _ _ _ _ _ _ hB
      have := hc x.1.1 y.1.1 x.1.2 y.1.2 _ (x.2.fut RV.stays F) (y.2.fut RV.stays F)
      rw [Array.append_empty]
      exact this) hH hlt (by rw [hsz]; exact hlen)
  rw [hsz] at hS
  refine hS.mono ?_
  rintro x w2 ⟨rfl, d', n, os, hp, hs, rfl⟩
  have hperm := perm_of_in (hsz ▸ hp)
  have hd'l : d'.size = ts.length := by have := hperm.length_eq; simpa [hdl] using this
  refine ⟨rfl, d'.toList.map fun q => q.1.2, ?_, ?_, ?_, fut_sort hw _ _ _ _ _ _ hB⟩
  · have := hperm.map fun q => q.1.2
    simpa [hd2] using this
  · exact sorted_of_in (f := fun q : {q : Value × List V // Vals w q.1 q.2} => q.1.2) hs hd'l
  · have hh := holds_sortWorld (fun q : {q : Value × List V // Vals w q.1 q.2} => q.1.1) w1 blk 0 n d.toArray d' os hlt hH (by rw [hd'l, hsz])
    have hml : (d'.toList.map fun q => q.1.2).length = ts.length := by simp [hd'l]
    refine ⟨some ⟨blk, 0, none⟩, cap, by rw [hml], by rw [hml]; exact hcl, by unfold maxLen at hcm; omega, fun i x hx => ?_⟩
    have hil : i < d'.size := by have := (List.getElem?_eq_some_iff.1 hx).1; simpa using this
    refine ⟨blk, 0, [d'[i]!.1.1], rfl, rfl, fun j u hj => ?_, _, rfl, ?_⟩
    · have hj0 : j = 0 := by
        have := (List.getElem?_eq_some_iff.1 hj).1
        simp at this; omega
      subst hj0
      simp only [List.getElem?_cons_zero, Option.some.injEq] at hj
      subst hj
      have := (hh i hil).1
      simpa using this
    · have he : x = d'[i]!.1.2 := by
        rw [getElem!_pos d' i hil]
        simp [List.getElem?_map, hil] at hx
        exact hx.symm
      rw [he]
      exact d'[i]!.2.fut RV.stays (fut_sort hw _ _ _ _ _ _ hB)

set_option maxHeartbeats 1000000 in
theorem sort_facs {P : Program} {ρ : Ren} (L : SlLaysF0.n6 P ρ) (aE : ∀ w, (isAgg (ρ.t 24)).run P w = .ok true w) (zE : ∀ w, (Go.sizeOf (ρ.t 24)).run P w = .ok 2 w) {e : TypeId} (g : Nat) (eg : ∀ args w, (callFunc g args).run P w = .ok (.enter g args) w) (c : Fc → Fc → Int) (hT : TotC c)
    (hc : ∀ (a b : Value) (xs ys : Fc) (W : World), Vals W a xs.a → Vals W b ys.a → Calls P g #[.agg #[.string xs.p, a], .agg #[.string ys.p, b]] W fun x W' => x = .returned (.int .i64 (c xs ys)) ∧ Gr.Fut W W')
    (w w1 : World) (hw : Fut w w1) (t : Value) (ts : List Fc) (h : OwnL 2 w.heap.size e (fun _ => RG w) w1 t ts) (hne : ts ≠ []) (hlen : ts.length < 4611686018427387904) :
    Calls P (ρ.f 6) #[t, .func (.func g) #[] #[]] w1 fun x w2 => x = .returned (.tuple #[]) ∧ ∃ ts' : List Fc, ts'.Perm ts ∧ Sorted c ts' ∧ FacsG w2 t ts' ∧ Fut w w2 := by
  obtain ⟨blk, cap, css, rfl, hcl, hcm, hB, hlt, hcs, hel, hcells⟩ := own_row h hne
  have hvs : ∀ i (hi : i < css.length), ∃ v, ∃ h' : i < ts.length, css[i] = [.string (ts[i]).p, v] ∧ (ts[i]).p.size ≤ 140737488351232 ∧ Vals w v (ts[i]).a := fun i hi => by
    obtain ⟨_, v, h1, h2, h3⟩ := hel i _ _ (List.getElem?_eq_getElem hi) (List.getElem?_eq_getElem (by omega))
    exact ⟨v, _, h1, h2, h3⟩
  obtain ⟨d, hd1, hd2⟩ := zip_sub (p := fun q : Value × Fc => q.2.p.size ≤ 140737488351232 ∧ Vals w q.1 q.2.a) (css.map fun cs => cs.getD 1 undef) ts (by simp [hcs]) fun i v x hi hx => by
    have hil : i < css.length := by have := (List.getElem?_eq_some_iff.1 hi).1; simpa using this
    obtain ⟨v', h', h1, h2⟩ := hvs i hil
    simp only [List.getElem?_map, List.getElem?_eq_getElem hil, Option.map_some, Option.some.injEq] at hi
    rw [List.getElem?_eq_getElem h'] at hx
    rw [← hi, ← Option.some.inj hx, h1]
    exact h2
  have hdl : d.length = ts.length := by rw [← hd2, List.length_map]
  have hcd : ∀ i (hi : i < d.length), css[i]? = some [.string (d[i]).1.2.p, (d[i]).1.1] := fun i hi => by
    obtain ⟨v, h', h1, _⟩ := hvs i (by omega)
    rw [List.getElem?_eq_getElem (by omega), h1]
    have e1 : (d.map fun q => q.1.1)[i]? = (css.map fun cs => cs.getD 1 undef)[i]? := by rw [hd1]
    have e2 : (d.map fun q => q.1.2)[i]? = ts[i]? := by rw [hd2]
    rw [List.getElem?_map, List.getElem?_eq_getElem hi, List.getElem?_eq_getElem h'] at e2
    rw [List.getElem?_map, List.getElem?_map, List.getElem?_eq_getElem hi, List.getElem?_eq_getElem (by omega), h1] at e1
    simp only [Option.map_some, Option.some.injEq] at e1 e2
    rw [e1, e2]; rfl
  cases d with
  | nil => exact absurd (List.length_eq_zero_iff.1 hdl.symm) hne
  | cons d0 dr =>
  haveI : Inhabited {q : Value × Fc // q.2.p.size ≤ 140737488351232 ∧ Vals w q.1 q.2.a} := ⟨d0⟩
  generalize d0 :: dr = d at hd1 hd2 hdl hcd
  have hsz : d.toArray.size = ts.length := by simpa using hdl
  obtain ⟨enc, henc⟩ : ∃ enc : {q : Value × Fc // q.2.p.size ≤ 140737488351232 ∧ Vals w q.1 q.2.a} → List Value, enc = fun q => [.string q.1.2.p, q.1.1] := ⟨_, rfl⟩
  have hk2 : ∀ x, (enc x).length = 2 := fun x => by rw [henc]; rfl
  have hone : ∀ x, ∀ v ∈ enc x, v.oneCell' = true := fun q v hv => by
    obtain ⟨⟨u, x⟩, hq⟩ := q
    obtain ⟨A, cp, hu, _⟩ := SlRep.form hq.2
    rw [henc] at hv
    simp only at hv hu
    simp only [List.mem_cons, List.not_mem_nil, or_false] at hv
    rcases hv with rfl | rfl
    · rfl
    · rw [hu]; rfl
  have hs2 : ∀ (i : Nat) (cs : List Value), css[i]? = some cs → cs.length = 2 := fun i cs hi => by
    have hil := (List.getElem?_eq_some_iff.1 hi).1
    exact (hel i cs _ hi (List.getElem?_eq_getElem (by omega))).1
  have hH : HoldsK enc 2 w1 blk 0 d.toArray := fun j hj => by
    rw [size_flatK] at hj
    rw [get_flatK enc 2 d.toArray j hj]
    have hj' : j < d.length * 2 := by simpa using hj
    have hq := hcd (j / 2) (by omega)
    have hdj : d.toArray[j / 2]! = d[j / 2]'(by omega) := by rw [getElem!_pos d.toArray (j / 2) (by simp; omega)]; simp
    rw [hdj]
    have hr : (enc (d[j / 2]'(by omega)))[j % 2]? = some ((enc (d[j / 2]'(by omega)))[j % 2]!) := by
      have h2 : j % 2 < (enc (d[j / 2]'(by omega))).length := by rw [hk2]; omega
      rw [List.getElem?_eq_getElem h2, getElem!_pos (enc (d[j / 2]'(by omega))) (j % 2) h2]
    rw [henc] at hr
    have hf := flatten_at hs2 (j / 2) (j % 2) _ _ hq hr
    rw [show j / 2 * 2 + j % 2 = j by omega] at hf
    have := hcells j _ hf
    rw [Nat.zero_add, henc]
    exact this
  have hbw : w.heap.size ≤ w1.heap.size := hw.size
  have hS := AnyQ.slices_SortFunc L 2 aE zE enc hk2 hone (fun x y => c x.1.2 y.1.2) (pull_swo hT fun q : {q : Value × Fc // q.2.p.size ≤ 140737488351232 ∧ Vals w q.1 q.2.a} => q.1.2) g #[] blk 0 cap d.toArray w1 eg
    (fun m os dk hdk x y => by
      have F : Fut w (sortWorldK enc 2 w1 blk 0 m dk os) := fut_sortK hw _ _ _ _ _ _ _ hB
      have := hc x.1.1 y.1.1 x.1.2 y.1.2 _ (x.2.2.fut RV.stays F) (y.2.2.fut RV.stays F)
      rw [show (enc x).toArray = #[.string x.1.2.p, x.1.1] by rw [henc], show (enc y).toArray = #[.string y.1.2.p, y.1.1] by rw [henc], Array.append_empty]
      exact this) hH hlt (by rw [hsz]; exact hlen)
  rw [hsz] at hS
  refine hS.mono ?_
  rintro x w2 ⟨rfl, d', n, os, hp, hs, rfl⟩
  have hperm := perm_of_in (hsz ▸ hp)
  have hd'l : d'.size = ts.length := by have := hperm.length_eq; simpa [hdl] using this
  refine ⟨rfl, d'.toList.map fun q => q.1.2, ?_, ?_, ?_, fut_sortK hw _ _ _ _ _ _ _ hB⟩
  · have := hperm.map fun q => q.1.2
    simpa [hd2] using this
  · exact sorted_of_in (f := fun q : {q : Value × Fc // q.2.p.size ≤ 140737488351232 ∧ Vals w q.1 q.2.a} => q.1.2) hs hd'l
  · have hh := holdsK_sortWorldK_c enc 2 w1 blk 0 d.toArray d' n os hH hlt (by rw [hd'l, hsz])
    have hml : (d'.toList.map fun q => q.1.2).length = ts.length := by simp [hd'l]
    refine ⟨some ⟨blk, 0, none⟩, cap, by rw [hml], by rw [hml]; exact hcl, by unfold maxLen at hcm; omega, fun i x hx => ?_⟩
    have hil : i < d'.size := by have := (List.getElem?_eq_some_iff.1 hx).1; simpa using this
    have he : x = d'[i]!.1.2 := by
      rw [getElem!_pos d' i hil]
      simp [List.getElem?_map, hil] at hx
      exact hx.symm
    refine ⟨blk, 0, enc d'[i]!, rfl, hk2 _, fun j u hj => ?_, d'[i]!.1.1, by rw [henc, he], by rw [he]; exact d'[i]!.2.1, by rw [he]; exact d'[i]!.2.2.fut RV.stays (fut_sortK hw _ _ _ _ _ _ _ hB)⟩
    have hjl : j < 2 := by rw [← hk2 d'[i]!]; exact (List.getElem?_eq_some_iff.1 hj).1
    have h1 := (hh (i * 2 + j) (by rw [size_flatK]; omega)).1
    rw [get_flatK enc 2 d' (i * 2 + j) (by omega), show (i * 2 + j) / 2 = i by omega, show (i * 2 + j) % 2 = j by omega] at h1
    rw [h1, ← hj]
    have h2 : j < (enc d'[i]!).length := by rw [hk2]; exact hjl
    rw [List.getElem?_eq_getElem h2, getElem!_pos (enc d'[i]!) j h2]
    rfl
end Go.Proofs.Ytkdnplebgmmclaa
/- The comparisons, for the sort: they make blocks of their own and turn nothing. -/
namespace Go.Proofs.Ytkdnplebgmmclaa.Gr
open Go.RowKit
set_option linter.unusedSimpArgs false
set_option linter.unusedVariables false

set_option maxHeartbeats 400000 in
theorem compare_gr (x y : V) (w : World) :
    Calls Try.prog 91 #[x.val, y.val] w fun e w' => e = .returned (.int .i64 (cmpV x y)) ∧ Fut w w' := by
  obtain ⟨k, n, s⟩ := x
  obtain ⟨k', n', s'⟩ := y
  unfold V.val
  go_enter Try.func91, Try.ntmps91
  go_wp2
  refine wp_graph 18 [.d, .d, .d, .d, .d, .d, .d, .d, .d, .d, .d, .d, .d, .d, .d, .r (fun v w => SlRep 1 17592186044416 RI w v [cmpI k k', cmpI n n', cmpS s s']), .d, .d] (by kernel_rfl) (by kernel_rfl) (by kernel_rfl) ?_
  simp only [List.take_succ_cons, List.take_zero, List.drop_succ_cons, List.drop_zero, Exs]
  iterate 17 apply Exists.intro
  apply Run.valG (wanted_none rfl _)
  · intro w1 h1 hk
    have cx_0_0 : w1.cell? ⟨w.heap.size, 0, none⟩ = some (.int .i8 k) := Fut.cell h1 (by first | exact c0_0_0 | go_simp)
    have cx_0_1 : w1.cell? ⟨w.heap.size, 1, none⟩ = some (.int .i64 n) := Fut.cell h1 (by first | exact c0_0_1 | go_simp)
    have cx_0_2 : w1.cell? ⟨w.heap.size, 2, none⟩ = some (.string s) := Fut.cell h1 (by first | exact c0_0_2 | go_simp)
    have cx_1_0 : w1.cell? ⟨w.heap.size + 1, 0, none⟩ = some (.int .i8 k') := Fut.cell h1 (by first | exact c0_1_0 | go_simp)
    have cx_1_1 : w1.cell? ⟨w.heap.size + 1, 1, none⟩ = some (.int .i64 n') := Fut.cell h1 (by first | exact c0_1_1 | go_simp)
    have cx_1_2 : w1.cell? ⟨w.heap.size + 1, 2, none⟩ = some (.string s') := Fut.cell h1 (by first | exact c0_1_2 | go_simp)
    go_simp; rfl
  simp only [Act.put, List.setIfInBounds_toArray, List.set_cons_succ, List.set_cons_zero, List.nil_append, List.cons_append]
  apply Run.valG (wanted_none rfl _)
  · intro w1 h1 hk
    have cx_0_0 : w1.cell? ⟨w.heap.size, 0, none⟩ = some (.int .i8 k) := Fut.cell h1 (by first | exact c0_0_0 | go_simp)
    have cx_0_1 : w1.cell? ⟨w.heap.size, 1, none⟩ = some (.int .i64 n) := Fut.cell h1 (by first | exact c0_0_1 | go_simp)
    have cx_0_2 : w1.cell? ⟨w.heap.size, 2, none⟩ = some (.string s) := Fut.cell h1 (by first | exact c0_0_2 | go_simp)
    have cx_1_0 : w1.cell? ⟨w.heap.size + 1, 0, none⟩ = some (.int .i8 k') := Fut.cell h1 (by first | exact c0_1_0 | go_simp)
    have cx_1_1 : w1.cell? ⟨w.heap.size + 1, 1, none⟩ = some (.int .i64 n') := Fut.cell h1 (by first | exact c0_1_1 | go_simp)
    have cx_1_2 : w1.cell? ⟨w.heap.size + 1, 2, none⟩ = some (.string s') := Fut.cell h1 (by first | exact c0_1_2 | go_simp)
    go_simp; rfl
  simp only [Act.put, List.setIfInBounds_toArray, List.set_cons_succ, List.set_cons_zero, List.nil_append, List.cons_append]
  apply Run.valG (wanted_none rfl _)
  · intro w1 h1 hk
    have cx_0_0 : w1.cell? ⟨w.heap.size, 0, none⟩ = some (.int .i8 k) := Fut.cell h1 (by first | exact c0_0_0 | go_simp)
    have cx_0_1 : w1.cell? ⟨w.heap.size, 1, none⟩ = some (.int .i64 n) := Fut.cell h1 (by first | exact c0_0_1 | go_simp)
    have cx_0_2 : w1.cell? ⟨w.heap.size, 2, none⟩ = some (.string s) := Fut.cell h1 (by first | exact c0_0_2 | go_simp)
    have cx_1_0 : w1.cell? ⟨w.heap.size + 1, 0, none⟩ = some (.int .i8 k') := Fut.cell h1 (by first | exact c0_1_0 | go_simp)
    have cx_1_1 : w1.cell? ⟨w.heap.size + 1, 1, none⟩ = some (.int .i64 n') := Fut.cell h1 (by first | exact c0_1_1 | go_simp)
    have cx_1_2 : w1.cell? ⟨w.heap.size + 1, 2, none⟩ = some (.string s') := Fut.cell h1 (by first | exact c0_1_2 | go_simp)
    go_simp; rfl
  simp only [Act.put, List.setIfInBounds_toArray, List.set_cons_succ, List.set_cons_zero, List.nil_append, List.cons_append]
  apply Run.valG (wanted_none rfl _)
  · intro w1 h1 hk
    have cx_0_0 : w1.cell? ⟨w.heap.size, 0, none⟩ = some (.int .i8 k) := Fut.cell h1 (by first | exact c0_0_0 | go_simp)
    have cx_0_1 : w1.cell? ⟨w.heap.size, 1, none⟩ = some (.int .i64 n) := Fut.cell h1 (by first | exact c0_0_1 | go_simp)
    have cx_0_2 : w1.cell? ⟨w.heap.size, 2, none⟩ = some (.string s) := Fut.cell h1 (by first | exact c0_0_2 | go_simp)
    have cx_1_0 : w1.cell? ⟨w.heap.size + 1, 0, none⟩ = some (.int .i8 k') := Fut.cell h1 (by first | exact c0_1_0 | go_simp)
    have cx_1_1 : w1.cell? ⟨w.heap.size + 1, 1, none⟩ = some (.int .i64 n') := Fut.cell h1 (by first | exact c0_1_1 | go_simp)
    have cx_1_2 : w1.cell? ⟨w.heap.size + 1, 2, none⟩ = some (.string s') := Fut.cell h1 (by first | exact c0_1_2 | go_simp)
    go_simp; rfl
  simp only [Act.put, List.setIfInBounds_toArray, List.set_cons_succ, List.set_cons_zero, List.nil_append, List.cons_append]
  apply Run.call (wanted_none rfl _) (fun _ _ => by go_simp; exact ⟨rfl, rfl⟩)
  · intro w1 h1 hk
    have cx_0_0 : w1.cell? ⟨w.heap.size, 0, none⟩ = some (.int .i8 k) := Fut.cell h1 (by first | exact c0_0_0 | go_simp)
    have cx_0_1 : w1.cell? ⟨w.heap.size, 1, none⟩ = some (.int .i64 n) := Fut.cell h1 (by first | exact c0_0_1 | go_simp)
    have cx_0_2 : w1.cell? ⟨w.heap.size, 2, none⟩ = some (.string s) := Fut.cell h1 (by first | exact c0_0_2 | go_simp)
    have cx_1_0 : w1.cell? ⟨w.heap.size + 1, 0, none⟩ = some (.int .i8 k') := Fut.cell h1 (by first | exact c0_1_0 | go_simp)
    have cx_1_1 : w1.cell? ⟨w.heap.size + 1, 1, none⟩ = some (.int .i64 n') := Fut.cell h1 (by first | exact c0_1_1 | go_simp)
    have cx_1_2 : w1.cell? ⟨w.heap.size + 1, 2, none⟩ = some (.string s') := Fut.cell h1 (by first | exact c0_1_2 | go_simp)
    exact (cmpKind_any _ _ _).mono fun e w' ⟨h, hw⟩ => ⟨h, hw ▸ Fut.refl _⟩
  simp only [Act.put, List.setIfInBounds_toArray, List.set_cons_succ, List.set_cons_zero, List.nil_append, List.cons_append]
  apply Run.valG (wanted_none rfl _)
  · intro w1 h1 hk
    have cx_0_0 : w1.cell? ⟨w.heap.size, 0, none⟩ = some (.int .i8 k) := Fut.cell h1 (by first | exact c0_0_0 | go_simp)
    have cx_0_1 : w1.cell? ⟨w.heap.size, 1, none⟩ = some (.int .i64 n) := Fut.cell h1 (by first | exact c0_0_1 | go_simp)
    have cx_0_2 : w1.cell? ⟨w.heap.size, 2, none⟩ = some (.string s) := Fut.cell h1 (by first | exact c0_0_2 | go_simp)
    have cx_1_0 : w1.cell? ⟨w.heap.size + 1, 0, none⟩ = some (.int .i8 k') := Fut.cell h1 (by first | exact c0_1_0 | go_simp)
    have cx_1_1 : w1.cell? ⟨w.heap.size + 1, 1, none⟩ = some (.int .i64 n') := Fut.cell h1 (by first | exact c0_1_1 | go_simp)
    have cx_1_2 : w1.cell? ⟨w.heap.size + 1, 2, none⟩ = some (.string s') := Fut.cell h1 (by first | exact c0_1_2 | go_simp)
    go_simp; rfl
  simp only [Act.put, List.setIfInBounds_toArray, List.set_cons_succ, List.set_cons_zero, List.nil_append, List.cons_append]
  apply Run.valG (wanted_none rfl _)
  · intro w1 h1 hk
    have cx_0_0 : w1.cell? ⟨w.heap.size, 0, none⟩ = some (.int .i8 k) := Fut.cell h1 (by first | exact c0_0_0 | go_simp)
    have cx_0_1 : w1.cell? ⟨w.heap.size, 1, none⟩ = some (.int .i64 n) := Fut.cell h1 (by first | exact c0_0_1 | go_simp)
    have cx_0_2 : w1.cell? ⟨w.heap.size, 2, none⟩ = some (.string s) := Fut.cell h1 (by first | exact c0_0_2 | go_simp)
    have cx_1_0 : w1.cell? ⟨w.heap.size + 1, 0, none⟩ = some (.int .i8 k') := Fut.cell h1 (by first | exact c0_1_0 | go_simp)
    have cx_1_1 : w1.cell? ⟨w.heap.size + 1, 1, none⟩ = some (.int .i64 n') := Fut.cell h1 (by first | exact c0_1_1 | go_simp)
    have cx_1_2 : w1.cell? ⟨w.heap.size + 1, 2, none⟩ = some (.string s') := Fut.cell h1 (by first | exact c0_1_2 | go_simp)
    go_simp; rfl
  simp only [Act.put, List.setIfInBounds_toArray, List.set_cons_succ, List.set_cons_zero, List.nil_append, List.cons_append]
  apply Run.valG (wanted_none rfl _)
  · intro w1 h1 hk
    have cx_0_0 : w1.cell? ⟨w.heap.size, 0, none⟩ = some (.int .i8 k) := Fut.cell h1 (by first | exact c0_0_0 | go_simp)
    have cx_0_1 : w1.cell? ⟨w.heap.size, 1, none⟩ = some (.int .i64 n) := Fut.cell h1 (by first | exact c0_0_1 | go_simp)
    have cx_0_2 : w1.cell? ⟨w.heap.size, 2, none⟩ = some (.string s) := Fut.cell h1 (by first | exact c0_0_2 | go_simp)
    have cx_1_0 : w1.cell? ⟨w.heap.size + 1, 0, none⟩ = some (.int .i8 k') := Fut.cell h1 (by first | exact c0_1_0 | go_simp)
    have cx_1_1 : w1.cell? ⟨w.heap.size + 1, 1, none⟩ = some (.int .i64 n') := Fut.cell h1 (by first | exact c0_1_1 | go_simp)
    have cx_1_2 : w1.cell? ⟨w.heap.size + 1, 2, none⟩ = some (.string s') := Fut.cell h1 (by first | exact c0_1_2 | go_simp)
    go_simp; rfl
  simp only [Act.put, List.setIfInBounds_toArray, List.set_cons_succ, List.set_cons_zero, List.nil_append, List.cons_append]
  apply Run.valG (wanted_none rfl _)
  · intro w1 h1 hk
    have cx_0_0 : w1.cell? ⟨w.heap.size, 0, none⟩ = some (.int .i8 k) := Fut.cell h1 (by first | exact c0_0_0 | go_simp)
    have cx_0_1 : w1.cell? ⟨w.heap.size, 1, none⟩ = some (.int .i64 n) := Fut.cell h1 (by first | exact c0_0_1 | go_simp)
    have cx_0_2 : w1.cell? ⟨w.heap.size, 2, none⟩ = some (.string s) := Fut.cell h1 (by first | exact c0_0_2 | go_simp)
    have cx_1_0 : w1.cell? ⟨w.heap.size + 1, 0, none⟩ = some (.int .i8 k') := Fut.cell h1 (by first | exact c0_1_0 | go_simp)
    have cx_1_1 : w1.cell? ⟨w.heap.size + 1, 1, none⟩ = some (.int .i64 n') := Fut.cell h1 (by first | exact c0_1_1 | go_simp)
    have cx_1_2 : w1.cell? ⟨w.heap.size + 1, 2, none⟩ = some (.string s') := Fut.cell h1 (by first | exact c0_1_2 | go_simp)
    go_simp; rfl
  simp only [Act.put, List.setIfInBounds_toArray, List.set_cons_succ, List.set_cons_zero, List.nil_append, List.cons_append]
  apply Run.call (wanted_none rfl _) (fun _ _ => by go_simp; exact ⟨rfl, rfl⟩)
  · intro w1 h1 hk
    have cx_0_0 : w1.cell? ⟨w.heap.size, 0, none⟩ = some (.int .i8 k) := Fut.cell h1 (by first | exact c0_0_0 | go_simp)
    have cx_0_1 : w1.cell? ⟨w.heap.size, 1, none⟩ = some (.int .i64 n) := Fut.cell h1 (by first | exact c0_0_1 | go_simp)
    have cx_0_2 : w1.cell? ⟨w.heap.size, 2, none⟩ = some (.string s) := Fut.cell h1 (by first | exact c0_0_2 | go_simp)
    have cx_1_0 : w1.cell? ⟨w.heap.size + 1, 0, none⟩ = some (.int .i8 k') := Fut.cell h1 (by first | exact c0_1_0 | go_simp)
    have cx_1_1 : w1.cell? ⟨w.heap.size + 1, 1, none⟩ = some (.int .i64 n') := Fut.cell h1 (by first | exact c0_1_1 | go_simp)
    have cx_1_2 : w1.cell? ⟨w.heap.size + 1, 2, none⟩ = some (.string s') := Fut.cell h1 (by first | exact c0_1_2 | go_simp)
    exact (cmpI64_any _ _ _).mono fun e w' ⟨h, hw⟩ => ⟨h, hw ▸ Fut.refl _⟩
  simp only [Act.put, List.setIfInBounds_toArray, List.set_cons_succ, List.set_cons_zero, List.nil_append, List.cons_append]
  apply Run.valG (wanted_none rfl _)
  · intro w1 h1 hk
    have cx_0_0 : w1.cell? ⟨w.heap.size, 0, none⟩ = some (.int .i8 k) := Fut.cell h1 (by first | exact c0_0_0 | go_simp)
    have cx_0_1 : w1.cell? ⟨w.heap.size, 1, none⟩ = some (.int .i64 n) := Fut.cell h1 (by first | exact c0_0_1 | go_simp)
    have cx_0_2 : w1.cell? ⟨w.heap.size, 2, none⟩ = some (.string s) := Fut.cell h1 (by first | exact c0_0_2 | go_simp)
    have cx_1_0 : w1.cell? ⟨w.heap.size + 1, 0, none⟩ = some (.int .i8 k') := Fut.cell h1 (by first | exact c0_1_0 | go_simp)
    have cx_1_1 : w1.cell? ⟨w.heap.size + 1, 1, none⟩ = some (.int .i64 n') := Fut.cell h1 (by first | exact c0_1_1 | go_simp)
    have cx_1_2 : w1.cell? ⟨w.heap.size + 1, 2, none⟩ = some (.string s') := Fut.cell h1 (by first | exact c0_1_2 | go_simp)
    go_simp; rfl
  simp only [Act.put, List.setIfInBounds_toArray, List.set_cons_succ, List.set_cons_zero, List.nil_append, List.cons_append]
  apply Run.valG (wanted_none rfl _)
  · intro w1 h1 hk
    have cx_0_0 : w1.cell? ⟨w.heap.size, 0, none⟩ = some (.int .i8 k) := Fut.cell h1 (by first | exact c0_0_0 | go_simp)
    have cx_0_1 : w1.cell? ⟨w.heap.size, 1, none⟩ = some (.int .i64 n) := Fut.cell h1 (by first | exact c0_0_1 | go_simp)
    have cx_0_2 : w1.cell? ⟨w.heap.size, 2, none⟩ = some (.string s) := Fut.cell h1 (by first | exact c0_0_2 | go_simp)
    have cx_1_0 : w1.cell? ⟨w.heap.size + 1, 0, none⟩ = some (.int .i8 k') := Fut.cell h1 (by first | exact c0_1_0 | go_simp)
    have cx_1_1 : w1.cell? ⟨w.heap.size + 1, 1, none⟩ = some (.int .i64 n') := Fut.cell h1 (by first | exact c0_1_1 | go_simp)
    have cx_1_2 : w1.cell? ⟨w.heap.size + 1, 2, none⟩ = some (.string s') := Fut.cell h1 (by first | exact c0_1_2 | go_simp)
    go_simp; rfl
  simp only [Act.put, List.setIfInBounds_toArray, List.set_cons_succ, List.set_cons_zero, List.nil_append, List.cons_append]
  apply Run.valG (wanted_none rfl _)
  · intro w1 h1 hk
    have cx_0_0 : w1.cell? ⟨w.heap.size, 0, none⟩ = some (.int .i8 k) := Fut.cell h1 (by first | exact c0_0_0 | go_simp)
    have cx_0_1 : w1.cell? ⟨w.heap.size, 1, none⟩ = some (.int .i64 n) := Fut.cell h1 (by first | exact c0_0_1 | go_simp)
    have cx_0_2 : w1.cell? ⟨w.heap.size, 2, none⟩ = some (.string s) := Fut.cell h1 (by first | exact c0_0_2 | go_simp)
    have cx_1_0 : w1.cell? ⟨w.heap.size + 1, 0, none⟩ = some (.int .i8 k') := Fut.cell h1 (by first | exact c0_1_0 | go_simp)
    have cx_1_1 : w1.cell? ⟨w.heap.size + 1, 1, none⟩ = some (.int .i64 n') := Fut.cell h1 (by first | exact c0_1_1 | go_simp)
    have cx_1_2 : w1.cell? ⟨w.heap.size + 1, 2, none⟩ = some (.string s') := Fut.cell h1 (by first | exact c0_1_2 | go_simp)
    go_simp; rfl
  simp only [Act.put, List.setIfInBounds_toArray, List.set_cons_succ, List.set_cons_zero, List.nil_append, List.cons_append]
  apply Run.valG (wanted_none rfl _)
  · intro w1 h1 hk
    have cx_0_0 : w1.cell? ⟨w.heap.size, 0, none⟩ = some (.int .i8 k) := Fut.cell h1 (by first | exact c0_0_0 | go_simp)
    have cx_0_1 : w1.cell? ⟨w.heap.size, 1, none⟩ = some (.int .i64 n) := Fut.cell h1 (by first | exact c0_0_1 | go_simp)
    have cx_0_2 : w1.cell? ⟨w.heap.size, 2, none⟩ = some (.string s) := Fut.cell h1 (by first | exact c0_0_2 | go_simp)
    have cx_1_0 : w1.cell? ⟨w.heap.size + 1, 0, none⟩ = some (.int .i8 k') := Fut.cell h1 (by first | exact c0_1_0 | go_simp)
    have cx_1_1 : w1.cell? ⟨w.heap.size + 1, 1, none⟩ = some (.int .i64 n') := Fut.cell h1 (by first | exact c0_1_1 | go_simp)
    have cx_1_2 : w1.cell? ⟨w.heap.size + 1, 2, none⟩ = some (.string s') := Fut.cell h1 (by first | exact c0_1_2 | go_simp)
    go_simp; rfl
  simp only [Act.put, List.setIfInBounds_toArray, List.set_cons_succ, List.set_cons_zero, List.nil_append, List.cons_append]
  apply Run.call (wanted_none rfl _) (fun _ _ => by go_simp; exact ⟨rfl, rfl⟩)
  · intro w1 h1 hk
    have cx_0_0 : w1.cell? ⟨w.heap.size, 0, none⟩ = some (.int .i8 k) := Fut.cell h1 (by first | exact c0_0_0 | go_simp)
    have cx_0_1 : w1.cell? ⟨w.heap.size, 1, none⟩ = some (.int .i64 n) := Fut.cell h1 (by first | exact c0_0_1 | go_simp)
    have cx_0_2 : w1.cell? ⟨w.heap.size, 2, none⟩ = some (.string s) := Fut.cell h1 (by first | exact c0_0_2 | go_simp)
    have cx_1_0 : w1.cell? ⟨w.heap.size + 1, 0, none⟩ = some (.int .i8 k') := Fut.cell h1 (by first | exact c0_1_0 | go_simp)
    have cx_1_1 : w1.cell? ⟨w.heap.size + 1, 1, none⟩ = some (.int .i64 n') := Fut.cell h1 (by first | exact c0_1_1 | go_simp)
    have cx_1_2 : w1.cell? ⟨w.heap.size + 1, 2, none⟩ = some (.string s') := Fut.cell h1 (by first | exact c0_1_2 | go_simp)
    exact (Try.strings_Compare _ _ _).mono fun e w' ⟨h, hw⟩ => ⟨h, hw ▸ Fut.refl _⟩
  simp only [Act.put, List.setIfInBounds_toArray, List.set_cons_succ, List.set_cons_zero, List.nil_append, List.cons_append]
  apply Run.valR (wanted_none rfl _) (by intro v w w' hf hs; exact hs.fut RI.stays hf.below)
  · intro w1 h1 hk
    have cx_0_0 : w1.cell? ⟨w.heap.size, 0, none⟩ = some (.int .i8 k) := Fut.cell h1 (by first | exact c0_0_0 | go_simp)
    have cx_0_1 : w1.cell? ⟨w.heap.size, 1, none⟩ = some (.int .i64 n) := Fut.cell h1 (by first | exact c0_0_1 | go_simp)
    have cx_0_2 : w1.cell? ⟨w.heap.size, 2, none⟩ = some (.string s) := Fut.cell h1 (by first | exact c0_0_2 | go_simp)
    have cx_1_0 : w1.cell? ⟨w.heap.size + 1, 0, none⟩ = some (.int .i8 k') := Fut.cell h1 (by first | exact c0_1_0 | go_simp)
    have cx_1_1 : w1.cell? ⟨w.heap.size + 1, 1, none⟩ = some (.int .i64 n') := Fut.cell h1 (by first | exact c0_1_1 | go_simp)
    have cx_1_2 : w1.cell? ⟨w.heap.size + 1, 2, none⟩ = some (.string s') := Fut.cell h1 (by first | exact c0_1_2 | go_simp)
    go_simp; exact ⟨_, _, ⟨rfl, rfl⟩, Fut.alloc _ _, ints_new w1 _ [cmpI k k', cmpI n n', cmpS s s'] (by simp)⟩
  intro v15
  simp only [Act.put, List.setIfInBounds_toArray, List.set_cons_succ, List.set_cons_zero, List.nil_append, List.cons_append]
  apply Run.call (wanted_none rfl _) (fun _ _ => by go_simp; exact ⟨rfl, rfl⟩)
  · intro w1 h1 hk
    have f15 := Facts.get hk 0 rfl (by kernel_rfl)
    have cx_0_0 : w1.cell? ⟨w.heap.size, 0, none⟩ = some (.int .i8 k) := Fut.cell h1 (by first | exact c0_0_0 | go_simp)
    have cx_0_1 : w1.cell? ⟨w.heap.size, 1, none⟩ = some (.int .i64 n) := Fut.cell h1 (by first | exact c0_0_1 | go_simp)
    have cx_0_2 : w1.cell? ⟨w.heap.size, 2, none⟩ = some (.string s) := Fut.cell h1 (by first | exact c0_0_2 | go_simp)
    have cx_1_0 : w1.cell? ⟨w.heap.size + 1, 0, none⟩ = some (.int .i8 k') := Fut.cell h1 (by first | exact c0_1_0 | go_simp)
    have cx_1_1 : w1.cell? ⟨w.heap.size + 1, 1, none⟩ = some (.int .i64 n') := Fut.cell h1 (by first | exact c0_1_1 | go_simp)
    have cx_1_2 : w1.cell? ⟨w.heap.size + 1, 2, none⟩ = some (.string s') := Fut.cell h1 (by first | exact c0_1_2 | go_simp)
    exact (or_any _ _ _ f15).mono fun e w' ⟨h, hw⟩ => ⟨h, hw ▸ Fut.refl _⟩
  simp only [Act.put, List.setIfInBounds_toArray, List.set_cons_succ, List.set_cons_zero, List.nil_append, List.cons_append]
  apply Run.valG (wanted_none rfl _)
  · intro w1 h1 hk
    have cx_0_0 : w1.cell? ⟨w.heap.size, 0, none⟩ = some (.int .i8 k) := Fut.cell h1 (by first | exact c0_0_0 | go_simp)
    have cx_0_1 : w1.cell? ⟨w.heap.size, 1, none⟩ = some (.int .i64 n) := Fut.cell h1 (by first | exact c0_0_1 | go_simp)
    have cx_0_2 : w1.cell? ⟨w.heap.size, 2, none⟩ = some (.string s) := Fut.cell h1 (by first | exact c0_0_2 | go_simp)
    have cx_1_0 : w1.cell? ⟨w.heap.size + 1, 0, none⟩ = some (.int .i8 k') := Fut.cell h1 (by first | exact c0_1_0 | go_simp)
    have cx_1_1 : w1.cell? ⟨w.heap.size + 1, 1, none⟩ = some (.int .i64 n') := Fut.cell h1 (by first | exact c0_1_1 | go_simp)
    have cx_1_2 : w1.cell? ⟨w.heap.size + 1, 2, none⟩ = some (.string s') := Fut.cell h1 (by first | exact c0_1_2 | go_simp)
    go_simp; rfl
  simp only [Act.put, List.setIfInBounds_toArray, List.set_cons_succ, List.set_cons_zero, List.nil_append, List.cons_append]
  apply Run.done
  intro w2 h2 hk
  have c2_0_0 : w2.cell? ⟨w.heap.size, 0, none⟩ = some (.int .i8 k) := Fut.cell h2 (by first | exact c0_0_0 | go_simp)
  have c2_0_1 : w2.cell? ⟨w.heap.size, 1, none⟩ = some (.int .i64 n) := Fut.cell h2 (by first | exact c0_0_1 | go_simp)
  have c2_0_2 : w2.cell? ⟨w.heap.size, 2, none⟩ = some (.string s) := Fut.cell h2 (by first | exact c0_0_2 | go_simp)
  have c2_1_0 : w2.cell? ⟨w.heap.size + 1, 0, none⟩ = some (.int .i8 k') := Fut.cell h2 (by first | exact c0_1_0 | go_simp)
  have c2_1_1 : w2.cell? ⟨w.heap.size + 1, 1, none⟩ = some (.int .i64 n') := Fut.cell h2 (by first | exact c0_1_1 | go_simp)
  have c2_1_2 : w2.cell? ⟨w.heap.size + 1, 2, none⟩ = some (.string s') := Fut.cell h2 (by first | exact c0_1_2 | go_simp)
  obtain ⟨f15, _⟩ := hk
  go_wp2
  go_ret
  exact ⟨rfl, ((Fut.alloc _ _).trans (Fut.alloc _ _)).trans ((Fut.drew _).trans h2)⟩

set_option maxHeartbeats 800000 in
theorem cmpFunc_gr (a b : Value) (xs ys : List V) (w : World) (ha : Vals w a xs) (hb : Vals w b ys) :
    Calls Try.prog 90 #[a, b, .func (.func 91) #[] #[]] w fun e w' => e = .returned (.int .i64 (cmpT xs ys)) ∧ Fut w w' := by
  obtain ⟨A, cap, rfl, hl, hm⟩ := SlRep.form ha
  obtain ⟨B, cap', rfl, hl', hm'⟩ := SlRep.form hb
  go_enter Try.func90, Try.ntmps90
  go_wp2
  go_loopw [13] (fun i wr => ∃ k : Nat, k ≤ xs.length ∧ k ≤ ys.length ∧ i = .int .i64 k ∧ Hid (∀ i (_ : i < k) (hx : i < xs.length) (hy : i < ys.length), cmpV xs[i] ys[i] = 0) ∧ Hid (Fut w wr)) (fun i _ => xs.length - (intOf i).toNat)
  case atStart => exact ⟨0, Nat.zero_le _, Nat.zero_le _, rfl, fun i hi => absurd hi (by omega), Fut.refl w⟩
  case round =>
    obtain ⟨k, hk, hk', rfl, hz, hf⟩ := hrel
    by_cases hlt : k < xs.length
    · obtain ⟨b, off, rfl, _, x0, x1, x2⟩ := Vals.at_ (ha.fut RV.stays hf.out.below) hlt
      by_cases hlt' : k < ys.length
      · obtain ⟨b', off', rfl, _, y0, y1, y2⟩ := Vals.at_ (hb.fut RV.stays hf.out.below) hlt'
        have hb0 := lt_of_cell x0
        have hb0' := lt_of_cell y0
        simp only at hb0 hb0'
        by_cases he : cmpV xs[k] ys[k] = 0
        · have hd : (cmpV xs[k] ys[k] != 0) = false := by simpa using he
          have HE := Lib.hid he
          clear he
          go_wp2_with fail
          refine (compare_gr xs[k] ys[k] _).mono ?_
          rintro e w1 ⟨rfl, h1⟩
          go_wp2
          go_roundw
          case rel => exact ⟨k + 1, by omega, by omega, by go_num, fun i hi hx hy => by
            rcases Nat.lt_or_ge i k with h' | h'
            · exact hz.out i h' hx hy
            · obtain rfl : i = k := by omega
              exact HE.out, hf.out.trans (((Fut.alloc _ _).trans (Fut.alloc _ _)).trans h1)⟩
          case measure => simp [intOf]; omega
        · have hd : (cmpV xs[k] ys[k] != 0) = true := by simpa using he
          have HE := Lib.hid he
          clear he
          go_wp2_with fail
          refine (compare_gr xs[k] ys[k] _).mono ?_
          rintro e w1 ⟨rfl, h1⟩
          go_wp2
          go_ret
          refine ⟨?_, hf.out.trans (((Fut.alloc _ _).trans (Fut.alloc _ _)).trans h1)⟩
          rw [cmpT_step hlt hlt' hz.out HE.out]
          rfl
      · have hkl := Lib.hid (cmpT_end (k := k) (xs := xs) (ys := ys) (.inr (by omega)) hk hk' hz.out)
        go_wp2
        go_ret
        refine ⟨?_, hf.out.trans (Fut.alloc _ _)⟩
        rw [hkl.out, if_neg (by omega), if_pos (by omega)]
        rfl
    · have hkl := Lib.hid (cmpT_end (k := k) (xs := xs) (ys := ys) (.inl (by omega)) hk hk' hz.out)
      go_wp2
      all_goals go_ret
      all_goals refine ⟨?_, hf.out⟩
      all_goals first | (rw [hkl.out, if_pos (by omega)]; rfl) | (rw [hkl.out, if_neg (by omega), if_pos (by omega)]; rfl) | (rw [hkl.out, if_neg (by omega), if_neg (by omega)]; rfl)
set_option maxHeartbeats 400000 in
theorem cmpT_gr (a b : Value) (xs ys : List V) (w : World) (ha : Vals w a xs) (hb : Vals w b ys) :
    Calls Try.prog 62 #[a, b] w fun e w' => e = .returned (.int .i64 (cmpT xs ys)) ∧ Fut w w' := by
  go_enter Try.func62, Try.ntmps62
  go_wp2_with fail
  refine (cmpFunc_gr a b xs ys _ ha hb).mono ?_
  rintro e w1 ⟨rfl, h1⟩
  go_wp2
  go_ret
  exact ⟨rfl, h1⟩

set_option maxHeartbeats 400000 in
theorem cmpF_gr (f g : Fc) (u v : Value) (w : World) (hu : Vals w u f.a) (hv : Vals w v g.a) :
    Calls Try.prog 36 #[.agg #[.string f.p, u], .agg #[.string g.p, v]] w fun e w' => e = .returned (.int .i64 (cmpF f g)) ∧ Fut w w' := by
  obtain ⟨A, cap, rfl, hl, hm⟩ := SlRep.form hu
  obtain ⟨B, cap', rfl, hl', hm'⟩ := SlRep.form hv
  have hf0 : ∀ X Y, Fut w ((w.alloc X).alloc Y).drew := fun X Y => ((Fut.alloc _ _).trans (Fut.alloc _ _)).trans (Fut.drew _)
  go_enter Try.func36, Try.ntmps36
  go_wp2
  refine wp_graph 13 [.d, .d, .d, .d, .d, .d, .d, .d, .d, .d, .r (fun v w => SlRep 1 17592186044416 RI w v [cmpS f.p g.p, cmpT f.a g.a]), .d, .d] (by kernel_rfl) (by kernel_rfl) (by kernel_rfl) ?_
  simp only [List.take_succ_cons, List.take_zero, List.drop_succ_cons, List.drop_zero, Exs]
  iterate 12 apply Exists.intro
  apply Run.valG (wanted_none rfl _)
  · intro w1 h1 hk
    have cx_0_0 : w1.cell? ⟨w.heap.size, 0, none⟩ = some (.string f.p) := Fut.cell h1 (by first | exact c0_0_0 | go_simp)
    have cx_0_1 : w1.cell? ⟨w.heap.size, 1, none⟩ = some (.slice A f.a.length cap) := Fut.cell h1 (by first | exact c0_0_1 | go_simp)
    have cx_1_0 : w1.cell? ⟨w.heap.size + 1, 0, none⟩ = some (.string g.p) := Fut.cell h1 (by first | exact c0_1_0 | go_simp)
    have cx_1_1 : w1.cell? ⟨w.heap.size + 1, 1, none⟩ = some (.slice B g.a.length cap') := Fut.cell h1 (by first | exact c0_1_1 | go_simp)
    go_simp; rfl
  simp only [Act.put, List.setIfInBounds_toArray, List.set_cons_succ, List.set_cons_zero, List.nil_append, List.cons_append]
  apply Run.valG (wanted_none rfl _)
  · intro w1 h1 hk
    have cx_0_0 : w1.cell? ⟨w.heap.size, 0, none⟩ = some (.string f.p) := Fut.cell h1 (by first | exact c0_0_0 | go_simp)
    have cx_0_1 : w1.cell? ⟨w.heap.size, 1, none⟩ = some (.slice A f.a.length cap) := Fut.cell h1 (by first | exact c0_0_1 | go_simp)
    have cx_1_0 : w1.cell? ⟨w.heap.size + 1, 0, none⟩ = some (.string g.p) := Fut.cell h1 (by first | exact c0_1_0 | go_simp)
    have cx_1_1 : w1.cell? ⟨w.heap.size + 1, 1, none⟩ = some (.slice B g.a.length cap') := Fut.cell h1 (by first | exact c0_1_1 | go_simp)
    go_simp; rfl
  simp only [Act.put, List.setIfInBounds_toArray, List.set_cons_succ, List.set_cons_zero, List.nil_append, List.cons_append]
  apply Run.valG (wanted_none rfl _)
  · intro w1 h1 hk
    have cx_0_0 : w1.cell? ⟨w.heap.size, 0, none⟩ = some (.string f.p) := Fut.cell h1 (by first | exact c0_0_0 | go_simp)
    have cx_0_1 : w1.cell? ⟨w.heap.size, 1, none⟩ = some (.slice A f.a.length cap) := Fut.cell h1 (by first | exact c0_0_1 | go_simp)
    have cx_1_0 : w1.cell? ⟨w.heap.size + 1, 0, none⟩ = some (.string g.p) := Fut.cell h1 (by first | exact c0_1_0 | go_simp)
    have cx_1_1 : w1.cell? ⟨w.heap.size + 1, 1, none⟩ = some (.slice B g.a.length cap') := Fut.cell h1 (by first | exact c0_1_1 | go_simp)
    go_simp; rfl
  simp only [Act.put, List.setIfInBounds_toArray, List.set_cons_succ, List.set_cons_zero, List.nil_append, List.cons_append]
  apply Run.valG (wanted_none rfl _)
  · intro w1 h1 hk
    have cx_0_0 : w1.cell? ⟨w.heap.size, 0, none⟩ = some (.string f.p) := Fut.cell h1 (by first | exact c0_0_0 | go_simp)
    have cx_0_1 : w1.cell? ⟨w.heap.size, 1, none⟩ = some (.slice A f.a.length cap) := Fut.cell h1 (by first | exact c0_0_1 | go_simp)
    have cx_1_0 : w1.cell? ⟨w.heap.size + 1, 0, none⟩ = some (.string g.p) := Fut.cell h1 (by first | exact c0_1_0 | go_simp)
    have cx_1_1 : w1.cell? ⟨w.heap.size + 1, 1, none⟩ = some (.slice B g.a.length cap') := Fut.cell h1 (by first | exact c0_1_1 | go_simp)
    go_simp; rfl
  simp only [Act.put, List.setIfInBounds_toArray, List.set_cons_succ, List.set_cons_zero, List.nil_append, List.cons_append]
  apply Run.call (wanted_none rfl _) (fun _ _ => by go_simp; exact ⟨rfl, rfl⟩)
  · intro w1 h1 hk
    have cx_0_0 : w1.cell? ⟨w.heap.size, 0, none⟩ = some (.string f.p) := Fut.cell h1 (by first | exact c0_0_0 | go_simp)
    have cx_0_1 : w1.cell? ⟨w.heap.size, 1, none⟩ = some (.slice A f.a.length cap) := Fut.cell h1 (by first | exact c0_0_1 | go_simp)
    have cx_1_0 : w1.cell? ⟨w.heap.size + 1, 0, none⟩ = some (.string g.p) := Fut.cell h1 (by first | exact c0_1_0 | go_simp)
    have cx_1_1 : w1.cell? ⟨w.heap.size + 1, 1, none⟩ = some (.slice B g.a.length cap') := Fut.cell h1 (by first | exact c0_1_1 | go_simp)
    exact (Try.strings_Compare _ _ _).mono fun e w' ⟨h, hw⟩ => ⟨h, hw ▸ Fut.refl _⟩
  simp only [Act.put, List.setIfInBounds_toArray, List.set_cons_succ, List.set_cons_zero, List.nil_append, List.cons_append]
  apply Run.valG (wanted_none rfl _)
  · intro w1 h1 hk
    have cx_0_0 : w1.cell? ⟨w.heap.size, 0, none⟩ = some (.string f.p) := Fut.cell h1 (by first | exact c0_0_0 | go_simp)
    have cx_0_1 : w1.cell? ⟨w.heap.size, 1, none⟩ = some (.slice A f.a.length cap) := Fut.cell h1 (by first | exact c0_0_1 | go_simp)
    have cx_1_0 : w1.cell? ⟨w.heap.size + 1, 0, none⟩ = some (.string g.p) := Fut.cell h1 (by first | exact c0_1_0 | go_simp)
    have cx_1_1 : w1.cell? ⟨w.heap.size + 1, 1, none⟩ = some (.slice B g.a.length cap') := Fut.cell h1 (by first | exact c0_1_1 | go_simp)
    go_simp; rfl
  simp only [Act.put, List.setIfInBounds_toArray, List.set_cons_succ, List.set_cons_zero, List.nil_append, List.cons_append]
  apply Run.valG (wanted_none rfl _)
  · intro w1 h1 hk
    have cx_0_0 : w1.cell? ⟨w.heap.size, 0, none⟩ = some (.string f.p) := Fut.cell h1 (by first | exact c0_0_0 | go_simp)
    have cx_0_1 : w1.cell? ⟨w.heap.size, 1, none⟩ = some (.slice A f.a.length cap) := Fut.cell h1 (by first | exact c0_0_1 | go_simp)
    have cx_1_0 : w1.cell? ⟨w.heap.size + 1, 0, none⟩ = some (.string g.p) := Fut.cell h1 (by first | exact c0_1_0 | go_simp)
    have cx_1_1 : w1.cell? ⟨w.heap.size + 1, 1, none⟩ = some (.slice B g.a.length cap') := Fut.cell h1 (by first | exact c0_1_1 | go_simp)
    go_simp; rfl
  simp only [Act.put, List.setIfInBounds_toArray, List.set_cons_succ, List.set_cons_zero, List.nil_append, List.cons_append]
  apply Run.valG (wanted_none rfl _)
  · intro w1 h1 hk
    have cx_0_0 : w1.cell? ⟨w.heap.size, 0, none⟩ = some (.string f.p) := Fut.cell h1 (by first | exact c0_0_0 | go_simp)
    have cx_0_1 : w1.cell? ⟨w.heap.size, 1, none⟩ = some (.slice A f.a.length cap) := Fut.cell h1 (by first | exact c0_0_1 | go_simp)
    have cx_1_0 : w1.cell? ⟨w.heap.size + 1, 0, none⟩ = some (.string g.p) := Fut.cell h1 (by first | exact c0_1_0 | go_simp)
    have cx_1_1 : w1.cell? ⟨w.heap.size + 1, 1, none⟩ = some (.slice B g.a.length cap') := Fut.cell h1 (by first | exact c0_1_1 | go_simp)
    go_simp; rfl
  simp only [Act.put, List.setIfInBounds_toArray, List.set_cons_succ, List.set_cons_zero, List.nil_append, List.cons_append]
  apply Run.valG (wanted_none rfl _)
  · intro w1 h1 hk
    have cx_0_0 : w1.cell? ⟨w.heap.size, 0, none⟩ = some (.string f.p) := Fut.cell h1 (by first | exact c0_0_0 | go_simp)
    have cx_0_1 : w1.cell? ⟨w.heap.size, 1, none⟩ = some (.slice A f.a.length cap) := Fut.cell h1 (by first | exact c0_0_1 | go_simp)
    have cx_1_0 : w1.cell? ⟨w.heap.size + 1, 0, none⟩ = some (.string g.p) := Fut.cell h1 (by first | exact c0_1_0 | go_simp)
    have cx_1_1 : w1.cell? ⟨w.heap.size + 1, 1, none⟩ = some (.slice B g.a.length cap') := Fut.cell h1 (by first | exact c0_1_1 | go_simp)
    go_simp; rfl
  simp only [Act.put, List.setIfInBounds_toArray, List.set_cons_succ, List.set_cons_zero, List.nil_append, List.cons_append]
  apply Run.call (wanted_none rfl _) (fun _ _ => by go_simp; exact ⟨rfl, rfl⟩)
  · intro w1 h1 hk
    have cx_0_0 : w1.cell? ⟨w.heap.size, 0, none⟩ = some (.string f.p) := Fut.cell h1 (by first | exact c0_0_0 | go_simp)
    have cx_0_1 : w1.cell? ⟨w.heap.size, 1, none⟩ = some (.slice A f.a.length cap) := Fut.cell h1 (by first | exact c0_0_1 | go_simp)
    have cx_1_0 : w1.cell? ⟨w.heap.size + 1, 0, none⟩ = some (.string g.p) := Fut.cell h1 (by first | exact c0_1_0 | go_simp)
    have cx_1_1 : w1.cell? ⟨w.heap.size + 1, 1, none⟩ = some (.slice B g.a.length cap') := Fut.cell h1 (by first | exact c0_1_1 | go_simp)
    exact cmpT_gr _ _ f.a g.a _ (hu.fut RV.stays ((hf0 _ _).trans h1).below) (hv.fut RV.stays ((hf0 _ _).trans h1).below)
  simp only [Act.put, List.setIfInBounds_toArray, List.set_cons_succ, List.set_cons_zero, List.nil_append, List.cons_append]
  apply Run.valR (wanted_none rfl _) (by intro v w w' hf hs; exact hs.fut RI.stays hf.below)
  · intro w1 h1 hk
    have cx_0_0 : w1.cell? ⟨w.heap.size, 0, none⟩ = some (.string f.p) := Fut.cell h1 (by first | exact c0_0_0 | go_simp)
    have cx_0_1 : w1.cell? ⟨w.heap.size, 1, none⟩ = some (.slice A f.a.length cap) := Fut.cell h1 (by first | exact c0_0_1 | go_simp)
    have cx_1_0 : w1.cell? ⟨w.heap.size + 1, 0, none⟩ = some (.string g.p) := Fut.cell h1 (by first | exact c0_1_0 | go_simp)
    have cx_1_1 : w1.cell? ⟨w.heap.size + 1, 1, none⟩ = some (.slice B g.a.length cap') := Fut.cell h1 (by first | exact c0_1_1 | go_simp)
    go_simp; exact ⟨_, _, ⟨rfl, rfl⟩, Fut.alloc _ _, ints_new w1 _ [cmpS f.p g.p, cmpT f.a g.a] (by simp)⟩
  intro v10
  simp only [Act.put, List.setIfInBounds_toArray, List.set_cons_succ, List.set_cons_zero, List.nil_append, List.cons_append]
  apply Run.call (wanted_none rfl _) (fun _ _ => by go_simp; exact ⟨rfl, rfl⟩)
  · intro w1 h1 hk
    have f10 := Facts.get hk 0 rfl (by kernel_rfl)
    have cx_0_0 : w1.cell? ⟨w.heap.size, 0, none⟩ = some (.string f.p) := Fut.cell h1 (by first | exact c0_0_0 | go_simp)
    have cx_0_1 : w1.cell? ⟨w.heap.size, 1, none⟩ = some (.slice A f.a.length cap) := Fut.cell h1 (by first | exact c0_0_1 | go_simp)
    have cx_1_0 : w1.cell? ⟨w.heap.size + 1, 0, none⟩ = some (.string g.p) := Fut.cell h1 (by first | exact c0_1_0 | go_simp)
    have cx_1_1 : w1.cell? ⟨w.heap.size + 1, 1, none⟩ = some (.slice B g.a.length cap') := Fut.cell h1 (by first | exact c0_1_1 | go_simp)
    exact (or_any _ _ _ f10).mono fun e w' ⟨h, hw⟩ => ⟨h, hw ▸ Fut.refl _⟩
  simp only [Act.put, List.setIfInBounds_toArray, List.set_cons_succ, List.set_cons_zero, List.nil_append, List.cons_append]
  apply Run.valG (wanted_none rfl _)
  · intro w1 h1 hk
    have cx_0_0 : w1.cell? ⟨w.heap.size, 0, none⟩ = some (.string f.p) := Fut.cell h1 (by first | exact c0_0_0 | go_simp)
    have cx_0_1 : w1.cell? ⟨w.heap.size, 1, none⟩ = some (.slice A f.a.length cap) := Fut.cell h1 (by first | exact c0_0_1 | go_simp)
    have cx_1_0 : w1.cell? ⟨w.heap.size + 1, 0, none⟩ = some (.string g.p) := Fut.cell h1 (by first | exact c0_1_0 | go_simp)
    have cx_1_1 : w1.cell? ⟨w.heap.size + 1, 1, none⟩ = some (.slice B g.a.length cap') := Fut.cell h1 (by first | exact c0_1_1 | go_simp)
    go_simp; rfl
  simp only [Act.put, List.setIfInBounds_toArray, List.set_cons_succ, List.set_cons_zero, List.nil_append, List.cons_append]
  apply Run.done
  intro w2 h2 hk
  have c2_0_0 : w2.cell? ⟨w.heap.size, 0, none⟩ = some (.string f.p) := Fut.cell h2 (by first | exact c0_0_0 | go_simp)
  have c2_0_1 : w2.cell? ⟨w.heap.size, 1, none⟩ = some (.slice A f.a.length cap) := Fut.cell h2 (by first | exact c0_0_1 | go_simp)
  have c2_1_0 : w2.cell? ⟨w.heap.size + 1, 0, none⟩ = some (.string g.p) := Fut.cell h2 (by first | exact c0_1_0 | go_simp)
  have c2_1_1 : w2.cell? ⟨w.heap.size + 1, 1, none⟩ = some (.slice B g.a.length cap') := Fut.cell h2 (by first | exact c0_1_1 | go_simp)
  obtain ⟨f10, _⟩ := hk
  go_wp2
  go_ret
  exact ⟨rfl, (hf0 _ _).trans h2⟩
end Go.Proofs.Ytkdnplebgmmclaa.Gr
/- slices.SortFunc's conditions at this dump, out of the kit's shelf (lay-plain.mjs), in plain words. -/
namespace Go.Proofs
open Go.Shelf
def Try.sortF_ren : Go.Shelf.Ren := ⟨fun | 6 => 35 | 15 => 59 | 14 => 58 | 28 => 87 | 29 => 88 | 20 => 79 | 21 => 80 | 22 => 81 | 23 => 82 | 24 => 83 | 25 => 84 | 26 => 85 | 27 => 86 | 46 => 109 | 47 => 110 | 48 => 111 | 49 => 112 | 50 => 113 | 57 => 125 | n => n, fun | 22 => 25 | 24 => 33 | 25 => 109 | 3 => 3 | 39 => 147 | 0 => 0 | 53 => 178 | 55 => 180 | 4 => 4 | 46 => 172 | 45 => 171 | 50 => 163 | 5 => 5 | 9 => 9 | 66 => 195 | 70 => 199 | 76 => 209 | 77 => 210 | n => n, fun | n => n⟩
theorem Try.sortF : Go.Proofs.SlLaysF0.n6 Try.prog Try.sortF_ren := {
  mixed := by kernel_rfl
  f6 := ⟨Try.f35.name, by decide, Try.func35.trans (congrArg some (by kernel_rfl))⟩
  f14 := ⟨Try.f58.name, by decide, Try.func58.trans (congrArg some (by kernel_rfl))⟩
  f15 := Try.func59.trans (congrArg some (by kernel_rfl))
  f20 := ⟨Try.f79.name, by decide, Try.func79.trans (congrArg some (by kernel_rfl))⟩
  f21 := ⟨Try.f80.name, by decide, Try.func80.trans (congrArg some (by kernel_rfl))⟩
  f22 := ⟨Try.f81.name, by decide, Try.func81.trans (congrArg some (by kernel_rfl))⟩
  f23 := ⟨Try.f82.name, by decide, Try.func82.trans (congrArg some (by kernel_rfl))⟩
  f24 := ⟨Try.f83.name, by decide, Try.func83.trans (congrArg some (by kernel_rfl))⟩
  f25 := ⟨Try.f84.name, by decide, Try.func84.trans (congrArg some (by kernel_rfl))⟩
  f26 := ⟨Try.f85.name, by decide, Try.func85.trans (congrArg some (by kernel_rfl))⟩
  f27 := ⟨Try.f86.name, by decide, Try.func86.trans (congrArg some (by kernel_rfl))⟩
  f28 := Try.func87.trans (congrArg some (by kernel_rfl))
  f29 := Try.func88.trans (congrArg some (by kernel_rfl))
  f46 := ⟨Try.f109.name, by decide, Try.func109.trans (congrArg some (by kernel_rfl))⟩
  f47 := Try.func110.trans (congrArg some (by kernel_rfl))
  f48 := Try.func111.trans (congrArg some (by kernel_rfl))
  f49 := ⟨Try.f112.name, by decide, Try.func112.trans (congrArg some (by kernel_rfl))⟩
  f50 := ⟨Try.f113.name, by decide, Try.func113.trans (congrArg some (by kernel_rfl))⟩
  f57 := ⟨Try.f125.name, by decide, Try.func125.trans (congrArg some (by kernel_rfl))⟩
  t0 := Try.underlying0
  a0 := Try.isAgg0
  z0 := Try.sizeOf0
  v0 := Try.zeroValue0
  t3 := Try.underlying3
  a3 := Try.isAgg3
  z3 := Try.sizeOf3
  v3 := Try.zeroValue3
  t4 := Try.underlying4
  a4 := Try.isAgg4
  z4 := Try.sizeOf4
  v4 := Try.zeroValue4
  t5 := Try.underlying5
  a5 := Try.isAgg5
  z5 := Try.sizeOf5
  v5 := Try.zeroValue5
  t9 := Try.underlying9
  a9 := Try.isAgg9
  z9 := Try.sizeOf9
  v9 := Try.zeroValue9
  t22 := Try.underlying25
  a22 := Try.isAgg25
  z22 := Try.sizeOf25
  v22 := Try.zeroValue25
  t25 := Try.underlying109
  a25 := Try.isAgg109
  z25 := Try.sizeOf109
  v25 := Try.zeroValue109
  t39 := Try.underlying147
  a39 := Try.isAgg147
  z39 := Try.sizeOf147
  v39 := Try.zeroValue147
  t45 := Try.underlying171
  a45 := Try.isAgg171
  z45 := Try.sizeOf171
  v45 := Try.zeroValue171
  t46 := Try.underlying172
  a46 := Try.isAgg172
  z46 := Try.sizeOf172
  v46 := Try.zeroValue172
  t50 := Try.underlying163
  a50 := Try.isAgg163
  z50 := Try.sizeOf163
  v50 := Try.zeroValue163
  t53 := Try.underlying178
  a53 := Try.isAgg178
  z53 := Try.sizeOf178
  v53 := Try.zeroValue178
  t55 := Try.underlying180
  a55 := Try.isAgg180
  z55 := Try.sizeOf180
  v55 := Try.zeroValue180
  t66 := Try.underlying195
  a66 := Try.isAgg195
  z66 := Try.sizeOf195
  v66 := Try.zeroValue195
  t70 := Try.underlying199
  a70 := Try.isAgg199
  z70 := Try.sizeOf199
  v70 := Try.zeroValue199
  t76 := Try.underlying209
  a76 := Try.isAgg209
  z76 := Try.sizeOf209
  v76 := Try.zeroValue209
  t77 := Try.underlying210
  a77 := Try.isAgg210
  z77 := Try.sizeOf210
  v77 := Try.zeroValue210 }
end Go.Proofs
/- slices.SortFunc at this program: tuples, facts. -/
namespace Go.Proofs.Ytkdnplebgmmclaa
open Go.RowKit
set_option linter.unusedSimpArgs false
set_option linter.unusedVariables false

theorem ord_tot {α : Type} {c : α → α → Int} (h : Ord3 c) : TotC c := ⟨h.zero, h.swap, fun x y z h1 h2 => h.lt h1 (by omega)⟩
theorem sortF_any (w w1 : World) (hw : Fut w w1) (t : Value) (ts : List (Fc)) (h : OwnL 2 w.heap.size 33 (fun _ => RG w) w1 t ts) (hlen : ts.length < 4611686018427387904) :
    Calls Try.prog 35 #[t, .func (.func 36) #[] #[]] w1 fun x w2 => x = .returned (.tuple #[]) ∧ ∃ ts' : List (Fc), ts'.Perm ts ∧ Sorted cmpF ts' ∧ FacsG w2 t ts' ∧ Fut w w2 := by
  by_cases hne : ts = []
  · subst hne
    have hr := h.rep
    obtain ⟨A, cap, rfl, hcl, hcm⟩ := hr.form
    have hn := AnyF.slices_SortFunc_none (P := Try.prog) { Try.sortF with } A cap (.func (.func 36) #[] #[]) w1
    change Calls Try.prog 35 _ _ _ at hn
    refine hn.mono ?_
    rintro x w2 ⟨rfl, rfl⟩
    refine ⟨rfl, [], List.Perm.refl _, List.Pairwise.nil, ⟨A, cap, rfl, Nat.zero_le _, by simp only [List.length_nil] at hcl; unfold maxLen at hcm; omega, fun i x hx => by simp at hx⟩, hw⟩
  · have eg : ∀ args w, (callFunc 36 args).run Try.prog w = .ok (.enter 36 args) w := enters_of Try.func36 (by kernel_rfl) rfl
    have hn := sort_facs Try.sortF Try.isAgg33 Try.sizeOf33 36 eg cmpF (ord_tot ordF) (fun a b xs ys W ha hb => Gr.cmpF_gr xs ys a b W ha hb) w w1 hw t ts h hne hlen
    change Calls Try.prog 35 _ _ _ at hn
    exact hn
end Go.Proofs.Ytkdnplebgmmclaa
