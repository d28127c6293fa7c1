/- slices.SortFunc of lists of tuples, of lists of facts: what the row holds behind it. Generic in the program. -/
import Derived.Test.YtlihkmldclocoaaDoorSortW
import Derived.Test.YtlihkmldclocoaaDoorTup
import Derived.Test.YtlihkmldclocoaaDoorGr
import Derived.Shelf.SlSortCmp.Whole1
import Derived.Shelf.SlSortCmp.WholeK
namespace Go.Proofs.YtlihkmldclocoaaDoor
open Go.RowKit Go.Sort Go.Shelf
set_option linter.unusedSimpArgs false
set_option linter.unusedVariables false

/-- A list of the call's own that is not empty: its row. -/
theorem own_row {α : Type} {sz B : Nat} {e : TypeId} {R : World → List Value → α → Prop} {w : World} {v : Value} {xs : List α} (h : OwnL sz B e R w v xs) (hne : xs ≠ []) :
    ∃ g cap, ∃ css : List (List Value), v = .slice (some ⟨g, 0, none⟩) xs.length cap ∧ xs.length ≤ cap ∧ cap ≤ maxLen ∧ B ≤ g ∧ g < w.heap.size ∧ css.length = xs.length ∧ (∀ (i : Nat) (cs : List Value) (x : α), css[i]? = some cs → xs[i]? = some x → cs.length = sz ∧ R w cs x) ∧
      (∀ j u, css.flatten[j]? = some u → w.cell? ⟨g, j, none⟩ = some u ∧ w.frozen? ⟨g, j, none⟩ = false) := by
  obtain ⟨css, h1, h2, h3, h4⟩ := h
  rcases h4 with ⟨_, h5⟩ | ⟨g, cap, cur, rfl, a2, a3, a4, a5, a6, a7⟩
  · exact absurd (List.length_eq_zero_iff.1 h5) hne
  · refine ⟨g, cap, css, rfl, a4, a5, a2, lt_of_block a3, h1, h2, fun j u hj => ⟨?_, by simp [World.frozen?, a3]⟩⟩
    rw [← a7, List.getElem?_take] at hj
    split at hj
    · simp [World.cell?, a3]; simpa using hj
    · cases hj

theorem pull_swo {α β : Type} {c : β → β → Int} (h : TotC c) (f : α → β) : SWO (ltOf fun x y : α => c (f x) (f y)) where
  irrefl x := h.swo.irrefl (f x)
  trans x y z := h.swo.trans (f x) (f y) (f z)
  ntrans x y z := h.swo.ntrans (f x) (f y) (f z)

set_option maxHeartbeats 1000000 in
theorem sort_tups {P : Program} {ρ : Ren} (L : SlLaysF.n6 P ρ) {e : TypeId} (g : Nat) (eg : ∀ args w, (callFunc g args).run P w = .ok (.enter g args) w) (c : List V → List V → Int) (hT : TotC c)
    (hc : ∀ (a b : Value) (xs ys : List V) (W : World), Vals W a xs → Vals W b ys → Calls P g #[a, b] W fun x W' => x = .returned (.int .i64 (c xs ys)) ∧ Gr.Fut W W')
    (w w1 : World) (hw : Fut w w1) (t : Value) (ts : List (List V)) (h : OwnL 1 w.heap.size e (fun _ => RT w) w1 t ts) (hne : ts ≠ []) (hlen : ts.length < 4611686018427387904) :
    Calls P (ρ.f 6) #[t, .func (.func g) #[] #[]] w1 fun x w2 => x = .returned (.tuple #[]) ∧ ∃ ts' : List (List V), ts'.Perm ts ∧ Sorted c ts' ∧ Tups w2 t ts' ∧ Fut w w2 := by
  obtain ⟨blk, cap, css, rfl, hcl, hcm, hB, hlt, hcs, hel, hcells⟩ := own_row h hne
  have hvs : ∀ i (hi : i < css.length), ∃ v, css[i] = [v] ∧ ∃ h' : i < ts.length, Vals w v ts[i] := fun i hi => by
    obtain ⟨_, v, h1, h2⟩ := hel i _ _ (List.getElem?_eq_getElem hi) (List.getElem?_eq_getElem (by omega))
    exact ⟨v, h1, _, h2⟩
  obtain ⟨d, hd1, hd2⟩ := zip_sub (p := fun q : Value × List V => Vals w q.1 q.2) (css.map fun cs => cs.headD undef) ts (by simp [hcs]) fun i v x hi hx => by
    have hil : i < css.length := by have := (List.getElem?_eq_some_iff.1 hi).1; simpa using this
    obtain ⟨v', h1, h', h2⟩ := hvs i hil
    simp only [List.getElem?_map, List.getElem?_eq_getElem hil, Option.map_some, Option.some.injEq] at hi
    rw [List.getElem?_eq_getElem h'] at hx
    rw [← hi, ← Option.some.inj hx, h1]
    exact h2
  have hdl : d.length = ts.length := by rw [← hd2, List.length_map]
  have hfl : css.flatten = d.map fun q => q.1.1 := by
    rw [hd1]
    have : ∀ l : List (List Value), (∀ cs ∈ l, ∃ v, cs = [v]) → l.flatten = l.map fun cs => cs.headD undef := fun l hl => by
      induction l with
      | nil => rfl
      | cons a r ih =>
        obtain ⟨v, hv⟩ := hl a (by simp)
        rw [List.flatten_cons, ih fun cs hcs => hl cs (by simp [hcs]), hv]; rfl
    refine this css fun cs hcs' => ?_
    obtain ⟨i, hi⟩ := List.getElem?_of_mem hcs'
    have hil := (List.getElem?_eq_some_iff.1 hi).1
    obtain ⟨v, h1, _⟩ := hvs i hil
    rw [List.getElem?_eq_getElem hil] at hi
    exact ⟨v, by rw [← Option.some.inj hi, h1]⟩
  cases d with
  | nil => exact absurd (List.length_eq_zero_iff.1 hdl.symm) hne
  | cons d0 dr =>
  haveI : Inhabited {q : Value × List V // Vals w q.1 q.2} := ⟨d0⟩
  generalize d0 :: dr = d at hd1 hd2 hdl hfl
  have hsz : d.toArray.size = ts.length := by simpa using hdl
  have hone : OneCell (fun q : {q : Value × List V // Vals w q.1 q.2} => q.1.1) := fun q => by
    obtain ⟨⟨v, x⟩, hq⟩ := q
    obtain ⟨A, cp, hv, _⟩ := SlRep.form hq
    simp only at hv ⊢
    rw [hv]; rfl
  have hH : Holds (fun q : {q : Value × List V // Vals w q.1 q.2} => q.1.1) w1 blk 0 d.toArray := fun j hj => by
    have hj' : j < d.length := by simpa using hj
    have := hcells j (d[j].1.1) (by rw [hfl, List.getElem?_map, List.getElem?_eq_getElem hj']; rfl)
    rw [Nat.zero_add, getElem!_pos d.toArray j hj]
    simpa using this
  have hbw : w.heap.size ≤ w1.heap.size := hw.size
  have hS := Any.slices_SortFunc L (fun q : {q : Value × List V // Vals w q.1 q.2} => q.1.1) hone (fun x y => c x.1.2 y.1.2) (pull_swo hT fun q : {q : Value × List V // Vals w q.1 q.2} => q.1.2) g #[] blk 0 cap d.toArray w1 eg
    (fun m os dk hdk x y => by
      have F : Fut w (sortWorld (fun q : {q : Value × List V // Vals w q.1 q.2} => q.1.1) w1 blk 0 m dk os) := fut_sort hw _ _ _ _ _ _ hB
      have := hc x.1.1 y.1.1 x.1.2 y.1.2 _ (x.2.fut RV.stays F) (y.2.fut RV.stays F)
      rw [Array.append_empty]
      exact this) hH hlt (by rw [hsz]; exact hlen)
  rw [hsz] at hS
  refine hS.mono ?_
  rintro x w2 ⟨rfl, d', n, os, hp, hs, rfl⟩
  have hperm := perm_of_in (hsz ▸ hp)
  have hd'l : d'.size = ts.length := by have := hperm.length_eq; simpa [hdl] using this
  refine ⟨rfl, d'.toList.map fun q => q.1.2, ?_, ?_, ?_, fut_sort hw _ _ _ _ _ _ hB⟩
  · have := hperm.map fun q => q.1.2
    simpa [hd2] using this
  · exact sorted_of_in (f := fun q : {q : Value × List V // Vals w q.1 q.2} => q.1.2) hs hd'l
  · have hh := holds_sortWorld (fun q : {q : Value × List V // Vals w q.1 q.2} => q.1.1) w1 blk 0 n d.toArray d' os hlt hH (by rw [hd'l, hsz])
    have hml : (d'.toList.map fun q => q.1.2).length = ts.length := by simp [hd'l]
    refine ⟨some ⟨blk, 0, none⟩, cap, by rw [hml], by rw [hml]; exact hcl, by unfold maxLen at hcm; omega, fun i x hx => ?_⟩
    have hil : i < d'.size := by have := (List.getElem?_eq_some_iff.1 hx).1; simpa using this
    refine ⟨blk, 0, [d'[i]!.1.1], rfl, rfl, fun j u hj => ?_, _, rfl, ?_⟩
    · have hj0 : j = 0 := by
        have := (List.getElem?_eq_some_iff.1 hj).1
        simp at this; omega
      subst hj0
      simp only [List.getElem?_cons_zero, Option.some.injEq] at hj
      subst hj
      have := (hh i hil).1
      simpa using this
    · have he : x = d'[i]!.1.2 := by
        rw [getElem!_pos d' i hil]
        simp [List.getElem?_map, hil] at hx
        exact hx.symm
      rw [he]
      exact d'[i]!.2.fut RV.stays (fut_sort hw _ _ _ _ _ _ hB)

set_option maxHeartbeats 1000000 in
theorem sort_facs {P : Program} {ρ : Ren} (L : SlLaysF0.n6 P ρ) (aE : ∀ w, (isAgg (ρ.t 24)).run P w = .ok true w) (zE : ∀ w, (Go.sizeOf (ρ.t 24)).run P w = .ok 2 w) {e : TypeId} (g : Nat) (eg : ∀ args w, (callFunc g args).run P w = .ok (.enter g args) w) (c : Fc → Fc → Int) (hT : TotC c)
    (hc : ∀ (a b : Value) (xs ys : Fc) (W : World), Vals W a xs.a → Vals W b ys.a → Calls P g #[.agg #[.string xs.p, a], .agg #[.string ys.p, b]] W fun x W' => x = .returned (.int .i64 (c xs ys)) ∧ Gr.Fut W W')
    (w w1 : World) (hw : Fut w w1) (t : Value) (ts : List Fc) (h : OwnL 2 w.heap.size e (fun _ => RG w) w1 t ts) (hne : ts ≠ []) (hlen : ts.length < 4611686018427387904) :
    Calls P (ρ.f 6) #[t, .func (.func g) #[] #[]] w1 fun x w2 => x = .returned (.tuple #[]) ∧ ∃ ts' : List Fc, ts'.Perm ts ∧ Sorted c ts' ∧ FacsG w2 t ts' ∧ Fut w w2 := by
  obtain ⟨blk, cap, css, rfl, hcl, hcm, hB, hlt, hcs, hel, hcells⟩ := own_row h hne
  have hvs : ∀ i (hi : i < css.length), ∃ v, ∃ h' : i < ts.length, css[i] = [.string (ts[i]).p, v] ∧ (ts[i]).p.size ≤ 140737488351232 ∧ Vals w v (ts[i]).a := fun i hi => by
    obtain ⟨_, v, h1, h2, h3⟩ := hel i _ _ (List.getElem?_eq_getElem hi) (List.getElem?_eq_getElem (by omega))
    exact ⟨v, _, h1, h2, h3⟩
  obtain ⟨d, hd1, hd2⟩ := zip_sub (p := fun q : Value × Fc => q.2.p.size ≤ 140737488351232 ∧ Vals w q.1 q.2.a) (css.map fun cs => cs.getD 1 undef) ts (by simp [hcs]) fun i v x hi hx => by
    have hil : i < css.length := by have := (List.getElem?_eq_some_iff.1 hi).1; simpa using this
    obtain ⟨v', h', h1, h2⟩ := hvs i hil
    simp only [List.getElem?_map, List.getElem?_eq_getElem hil, Option.map_some, Option.some.injEq] at hi
    rw [List.getElem?_eq_getElem h'] at hx
    rw [← hi, ← Option.some.inj hx, h1]
    exact h2
  have hdl : d.length = ts.length := by rw [← hd2, List.length_map]
  have hcd : ∀ i (hi : i < d.length), css[i]? = some [.string (d[i]).1.2.p, (d[i]).1.1] := fun i hi => by
    obtain ⟨v, h', h1, _⟩ := hvs i (by omega)
    rw [List.getElem?_eq_getElem (by omega), h1]
    have e1 : (d.map fun q => q.1.1)[i]? = (css.map fun cs => cs.getD 1 undef)[i]? := by rw [hd1]
    have e2 : (d.map fun q => q.1.2)[i]? = ts[i]? := by rw [hd2]
    rw [List.getElem?_map, List.getElem?_eq_getElem hi, List.getElem?_eq_getElem h'] at e2
    rw [List.getElem?_map, List.getElem?_map, List.getElem?_eq_getElem hi, List.getElem?_eq_getElem (by omega), h1] at e1
    simp only [Option.map_some, Option.some.injEq] at e1 e2
    rw [e1, e2]; rfl
  cases d with
  | nil => exact absurd (List.length_eq_zero_iff.1 hdl.symm) hne
  | cons d0 dr =>
  haveI : Inhabited {q : Value × Fc // q.2.p.size ≤ 140737488351232 ∧ Vals w q.1 q.2.a} := ⟨d0⟩
  generalize d0 :: dr = d at hd1 hd2 hdl hcd
  have hsz : d.toArray.size = ts.length := by simpa using hdl
  obtain ⟨enc, henc⟩ : ∃ enc : {q : Value × Fc // q.2.p.size ≤ 140737488351232 ∧ Vals w q.1 q.2.a} → List Value, enc = fun q => [.string q.1.2.p, q.1.1] := ⟨_, rfl⟩
  have hk2 : ∀ x, (enc x).length = 2 := fun x => by rw [henc]; rfl
  have hone : ∀ x, ∀ v ∈ enc x, v.oneCell' = true := fun q v hv => by
    obtain ⟨⟨u, x⟩, hq⟩ := q
    obtain ⟨A, cp, hu, _⟩ := SlRep.form hq.2
    rw [henc] at hv
    simp only at hv hu
    simp only [List.mem_cons, List.not_mem_nil, or_false] at hv
    rcases hv with rfl | rfl
    · rfl
    · rw [hu]; rfl
  have hs2 : ∀ (i : Nat) (cs : List Value), css[i]? = some cs → cs.length = 2 := fun i cs hi => by
    have hil := (List.getElem?_eq_some_iff.1 hi).1
    exact (hel i cs _ hi (List.getElem?_eq_getElem (by omega))).1
  have hH : HoldsK enc 2 w1 blk 0 d.toArray := fun j hj => by
    rw [size_flatK] at hj
    rw [get_flatK enc 2 d.toArray j hj]
    have hj' : j < d.length * 2 := by simpa using hj
    have hq := hcd (j / 2) (by omega)
    have hdj : d.toArray[j / 2]! = d[j / 2]'(by omega) := by rw [getElem!_pos d.toArray (j / 2) (by simp; omega)]; simp
    rw [hdj]
    have hr : (enc (d[j / 2]'(by omega)))[j % 2]? = some ((enc (d[j / 2]'(by omega)))[j % 2]!) := by
      have h2 : j % 2 < (enc (d[j / 2]'(by omega))).length := by rw [hk2]; omega
      rw [List.getElem?_eq_getElem h2, getElem!_pos (enc (d[j / 2]'(by omega))) (j % 2) h2]
    rw [henc] at hr
    have hf := flatten_at hs2 (j / 2) (j % 2) _ _ hq hr
    rw [show j / 2 * 2 + j % 2 = j by omega] at hf
    have := hcells j _ hf
    rw [Nat.zero_add, henc]
    exact this
  have hbw : w.heap.size ≤ w1.heap.size := hw.size
  have hS := AnyQ.slices_SortFunc L 2 aE zE enc hk2 hone (fun x y => c x.1.2 y.1.2) (pull_swo hT fun q : {q : Value × Fc // q.2.p.size ≤ 140737488351232 ∧ Vals w q.1 q.2.a} => q.1.2) g #[] blk 0 cap d.toArray w1 eg
    (fun m os dk hdk x y => by
      have F : Fut w (sortWorldK enc 2 w1 blk 0 m dk os) := fut_sortK hw _ _ _ _ _ _ _ hB
      have := hc x.1.1 y.1.1 x.1.2 y.1.2 _ (x.2.2.fut RV.stays F) (y.2.2.fut RV.stays F)
      rw [show (enc x).toArray = #[.string x.1.2.p, x.1.1] by rw [henc], show (enc y).toArray = #[.string y.1.2.p, y.1.1] by rw [henc], Array.append_empty]
      exact this) hH hlt (by rw [hsz]; exact hlen)
  rw [hsz] at hS
  refine hS.mono ?_
  rintro x w2 ⟨rfl, d', n, os, hp, hs, rfl⟩
  have hperm := perm_of_in (hsz ▸ hp)
  have hd'l : d'.size = ts.length := by have := hperm.length_eq; simpa [hdl] using this
  refine ⟨rfl, d'.toList.map fun q => q.1.2, ?_, ?_, ?_, fut_sortK hw _ _ _ _ _ _ _ hB⟩
  · have := hperm.map fun q => q.1.2
    simpa [hd2] using this
  · exact sorted_of_in (f := fun q : {q : Value × Fc // q.2.p.size ≤ 140737488351232 ∧ Vals w q.1 q.2.a} => q.1.2) hs hd'l
  · have hh := holdsK_sortWorldK_c enc 2 w1 blk 0 d.toArray d' n os hH hlt (by rw [hd'l, hsz])
    have hml : (d'.toList.map fun q => q.1.2).length = ts.length := by simp [hd'l]
    refine ⟨some ⟨blk, 0, none⟩, cap, by rw [hml], by rw [hml]; exact hcl, by unfold maxLen at hcm; omega, fun i x hx => ?_⟩
    have hil : i < d'.size := by have := (List.getElem?_eq_some_iff.1 hx).1; simpa using this
    have he : x = d'[i]!.1.2 := by
      rw [getElem!_pos d' i hil]
      simp [List.getElem?_map, hil] at hx
      exact hx.symm
    refine ⟨blk, 0, enc d'[i]!, rfl, hk2 _, fun j u hj => ?_, d'[i]!.1.1, by rw [henc, he], by rw [he]; exact d'[i]!.2.1, by rw [he]; exact d'[i]!.2.2.fut RV.stays (fut_sortK hw _ _ _ _ _ _ _ hB)⟩
    have hjl : j < 2 := by rw [← hk2 d'[i]!]; exact (List.getElem?_eq_some_iff.1 hj).1
    have h1 := (hh (i * 2 + j) (by rw [size_flatK]; omega)).1
    rw [get_flatK enc 2 d' (i * 2 + j) (by omega), show (i * 2 + j) / 2 = i by omega, show (i * 2 + j) % 2 = j by omega] at h1
    rw [h1, ← hj]
    have h2 : j < (enc d'[i]!).length := by rw [hk2]; exact hjl
    rw [List.getElem?_eq_getElem h2, getElem!_pos (enc d'[i]!) j h2]
    rfl
end Go.Proofs.YtlihkmldclocoaaDoor
