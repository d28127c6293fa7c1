/- slices.SortFunc of a list of rows: what the row holds behind it. Generic in the program. -/
import Derived.Test.YtcekphjcmippoaaSortW
import Derived.Test.YtcekphjcmippoaaRelX
import Derived.Test.YtcekphjcmippoaaRowW
import Derived.Test.YtcekphjcmippoaaFill
import Derived.Shelf.SlSortCmp.WholeK
namespace Go.Proofs.Ytcekphjcmippoaa
open Go.RowKit Go.Sort Go.Shelf Go.WideMaps
set_option linter.unusedSimpArgs false
set_option linter.unusedVariables false

theorem ownR_row {B : Nat} {e : TypeId} {w : World} {v : Value} {xs : List Rw} (h : OwnL 24 B e RR w v xs) (hne : xs ≠ []) :
    ∃ g cap, ∃ css : List (List Value), v = .slice (some ⟨g, 0, none⟩) xs.length cap ∧ xs.length ≤ cap ∧ cap ≤ maxLen ∧ B ≤ g ∧ g < w.heap.size ∧ css.length = xs.length ∧ (∀ (i : Nat) (cs : List Value) (x : Rw), css[i]? = some cs → xs[i]? = some x → cs.length = 24 ∧ RR w cs x) ∧
      (∀ j u, css.flatten[j]? = some u → w.cell? ⟨g, j, none⟩ = some u ∧ w.frozen? ⟨g, j, none⟩ = false) := by
  obtain ⟨css, h1, h2, h3, h4⟩ := h
  rcases h4 with ⟨_, h5⟩ | ⟨g, cap, cur, rfl, a2, a3, a4, a5, a6, a7⟩
  · exact absurd (List.length_eq_zero_iff.1 h5) hne
  · refine ⟨g, cap, css, rfl, a4, a5, a2, lt_of_block a3, h1, h2, fun j u hj => ⟨?_, by simp [World.frozen?, a3]⟩⟩
    rw [← a7, List.getElem?_take] at hj
    split at hj
    · simp [World.cell?, a3]; simpa using hj
    · cases hj
theorem totR : TotC cmpR := ⟨ordR.zero, ordR.swap, fun x y z h1 h2 => ordR.lt h1 (by omega)⟩
theorem pull_swoR {α : Type} (f : α → Rw) : SWO (ltOf fun x y : α => cmpR (f x) (f y)) where
  irrefl x := totR.swo.irrefl (f x)
  trans x y z := totR.swo.trans (f x) (f y) (f z)
  ntrans x y z := totR.swo.ntrans (f x) (f y) (f z)
abbrev RwOk : Type := {x : Rw // Rw.ok x}
def encR (x : RwOk) : List Value := Rw.cells x.1
theorem encR_len (x : RwOk) : (encR x).length = 24 := Rw.cells_len x.2
theorem encR_one (x : RwOk) : ∀ v ∈ encR x, v.oneCell' = true := fun v hv => by
  unfold encR Rw.cells at hv
  rw [List.mem_map] at hv
  obtain ⟨a, _, rfl⟩ := hv
  rfl
instance : Inhabited RwOk := ⟨⟨zeroRow, zeroRow_ok⟩⟩

set_option maxHeartbeats 1000000 in
theorem sort_rows {P : Program} {ρ : Ren} (L : SlLaysF0.n6 P ρ) (aE : ∀ w, (isAgg (ρ.t 24)).run P w = .ok true w) (zE : ∀ w, (Go.sizeOf (ρ.t 24)).run P w = .ok 24 w) {e : TypeId} (g : Nat) (eg : ∀ args w, (callFunc g args).run P w = .ok (.enter g args) w)
    (hc : ∀ (x y : Rw) (W : World), Rw.ok x → Rw.ok y → Calls P g #[Rw.val x, Rw.val y] W fun z W' => z = .returned (.int .i64 (cmpR x y)) ∧ Gr.Fut W W')
    (w w1 : World) (hw : Fut w w1) (t : Value) (ts : List Rw) (h : OwnL 24 w.heap.size e RR w1 t ts) (hne : ts ≠ []) (hlen : ts.length < 4611686018427387904) :
    Calls P (ρ.f 6) #[t, .func (.func g) #[] #[]] w1 fun x w2 => x = .returned (.tuple #[]) ∧ ∃ ts' : List Rw, ts'.Perm ts ∧ Sorted cmpR ts' ∧ SlRep 24 maxLen RR w2 t ts' ∧ Fut w w2 := by
  have hok := rows_ok h.rep
  obtain ⟨blk, cap, css, rfl, hcl, hcm, hB, hlt, hcs, hel, hcells⟩ := ownR_row h hne
  obtain ⟨d, hd⟩ : ∃ d : List RwOk, d.map (fun q => q.1) = ts := ⟨ts.pmap (fun x h => ⟨x, h⟩) hok, by simp [List.map_pmap]⟩
  have hdl : d.length = ts.length := by rw [← hd, List.length_map]
  have hcd : ∀ i (hi : i < d.length), css[i]? = some (encR d[i]) := fun i hi => by
    obtain ⟨_, h2⟩ := hel i _ _ (List.getElem?_eq_getElem (by omega)) (List.getElem?_eq_getElem (by omega))
    rw [List.getElem?_eq_getElem (by omega), h2.1]
    have e2 : (d.map fun q => q.1)[i]? = ts[i]? := by rw [hd]
    rw [List.getElem?_map, List.getElem?_eq_getElem hi, List.getElem?_eq_getElem (by omega)] at e2
    simp only [Option.map_some, Option.some.injEq] at e2
    unfold encR
    rw [e2]
  have hsz : d.toArray.size = ts.length := by simpa using hdl
  have hs2 : ∀ (i : Nat) (cs : List Value), css[i]? = some cs → cs.length = 24 := fun i cs hi => by
    have hil := (List.getElem?_eq_some_iff.1 hi).1
    exact (hel i cs _ hi (List.getElem?_eq_getElem (by omega))).1
  have hH : HoldsK encR 24 w1 blk 0 d.toArray := fun j hj => by
    rw [size_flatK] at hj
    rw [get_flatK encR 24 d.toArray j hj]
    have hj' : j < d.length * 24 := by simpa using hj
    have hq := hcd (j / 24) (by omega)
    have hdj : d.toArray[j / 24]! = d[j / 24]'(by omega) := by rw [getElem!_pos d.toArray (j / 24) (by simp; omega)]; simp
    rw [hdj]
    have hr : (encR (d[j / 24]'(by omega)))[j % 24]? = some ((encR (d[j / 24]'(by omega)))[j % 24]!) := by
      have h2 : j % 24 < (encR (d[j / 24]'(by omega))).length := by rw [encR_len]; omega
      rw [List.getElem?_eq_getElem h2, getElem!_pos (encR (d[j / 24]'(by omega))) (j % 24) h2]
    have hf := flatten_at hs2 (j / 24) (j % 24) _ _ hq hr
    rw [show j / 24 * 24 + j % 24 = j by omega] at hf
    have := hcells j _ hf
    rw [Nat.zero_add]
    exact this
  have hbw : w.heap.size ≤ w1.heap.size := hw.size
  have hS := AnyQ.slices_SortFunc L 24 aE zE encR encR_len encR_one (fun x y => cmpR x.1 y.1) (pull_swoR fun q : RwOk => q.1) g #[] blk 0 cap d.toArray w1 eg
    (fun m os dk hdk x y => by
      have := hc x.1 y.1 (sortWorldK encR 24 w1 blk 0 m dk os) x.2 y.2
      rw [Array.append_empty]
      exact this) hH hlt (by rw [hsz]; exact hlen)
  rw [hsz] at hS
  refine hS.mono ?_
  rintro x w2 ⟨rfl, d', n, os, hp, hs, rfl⟩
  have hperm := perm_of_in (hsz ▸ hp)
  have hd'l : d'.size = ts.length := by have := hperm.length_eq; simpa [hdl] using this
  refine ⟨rfl, d'.toList.map fun q => q.1, ?_, ?_, ?_, fut_sortK hw _ _ _ _ _ _ _ hB⟩
  · have := hperm.map fun q => q.1
    simpa [hd] using this
  · exact sorted_of_in (f := fun q : RwOk => q.1) hs hd'l
  · have hh := holdsK_sortWorldK_c encR 24 w1 blk 0 d.toArray d' n os hH hlt (by rw [hd'l, hsz])
    have hml : (d'.toList.map fun q => q.1).length = ts.length := by simp [hd'l]
    refine ⟨some ⟨blk, 0, none⟩, cap, by rw [hml], by rw [hml]; exact hcl, hcm, fun i x hx => ?_⟩
    have hil : i < d'.size := by have := (List.getElem?_eq_some_iff.1 hx).1; simpa using this
    have he : x = d'[i]!.1 := by
      rw [getElem!_pos d' i hil]
      simp [List.getElem?_map, hil] at hx
      exact hx.symm
    refine ⟨blk, 0, encR d'[i]!, rfl, encR_len _, fun j u hj => ?_, by rw [he]; rfl, by rw [he]; exact d'[i]!.2⟩
    have hjl : j < 24 := by rw [← encR_len d'[i]!]; exact (List.getElem?_eq_some_iff.1 hj).1
    have h1 := (hh (i * 24 + j) (by rw [size_flatK]; omega)).1
    rw [get_flatK encR 24 d' (i * 24 + j) (by omega), show (i * 24 + j) / 24 = i by omega, show (i * 24 + j) % 24 = j by omega] at h1
    rw [h1, ← hj]
    have h2 : j < (encR d'[i]!).length := by rw [encR_len]; exact hjl
    rw [List.getElem?_eq_getElem h2, getElem!_pos (encR d'[i]!) j h2]
    rfl
end Go.Proofs.Ytcekphjcmippoaa
