/- The world behind slices.SortFunc: a row of the call's own has been written over; lists and rows. Generic; no program. -/
import Derived.Test.YtcekphjcmippoaaSortL
import Derived.Test.YtcekphjcmippoaaOwn
import Derived.Shelf.SlSortCmp.NoneTotal
namespace Go.Proofs.Ytcekphjcmippoaa
open Go.RowKit Go.Sort
set_option linter.unusedSimpArgs false
set_option linter.unusedVariables false

section
variable {α : Type} [Inhabited α]
theorem below_sort (enc : α → Value) (w : World) (blk off m : Nat) (d : Array α) (os : Array Obj) (B : Nat) (hB : B ≤ blk) (hw : B ≤ w.heap.size) : Below B w (sortWorld enc w blk off m d os) := by
  refine ⟨rfl, rfl, rfl, ?_, fun j hj => ?_⟩
  · simp [sortWorld, putRow, mapBlock, Sort.ahead, grow]
  · have hne : blk ≠ j := by omega
    unfold sortWorld
    rw [heap_grow_old _ _ (by simp [putRow, mapBlock, Sort.ahead]; omega)]
    simp [putRow, mapBlock, Sort.ahead, Array.getElem?_modify, hne]
theorem fut_sort {w0 w : World} (h : Fut w0 w) (enc : α → Value) (blk off m : Nat) (d : Array α) (os : Array Obj) (hb : w0.heap.size ≤ blk) : Fut w0 (sortWorld enc w blk off m d os) :=
  Below.trans h (below_sort enc w blk off m d os _ hb h.size)
theorem fut_sortK {w0 w : World} (h : Fut w0 w) (enc : α → List Value) (k blk off m : Nat) (d : Array α) (os : Array Obj) (hb : w0.heap.size ≤ blk) : Fut w0 (sortWorldK enc k w blk off m d os) :=
  fut_sort h id blk off m (flatK enc k d) os hb
theorem perm_of_in {d d' : Array α} (h : PermIn 0 d.size d d') : d'.toList.Perm d.toList := by
  obtain ⟨h1, _, h3⟩ := h
  rw [Array.extract_size] at h3
  rw [← h1, Array.extract_size] at h3
  exact h3
theorem sorted_of_in {β : Type} {c : β → β → Int} {f : α → β} {n : Nat} {d' : Array α} (h : SortedIn (ltOf fun x y => c (f x) (f y)) 0 n d') (hn : d'.size = n) : Sorted c (d'.toList.map f) := by
  unfold Sorted
  rw [List.pairwise_iff_getElem]
  intro i j hi hj hij
  simp only [List.length_map, Array.length_toList] at hi hj
  have h1 := h i j (Nat.zero_le _) hij (by omega)
  unfold ltOf at h1
  rw [decide_eq_false_iff_not] at h1
  rw [getElem!_pos d' j hj, getElem!_pos d' i hi] at h1
  simpa using h1
end

/-- Lists of a type with what each stands for. -/
theorem zip_sub {β γ : Type} {p : β × γ → Prop} : ∀ (vs : List β) (xs : List γ), vs.length = xs.length → (∀ (i : Nat) (v : β) (x : γ), vs[i]? = some v → xs[i]? = some x → p (v, x)) →
    ∃ d : List {q : β × γ // p q}, d.map (fun q => q.1.1) = vs ∧ d.map (fun q => q.1.2) = xs
  | [], [], _, _ => ⟨[], rfl, rfl⟩
  | [], _ :: _, h, _ => by simp at h
  | _ :: _, [], h, _ => by simp at h
  | v :: vs, x :: xs, h, hp => by
    obtain ⟨d, h1, h2⟩ := zip_sub vs xs (by simpa using h) fun i u y hi hy => hp (i + 1) u y (by simpa using hi) (by simpa using hy)
    exact ⟨⟨(v, x), hp 0 v x rfl rfl⟩ :: d, by simp [h1], by simp [h2]⟩
end Go.Proofs.Ytcekphjcmippoaa
