/- Select, in plain words: which numbers it tells. No program. -/
import Derived.Test.YtcekphjcmippoaaRelF
import Derived.Test.YtcekphjcmippoaaRelS
namespace Go.Proofs.Ytcekphjcmippoaa
open Go.RowKit Go.WideMaps
set_option linter.unusedSimpArgs false
set_option linter.unusedVariables false

/-- One of the numbers, where it lies. -/
theorem int_at {w : World} {A : Option Addr} {n cap M : Nat} {xs : List Int} (h : SlRep 1 M RI w (.slice A n cap) xs) {k : Nat} {i : Int} (hk : xs[k]? = some i) :
    ∃ b off, A = some ⟨b, off, none⟩ ∧ w.cell? ⟨b, off + k, none⟩ = some (.int .i64 i) := by
  obtain ⟨A1, cap1, hv, _, _, h3⟩ := h
  obtain ⟨b, off, cs, hA, hl, hc, hr⟩ := h3 k _ hk
  injection hv with hv _ _
  have hr' : cs = [.int .i64 i] := hr
  subst hr'
  refine ⟨b, off, hv.trans hA, ?_⟩
  have := hc 0 _ rfl
  simpa using this
/-- Do two rows agree in the first k columns, where the mask asks? -/
def fitB (m : Nat) (y x : Rw) : Nat → Bool
  | 0 => true
  | k + 1 => fitB m y x k && (decide (y.getD k 0 = x.getD k 0) || !m.testBit k)
theorem fitB_iff (m : Nat) (y x : Rw) : ∀ k, fitB m y x k = true ↔ ∀ i, i < k → m.testBit i = true → y.getD i 0 = x.getD i 0
  | 0 => by simp [fitB]
  | k + 1 => by
    unfold fitB
    rw [Bool.and_eq_true, fitB_iff m y x k, Bool.or_eq_true, decide_eq_true_iff]
    constructor
    · rintro ⟨h1, h2⟩ i hi hb
      by_cases hik : i = k
      · subst hik
        rcases h2 with h2 | h2
        · exact h2
        · rw [hb] at h2; cases h2
      · exact h1 i (by omega) hb
    · intro h
      refine ⟨fun i hi hb => h i (by omega) hb, ?_⟩
      cases hb : m.testBit k with
      | true => exact .inl (h k (by omega) hb)
      | false => exact .inr rfl
theorem getD_iff {x y : Rw} (hx : Rw.ok x) (hy : Rw.ok y) {i : Nat} (hi : i < 24) : y.getD i 0 = x.getD i 0 ↔ y[i]? = x[i]? := by
  have h1 : i < x.length := by rw [hx.1]; exact hi
  have h2 : i < y.length := by rw [hy.1]; exact hi
  simp [List.getD, h1, h2]
theorem fit_cut {m ar : Nat} (har : ar ≤ 24) {y x : Rw} (hy : Rw.ok y) (hx : Rw.ok x) : fitB m y x ar = decide (cutL ar m y = cutL ar m x) := by
  rw [Bool.eq_iff_iff, fitB_iff, decide_eq_true_iff, cutL_eq hy hx]
  constructor
  · intro h i hi hb
    have h2 : i < ar ∧ m.testBit i = true := by
      simp only [offB, Bool.or_eq_false_iff, decide_eq_false_iff_not, Bool.not_eq_false'] at hb
      exact ⟨by omega, hb.2⟩
    exact (getD_iff hx hy hi).1 (h i h2.1 h2.2)
  · intro h i hi hb
    refine (getD_iff hx hy (by omega)).2 (h i (by omega) ?_)
    simp only [offB, hb, Bool.not_true, Bool.or_false, decide_eq_false_iff_not]
    omega
theorem selK_more (ar m : Nat) (x : Rw) (xs : List Rw) (i : Nat) : ∀ d, ∃ r, selK ar m x xs (i + d) = selK ar m x xs i ++ r
  | 0 => ⟨[], by simp⟩
  | d + 1 => by
    obtain ⟨r, hr⟩ := selK_more ar m x xs i d
    exact ⟨r ++ _, by rw [show i + (d + 1) = i + d + 1 by omega, selK_succ, hr, List.append_assoc]⟩
theorem selK_at {ar m : Nat} {x : Rw} {xs : List Rw} {i : Nat} (hi : i < xs.length) (he : cutL ar m (xs.getD i zeroRow) = cutL ar m x) :
    (selK ar m x xs i).length < (selL ar m x xs).length ∧ (selL ar m x xs)[(selK ar m x xs i).length]? = some (i : Int) ∧ (selK ar m x xs (i + 1)).length = (selK ar m x xs i).length + 1 := by
  have h1 := selK_succ ar m x xs i
  rw [if_pos he] at h1
  obtain ⟨r, hr⟩ := selK_more ar m x xs (i + 1) (xs.length - (i + 1))
  rw [show i + 1 + (xs.length - (i + 1)) = xs.length by omega, h1] at hr
  unfold selL
  rw [hr, h1]
  refine ⟨by simp, by simp, by simp⟩
theorem selK_off {ar m : Nat} {x : Rw} {xs : List Rw} {i : Nat} (he : ¬ cutL ar m (xs.getD i zeroRow) = cutL ar m x) : (selK ar m x xs (i + 1)).length = (selK ar m x xs i).length := by
  rw [selK_succ, if_neg he, List.append_nil]
theorem cutL_none (ar : Nat) {x y : Rw} (hx : Rw.ok x) (hy : Rw.ok y) : cutL ar 0 y = cutL ar 0 x := (cutL_eq hy hx).2 fun i hi hb => by simp [offB] at hb
theorem selK_none {ar : Nat} {x : Rw} {xs : List Rw} (hx : Rw.ok x) (hxs : ∀ y ∈ xs, Rw.ok y) : ∀ k, k ≤ xs.length → selK ar 0 x xs k = (List.range k).map Int.ofNat
  | 0, _ => rfl
  | k + 1, hk => by
    have hy : Rw.ok (xs.getD k zeroRow) := by
      have h : k < xs.length := by omega
      rw [show xs.getD k zeroRow = xs[k] by simp [List.getD, h]]
      exact hxs _ (List.getElem_mem _)
    rw [selK_succ, if_pos (cutL_none ar hx hy), selK_none hx hxs k (by omega), List.range_succ, List.map_append]
    rfl
theorem sel_none_at {ar : Nat} {x : Rw} {xs : List Rw} (hx : Rw.ok x) (hxs : ∀ y ∈ xs, Rw.ok y) {k : Nat} (hk : k < xs.length) : (selL ar 0 x xs)[k]? = some (k : Int) := by
  unfold selL
  rw [selK_none hx hxs _ (Nat.le_refl _)]
  simp [hk]
theorem sel_none_len {ar : Nat} {x : Rw} {xs : List Rw} (hx : Rw.ok x) (hxs : ∀ y ∈ xs, Rw.ok y) : (selL ar 0 x xs).length = xs.length := by
  unfold selL
  rw [selK_none hx hxs _ (Nat.le_refl _)]
  simp
/-- Rows of one arity that agree in all its columns are the same. -/
theorem sel_same {ar m : Nat} (hm : ∀ i, i < ar → m.testBit i = true) {x y z : Rw} (hx : Rw.ok x) (hy : Rw.ok y) (hz : Rw.ok z) (ry : rightP ar y = true) (rz : rightP ar z = true)
    (ey : cutL ar m y = cutL ar m x) (ez : cutL ar m z = cutL ar m x) : y = z := by
  have e := (cutL_eq hy hz).1 (ey.trans ez.symm)
  refine List.ext_getElem? fun i => ?_
  by_cases hi : i < 24
  · by_cases ha : i < ar
    · exact e i hi (by simp only [offB, hm i ha, Bool.not_true, Bool.or_false, decide_eq_false_iff_not]; omega)
    · have key : ∀ u : Rw, Rw.ok u → rightP ar u = true → u[i]? = some 0 := fun u hu ru => by
        have hl : i < u.length := by rw [hu.1]; exact hi
        unfold rightP at ru
        rw [Bool.and_eq_true] at ru
        have h2 := List.all_eq_true.1 ru.2 u[i] (by
          refine List.mem_of_getElem? (i := i - ar) ?_
          rw [List.getElem?_drop, show ar + (i - ar) = i by omega]
          exact List.getElem?_eq_getElem hl)
        rw [List.getElem?_eq_getElem hl, of_decide_eq_true h2]
      rw [key y hy ry, key z hz rz]
  · rw [List.getElem?_eq_none (by rw [hy.1]; omega), List.getElem?_eq_none (by rw [hz.1]; omega)]
theorem sel_one {ar m : Nat} (hm : ∀ i, i < ar → m.testBit i = true) {x : Rw} {xs : List Rw} (hx : Rw.ok x) (hxs : ∀ y ∈ xs, Rw.ok y) (hr : ∀ y ∈ xs, rightP ar y = true) (hn : xs.Nodup) : (selL ar m x xs).length ≤ 1 := by
  unfold selL selK
  rw [List.length_map]
  refine Decidable.byContradiction fun hlt => ?_
  generalize hL : (List.range xs.length).filter (fun i => decide (cutL ar m (xs.getD i zeroRow) = cutL ar m x)) = L at hlt
  have hnd : L.Nodup := by rw [← hL]; exact List.nodup_range.sublist List.filter_sublist
  have hmem : ∀ i ∈ L, ∃ h : i < xs.length, cutL ar m xs[i] = cutL ar m x := fun i hi => by
    rw [← hL, List.mem_filter, List.mem_range, decide_eq_true_iff] at hi
    refine ⟨hi.1, ?_⟩
    have := hi.2
    rwa [show xs.getD i zeroRow = xs[i] by simp [List.getD, hi.1]] at this
  match L, hnd, hmem, hlt with
  | [], _, _, hlt => simp at hlt
  | [_], _, _, hlt => simp at hlt
  | i :: j :: r, hnd, hmem, _ =>
    obtain ⟨h1, e1⟩ := hmem i (by simp)
    obtain ⟨h2, e2⟩ := hmem j (by simp)
    have he := sel_same hm hx (hxs _ (List.getElem_mem h1)) (hxs _ (List.getElem_mem h2)) (hr _ (List.getElem_mem h1)) (hr _ (List.getElem_mem h2)) e1 e2
    have := (List.getElem_inj hn).1 he
    subst this
    simp at hnd
end Go.Proofs.Ytcekphjcmippoaa
