/- Copies of lists whose elements hold lists, a mark behind each. Generic; no program. -/
import Derived.Test.YtlihkmldclocoaaDoorTup
namespace Go.Proofs.YtlihkmldclocoaaDoor
open Go.RowKit
set_option linter.unusedSimpArgs false
set_option linter.unusedVariables false

/-- Elements one behind the other, zeros behind them. -/
def cellsAt (css : List (List Value)) (z : List Value) (sz j : Nat) : Value := ((css[j / sz]?).getD z).getD (j % sz) undef
theorem cellsAt_nil (z : List Value) (sz j : Nat) : cellsAt [] z sz j = z.getD (j % sz) undef := rfl
theorem cellsAt_one (css : List (List Value)) (z : List Value) (a : Value) (k j : Nat) (hk : css.length = k) : (if j = k then a else cellsAt css z 1 j) = cellsAt (css ++ [[a]]) z 1 j := by
  unfold cellsAt
  rw [Nat.div_one, Nat.mod_one]
  by_cases h : j = k
  · subst h; subst hk; simp
  · rw [if_neg h]
    rcases Nat.lt_or_ge j k with h' | h'
    · rw [List.getElem?_append_left (by omega)]
    · rw [List.getElem?_eq_none (by omega), List.getElem?_eq_none (by simp; omega)]
theorem cellsAt_two (css : List (List Value)) (z : List Value) (a b : Value) (k j : Nat) (hk : css.length = k) : (if j = k * 2 + 1 then b else if j = k * 2 then a else cellsAt css z 2 j) = cellsAt (css ++ [[a, b]]) z 2 j := by
  unfold cellsAt
  by_cases h : j / 2 = k
  · have e : (css ++ [[a, b]])[j / 2]? = some [a, b] := by rw [h, ← hk]; simp
    rw [e]
    rcases (by omega : j = k * 2 + 1 ∨ j = k * 2) with rfl | rfl
    · rw [if_pos rfl, show (k * 2 + 1) % 2 = 1 by omega]; rfl
    · rw [if_neg (by omega), if_pos rfl, show k * 2 % 2 = 0 by omega]; rfl
  · rw [if_neg (by omega), if_neg (by omega)]
    rcases Nat.lt_or_ge (j / 2) k with h' | h'
    · rw [List.getElem?_append_left (by omega)]
    · rw [List.getElem?_eq_none (by omega), List.getElem?_eq_none (by simp; omega)]
theorem made_one (z : Value) (n j : Nat) (hz : z.oneCell' = true) (hj : j < n) : (madeCells #[z] n).getD j undef = cellsAt [] [z] 1 j := by
  rw [cellsAt_nil]
  simp [madeCells, hj, Nat.mod_one]
theorem made_two (a b : Value) (n j : Nat) (hj : j < n * 2) : (madeCells #[a, b] (n * 2)).getD j undef = cellsAt [] [a, b] 2 j := by
  rw [cellsAt_nil]
  simp only [madeCells]
  simp [hj]
  rcases (by omega : j % 2 = 0 ∨ j % 2 = 1) with h | h <;> rw [h] <;> rfl
theorem cellsAt_get {css : List (List Value)} {z : List Value} {sz i j : Nat} {cs : List Value} {c : Value} (h : css[i]? = some cs) (hj : cs[j]? = some c) (hsz : j < sz) : cellsAt css z sz (i * sz + j) = c := by
  unfold cellsAt
  rw [Nat.mul_comm, Nat.mul_add_div (by omega), Nat.div_eq_of_lt hsz, Nat.add_zero, h, Nat.mul_add_mod, Nat.mod_eq_of_lt hsz]
  simp [List.getD, hj]

def TwinE {α : Type} (sz : Nat) (e : TypeId) (z : List Value) (RE : Nat → World → List Value → α → Prop) (RM : World → List Value → Prop) (B : Nat) (w : World) (v : Value) (xs : List α) : Prop :=
  ∃ (g : Nat) (css : List (List Value)), B ≤ g ∧ v = .slice (some ⟨g, 0, none⟩) xs.length (xs.length + 1) ∧ css.length = xs.length + 1 ∧ BlkF w g e ((xs.length + 1) * sz) (cellsAt css z sz) ∧
    (∀ (i : Nat) (x : α) (cs : List Value), xs[i]? = some x → css[i]? = some cs → cs.length = sz ∧ RE (g + 1) w cs x) ∧ ∀ cs, css[xs.length]? = some cs → cs.length = sz ∧ RM w cs
theorem TwinE.fut {α : Type} {sz : Nat} {e : TypeId} {z : List Value} {RE : Nat → World → List Value → α → Prop} {RM : World → List Value → Prop} {B : Nat} {w w' : World} {v : Value} {xs : List α}
    (hE : ∀ g, Stays (RE g)) (hM : ∀ w w' cs, Fut w w' → RM w cs → RM w' cs) (h : TwinE sz e z RE RM B w v xs) (hf : Fut w w') : TwinE sz e z RE RM B w' v xs := by
  obtain ⟨g, css, h1, h2, h3, h4, h5, h6⟩ := h
  exact ⟨g, css, h1, h2, h3, h4.fut hf, fun i x cs hx hc => ⟨(h5 i x cs hx hc).1, hE _ _ _ _ _ hf (h5 i x cs hx hc).2⟩, fun cs hc => ⟨(h6 cs hc).1, hM _ _ _ hf (h6 cs hc).2⟩⟩
/-- Read as a list. -/
theorem TwinE.rep {α : Type} {sz M : Nat} {e : TypeId} {z : List Value} {RE : Nat → World → List Value → α → Prop} {RM : World → List Value → Prop} {R : World → List Value → α → Prop} {B : Nat} {w : World} {v : Value} {xs : List α}
    (h : TwinE sz e z RE RM B w v xs) (hR : ∀ g cs x, x ∈ xs → RE g w cs x → R w cs x) (hM : xs.length + 1 ≤ M) : SlRep sz M R w v xs := by
  obtain ⟨g, css, h1, rfl, h3, h4, h5, h6⟩ := h
  refine ⟨_, _, rfl, Nat.le_succ _, hM, fun i x hx => ?_⟩
  have hil : i < xs.length := (List.getElem?_eq_some_iff.1 hx).1
  have hc : css[i]? = some (css[i]'(by omega)) := List.getElem?_eq_getElem (by omega)
  obtain ⟨hl, hre⟩ := h5 i x _ hx hc
  refine ⟨g, 0, _, rfl, hl, fun j c hj => ?_, hR _ _ _ (List.mem_of_getElem? hx) hre⟩
  have hjl : j < sz := by rw [← hl]; exact (List.getElem?_eq_some_iff.1 hj).1
  have hlt : i * sz + j < (xs.length + 1) * sz := by
    have : (i + 1) * sz ≤ (xs.length + 1) * sz := Nat.mul_le_mul_right _ (by omega)
    rw [Nat.add_mul] at this; omega
  rw [Nat.zero_add, h4.cell hlt, cellsAt_get hc hj hjl]

/-! ### Pieces of a list -/
theorem SlRep.take {α : Type} {sz M : Nat} {R : World → List Value → α → Prop} {w : World} {A : Option Addr} {n cap : Nat} {xs : List α} (h : SlRep sz M R w (.slice A n cap) xs) (k : Nat) (hk : k ≤ xs.length) : SlRep sz M R w (.slice A k cap) (xs.take k) := by
  obtain ⟨A', cap', hv, h1, h2, h3⟩ := h
  injection hv with e1 e2 e3
  subst e1; subst e3
  refine ⟨A, cap, by rw [List.length_take, Nat.min_eq_left hk], by rw [List.length_take]; omega, h2, fun i x hx => h3 i x ?_⟩
  rw [List.getElem?_take] at hx
  split at hx
  · exact hx
  · cases hx
theorem SlRep.drop {α : Type} {sz M : Nat} {R : World → List Value → α → Prop} {w : World} {b off n cap : Nat} {xs : List α} (h : SlRep sz M R w (.slice (some ⟨b, off, none⟩) n cap) xs) (k : Nat) (hk : k ≤ xs.length) :
    SlRep sz M R w (.slice (some ⟨b, off + k * sz, none⟩) (xs.length - k) (cap - k)) (xs.drop k) := by
  obtain ⟨A', cap', hv, h1, h2, h3⟩ := h
  injection hv with e1 e2 e3
  subst e1; subst e3
  refine ⟨_, _, by rw [List.length_drop], by rw [List.length_drop]; omega, by omega, fun i x hx => ?_⟩
  rw [List.getElem?_drop] at hx
  obtain ⟨b', off', cs, hA, hl, hc, hr⟩ := h3 (k + i) x hx
  injection hA with hA
  injection hA with e4 e5
  subst e4; subst e5
  refine ⟨_, _, cs, rfl, hl, fun j c hj => ?_, hr⟩
  have := hc j c hj
  rwa [show off + k * sz + (i * sz + j) = off + ((k + i) * sz + j) by rw [Nat.add_mul]; omega]
end Go.Proofs.YtlihkmldclocoaaDoor
