/- Orders, plain: numbers, lists place by place. No program. -/
import Derived.Test.YtcekphjcmippoaaRep
namespace Go.Proofs.Ytcekphjcmippoaa
open Go.RowKit
set_option linter.unusedSimpArgs false
set_option linter.unusedVariables false

def cmpI (a b : Int) : Int := if a < b then -1 else if b < a then 1 else 0
structure Ord3 {α : Type} (c : α → α → Int) : Prop where
  rng : ∀ x y, c x y = -1 ∨ c x y = 0 ∨ c x y = 1
  swap : ∀ x y, c y x = - c x y
  zero : ∀ x y, c x y = 0 ↔ x = y
  tr : ∀ x y z, c x y ≤ 0 → c y z ≤ 0 → c x z ≤ 0
theorem Ord3.refl {α : Type} {c : α → α → Int} (h : Ord3 c) (x : α) : c x x = 0 := (h.zero x x).2 rfl
theorem Ord3.lt {α : Type} {c : α → α → Int} (h : Ord3 c) {x y z : α} (h1 : c x y < 0) (h2 : c y z ≤ 0) : c x z < 0 := by
  have h3 := h.tr x y z (by omega) h2
  rcases Int.lt_or_eq_of_le h3 with h4 | h4
  · exact h4
  · have e := (h.zero x z).1 h4
    subst e
    have := h.swap x y
    omega
theorem Ord3.lt' {α : Type} {c : α → α → Int} (h : Ord3 c) {x y z : α} (h1 : c x y ≤ 0) (h2 : c y z < 0) : c x z < 0 := by
  have h3 := h.tr x y z h1 (by omega)
  rcases Int.lt_or_eq_of_le h3 with h4 | h4
  · exact h4
  · have e := (h.zero x z).1 h4
    subst e
    have := h.swap x y
    omega

def lex (a b : Int) : Int := if a ≠ 0 then a else b
theorem lex_ord {α β γ : Type} {c : α → α → Int} {d : β → β → Int} (hc : Ord3 c) (hd : Ord3 d) (p : γ → α) (q : γ → β) (hinj : ∀ x y, p x = p y → q x = q y → x = y) : Ord3 (fun x y : γ => lex (c (p x) (p y)) (d (q x) (q y))) := by
  constructor
  · intro x y
    unfold lex
    split
    · exact hc.rng _ _
    · exact hd.rng _ _
  · intro x y
    simp only [lex]
    rw [hc.swap (p x), hd.swap (q x)]
    by_cases h : c (p x) (p y) = 0 <;> simp [h]
  · intro x y
    simp only [lex]
    by_cases h : c (p x) (p y) = 0
    · simp only [h, ne_eq, not_true_eq_false, if_false]
      rw [hd.zero]
      exact ⟨hinj _ _ ((hc.zero _ _).1 h), fun e => by rw [e]⟩
    · simp only [ne_eq, h, not_false_eq_true, if_true]
      exact ⟨fun e => e.elim, fun e => by subst e; exact absurd (hc.refl _) h⟩
  · intro x y z h1 h2
    simp only [lex] at h1 h2 ⊢
    by_cases a : c (p x) (p y) = 0
    · by_cases b : c (p y) (p z) = 0
      · have e1 := (hc.zero _ _).1 a
        rw [e1, b]
        simp only [ne_eq, not_true_eq_false, if_false]
        rw [if_neg (by simpa using a)] at h1
        rw [if_neg (by simpa using b)] at h2
        exact hd.tr _ _ _ h1 h2
      · rw [if_pos b] at h2
        have := hc.lt' (x := p x) (y := p y) (z := p z) (by omega) (by omega)
        rw [if_pos (by omega)]
        omega
    · rw [if_pos a] at h1
      have hb : c (p y) (p z) ≤ 0 := by
        by_cases b : c (p y) (p z) = 0
        · omega
        · rwa [if_pos b] at h2
      have := hc.lt (x := p x) (y := p y) (z := p z) (by omega) hb
      rw [if_pos (by omega)]
      omega

theorem ordI : Ord3 cmpI := by
  constructor
  · intro x y; unfold cmpI; (repeat' split) <;> simp
  · intro x y; unfold cmpI; (repeat' split) <;> omega
  · intro x y; unfold cmpI; (repeat' split) <;> omega
  · intro x y z; unfold cmpI; (repeat' split) <;> omega

/-- Lists, place by place. -/
def lcmp {α : Type} (c : α → α → Int) : List α → List α → Int
  | [], [] => 0
  | [], _ :: _ => -1
  | _ :: _, [] => 1
  | x :: r, y :: q => if c x y ≠ 0 then c x y else lcmp c r q
section
variable {α : Type} {c : α → α → Int} (h : Ord3 c)
include h
theorem lcmp_rng : ∀ x y : List α, lcmp c x y = -1 ∨ lcmp c x y = 0 ∨ lcmp c x y = 1
  | [], [] => by simp [lcmp]
  | [], _ :: _ => by simp [lcmp]
  | _ :: _, [] => by simp [lcmp]
  | x :: r, y :: q => by
    simp only [lcmp]
    split
    · exact h.rng _ _
    · exact lcmp_rng r q
theorem lcmp_swap : ∀ x y : List α, lcmp c y x = - lcmp c x y
  | [], [] => rfl
  | [], _ :: _ => rfl
  | _ :: _, [] => rfl
  | x :: r, y :: q => by
    simp only [lcmp]
    rw [h.swap x y, lcmp_swap r q]
    by_cases a : c x y = 0 <;> simp [a]
theorem lcmp_zero : ∀ x y : List α, lcmp c x y = 0 ↔ x = y
  | [], [] => by simp [lcmp]
  | [], _ :: _ => by simp [lcmp]
  | _ :: _, [] => by simp [lcmp]
  | x :: r, y :: q => by
    simp only [lcmp]
    by_cases a : c x y = 0
    · simp only [a, ne_eq, not_true_eq_false, if_false, lcmp_zero r q, List.cons.injEq]
      exact ⟨fun e => ⟨(h.zero _ _).1 a, e⟩, fun e => e.2⟩
    · simp only [ne_eq, a, not_false_eq_true, if_true, List.cons.injEq]
      exact ⟨fun e => e.elim, fun e => absurd ((h.zero _ _).2 e.1) a⟩
theorem lcmp_tr : ∀ x y z : List α, lcmp c x y ≤ 0 → lcmp c y z ≤ 0 → lcmp c x z ≤ 0
  | [], _, [], _, _ => by simp [lcmp]
  | [], _, _ :: _, _, _ => by simp [lcmp]
  | _ :: _, [], _, h1, _ => by simp [lcmp] at h1
  | _ :: _, _ :: _, [], _, h2 => by simp [lcmp] at h2
  | x :: r, y :: q, z :: s, h1, h2 => by
    simp only [lcmp] at h1 h2 ⊢
    by_cases a : c x y = 0
    · by_cases b : c y z = 0
      · have e1 := (h.zero _ _).1 a
        rw [e1, b]
        simp only [ne_eq, not_true_eq_false, if_false]
        rw [if_neg (by simpa using a)] at h1
        rw [if_neg (by simpa using b)] at h2
        exact lcmp_tr r q s h1 h2
      · rw [if_pos b] at h2
        have := h.lt' (x := x) (y := y) (z := z) (by omega) (by omega)
        rw [if_pos (by omega)]
        omega
    · rw [if_pos a] at h1
      have hb : c y z ≤ 0 := by
        by_cases b : c y z = 0
        · omega
        · rwa [if_pos b] at h2
      have := h.lt (x := x) (y := y) (z := z) (by omega) hb
      rw [if_pos (by omega)]
      omega
theorem lcmp_ord : Ord3 (lcmp c) := ⟨lcmp_rng h, lcmp_swap h, lcmp_zero h, lcmp_tr h⟩
end

end Go.Proofs.Ytcekphjcmippoaa
