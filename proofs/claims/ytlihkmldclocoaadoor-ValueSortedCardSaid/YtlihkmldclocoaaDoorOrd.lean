/- The orders are orders: of values, of tuples, of facts. Plain; no program. -/
import Derived.Test.YtlihkmldclocoaaDoorFact
namespace Go.Proofs.YtlihkmldclocoaaDoor
open Go.RowKit
set_option linter.unusedSimpArgs false
set_option linter.unusedVariables false

structure Ord3 {α : Type} (c : α → α → Int) : Prop where
  rng : ∀ x y, c x y = -1 ∨ c x y = 0 ∨ c x y = 1
  swap : ∀ x y, c y x = - c x y
  zero : ∀ x y, c x y = 0 ↔ x = y
  tr : ∀ x y z, c x y ≤ 0 → c y z ≤ 0 → c x z ≤ 0
theorem Ord3.refl {α : Type} {c : α → α → Int} (h : Ord3 c) (x : α) : c x x = 0 := (h.zero x x).2 rfl
theorem Ord3.lt {α : Type} {c : α → α → Int} (h : Ord3 c) {x y z : α} (h1 : c x y < 0) (h2 : c y z ≤ 0) : c x z < 0 := by
  have h3 := h.tr x y z (by omega) h2
  rcases Int.lt_or_eq_of_le h3 with h4 | h4
  · exact h4
  · have e := (h.zero x z).1 h4
    subst e
    have := h.swap x y
    omega
theorem Ord3.lt' {α : Type} {c : α → α → Int} (h : Ord3 c) {x y z : α} (h1 : c x y ≤ 0) (h2 : c y z < 0) : c x z < 0 := by
  have h3 := h.tr x y z h1 (by omega)
  rcases Int.lt_or_eq_of_le h3 with h4 | h4
  · exact h4
  · have e := (h.zero x z).1 h4
    subst e
    have := h.swap x y
    omega

def lex (a b : Int) : Int := if a ≠ 0 then a else b
theorem lex_ord {α β γ : Type} {c : α → α → Int} {d : β → β → Int} (hc : Ord3 c) (hd : Ord3 d) (p : γ → α) (q : γ → β) (hinj : ∀ x y, p x = p y → q x = q y → x = y) : Ord3 (fun x y : γ => lex (c (p x) (p y)) (d (q x) (q y))) := by
  constructor
  · intro x y
    unfold lex
    split
    · exact hc.rng _ _
    · exact hd.rng _ _
  · intro x y
    simp only [lex]
    rw [hc.swap (p x), hd.swap (q x)]
    by_cases h : c (p x) (p y) = 0 <;> simp [h]
  · intro x y
    simp only [lex]
    by_cases h : c (p x) (p y) = 0
    · simp only [h, ne_eq, not_true_eq_false, if_false]
      rw [hd.zero]
      exact ⟨hinj _ _ ((hc.zero _ _).1 h), fun e => by rw [e]⟩
    · simp only [ne_eq, h, not_false_eq_true, if_true]
      exact ⟨fun e => e.elim, fun e => by subst e; exact absurd (hc.refl _) h⟩
  · intro x y z h1 h2
    simp only [lex] at h1 h2 ⊢
    by_cases a : c (p x) (p y) = 0
    · by_cases b : c (p y) (p z) = 0
      · have e1 := (hc.zero _ _).1 a
        rw [e1, b]
        simp only [ne_eq, not_true_eq_false, if_false]
        rw [if_neg (by simpa using a)] at h1
        rw [if_neg (by simpa using b)] at h2
        exact hd.tr _ _ _ h1 h2
      · rw [if_pos b] at h2
        have := hc.lt' (x := p x) (y := p y) (z := p z) (by omega) (by omega)
        rw [if_pos (by omega)]
        omega
    · rw [if_pos a] at h1
      have hb : c (p y) (p z) ≤ 0 := by
        by_cases b : c (p y) (p z) = 0
        · omega
        · rwa [if_pos b] at h2
      have := hc.lt (x := p x) (y := p y) (z := p z) (by omega) hb
      rw [if_pos (by omega)]
      omega

theorem ordI : Ord3 cmpI := by
  constructor
  · intro x y; unfold cmpI; (repeat' split) <;> simp
  · intro x y; unfold cmpI; (repeat' split) <;> omega
  · intro x y; unfold cmpI; (repeat' split) <;> omega
  · intro x y z; unfold cmpI; (repeat' split) <;> omega

/-- Lists, place by place. -/
def lcmp {α : Type} (c : α → α → Int) : List α → List α → Int
  | [], [] => 0
  | [], _ :: _ => -1
  | _ :: _, [] => 1
  | x :: r, y :: q => if c x y ≠ 0 then c x y else lcmp c r q
section
variable {α : Type} {c : α → α → Int} (h : Ord3 c)
include h
theorem lcmp_rng : ∀ x y : List α, lcmp c x y = -1 ∨ lcmp c x y = 0 ∨ lcmp c x y = 1
  | [], [] => by simp [lcmp]
  | [], _ :: _ => by simp [lcmp]
  | _ :: _, [] => by simp [lcmp]
  | x :: r, y :: q => by
    simp only [lcmp]
    split
    · exact h.rng _ _
    · exact lcmp_rng r q
theorem lcmp_swap : ∀ x y : List α, lcmp c y x = - lcmp c x y
  | [], [] => rfl
  | [], _ :: _ => rfl
  | _ :: _, [] => rfl
  | x :: r, y :: q => by
    simp only [lcmp]
    rw [h.swap x y, lcmp_swap r q]
    by_cases a : c x y = 0 <;> simp [a]
theorem lcmp_zero : ∀ x y : List α, lcmp c x y = 0 ↔ x = y
  | [], [] => by simp [lcmp]
  | [], _ :: _ => by simp [lcmp]
  | _ :: _, [] => by simp [lcmp]
  | x :: r, y :: q => by
    simp only [lcmp]
    by_cases a : c x y = 0
    · simp only [a, ne_eq, not_true_eq_false, if_false, lcmp_zero r q, List.cons.injEq]
      exact ⟨fun e => ⟨(h.zero _ _).1 a, e⟩, fun e => e.2⟩
    · simp only [ne_eq, a, not_false_eq_true, if_true, List.cons.injEq]
      exact ⟨fun e => e.elim, fun e => absurd ((h.zero _ _).2 e.1) a⟩
theorem lcmp_tr : ∀ x y z : List α, lcmp c x y ≤ 0 → lcmp c y z ≤ 0 → lcmp c x z ≤ 0
  | [], _, [], _, _ => by simp [lcmp]
  | [], _, _ :: _, _, _ => by simp [lcmp]
  | _ :: _, [], _, h1, _ => by simp [lcmp] at h1
  | _ :: _, _ :: _, [], _, h2 => by simp [lcmp] at h2
  | x :: r, y :: q, z :: s, h1, h2 => by
    simp only [lcmp] at h1 h2 ⊢
    by_cases a : c x y = 0
    · by_cases b : c y z = 0
      · have e1 := (h.zero _ _).1 a
        rw [e1, b]
        simp only [ne_eq, not_true_eq_false, if_false]
        rw [if_neg (by simpa using a)] at h1
        rw [if_neg (by simpa using b)] at h2
        exact lcmp_tr r q s h1 h2
      · rw [if_pos b] at h2
        have := h.lt' (x := x) (y := y) (z := z) (by omega) (by omega)
        rw [if_pos (by omega)]
        omega
    · rw [if_pos a] at h1
      have hb : c y z ≤ 0 := by
        by_cases b : c y z = 0
        · omega
        · rwa [if_pos b] at h2
      have := h.lt (x := x) (y := y) (z := z) (by omega) hb
      rw [if_pos (by omega)]
      omega
theorem lcmp_ord : Ord3 (lcmp c) := ⟨lcmp_rng h, lcmp_swap h, lcmp_zero h, lcmp_tr h⟩
end

def cmpU (a b : UInt8) : Int := if a < b then -1 else if b < a then 1 else 0
theorem ordU : Ord3 cmpU := by
  have key : ∀ a b, cmpU a b = cmpI a.toNat b.toNat := fun a b => by
    unfold cmpU cmpI
    simp only [UInt8.lt_iff_toNat_lt]
    (repeat' split) <;> omega
  constructor
  · intro x y; rw [key]; exact ordI.rng _ _
  · intro x y; rw [key, key]; exact ordI.swap _ _
  · intro x y
    rw [key, ordI.zero]
    exact ⟨fun e => UInt8.toNat_inj.1 (by omega), fun e => by rw [e]⟩
  · intro x y z; rw [key, key, key]; exact ordI.tr _ _ _
theorem cmpBytes_lcmp : ∀ a b : List UInt8, Lib.compareBytes a b = lcmp cmpU a b
  | [], [] => rfl
  | [], _ :: _ => rfl
  | _ :: _, [] => rfl
  | a :: r, b :: q => by
    simp only [Lib.compareBytes, lcmp, cmpU]
    by_cases h1 : a < b
    · simp [h1]
    · by_cases h2 : b < a
      · simp [h1, h2]
      · simp [h1, h2, cmpBytes_lcmp r q]
theorem ordS : Ord3 cmpS := by
  have h := lcmp_ord ordU
  have key : ∀ a b, cmpS a b = lcmp cmpU a.data.toList b.data.toList := fun a b => cmpBytes_lcmp _ _
  exact ⟨fun x y => by rw [key]; exact h.rng _ _, fun x y => by rw [key, key]; exact h.swap _ _,
    fun x y => by rw [key, h.zero]; exact ⟨fun e => WideShapes.bytes_inj e, fun e => by rw [e]⟩, fun x y z => by rw [key, key, key]; exact h.tr _ _ _⟩
theorem ordV : Ord3 cmpV := by
  have h2 : Ord3 (fun x y : Int × ByteArray => lex (cmpI x.1 y.1) (cmpS x.2 y.2)) := lex_ord ordI ordS (·.1) (·.2) fun x y e1 e2 => Prod.ext e1 e2
  have h3 : Ord3 (fun x y : V => lex (cmpI x.k y.k) (lex (cmpI x.n y.n) (cmpS x.s y.s))) := lex_ord (γ := V) ordI h2 (·.k) (fun x => (x.n, x.s)) fun x y e1 e2 => by
    obtain ⟨k, n, s⟩ := x
    obtain ⟨k', n', s'⟩ := y
    simp only [Prod.mk.injEq] at e1 e2
    obtain ⟨e2, e3⟩ := e2
    subst e1; subst e2; subst e3; rfl
  have key : cmpV = fun x y : V => lex (cmpI x.k y.k) (lex (cmpI x.n y.n) (cmpS x.s y.s)) := by
    funext x y
    simp only [cmpV, firstNZ, lex]
    by_cases a : cmpS x.s y.s = 0 <;> simp [a]
  rw [key]; exact h3
theorem ordT : Ord3 cmpT := by
  have key : ∀ x y, cmpT x y = lcmp cmpV x y := by
    intro x
    induction x with
    | nil => intro y; cases y <;> rfl
    | cons a r ih =>
      intro y
      cases y with
      | nil => rfl
      | cons b q => simp only [cmpT, lcmp, ih]
  have h := lcmp_ord ordV
  exact ⟨fun x y => by rw [key]; exact h.rng _ _, fun x y => by rw [key, key]; exact h.swap _ _, fun x y => by rw [key]; exact h.zero _ _, fun x y z => by rw [key, key, key]; exact h.tr _ _ _⟩
theorem ordF : Ord3 cmpF := by
  have h3 : Ord3 (fun x y : Fc => lex (cmpS x.p y.p) (cmpT x.a y.a)) := lex_ord (γ := Fc) ordS ordT (·.p) (·.a) fun x y e1 e2 => by
    obtain ⟨p, a⟩ := x
    obtain ⟨p', a'⟩ := y
    simp only at e1 e2
    subst e1; subst e2; rfl
  have key : cmpF = fun x y : Fc => lex (cmpS x.p y.p) (cmpT x.a y.a) := by
    funext x y
    simp only [cmpF, firstNZ, lex]
    by_cases a : cmpT x.a y.a = 0 <;> simp [a]
  rw [key]; exact h3

end Go.Proofs.YtlihkmldclocoaaDoor
