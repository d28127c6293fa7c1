/- Masks: one bit; a row with some columns cleared. No program. -/
import Derived.Test.YtcekphjcmippoaaRowW
import Derived.Laws.BitsLemmas
namespace Go.Proofs.Ytcekphjcmippoaa
open Go.RowKit Go.WideMaps
set_option linter.unusedSimpArgs false
set_option linter.unusedVariables false

theorem u32_same (n : Int) (h0 : 0 ≤ n) (h1 : n < 2 ^ 32) : IntKind.u32.wrap n = n := by rw [IntKind.wrap_u32]; omega
theorem and_u32 {a b : Nat} (ha : a < 2 ^ 32) (hb : b < 2 ^ 32) : bits .and .u32 (a : Int) (b : Int) = ((a &&& b : Nat) : Int) := (bits_nat .u32 32 (by decide) u32_same a b ha hb).1
theorem or_u32 {a b : Nat} (ha : a < 2 ^ 32) (hb : b < 2 ^ 32) : bits .or .u32 (a : Int) (b : Int) = ((a ||| b : Nat) : Int) := (bits_nat .u32 32 (by decide) u32_same a b ha hb).2
theorem shl_u32 {k : Nat} (hk : k < 24) : IntKind.u32.wrap (2 ^ k) = ((2 ^ k : Nat) : Int) := by
  have h : (2 : Nat) ^ k < 2 ^ 32 := Nat.pow_lt_pow_right (by decide) (by omega)
  rw [u32_same _ (Int.pow_nonneg (by decide)) (by exact_mod_cast h)]
  simp
theorem and_bit {m k : Nat} (hm : m < 2 ^ 32) (hk : k < 24) : (bits .and .u32 (m : Int) ((2 ^ k : Nat) : Int) = 0) ↔ m.testBit k = false := by
  have h : (2 : Nat) ^ k < 2 ^ 32 := Nat.pow_lt_pow_right (by decide) (by omega)
  rw [and_u32 hm h]
  have e : m &&& 2 ^ k = 0 ↔ m.testBit k = false := by
    constructor
    · intro h0
      have := congrArg (Nat.testBit · k) h0
      simpa [Nat.testBit_and, Nat.testBit_two_pow] using this
    · intro h0
      refine Nat.eq_of_testBit_eq fun i => ?_
      simp only [Nat.testBit_and, Nat.testBit_two_pow, Nat.zero_testBit]
      by_cases hi : k = i
      · subst hi; simp [h0]
      · simp [hi]
  rw [← e]
  omega
theorem shr_bit {m k : Nat} (hm : m < 2 ^ 32) : (bits .and .u32 ((m / 2 ^ k : Nat) : Int) 1 = 0) ↔ m.testBit k = false := by
  have h1 : m / 2 ^ k < 2 ^ 32 := Nat.lt_of_le_of_lt (Nat.div_le_self _ _) hm
  have := and_u32 (a := m / 2 ^ k) (b := 1) h1 (by decide)
  rw [show ((1 : Nat) : Int) = 1 from rfl] at this
  rw [this, Nat.and_one_is_mod, Nat.testBit_eq_decide_div_mod_eq]
  have h2 := Nat.mod_two_eq_zero_or_one (m / 2 ^ k)
  rw [decide_eq_false_iff_not]
  omega

/-- Is the column off? -/
def offB (ar m i : Nat) : Bool := decide (ar ≤ i) || !m.testBit i
/-- The columns off, below k, cleared. -/
def cutK (ar m k : Nat) (x : Rw) : Rw := x.mapIdx fun i a => if i < k ∧ offB ar m i = true then 0 else a
def cutL (ar m : Nat) (x : Rw) : Rw := cutK ar m 24 x
theorem cutK_len (ar m k : Nat) (x : Rw) : (cutK ar m k x).length = x.length := by simp [cutK]
theorem cutK_at (ar m k : Nat) (x : Rw) (i : Nat) : (cutK ar m k x)[i]? = x[i]?.map fun a => if i < k ∧ offB ar m i = true then 0 else a := by simp [cutK]
theorem cutK_zero (ar m : Nat) (x : Rw) : cutK ar m 0 x = x := by
  refine List.ext_getElem? fun i => ?_
  rw [cutK_at]
  simp
theorem cutK_keep {ar m k : Nat} {x : Rw} (h : offB ar m k = false) : cutK ar m (k + 1) x = cutK ar m k x := by
  refine List.ext_getElem? fun i => ?_
  rw [cutK_at, cutK_at]
  congr 1
  funext a
  by_cases hi : i = k
  · subst hi; simp [h]
  · by_cases hik : i < k
    · simp [hik, show i < k + 1 by omega]
    · simp [hik, show ¬ i < k + 1 by omega]
theorem cutK_set {ar m k : Nat} {x : Rw} (h : offB ar m k = true) : cutK ar m (k + 1) x = (cutK ar m k x).set k 0 := by
  refine List.ext_getElem? fun i => ?_
  rw [cutK_at, List.getElem?_set, cutK_at, cutK_len]
  by_cases hi : k = i
  · subst hi
    by_cases hl : k < x.length
    · simp [h, hl]
    · simp [hl]
  · rw [if_neg hi]
    congr 1
    funext a
    by_cases hik : i < k
    · simp [hik, show i < k + 1 by omega]
    · simp [hik, show ¬ i < k + 1 by omega]
theorem cutK_ok {ar m k : Nat} {x : Rw} (hx : Rw.ok x) : Rw.ok (cutK ar m k x) := ⟨by rw [cutK_len]; exact hx.1, fun a ha => by
  obtain ⟨i, hi⟩ := List.getElem?_of_mem ha
  rw [cutK_at, Option.map_eq_some_iff] at hi
  obtain ⟨b, hb, rfl⟩ := hi
  split
  · decide
  · exact hx.2 b (List.mem_of_getElem? hb)⟩
/-- Which rows agree where the mask asks. -/
theorem cutL_eq {ar m : Nat} {x y : Rw} (hx : Rw.ok x) (hy : Rw.ok y) : cutL ar m x = cutL ar m y ↔ ∀ i, i < 24 → offB ar m i = false → x[i]? = y[i]? := by
  unfold cutL
  constructor
  · intro h i hi hb
    have := congrArg (·[i]?) h
    simp only [cutK_at, hb, and_false, Bool.false_eq_true, ↓reduceIte, Option.map_id'] at this
    exact this
  · intro h
    refine List.ext_getElem? fun i => ?_
    rw [cutK_at, cutK_at]
    by_cases hi : i < 24
    · cases hb : offB ar m i with
      | false => rw [h i hi hb]
      | true =>
        rw [List.getElem?_eq_getElem (by rw [hx.1]; exact hi), List.getElem?_eq_getElem (by rw [hy.1]; exact hi)]
        simp [hi]
    · rw [List.getElem?_eq_none (by rw [hx.1]; omega), List.getElem?_eq_none (by rw [hy.1]; omega)]
/-- One cell of a row's block is written. -/
theorem set_row {w : World} {g k : Nat} {t : TypeId} {x : Rw} (hb : w.heap[g]? = some (.cells (Rw.cells x).toArray t (0, 0))) (v : Int) :
    (w.setCell ⟨g, k, none⟩ (.int .i32 v)).heap[g]? = some (.cells (Rw.cells (x.set k v)).toArray t (0, 0)) := by
  simp [World.setCell, Array.getElem?_modify, hb, Rw.cells, List.map_set]
end Go.Proofs.Ytcekphjcmippoaa
