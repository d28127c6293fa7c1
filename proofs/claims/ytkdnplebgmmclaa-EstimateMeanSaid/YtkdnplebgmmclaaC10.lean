/- Fl -/
import GoSem.Core.Float
import Derived.Test.YtkdnplebgmmclaaC09
/- Floats: the nearest word lies between the words on both sides; sum, product, quotient, order of finite words; mean and spread of small whole numbers; bounds. Generic; no program. -/
namespace Go.Proofs.Ytkdnplebgmmclaa
namespace Fl
open Ieee
set_option linter.unusedSimpArgs false
set_option linter.unusedVariables false

abbrev D : Ieee.Format := Ieee.double
theorem D_binade : D.binade = 2 ^ 52 := rfl
theorem D_frac : D.fractionBits = 52 := rfl
theorem D_least : D.leastPlace = -1074 := by decide
theorem D_inf : D.infRung = 2047 * 2 ^ 52 := by decide
theorem D_sign : D.signWeight = 2 ^ 63 := rfl

/-- What a rung is worth, in least units. -/
def V (r : Nat) : Nat := if r < 2 ^ 52 then r else (2 ^ 52 + r % 2 ^ 52) * 2 ^ (r / 2 ^ 52 - 1)

theorem cut_ge {neg : Bool} {n drop k : Nat} (h : k * 2 ^ drop ≤ n) : k ≤ Toward.even.cut neg n drop := by
  unfold Toward.cut
  simp only [Nat.shiftLeft_eq, Nat.one_mul]
  refine Nat.le_trans ?_ (Nat.le_add_right _ _)
  by_cases hd : drop ≤ n.log2 + 2
  · rw [Nat.min_eq_left hd]
    exact (Nat.le_div_iff_mul_le (Nat.two_pow_pos _)).2 h
  · have h1 : n < 2 ^ (n.log2 + 1) := Nat.lt_log2_self
    have h2 : 2 ^ (n.log2 + 1) ≤ 2 ^ drop := Nat.pow_le_pow_right (by decide) (by omega)
    have : k = 0 := by
      rcases Nat.eq_zero_or_pos k with h0 | h0
      · exact h0
      · have : 1 * 2 ^ drop ≤ k * 2 ^ drop := Nat.mul_le_mul_right _ h0
        omega
    rw [this]; exact Nat.zero_le _
theorem cut_le {neg : Bool} {n drop k : Nat} (h : n ≤ k * 2 ^ drop) : Toward.even.cut neg n drop ≤ k := by
  unfold Toward.cut
  simp only [Nat.shiftLeft_eq, Nat.one_mul]
  by_cases hd : drop ≤ n.log2 + 2
  · rw [Nat.min_eq_left hd]
    have hp := Nat.two_pow_pos drop
    generalize 2 ^ drop = g at *
    have hm := Nat.div_add_mod n g
    have hr := Nat.mod_lt n hp
    by_cases hl : n / g < k
    · refine Nat.le_trans (Nat.add_le_add_left (Bool.toNat_le _) _) (by omega)
    · have h1 : k * g ≤ n / g * g := Nat.mul_le_mul_right _ (by omega)
      have h2 : g * (n / g) = n / g * g := Nat.mul_comm _ _
      have h3 : n % g = 0 := by omega
      have h4 : n / g = k := by
        have : n / g * g = k * g := by omega
        exact Nat.eq_of_mul_eq_mul_right hp this
      rw [h3, h4]
      have : (decide (g < 2 * 0) || g == 2 * 0 && k % 2 == 1) = false := by simp; omega
      rw [this]; simp
  · rw [Nat.min_eq_right (by omega)]
    have h1 : n < 2 ^ (n.log2 + 1) := Nat.lt_log2_self
    have h2 : 2 ^ (n.log2 + 2) = 2 * 2 ^ (n.log2 + 1) := by rw [Nat.pow_succ, Nat.mul_comm]
    rw [h2]
    generalize 2 ^ (n.log2 + 1) = g at *
    have h3 : n / (2 * g) = 0 := Nat.div_eq_of_lt (by omega)
    have h4 : n % (2 * g) = n := Nat.mod_eq_of_lt (by omega)
    rw [h3, h4]
    have : (decide (2 * g < 2 * n) || 2 * g == 2 * n && 0 % 2 == 1) = false := by simp; omega
    rw [this]; simp

/-- The rung nearest to 'mag * 2 ^ place'. -/
def rg (mag : Nat) (place : Int) : Nat :=
  if mag = 0 then 0 else
  min (((max (place + mag.log2 - 52) (-1074)) - (-1074)).toNat * 2 ^ 52 + Toward.even.cut false (mag <<< (place - max (place + mag.log2 - 52) (-1074)).toNat) (max (place + mag.log2 - 52) (-1074) - place).toNat) (2047 * 2 ^ 52)
theorem nearest_eq (neg : Bool) (mag : Nat) (place : Int) : D.nearest neg mag place = D.word neg (rg mag place) := by
  unfold Format.nearest rg
  by_cases h : mag = 0
  · rw [if_pos h, if_pos h]
  · rw [if_neg h, if_neg h, D_inf, D_least, D_binade]; rfl
theorem rg_inf (mag : Nat) (place : Int) : rg mag place ≤ 2047 * 2 ^ 52 := by
  unfold rg; split
  · exact Nat.zero_le _
  · exact Nat.min_le_right _ _

theorem V_lt {t : Nat} (h : t < 2 ^ 52) : V t = t := by unfold V; rw [if_pos h]
theorem V_ge {t : Nat} (h : ¬ t < 2 ^ 52) : V t = (2 ^ 52 + t % 2 ^ 52) * 2 ^ (t / 2 ^ 52 - 1) := by unfold V; rw [if_neg h]
theorem pow_grow (B s m : Nat) : (m + 1) * B + s ≤ (B + s) * 2 ^ m := by
  have h1 : m + 1 ≤ 2 ^ m := Nat.lt_two_pow_self
  have h2 : (B + s) * (m + 1) ≤ (B + s) * 2 ^ m := Nat.mul_le_mul_left _ h1
  refine Nat.le_trans ?_ h2
  rw [Nat.add_mul B, Nat.mul_comm B]
  exact Nat.add_le_add_left (Nat.le_mul_of_pos_right s (by omega)) _
theorem cancel {x y a b c d : Nat} (h : x * 2 ^ a ≤ y * 2 ^ b) (e : a + c = b + d) : x * 2 ^ d ≤ y * 2 ^ c := by
  have h1 : x * 2 ^ a * 2 ^ c ≤ y * 2 ^ b * 2 ^ c := Nat.mul_le_mul_right _ h
  rw [Nat.mul_assoc, ← Nat.pow_add, e, Nat.mul_assoc, ← Nat.pow_add] at h1
  have h2 : x * 2 ^ (b + d) = x * 2 ^ d * 2 ^ b := by rw [Nat.mul_assoc, ← Nat.pow_add, Nat.add_comm d b]
  have h3 : y * 2 ^ (b + c) = y * 2 ^ c * 2 ^ b := by rw [Nat.mul_assoc, ← Nat.pow_add, Nat.add_comm c b]
  rw [h2, h3] at h1
  exact Nat.le_of_mul_le_mul_right h1 (Nat.two_pow_pos _)

/-- No rung that is worth no more lies above the nearest. -/
theorem rg_ge {mag : Nat} {place : Int} {t : Nat} (ht : t ≤ 2047 * 2 ^ 52) (h : V t * 2 ^ ((-1074 - place).toNat) ≤ mag * 2 ^ ((place + 1074).toNat)) : t ≤ rg mag place := by
  unfold rg
  by_cases h0 : mag = 0
  · rw [if_pos h0]
    rw [h0, Nat.zero_mul] at h
    have : V t = 0 := by
      rcases Nat.eq_zero_or_pos (V t) with h1 | h1
      · exact h1
      · have := Nat.mul_pos h1 (Nat.two_pow_pos ((-1074 - place).toNat)); omega
    by_cases hl : t < 2 ^ 52
    · rw [V_lt hl] at this; omega
    · rw [V_ge hl] at this
      have := Nat.mul_pos (show 0 < 2 ^ 52 + t % 2 ^ 52 by omega) (Nat.two_pow_pos (t / 2 ^ 52 - 1)); omega
  rw [if_neg h0]
  refine Nat.le_min.2 ⟨?_, ht⟩
  have hlg := Nat.log2_self_le h0
  generalize mag.log2 = lg at *
  obtain ⟨e, he⟩ : ∃ e : Nat, (max (place + (lg : Int) - 52) (-1074) - (-1074)).toNat = e := ⟨_, rfl⟩
  obtain ⟨a, ha⟩ : ∃ e : Nat, (place - max (place + (lg : Int) - 52) (-1074)).toNat = e := ⟨_, rfl⟩
  obtain ⟨d, hd⟩ : ∃ e : Nat, (max (place + (lg : Int) - 52) (-1074) - place).toNat = e := ⟨_, rfl⟩
  obtain ⟨p1, hp1⟩ : ∃ e : Nat, (-1074 - place).toNat = e := ⟨_, rfl⟩
  obtain ⟨p2, hp2⟩ : ∃ e : Nat, (place + 1074).toNat = e := ⟨_, rfl⟩
  rw [he, ha, hd]
  rw [hp1, hp2] at h
  have key : a + p1 + e = p2 + d := by omega
  have hkept : ∀ k, k * 2 ^ e ≤ V t → k ≤ Toward.even.cut false (mag <<< a) d := fun k hk => by
    refine cut_ge ?_
    rw [Nat.shiftLeft_eq]
    have h1 : k * 2 ^ e * 2 ^ p1 ≤ mag * 2 ^ p2 := Nat.le_trans (Nat.mul_le_mul_right _ hk) h
    rw [Nat.mul_assoc, ← Nat.pow_add] at h1
    exact cancel h1 (by omega)
  have hfull : 0 < e → 2 ^ 52 ≤ Toward.even.cut false (mag <<< a) d := fun hpos => by
    refine cut_ge ?_
    rw [Nat.shiftLeft_eq]
    have h1 : 1 * 2 ^ lg ≤ mag * 2 ^ 0 := by omega
    have := cancel (c := 52 + d) (d := lg + (52 + d)) h1 (by omega)
    have h2 : a + lg = 52 + d := by omega
    have h3 : 2 ^ (52 + d) ≤ mag * 2 ^ a := by
      rw [← h2, Nat.pow_add, Nat.mul_comm]
      exact Nat.mul_le_mul_right _ hlg
    rwa [Nat.pow_add] at h3
  by_cases hl : t < 2 ^ 52
  · by_cases hz : e = 0
    · subst hz
      have := hkept t (by rw [V_lt hl]; omega)
      omega
    · have := hfull (by omega)
      have : 1 * 2 ^ 52 ≤ e * 2 ^ 52 := Nat.mul_le_mul_right _ (by omega)
      omega
  · have hV := V_ge hl
    have hq : 1 ≤ t / 2 ^ 52 := (Nat.le_div_iff_mul_le (by decide)).2 (by omega)
    have hdm := Nat.div_add_mod t (2 ^ 52)
    have hs := Nat.mod_lt t (show 0 < 2 ^ 52 by decide)
    generalize t / 2 ^ 52 = q at *
    generalize t % 2 ^ 52 = s at *
    by_cases hqe : q - 1 < e
    · have h1 := hfull (by omega)
      have h2 : q * 2 ^ 52 ≤ e * 2 ^ 52 := Nat.mul_le_mul_right _ (by omega)
      omega
    · have h1 := hkept ((2 ^ 52 + s) * 2 ^ (q - 1 - e)) (by
        rw [hV, Nat.mul_assoc, ← Nat.pow_add, show q - 1 - e + e = q - 1 by omega]; exact Nat.le_refl _)
      have h2 := pow_grow (2 ^ 52) s (q - 1 - e)
      have h3 : q = e + (q - 1 - e + 1) := by omega
      have h4 : 2 ^ 52 * q = e * 2 ^ 52 + (q - 1 - e + 1) * 2 ^ 52 := by rw [← Nat.add_mul, Nat.mul_comm, ← h3]
      omega
/-- Nor does one that is worth no less lie below it. -/
theorem rg_le {mag : Nat} {place : Int} {t : Nat} (h : mag * 2 ^ ((place + 1074).toNat) ≤ V t * 2 ^ ((-1074 - place).toNat)) : rg mag place ≤ t := by
  unfold rg
  by_cases h0 : mag = 0
  · rw [if_pos h0]; exact Nat.zero_le _
  rw [if_neg h0]
  refine Nat.le_trans (Nat.min_le_left _ _) ?_
  have hlg := Nat.log2_self_le h0
  have hlt : mag < 2 ^ (mag.log2 + 1) := Nat.lt_log2_self
  generalize mag.log2 = lg at *
  obtain ⟨e, he⟩ : ∃ e : Nat, (max (place + (lg : Int) - 52) (-1074) - (-1074)).toNat = e := ⟨_, rfl⟩
  obtain ⟨a, ha⟩ : ∃ e : Nat, (place - max (place + (lg : Int) - 52) (-1074)).toNat = e := ⟨_, rfl⟩
  obtain ⟨d, hd⟩ : ∃ e : Nat, (max (place + (lg : Int) - 52) (-1074) - place).toNat = e := ⟨_, rfl⟩
  obtain ⟨p1, hp1⟩ : ∃ e : Nat, (-1074 - place).toNat = e := ⟨_, rfl⟩
  obtain ⟨p2, hp2⟩ : ∃ e : Nat, (place + 1074).toNat = e := ⟨_, rfl⟩
  rw [he, ha, hd]
  rw [hp1, hp2] at h
  have key : a + p1 + e = p2 + d := by omega
  have hkept : ∀ k, V t ≤ k * 2 ^ e → Toward.even.cut false (mag <<< a) d ≤ k := fun k hk => by
    refine cut_le ?_
    rw [Nat.shiftLeft_eq]
    have h1 : mag * 2 ^ p2 ≤ k * 2 ^ e * 2 ^ p1 := Nat.le_trans h (Nat.mul_le_mul_right _ hk)
    rw [Nat.mul_assoc, ← Nat.pow_add] at h1
    exact cancel h1 (by omega)
  have htop : Toward.even.cut false (mag <<< a) d ≤ 2 * 2 ^ 52 := by
    refine cut_le ?_
    rw [Nat.shiftLeft_eq]
    have h1 : mag * 2 ^ a ≤ 2 ^ (lg + 1) * 2 ^ a := Nat.mul_le_mul_right _ (by omega)
    refine Nat.le_trans h1 ?_
    rw [← Nat.pow_add, show 2 * 2 ^ 52 * 2 ^ d = 2 ^ (53 + d) by rw [Nat.pow_add]]
    exact Nat.pow_le_pow_right (by decide) (by omega)
  have hfull : 0 < e → 2 ^ (52 + e) ≤ V t := fun hpos => by
    have h1 : 2 ^ lg * 2 ^ p2 ≤ V t * 2 ^ p1 := Nat.le_trans (Nat.mul_le_mul_right _ hlg) h
    rw [← Nat.pow_add, show lg + p2 = 52 + e + p1 by omega, Nat.pow_add] at h1
    exact Nat.le_of_mul_le_mul_right h1 (Nat.two_pow_pos _)
  by_cases hl : t < 2 ^ 52
  · by_cases hz : e = 0
    · subst hz
      have := hkept t (by rw [V_lt hl]; omega)
      omega
    · have h1 := hfull (by omega)
      rw [V_lt hl] at h1
      have : 2 ^ 52 ≤ 2 ^ (52 + e) := Nat.pow_le_pow_right (by decide) (by omega)
      omega
  · have hV := V_ge hl
    have hq : 1 ≤ t / 2 ^ 52 := (Nat.le_div_iff_mul_le (by decide)).2 (by omega)
    have hdm := Nat.div_add_mod t (2 ^ 52)
    have hs := Nat.mod_lt t (show 0 < 2 ^ 52 by decide)
    generalize t / 2 ^ 52 = q at *
    generalize t % 2 ^ 52 = s at *
    have hqe : e ≤ q - 1 := by
      rcases Nat.eq_zero_or_pos e with hz | hz
      · omega
      have h1 := hfull hz
      rw [hV] at h1
      have h2 : (2 ^ 52 + s) * 2 ^ (q - 1) < 2 ^ 53 * 2 ^ (q - 1) := Nat.mul_lt_mul_of_pos_right (by omega) (Nat.two_pow_pos _)
      rw [← Nat.pow_add] at h2
      have h3 := (Nat.pow_lt_pow_iff_right (show 1 < 2 by decide)).1 (Nat.lt_of_le_of_lt h1 h2)
      omega
    by_cases heq : q - 1 = e
    · have h1 := hkept (2 ^ 52 + s) (by rw [hV, heq]; exact Nat.le_refl _)
      have h2 : 2 ^ 52 * q = e * 2 ^ 52 + 2 ^ 52 := by
        rw [show q = e + 1 by omega, Nat.mul_comm, Nat.add_mul, Nat.one_mul]
      omega
    · have h2 : 2 ^ 52 * q = e * 2 ^ 52 + 2 * 2 ^ 52 + (q - e - 2) * 2 ^ 52 := by
        rw [← Nat.add_mul, ← Nat.add_mul, Nat.mul_comm]; congr 1; omega
      omega

/-- The magnitude and the place of a rung. -/
def mg (r : Nat) : Nat := if r < 2 ^ 52 then r else 2 ^ 52 + r % 2 ^ 52
def ex (r : Nat) : Nat := if r < 2 ^ 52 then 0 else r / 2 ^ 52 - 1
theorem V_eq (r : Nat) : V r = mg r * 2 ^ ex r := by
  unfold V mg ex; split
  · simp
  · rfl
theorem read_word {s : Bool} {r : Nat} (h : r < 2047 * 2 ^ 52) : D.read (D.word s r) = .number s (mg r) (-1074 + (ex r : Int)) := by
  have hn : D.word s r / 2 ^ 63 % 2 = (if s then 1 else 0) ∧ D.word s r % 2 ^ 63 = r := by
    unfold Format.word
    rw [D_sign]
    cases s
    · simp; omega
    · simp; omega
  unfold Format.read
  rw [D_sign, D_binade, D_inf, D_least]
  simp only [hn.1, hn.2]
  unfold mg ex
  by_cases hl : r < 2 ^ 52
  · rw [if_pos hl, if_pos hl, if_pos hl]
    cases s <;> simp
  · rw [if_neg hl, if_pos h, if_neg hl, if_neg hl]
    cases s <;> simp
/-- What a word is worth, in least units. -/
def sv (s : Bool) (r : Nat) : Int := if s then -(V r : Int) else V r
theorem signed_eq (s : Bool) (m up : Nat) : signed s m up = if s then -((m * 2 ^ up : Nat) : Int) else ((m * 2 ^ up : Nat) : Int) := by
  unfold signed; simp only [Nat.shiftLeft_eq]
/-- What lies between two rungs. -/
def Near (x y r : Nat) : Prop := (∀ u, u ≤ 2047 * 2 ^ 52 → V u * y ≤ x → u ≤ r) ∧ (∀ u, x ≤ V u * y → r ≤ u) ∧ r ≤ 2047 * 2 ^ 52
theorem rg_near (mag : Nat) (place : Int) : Near (mag * 2 ^ ((place + 1074).toNat)) (2 ^ ((-1074 - place).toNat)) (rg mag place) :=
  ⟨fun u h1 h2 => rg_ge h1 h2, fun u h => rg_le h, rg_inf _ _⟩
theorem Near.scale {x y r c : Nat} (hc : 0 < c) (h : Near (x * c) (y * c) r) : Near x y r :=
  ⟨fun u h1 h2 => h.1 u h1 (by rw [← Nat.mul_assoc]; exact Nat.mul_le_mul_right _ h2), fun u h2 => h.2.1 u (by rw [← Nat.mul_assoc]; exact Nat.mul_le_mul_right _ h2), h.2.2⟩
theorem sum_val (s t : Bool) (r q : Nat) : ∃ base : Nat, (min (-1074 + (ex r : Int)) (-1074 + (ex q : Int))) = -1074 + (base : Int) ∧
    (signed s (mg r) ((-1074 + (ex r : Int)) - min (-1074 + (ex r : Int)) (-1074 + (ex q : Int))).toNat + signed t (mg q) ((-1074 + (ex q : Int)) - min (-1074 + (ex r : Int)) (-1074 + (ex q : Int))).toNat) * 2 ^ base = sv s r + sv t q := by
  refine ⟨min (ex r) (ex q), by omega, ?_⟩
  have e1 : ((-1074 + (ex r : Int)) - min (-1074 + (ex r : Int)) (-1074 + (ex q : Int))).toNat = ex r - min (ex r) (ex q) := by omega
  have e2 : ((-1074 + (ex q : Int)) - min (-1074 + (ex r : Int)) (-1074 + (ex q : Int))).toNat = ex q - min (ex r) (ex q) := by omega
  rw [e1, e2, signed_eq, signed_eq, Int.add_mul]
  have one : ∀ (s : Bool) (r m : Nat), m ≤ ex r → (if s then -((mg r * 2 ^ (ex r - m) : Nat) : Int) else ((mg r * 2 ^ (ex r - m) : Nat) : Int)) * 2 ^ m = sv s r := fun s r m hm => by
    have h : mg r * 2 ^ (ex r - m) * 2 ^ m = V r := by rw [V_eq, Nat.mul_assoc, ← Nat.pow_add, Nat.sub_add_cancel hm]
    have h2 : ((mg r * 2 ^ (ex r - m) : Nat) : Int) * 2 ^ m = (V r : Int) := by rw [← h]; simp
    unfold sv
    cases s
    · simpa using h2
    · simp only [if_true, Int.neg_mul, h2]
  rw [one s r _ (by omega), one t q _ (by omega)]
/-- The sign of a sum. -/
def ssum (s t : Bool) (z : Int) : Bool := if z = 0 then s && t else decide (z < 0)
def tot (s t : Bool) (r q : Nat) : Int := signed s (mg r) ((-1074 + (ex r : Int)) - min (-1074 + (ex r : Int)) (-1074 + (ex q : Int))).toNat + signed t (mg q) ((-1074 + (ex q : Int)) - min (-1074 + (ex r : Int)) (-1074 + (ex q : Int))).toNat
/-- The rung of a sum. -/
def adr (s t : Bool) (r q : Nat) : Nat := rg (tot s t r q).natAbs (min (-1074 + (ex r : Int)) (-1074 + (ex q : Int)))
theorem adr_abs {s t s' t' : Bool} {r q : Nat} (h : (sv s' r + sv t' q).natAbs = (sv s r + sv t q).natAbs) : adr s' t' r q = adr s t r q := by
  obtain ⟨b1, e1, v1⟩ := sum_val s t r q
  obtain ⟨b2, e2, v2⟩ := sum_val s' t' r q
  have hb : b1 = b2 := by omega
  subst hb
  have h1 : (tot s t r q) * 2 ^ b1 = sv s r + sv t q := v1
  have h2 : (tot s' t' r q) * 2 ^ b1 = sv s' r + sv t' q := v2
  unfold adr
  rw [← h1, ← h2, Int.natAbs_mul, Int.natAbs_mul] at h
  have hp : 0 < ((2 : Int) ^ b1).natAbs := Int.natAbs_pos.2 (Int.ne_of_gt (Int.pow_pos (by decide)))
  rw [Nat.eq_of_mul_eq_mul_right hp h]
theorem add_spec {s t : Bool} {r q : Nat} (hr : r < 2047 * 2 ^ 52) (hq : q < 2047 * 2 ^ 52) :
    D.add (D.word s r) (D.word t q) = some (D.word (ssum s t (sv s r + sv t q)) (adr s t r q)) ∧ Near (sv s r + sv t q).natAbs 1 (adr s t r q) := by
  unfold Format.add adr tot
  rw [read_word hr, read_word hq]
  obtain ⟨base, hb, hv⟩ := sum_val s t r q
  simp only [Datum.sum, Option.map_some]
  rw [hb] at hv ⊢
  generalize signed s (mg r) _ + signed t (mg q) _ = total at hv ⊢
  have hp : (0 : Int) < 2 ^ base := Int.pow_pos (by decide)
  refine ⟨?_, ?_⟩
  · have h0 : total = 0 ↔ sv s r + sv t q = 0 := by
      rw [← hv]
      constructor
      · intro h; rw [h, Int.zero_mul]
      · intro h
        rcases Int.mul_eq_zero.1 h with h | h
        · exact h
        · omega
    have h1 : total < 0 ↔ sv s r + sv t q < 0 := by
      rw [← hv]
      constructor
      · intro h; exact Int.mul_neg_of_neg_of_pos h hp
      · intro h
        rcases Int.lt_or_le total 0 with h2 | h2
        · exact h2
        · have := Int.mul_nonneg h2 (Int.le_of_lt hp); omega
    unfold Format.write
    simp only [nearest_eq]
    congr 2
    unfold ssum
    by_cases h : total = 0
    · rw [if_pos h, if_pos (h0.1 h)]
    · rw [if_neg h, if_neg (fun k => h (h0.2 k))]
      by_cases h2 : total < 0
      · simp [h2, h1.1 h2]
      · have : ¬ sv s r + sv t q < 0 := fun k => h2 (h1.2 k)
        simp [h2, this]
  · have h := rg_near total.natAbs (-1074 + base)
    rw [show (-1074 + (base : Int) + 1074).toNat = base by omega, show (-1074 - (-1074 + (base : Int))).toNat = 0 by omega, Nat.pow_zero] at h
    have : (sv s r + sv t q).natAbs = total.natAbs * 2 ^ base := by
      rw [← hv, Int.natAbs_mul, Int.natAbs_pow]; rfl
    rw [this]; exact h
theorem sub_spec {s t : Bool} {r q : Nat} (hr : r < 2047 * 2 ^ 52) (hq : q < 2047 * 2 ^ 52) :
    D.sub (D.word s r) (D.word t q) = some (D.word (ssum s (!t) (sv s r + sv (!t) q)) (adr s (!t) r q)) ∧ Near (sv s r + sv (!t) q).natAbs 1 (adr s (!t) r q) := by
  have h : D.sub (D.word s r) (D.word t q) = D.add (D.word s r) (D.word (!t) q) := by
    unfold Format.sub Format.add
    rw [read_word hr, read_word hq, read_word hq]
    rfl
  rw [h]
  exact add_spec hr hq
/-- One, in least units. -/
def Un : Nat := 2 ^ (1000 + 74)
theorem Un_eq : ∃ k : Nat, k = 1000 + 74 ∧ Un = 2 ^ k := ⟨1000 + 74, rfl, by unfold Un; rfl⟩
/-- The rung of a product. -/
def mlr (r q : Nat) : Nat := rg (mg r * mg q) (-1074 + (ex r : Int) + (-1074 + (ex q : Int)))
theorem mul_spec {s t : Bool} {r q : Nat} (hr : r < 2047 * 2 ^ 52) (hq : q < 2047 * 2 ^ 52) :
    D.mul (D.word s r) (D.word t q) = some (D.word (s ^^ t) (mlr r q)) ∧ Near (V r * V q) Un (mlr r q) := by
  unfold Format.mul mlr
  rw [read_word hr, read_word hq]
  simp only [Datum.product, Option.map_some, Format.write, nearest_eq]
  refine ⟨trivial, ?_⟩
  have h := rg_near (mg r * mg q) (-1074 + (ex r : Int) + (-1074 + (ex q : Int)))
  have hV : V r * V q = mg r * mg q * 2 ^ (ex r + ex q) := by
    rw [V_eq, V_eq, Nat.pow_add, Nat.mul_mul_mul_comm]
  obtain ⟨p, hp⟩ : ∃ p : Nat, (-1074 + (ex r : Int) + (-1074 + (ex q : Int)) + 1074).toNat = p := ⟨_, rfl⟩
  obtain ⟨p', hp'⟩ : ∃ p : Nat, (-1074 - (-1074 + (ex r : Int) + (-1074 + (ex q : Int)))).toNat = p := ⟨_, rfl⟩
  rw [hp, hp'] at h
  obtain ⟨k, hk, hU⟩ := Un_eq
  rw [hU]
  clear hU
  have hd : ex r + ex q + p' = p + k := by omega
  clear hk
  rw [hV]
  by_cases hz : p = 0
  · subst hz
    have : 2 ^ k = 2 ^ p' * 2 ^ (ex r + ex q) := by rw [← Nat.pow_add]; congr 1; omega
    rw [this]
    rw [Nat.pow_zero, Nat.mul_one] at h
    exact ⟨fun u h1 h2 => h.1 u h1 (by rw [← Nat.mul_assoc] at h2; exact Nat.le_of_mul_le_mul_right h2 (Nat.two_pow_pos _)), fun u h2 => h.2.1 u (by rw [← Nat.mul_assoc] at h2; exact Nat.le_of_mul_le_mul_right h2 (Nat.two_pow_pos _)), h.2.2⟩
  · have hz' : p' = 0 := by omega
    subst hz'
    have : 2 ^ (ex r + ex q) = 2 ^ p * 2 ^ k := by rw [← Nat.pow_add]; congr 1
    rw [this, ← Nat.mul_assoc]
    rw [Nat.pow_zero] at h
    exact ⟨fun u h1 h2 => h.1 u h1 (by rw [Nat.mul_one]; exact Nat.le_of_mul_le_mul_right h2 (Nat.two_pow_pos _)), fun u h2 => h.2.1 u (by rw [Nat.mul_one]; exact Nat.le_of_mul_le_mul_right h2 (Nat.two_pow_pos _)), h.2.2⟩
theorem mg_lt (r : Nat) : mg r < 2 ^ 53 := by
  unfold mg; split <;> omega
/-- The rung of a quotient. -/
def dvr (r q : Nat) : Nat := rg (2 * (mg r * 2 ^ (52 + 2 + (mg q).log2 - (mg r).log2) / mg q) + (mg r * 2 ^ (52 + 2 + (mg q).log2 - (mg r).log2) % mg q != 0).toNat) (-1074 + (ex r : Int) - (-1074 + (ex q : Int)) - ((52 + 2 + (mg q).log2 - (mg r).log2 : Nat) : Int) - 1)
theorem div_spec {s t : Bool} {r q : Nat} (hr : r < 2047 * 2 ^ 52) (hq : q < 2047 * 2 ^ 52) (h0 : V q ≠ 0) :
    D.div (D.word s r) (D.word t q) = some (D.word (s ^^ t) (dvr r q)) ∧ Near (V r * Un) (V q) (dvr r q) := by
  unfold Format.div dvr
  rw [read_word hr, read_word hq]
  have hn : mg q ≠ 0 := fun h => h0 (by rw [V_eq, h, Nat.zero_mul])
  simp only [Datum.quotient, if_neg hn, Option.map_some, Format.write, nearest_eq, D_frac, Nat.shiftLeft_eq]
  refine ⟨trivial, ?_⟩
  obtain ⟨k, hk, hU⟩ := Un_eq
  rw [hU]
  clear hU
  by_cases hm : mg r = 0
  · have hV : V r = 0 := by rw [V_eq, hm, Nat.zero_mul]
    simp only [hm, hV, Nat.zero_mul, Nat.zero_div, Nat.zero_mod, Nat.mul_zero, bne_self_eq_false, Bool.toNat_false, Nat.add_zero]
    have hz : ∀ p, rg 0 p = 0 := fun p => by unfold rg; rw [if_pos rfl]
    rw [hz]
    refine ⟨fun u _ h2 => ?_, fun u _ => Nat.zero_le _, Nat.zero_le _⟩
    rcases Nat.eq_zero_or_pos (V u) with h3 | h3
    · by_cases hl : u < 2 ^ 52
      · rw [V_lt hl] at h3; omega
      · rw [V_ge hl] at h3
        have := Nat.mul_pos (show 0 < 2 ^ 52 + u % 2 ^ 52 by omega) (Nat.two_pow_pos (u / 2 ^ 52 - 1)); omega
    · have := Nat.mul_pos h3 (Nat.pos_of_ne_zero h0); omega
  obtain ⟨more, hmo⟩ : ∃ m, 52 + 2 + (mg q).log2 - (mg r).log2 = m := ⟨_, rfl⟩
  rw [hmo]
  have l1 := Nat.log2_self_le hm
  have l2 : mg q < 2 ^ ((mg q).log2 + 1) := Nat.lt_log2_self
  have hbig : 2 ^ 53 * mg q ≤ mg r * 2 ^ more := by
    have h1 : 2 ^ (mg r).log2 * 2 ^ more ≤ mg r * 2 ^ more := Nat.mul_le_mul_right _ l1
    rw [← Nat.pow_add] at h1
    have h2 : 2 ^ (53 + ((mg q).log2 + 1)) ≤ 2 ^ ((mg r).log2 + more) := Nat.pow_le_pow_right (by decide) (by omega)
    rw [Nat.pow_add] at h2
    have h3 : 2 ^ 53 * mg q ≤ 2 ^ 53 * 2 ^ ((mg q).log2 + 1) := Nat.mul_le_mul_left _ (by omega)
    omega
  obtain ⟨p1, hp1⟩ : ∃ e : Nat, (-1074 - (-1074 + (ex r : Int) - (-1074 + (ex q : Int)) - (more : Int) - 1)).toNat = e := ⟨_, rfl⟩
  obtain ⟨p2, hp2⟩ : ∃ e : Nat, (-1074 + (ex r : Int) - (-1074 + (ex q : Int)) - (more : Int) - 1 + 1074).toNat = e := ⟨_, rfl⟩
  have hkey : ex r + k + p1 = p2 + 1 + ex q + more := by omega
  have hN := rg_near (2 * (mg r * 2 ^ more / mg q) + (mg r * 2 ^ more % mg q != 0).toNat) (-1074 + (ex r : Int) - (-1074 + (ex q : Int)) - (more : Int) - 1)
  rw [hp1, hp2] at hN
  clear hk hp1 hp2 hmo l1 l2
  generalize rg _ _ = R at hN
  rw [V_eq r, V_eq q]
  generalize ex r = er at *
  generalize ex q = eq at *
  generalize mg r = M at *
  generalize mg q = N at *
  have hNp : 0 < N := Nat.pos_of_ne_zero hn
  have hdm := Nat.div_add_mod (M * 2 ^ more) N
  have hq' : 2 ^ 53 ≤ M * 2 ^ more / N := (Nat.le_div_iff_mul_le hNp).2 hbig
  have hmod := Nat.mod_lt (M * 2 ^ more) hNp
  have up : ∀ u, V u * (N * 2 ^ eq) ≤ M * 2 ^ er * 2 ^ k → V u * 2 ^ p1 * N ≤ M * 2 ^ more * 2 ^ (p2 + 1) := fun u h => by
    have h1 : V u * N * 2 ^ eq ≤ M * 2 ^ (er + k) := by rw [Nat.mul_assoc, Nat.pow_add, ← Nat.mul_assoc M]; exact h
    have h2 := cancel (c := more + (p2 + 1)) (d := p1) h1 (by omega)
    rw [Nat.mul_right_comm, Nat.mul_assoc M, ← Nat.pow_add]; exact h2
  have down : ∀ u, M * 2 ^ er * 2 ^ k ≤ V u * (N * 2 ^ eq) → M * 2 ^ more * 2 ^ (p2 + 1) ≤ V u * 2 ^ p1 * N := fun u h => by
    have h1 : M * 2 ^ (er + k) ≤ V u * N * 2 ^ eq := by rw [Nat.mul_assoc (V u), Nat.pow_add, ← Nat.mul_assoc M]; exact h
    have h2 := cancel (c := p1) (d := more + (p2 + 1)) h1 (by omega)
    rw [Nat.mul_assoc M, ← Nat.pow_add, Nat.mul_right_comm]; exact h2
  generalize M * 2 ^ more = Dv at *
  generalize hQ : Dv / N = Q at *
  have form : ∀ u, (∃ A, V u * 2 ^ p1 = A * 2 ^ (p2 + 1)) ∨ V u * 2 ^ p1 < 2 ^ 53 * 2 ^ p2 := fun u => by
    rw [V_eq, Nat.mul_assoc, ← Nat.pow_add]
    by_cases h : p2 + 1 ≤ ex u + p1
    · exact .inl ⟨mg u * 2 ^ (ex u + p1 - (p2 + 1)), by rw [Nat.mul_assoc, ← Nat.pow_add]; congr 2; omega⟩
    · refine .inr ?_
      have h1 := mg_lt u
      have h2 : 2 ^ (ex u + p1) ≤ 2 ^ p2 := Nat.pow_le_pow_right (by decide) (by omega)
      refine Nat.lt_of_lt_of_le (Nat.mul_lt_mul_of_pos_right h1 (Nat.two_pow_pos _)) (Nat.mul_le_mul_left _ h2)
  have hp : 0 < 2 ^ p2 := Nat.two_pow_pos _
  have e2 : 2 ^ (p2 + 1) = 2 * 2 ^ p2 := by rw [Nat.pow_succ, Nat.mul_comm]
  rw [e2] at up down form
  generalize 2 ^ p2 = P at *
  refine ⟨fun u h1 h2 => hN.1 u h1 ?_, fun u h2 => hN.2.1 u ?_, hN.2.2⟩
  · have h3 := up u h2
    rcases form u with ⟨A, hA⟩ | hA
    · rw [hA] at h3 ⊢
      have h4 : A * N ≤ Dv := by
        have : A * N * (2 * P) ≤ Dv * (2 * P) := by rw [Nat.mul_right_comm]; exact h3
        exact Nat.le_of_mul_le_mul_right this (by omega)
      have h5 : A ≤ Q := by rw [← hQ]; exact (Nat.le_div_iff_mul_le hNp).2 h4
      have h6 : A * (2 * P) = 2 * A * P := by rw [← Nat.mul_assoc, Nat.mul_comm A]
      rw [h6]
      exact Nat.mul_le_mul_right _ (by omega)
    · refine Nat.le_trans (Nat.le_of_lt hA) (Nat.mul_le_mul_right _ (by omega))
  · have h3 := down u h2
    rcases form u with ⟨A, hA⟩ | hA
    · rw [hA] at h3 ⊢
      have h4 : Dv ≤ A * N := by
        have : Dv * (2 * P) ≤ A * N * (2 * P) := by rw [Nat.mul_right_comm A]; exact h3
        exact Nat.le_of_mul_le_mul_right this (by omega)
      have h6 : A * (2 * P) = 2 * A * P := by rw [← Nat.mul_assoc, Nat.mul_comm A]
      rw [h6]
      refine Nat.mul_le_mul_right _ ?_
      by_cases hz : Dv % N = 0
      · have h7 : Q * N ≤ A * N := by rw [Nat.mul_comm Q]; omega
        have := Nat.le_of_mul_le_mul_right h7 hNp
        rw [hz]; simp; omega
      · have h7 : Q * N < A * N := by rw [Nat.mul_comm Q]; omega
        have := Nat.lt_of_mul_lt_mul_right h7
        have := Bool.toNat_le (Dv % N != 0)
        omega
    · exfalso
      have h4 : V u * 2 ^ p1 * N < 2 ^ 53 * P * N := Nat.mul_lt_mul_of_pos_right hA hNp
      have h5 : Dv * 2 * P < 2 ^ 53 * N * P := by
        rw [Nat.mul_assoc Dv, Nat.mul_right_comm]; omega
      have h6 := Nat.lt_of_mul_lt_mul_right h5
      omega
theorem order_spec {s t : Bool} {r q : Nat} (hr : r < 2047 * 2 ^ 52) (hq : q < 2047 * 2 ^ 52) : D.order (D.word s r) (D.word t q) = some (compare (sv s r) (sv t q)) := by
  unfold Format.order
  rw [read_word hr, read_word hq]
  have one : ∀ (s : Bool) (r m : Nat), m ≤ ex r → signed s (mg r) (ex r - m) * 2 ^ m = sv s r := fun s r m hm => by
    have h : mg r * 2 ^ (ex r - m) * 2 ^ m = V r := by rw [V_eq, Nat.mul_assoc, ← Nat.pow_add, Nat.sub_add_cancel hm]
    have h2 : ((mg r * 2 ^ (ex r - m) : Nat) : Int) * 2 ^ m = (V r : Int) := by rw [← h]; simp
    rw [signed_eq]
    unfold sv
    cases s
    · simpa using h2
    · simp only [if_true, Int.neg_mul, h2]
  simp only [Datum.order]
  have e1 : ((-1074 + (ex r : Int)) - min (-1074 + (ex r : Int)) (-1074 + (ex q : Int))).toNat = ex r - min (ex r) (ex q) := by omega
  have e2 : ((-1074 + (ex q : Int)) - min (-1074 + (ex r : Int)) (-1074 + (ex q : Int))).toNat = ex q - min (ex r) (ex q) := by omega
  rw [e1, e2, ← one s r (min (ex r) (ex q)) (by omega), ← one t q (min (ex r) (ex q)) (by omega)]
  have hp : (0 : Int) < 2 ^ (min (ex r) (ex q)) := Int.pow_pos (by decide)
  generalize signed s (mg r) _ = a
  generalize signed t (mg q) _ = b
  generalize (2 : Int) ^ (min (ex r) (ex q)) = c at *
  congr 1
  rcases Int.lt_trichotomy a b with h | h | h
  · rw [Int.compare_eq_lt.2 h, Int.compare_eq_lt.2 (Int.mul_lt_mul_of_pos_right h hp)]
  · subst h; simp
  · rw [Int.compare_eq_gt.2 h, Int.compare_eq_gt.2 (Int.mul_lt_mul_of_pos_right h hp)]

theorem V_mono {t u : Nat} (hu : u ≤ 2047 * 2 ^ 52) (h : t ≤ u) : V t ≤ V u := by
  rcases Nat.le_total (V t) (V u) with h1 | h1
  · exact h1
  have k := rg_near (V u) (-1074)
  rw [show ((-1074 : Int) + 1074).toNat = 0 by rfl, show ((-1074 : Int) - -1074).toNat = 0 by rfl, Nat.pow_zero, Nat.mul_one] at k
  have a := k.1 u hu (by omega)
  have b := k.2.1 t (by omega)
  have : u = t := by omega
  rw [this]; exact Nat.le_refl _
theorem V_le {t u : Nat} (ht : t ≤ 2047 * 2 ^ 52) (h : V t ≤ V u) : t ≤ u := by
  have k := rg_near (V u) (-1074)
  rw [show ((-1074 : Int) + 1074).toNat = 0 by rfl, show ((-1074 : Int) - -1074).toNat = 0 by rfl, Nat.pow_zero, Nat.mul_one] at k
  have a := k.1 t ht (by omega)
  have b := k.2.1 u (by omega)
  omega
theorem V_zero : V 0 = 0 := by rfl
theorem V_pos {u : Nat} (h : 0 < V u) : 0 < u := by
  rcases Nat.eq_zero_or_pos u with h0 | h0
  · subst h0; rw [V_zero] at h; omega
  · exact h0
theorem Near.zero {y r : Nat} (h : Near 0 y r) : r = 0 := by
  have := h.2.1 0 (Nat.zero_le _)
  omega
theorem Near.exact {x y r t : Nat} (h : Near x y r) (ht : t ≤ 2047 * 2 ^ 52) (he : V t * y = x) : r = t := by
  have a := h.1 t ht (by omega)
  have b := h.2.1 t (by omega)
  omega
/-- Numbers of 53 digits times a power of two have words. -/
theorem rep_ex {m j : Nat} (hm : m < 2 ^ 53) (hj : j ≤ 1900) : ∃ t, t < 2047 * 2 ^ 52 ∧ V t = m * 2 ^ j := by
  by_cases h0 : m = 0
  · subst h0; exact ⟨0, by decide, by rw [V_zero, Nat.zero_mul]⟩
  have l1 := Nat.log2_self_le h0
  have l2 : m < 2 ^ (m.log2 + 1) := Nat.lt_log2_self
  have l3 : m.log2 < 53 := (Nat.log2_lt h0).2 hm
  generalize m.log2 = lg at *
  by_cases hs : 52 - lg ≤ j
  · have h1 : 2 ^ 52 ≤ m * 2 ^ (52 - lg) := by
      have := Nat.mul_le_mul_right (2 ^ (52 - lg)) l1
      rw [← Nat.pow_add, show lg + (52 - lg) = 52 by omega] at this
      exact this
    have h2 : m * 2 ^ (52 - lg) < 2 ^ 53 := by
      have := Nat.mul_lt_mul_of_pos_right l2 (Nat.two_pow_pos (52 - lg))
      rw [← Nat.pow_add, show lg + 1 + (52 - lg) = 53 by omega] at this
      exact this
    have h3 : m * 2 ^ j = m * 2 ^ (52 - lg) * 2 ^ (j - (52 - lg)) := by rw [Nat.mul_assoc, ← Nat.pow_add]; congr 2; omega
    rw [h3]
    generalize m * 2 ^ (52 - lg) = a at *
    obtain ⟨e, he⟩ : ∃ e, j - (52 - lg) = e := ⟨_, rfl⟩
    rw [he]
    have hd : (e * 2 ^ 52 + a) / 2 ^ 52 = e + 1 := by omega
    have hm' : (e * 2 ^ 52 + a) % 2 ^ 52 = a - 2 ^ 52 := by omega
    refine ⟨e * 2 ^ 52 + a, by omega, ?_⟩
    rw [V_ge (by omega), hd, hm', show 2 ^ 52 + (a - 2 ^ 52) = a by omega, Nat.add_sub_cancel]
  · have h1 : m * 2 ^ j < 2 ^ 52 := by
      have := Nat.mul_lt_mul_of_pos_right l2 (Nat.two_pow_pos j)
      rw [← Nat.pow_add] at this
      exact Nat.lt_of_lt_of_le this (Nat.pow_le_pow_right (by decide) (by omega))
    exact ⟨m * 2 ^ j, by omega, V_lt h1⟩
/-- The rung of a whole number. -/
def ri (k : Nat) : Nat := rg k 0
theorem ri_spec {k : Nat} (hk : k < 2 ^ 53) : ri k < 2047 * 2 ^ 52 ∧ V (ri k) = k * Un := by
  obtain ⟨n, hn, hU⟩ := Un_eq
  obtain ⟨t, h1, h2⟩ := rep_ex (j := n) hk (by rw [hn]; decide)
  have h := rg_near k 0
  rw [show ((0 : Int) + 1074).toNat = n by rw [hn]; rfl, show ((-1074 : Int) - 0).toNat = 0 by rfl, Nat.pow_zero] at h
  have : ri k = t := h.exact (by omega) (by rw [Nat.mul_one, h2])
  rw [this, hU]
  exact ⟨h1, h2⟩
/-- A whole number as a float. -/
def fl (n : Int) : Nat := FloatKind.nearest .f64 n
theorem fl_eq (n : Int) : fl n = D.word (decide (n < 0)) (ri n.natAbs) := by
  unfold fl FloatKind.nearest FloatKind.encode Format.write
  exact nearest_eq _ _ _
theorem fl_sv {n : Int} (hn : n.natAbs < 2 ^ 53) : sv (decide (n < 0)) (ri n.natAbs) = n * Un := by
  unfold sv
  rw [(ri_spec hn).2]
  by_cases h : n < 0
  · rw [decide_eq_true h, if_pos rfl]
    have : (n.natAbs : Int) = -n := by omega
    rw [Int.natCast_mul, this, Int.neg_mul, Int.neg_neg]
  · rw [decide_eq_false h]
    have : (n.natAbs : Int) = n := by omega
    rw [Int.natCast_mul, this]
    rfl
theorem Un_pos : 0 < Un := by
  obtain ⟨n, _, h⟩ := Un_eq
  rw [h]; exact Nat.two_pow_pos _
theorem fl_add {a b : Int} (ha : a.natAbs < 2 ^ 53) (hb : b.natAbs < 2 ^ 53) (hs : (a + b).natAbs < 2 ^ 53) : D.add (fl a) (fl b) = some (fl (a + b)) := by
  have h := add_spec (s := decide (a < 0)) (t := decide (b < 0)) (ri_spec ha).1 (ri_spec hb).1
  rw [fl_sv ha, fl_sv hb, ← Int.add_mul] at h
  rw [fl_eq, fl_eq, fl_eq, h.1]
  have hU : (0 : Int) < Un := by have := Un_pos; omega
  have hr : adr (decide (a < 0)) (decide (b < 0)) (ri a.natAbs) (ri b.natAbs) = ri (a + b).natAbs := by
    refine h.2.exact (by have := (ri_spec hs).1; omega) ?_
    rw [(ri_spec hs).2, Nat.mul_one, Int.natAbs_mul, Int.natAbs_natCast]
  rw [hr]
  congr 2
  unfold ssum
  by_cases hz : a + b = 0
  · rw [if_pos (by rw [hz, Int.zero_mul])]
    by_cases h1 : a < 0 <;> by_cases h2 : b < 0 <;> simp [h1, h2, hz] <;> omega
  · rw [if_neg (fun h => by rcases Int.mul_eq_zero.1 h with h | h <;> omega)]
    by_cases h1 : a + b < 0
    · have := Int.mul_neg_of_neg_of_pos h1 hU
      simp [h1, this]
    · have := Int.mul_nonneg (show 0 ≤ a + b by omega) (Int.le_of_lt hU)
      simp [h1]; omega
/-- Operations where they have an answer. -/
def addF (x y : Nat) : Nat := (D.add x y).getD 0
def subF (x y : Nat) : Nat := (D.sub x y).getD 0
def mulF (x y : Nat) : Nat := (D.mul x y).getD 0
def divF (x y : Nat) : Nat := (D.div x y).getD 0
/-- The sum, the mean and the spread of floats. -/
def sumF (l : List Nat) : Nat := l.foldl addF 0
def meanF (l : List Nat) : Nat := divF (sumF l) (fl l.length)
def partF (m n x : Nat) : Nat := divF (mulF (subF x m) (subF x m)) n
def spreadF (l : List Nat) : Nat := l.foldl (fun s x => addF s (partF (meanF l) (fl l.length) x)) 0
theorem fl_zero : fl 0 = 0 := by rw [fl_eq]; decide

theorem sumF_fl : ∀ (xs : List Int) (a : Int) (c : Nat), a.natAbs ≤ c * 2 ^ 20 → (∀ x ∈ xs, x.natAbs ≤ 2 ^ 20) → c + xs.length ≤ 2 ^ 20 → (xs.map fl).foldl addF (fl a) = fl (xs.foldl (· + ·) a)
  | [], _, _, _, _, _ => rfl
  | x :: xs, a, c, ha, hx, hl => by
    have h1 := hx x List.mem_cons_self
    have h2 : (a + x).natAbs ≤ (c + 1) * 2 ^ 20 := by
      rw [Nat.add_mul]; omega
    simp only [List.length_cons] at hl
    have h3 : c * 2 ^ 20 ≤ 2 ^ 20 * 2 ^ 20 := Nat.mul_le_mul_right _ (by omega)
    have h4 : (c + 1) * 2 ^ 20 ≤ 2 ^ 20 * 2 ^ 20 := Nat.mul_le_mul_right _ (by omega)
    have e : addF (fl a) (fl x) = fl (a + x) := by
      unfold addF
      rw [fl_add (by omega) (by omega) (by omega)]; rfl
    rw [List.map_cons, List.foldl_cons, List.foldl_cons, e]
    exact sumF_fl xs (a + x) (c + 1) h2 (fun y hy => hx y (List.mem_cons_of_mem _ hy)) (by omega)
theorem foldl_bound {lo hi : Int} : ∀ (xs : List Int) (a : Int), (∀ x ∈ xs, lo ≤ x ∧ x ≤ hi) → a + lo * xs.length ≤ xs.foldl (· + ·) a ∧ xs.foldl (· + ·) a ≤ a + hi * xs.length
  | [], a, _ => by simp
  | x :: xs, a, h => by
    have h1 := h x List.mem_cons_self
    have h2 := foldl_bound xs (a + x) (fun y hy => h y (List.mem_cons_of_mem _ hy))
    rw [List.foldl_cons, List.length_cons]
    have e1 : lo * ((xs.length + 1 : Nat) : Int) = lo * xs.length + lo := by rw [Int.natCast_add, Int.mul_add]; simp
    have e2 : hi * ((xs.length + 1 : Nat) : Int) = hi * xs.length + hi := by rw [Int.natCast_add, Int.mul_add]; simp
    rw [e1, e2]
    omega
theorem foldl_neg : ∀ (xs : List Int) (a : Int), (xs.map (- ·)).foldl (· + ·) (-a) = -(xs.foldl (· + ·) a)
  | [], a => rfl
  | x :: xs, a => by
    rw [List.map_cons, List.foldl_cons, List.foldl_cons, ← foldl_neg xs (a + x)]
    congr 1; omega
/-- The mean of small whole numbers. -/
theorem mean_eq {xs : List Int} (hs : ∀ x ∈ xs, x.natAbs ≤ 2 ^ 20) (h0 : xs ≠ []) (hl : xs.length ≤ 1024) :
    meanF (xs.map fl) = D.word (decide (xs.foldl (· + ·) 0 < 0)) (dvr (ri (xs.foldl (· + ·) 0).natAbs) (ri xs.length)) ∧ Near ((xs.foldl (· + ·) 0).natAbs * Un * Un) (xs.length * Un) (dvr (ri (xs.foldl (· + ·) 0).natAbs) (ri xs.length)) := by
  have hb := foldl_bound (lo := -(2 ^ 20)) (hi := 2 ^ 20) xs 0 (fun x hx => by have := hs x hx; omega)
  have hn : 0 < xs.length := List.length_pos_iff.2 h0
  have hS : (xs.foldl (· + ·) 0).natAbs < 2 ^ 53 := by omega
  have e := sumF_fl xs 0 0 (by decide) hs (by omega)
  rw [fl_zero] at e
  unfold meanF sumF divF
  rw [e, List.length_map, fl_eq, fl_eq]
  have hc : decide (((xs.length : Nat) : Int) < 0) = false := by simp
  have hN : ((xs.length : Nat) : Int).natAbs = xs.length := rfl
  rw [hc, hN]
  have h := div_spec (s := decide (xs.foldl (· + ·) 0 < 0)) (t := false) (ri_spec hS).1 (ri_spec (k := xs.length) (by omega)).1 (by
    rw [(ri_spec (k := xs.length) (by omega)).2]
    exact Nat.ne_of_gt (Nat.mul_pos hn Un_pos))
  rw [(ri_spec hS).2, (ri_spec (k := xs.length) (by omega)).2] at h
  refine ⟨?_, h.2⟩
  rw [h.1]; simp
/-- It lies between bounds. -/
theorem mean_between {xs : List Int} (hs : ∀ x ∈ xs, x.natAbs ≤ 2 ^ 20) (h0 : xs ≠ []) (hl : xs.length ≤ 1024) {lo hi : Int} (hlo : lo.natAbs ≤ 2 ^ 20) (hhi : hi.natAbs ≤ 2 ^ 20) (hb : ∀ x ∈ xs, lo ≤ x ∧ x ≤ hi) :
    ∃ s u, meanF (xs.map fl) = D.word s u ∧ u < 2047 * 2 ^ 52 ∧ lo * Un ≤ sv s u ∧ sv s u ≤ hi * Un ∧ (lo = hi → sv s u = lo * Un) := by
  obtain ⟨h1, h2⟩ := mean_eq hs h0 hl
  have hf := foldl_bound xs 0 hb
  generalize xs.foldl (· + ·) 0 = S at *
  have hn : 0 < xs.length := List.length_pos_iff.2 h0
  generalize xs.length = n at *
  generalize dvr (ri S.natAbs) (ri n) = u at *
  have hU := Un_pos
  have h3 : Near (S.natAbs * Un) n u := Near.scale hU h2
  have ge : ∀ k : Nat, k ≤ 2 ^ 20 → k * n ≤ S.natAbs → k * Un ≤ V u := fun k hk hkn => by
    have hr := ri_spec (k := k) (by omega)
    have := h3.1 (ri k) (by omega) (by
      rw [hr.2, Nat.mul_right_comm]; exact Nat.mul_le_mul_right _ hkn)
    rw [← hr.2]
    exact V_mono h3.2.2 this
  have le : ∀ k : Nat, k ≤ 2 ^ 20 → S.natAbs ≤ k * n → V u ≤ k * Un ∧ u < 2047 * 2 ^ 52 := fun k hk hkn => by
    have hr := ri_spec (k := k) (by omega)
    have := h3.2.1 (ri k) (by
      rw [hr.2, Nat.mul_right_comm]; exact Nat.mul_le_mul_right _ hkn)
    rw [← hr.2]
    exact ⟨V_mono (by omega) this, by omega⟩
  have cast : ∀ (k : Nat) (z : Int), z = k → (k * Un : Nat) = z * Un := fun k z h => by rw [h]; simp
  have hlin : ∀ (a b : Int), a ≤ b → a * Un ≤ b * Un := fun a b h => Int.mul_le_mul_of_nonneg_right h (by omega)
  rw [h1]
  by_cases hS : S < 0
  · rw [decide_eq_true hS]
    -- lo is below 0
    have hlo0 : lo < 0 := by
      rcases Int.lt_or_le lo 0 with h | h
      · exact h
      · have := Int.mul_nonneg h (show (0 : Int) ≤ n by omega); omega
    have k1 : S.natAbs ≤ lo.natAbs * n := by
      have : ((lo.natAbs * n : Nat) : Int) = -(lo * n) := by rw [Int.natCast_mul, show (lo.natAbs : Int) = -lo by omega, Int.neg_mul]
      omega
    have k2 := le _ hlo k1
    have e1 := cast lo.natAbs (-lo) (by omega)
    rw [Int.neg_mul] at e1
    refine ⟨true, u, rfl, k2.2, by unfold sv; rw [if_pos rfl]; omega, ?_, ?_⟩
    · unfold sv; rw [if_pos rfl]
      by_cases hh : hi < 0
      · have k3 : hi.natAbs * n ≤ S.natAbs := by
          have : ((hi.natAbs * n : Nat) : Int) = -(hi * n) := by rw [Int.natCast_mul, show (hi.natAbs : Int) = -hi by omega, Int.neg_mul]
          omega
        have k4 := ge _ hhi k3
        have e2 := cast hi.natAbs (-hi) (by omega)
        rw [Int.neg_mul] at e2
        omega
      · have := Int.mul_nonneg (show 0 ≤ hi by omega) (show (0 : Int) ≤ Un by omega); omega
    · intro hlh
      subst hlh
      unfold sv; rw [if_pos rfl]
      have k3 : lo.natAbs * n ≤ S.natAbs := by
        have : ((lo.natAbs * n : Nat) : Int) = -(lo * n) := by rw [Int.natCast_mul, show (lo.natAbs : Int) = -lo by omega, Int.neg_mul]
        omega
      have k4 := ge _ hhi k3
      omega
  · rw [decide_eq_false hS]
    have hhi0 : 0 ≤ hi := by
      rcases Int.lt_or_le hi 0 with h | h
      · have := Int.mul_neg_of_neg_of_pos h (show (0 : Int) < n by omega); omega
      · exact h
    have k1 : S.natAbs ≤ hi.natAbs * n := by
      have : ((hi.natAbs * n : Nat) : Int) = hi * n := by rw [Int.natCast_mul, show (hi.natAbs : Int) = hi by omega]
      omega
    have k2 := le _ hhi k1
    have e1 := cast hi.natAbs hi (by omega)
    have low : lo * Un ≤ (V u : Int) := by
      by_cases hh : lo < 0
      · have := Int.mul_neg_of_neg_of_pos hh (show (0 : Int) < Un by omega); omega
      · have k3 : lo.natAbs * n ≤ S.natAbs := by
          have : ((lo.natAbs * n : Nat) : Int) = lo * n := by rw [Int.natCast_mul, show (lo.natAbs : Int) = lo by omega]
          omega
        have k4 := ge _ hlo k3
        have e2 := cast lo.natAbs lo (by omega)
        omega
    have e3 : sv false u = V u := rfl
    refine ⟨false, u, rfl, k2.2, by rw [e3]; exact low, by rw [e3]; omega, fun hlh => ?_⟩
    rw [e3]
    subst hlh
    omega

theorem sv_not (s : Bool) (u : Nat) : sv (!s) u = -sv s u := by
  unfold sv; cases s <;> simp
theorem sv_false (u : Nat) : sv false u = V u := rfl
/-- The rung of a part of the spread. -/
def prg (s : Bool) (u n : Nat) (x : Int) : Nat := dvr (mlr (adr (decide (x < 0)) (!s) (ri x.natAbs) u) (adr (decide (x < 0)) (!s) (ri x.natAbs) u)) (ri n)
theorem pos_part {U k z rd M n P : Nat} (hU : U = 2 ^ k) (h12 : 12 ≤ k) (h19 : k ≤ 1900) (h : U ≤ z * 2) (hs : Near z 1 rd) (hm : Near (V rd * V rd) U M) (hN : Near (V M) n P) (hn2 : n ≤ 1024) : 0 < P := by
  have hUk2 : U = 2 ^ (k - 1) * 2 := by rw [hU, ← Nat.pow_succ]; congr 1; omega
  obtain ⟨t1, a1, b1⟩ := rep_ex (m := 1) (j := k - 1) (by decide) (by omega)
  obtain ⟨t2, a2, b2⟩ := rep_ex (m := 1) (j := k - 2) (by decide) (by omega)
  obtain ⟨t3, a3, b3⟩ := rep_ex (m := 1) (j := k - 12) (by decide) (by omega)
  rw [Nat.one_mul] at b1 b2 b3
  have g1 : t1 ≤ rd := hs.1 t1 (by omega) (by
    rw [b1, Nat.mul_one]
    have : 2 ^ (k - 1) * 2 ≤ z * 2 := by rw [← hUk2]; exact h
    exact Nat.le_of_mul_le_mul_right this (by decide))
  have v1 : 2 ^ (k - 1) ≤ V rd := by rw [← b1]; exact V_mono hs.2.2 g1
  have g2 : t2 ≤ M := hm.1 t2 (by omega) (by
    rw [b2, hU, ← Nat.pow_add, show k - 2 + k = (k - 1) + (k - 1) by omega, Nat.pow_add]
    exact Nat.mul_le_mul v1 v1)
  have v2 : 2 ^ (k - 2) ≤ V M := by rw [← b2]; exact V_mono hm.2.2 g2
  have g3 : t3 ≤ P := hN.1 t3 (by omega) (by
    rw [b3]
    refine Nat.le_trans (Nat.mul_le_mul_left _ hn2) ?_
    rw [show 1024 = 2 ^ 10 by rfl, ← Nat.pow_add, show k - 12 + 10 = k - 2 by omega]
    exact v2)
  have : 0 < t3 := V_pos (by rw [b3]; exact Nat.two_pow_pos _)
  omega
theorem word_inj {s t : Bool} {a b : Nat} (ha : a ≤ 2047 * 2 ^ 52) (hb : b ≤ 2047 * 2 ^ 52) (h : D.word s a = D.word t b) : s = t ∧ a = b := by
  unfold Format.word at h
  rw [D_sign] at h
  cases s <;> cases t <;> simp at h <;> first | exact ⟨rfl, h⟩ | (exfalso; omega)
theorem part_eq {s : Bool} {u n : Nat} {x : Int} (hu : u < 2047 * 2 ^ 52) (hx : x.natAbs ≤ 2 ^ 20) (hn : 0 < n) (hn2 : n ≤ 1024) (hm : (sv s u).natAbs ≤ 2 ^ 20 * Un) :
    partF (D.word s u) (fl n) (fl x) = D.word false (prg s u n x) ∧ prg s u n x < 2047 * 2 ^ 52 ∧ V (prg s u n x) ≤ 2 ^ 42 * Un ∧
      (x * Un = sv s u → prg s u n x = 0) ∧ (Un ≤ (x * Un - sv s u).natAbs * 2 → 0 < prg s u n x) := by
  have hx' : x.natAbs < 2 ^ 53 := by omega
  have rx := ri_spec hx'
  have rn := ri_spec (k := n) (by omega)
  have hU := Un_pos
  have hz : sv (decide (x < 0)) (ri x.natAbs) + sv (!s) u = x * Un - sv s u := by rw [fl_sv hx', sv_not]; omega
  have hsub := sub_spec (s := decide (x < 0)) (t := s) rx.1 hu
  rw [hz] at hsub
  have hzb : (x * Un - sv s u).natAbs ≤ 2 ^ 21 * Un := by
    have h1 : (x * (Un : Int)).natAbs = x.natAbs * Un := by rw [Int.natAbs_mul, Int.natAbs_natCast]
    have h2 := Nat.mul_le_mul_right Un hx
    omega
  unfold prg
  generalize adr (decide (x < 0)) (!s) (ri x.natAbs) u = rd at *
  have r21 := ri_spec (k := 2 ^ 21) (by decide)
  have r42 := ri_spec (k := 2 ^ 42) (by decide)
  have hrd : rd ≤ ri (2 ^ 21) := hsub.2.2.1 _ (by rw [r21.2, Nat.mul_one]; exact hzb)
  have hVrd : V rd ≤ 2 ^ 21 * Un := by rw [← r21.2]; exact V_mono (by omega) hrd
  have hmul := mul_spec (s := ssum (decide (x < 0)) (!s) (x * Un - sv s u)) (t := ssum (decide (x < 0)) (!s) (x * Un - sv s u)) (r := rd) (q := rd) (by omega) (by omega)
  have hsq : V rd * V rd ≤ 2 ^ 42 * Un * Un := by
    have := Nat.mul_le_mul hVrd hVrd
    have e : 2 ^ 21 * Un * (2 ^ 21 * Un) = 2 ^ 42 * Un * Un := by rw [Nat.mul_mul_mul_comm, ← Nat.mul_assoc]
    omega
  generalize hMl : mlr rd rd = M at *
  have hM : M ≤ ri (2 ^ 42) := hmul.2.2.1 _ (by rw [r42.2]; exact hsq)
  have hVM : V M ≤ 2 ^ 42 * Un := by rw [← r42.2]; exact V_mono (by omega) hM
  have hdiv := div_spec (s := false) (t := false) (r := M) (q := ri n) (by omega) rn.1 (by rw [rn.2]; exact Nat.ne_of_gt (Nat.mul_pos hn hU))
  rw [rn.2] at hdiv
  have hN : Near (V M) n (dvr M (ri n)) := Near.scale hU hdiv.2
  have hP : dvr M (ri n) ≤ ri (2 ^ 42) := hN.2.1 _ (by
    rw [r42.2]
    exact Nat.le_trans hVM (Nat.le_mul_of_pos_right _ hn))
  refine ⟨?_, by omega, by rw [← r42.2]; exact V_mono (by omega) hP, fun h => ?_, fun h => ?_⟩
  · unfold partF subF
    rw [fl_eq x, hsub.1, Option.getD_some]
    unfold mulF
    rw [hmul.1, Option.getD_some, Bool.xor_self]
    unfold divF
    rw [fl_eq (n : Int), show decide ((n : Int) < 0) = false by simp, show ((n : Nat) : Int).natAbs = n from rfl, hdiv.1]
    rfl
  · have h0 : (x * Un - sv s u).natAbs = 0 := by rw [h]; simp
    rw [h0] at hsub
    have h1 : rd = 0 := hsub.2.zero
    rw [h1, V_zero, Nat.zero_mul] at hmul
    have h2 : M = 0 := hmul.2.zero
    rw [h2] at hN ⊢
    rw [V_zero] at hN
    exact hN.zero
  · obtain ⟨k, hk, hUk⟩ := Un_eq
    exact pos_part hUk (by rw [hk]; decide) (by rw [hk]; decide) h hsub.2 hmul.2 hN hn2
theorem spread_fold {s : Bool} {u n : Nat} (hu : u < 2047 * 2 ^ 52) (hn : 0 < n) (hn2 : n ≤ 1024) (hm : (sv s u).natAbs ≤ 2 ^ 20 * Un) : ∀ (xs : List Int) (r c : Nat), (∀ x ∈ xs, x.natAbs ≤ 2 ^ 20) → r < 2047 * 2 ^ 52 → V r ≤ c * 2 ^ 42 * Un → c + xs.length ≤ 1024 →
    ∃ r', (xs.map fl).foldl (fun a x => addF a (partF (D.word s u) (fl n) x)) (D.word false r) = D.word false r' ∧ r' < 2047 * 2 ^ 52 ∧ r ≤ r' ∧ (∀ x ∈ xs, prg s u n x ≤ r') ∧ ((∀ x ∈ xs, prg s u n x = 0) → r = 0 → r' = 0)
  | [], r, c, _, hr, _, _ => ⟨r, rfl, hr, Nat.le_refl _, (fun x hx => by cases hx), fun _ h => h⟩
  | x :: xs, r, c, hx, hr, hV, hl => by
    obtain ⟨p1, p2, p3, _, _⟩ := part_eq (n := n) hu (hx x List.mem_cons_self) hn hn2 hm
    rw [List.length_cons] at hl
    generalize hp : prg s u n x = p at *
    have hadd := add_spec (s := false) (t := false) hr p2
    rw [sv_false, sv_false] at hadd
    have hz : ((V r : Int) + V p).natAbs = V r + V p := by omega
    rw [hz] at hadd
    have hss : ssum false false ((V r : Int) + V p) = false := by
      unfold ssum; split
      · rfl
      · exact decide_eq_false (by omega)
    rw [hss] at hadd
    generalize adr false false r p = q at *
    have hc : V r + V p ≤ (c + 1) * 2 ^ 42 * Un := by rw [Nat.add_mul, Nat.add_mul, Nat.one_mul]; omega
    have hcb : (c + 1) * 2 ^ 42 < 2 ^ 53 := by
      have := Nat.mul_le_mul_right (2 ^ 42) (show c + 1 ≤ 1024 by omega)
      omega
    have rc := ri_spec hcb
    have hq : q ≤ ri ((c + 1) * 2 ^ 42) := hadd.2.2.1 _ (by rw [rc.2, Nat.mul_one]; exact hc)
    have hVq : V q ≤ (c + 1) * 2 ^ 42 * Un := by rw [← rc.2]; exact V_mono (by omega) hq
    have g1 : r ≤ q := hadd.2.1 r (by omega) (by omega)
    have g2 : p ≤ q := hadd.2.1 p (by omega) (by omega)
    obtain ⟨r', e1, e2, e3, e4, e5⟩ := spread_fold hu hn hn2 hm xs q (c + 1) (fun y hy => hx y (List.mem_cons_of_mem _ hy)) (by omega) hVq (by omega)
    refine ⟨r', ?_, e2, by omega, fun y hy => ?_, fun h h0 => ?_⟩
    · rw [List.map_cons, List.foldl_cons, p1]
      have : addF (D.word false r) (D.word false p) = D.word false q := by
        unfold addF; rw [hadd.1]; rfl
      rw [this, e1]
    · rcases List.mem_cons.1 hy with rfl | hy
      · omega
      · exact e4 y hy
    · refine e5 (fun y hy => h y (List.mem_cons_of_mem _ hy)) ?_
      have h1 : p = 0 := by rw [← hp]; exact h x List.mem_cons_self
      rw [h0, h1] at hadd
      exact hadd.2.zero
theorem dvr_inf (r q : Nat) : dvr r q ≤ 2047 * 2 ^ 52 := by unfold dvr; exact rg_inf _ _
theorem word_zero : D.word false 0 = 0 := rfl
theorem prg_neg {s s' : Bool} {u n : Nat} {x : Int} (hx : x.natAbs ≤ 2 ^ 20) (hsv : sv s' u = sv (!s) u) : prg s' u n (-x) = prg s u n x := by
  unfold prg
  have ha : adr (decide (-x < 0)) (!s') (ri (-x).natAbs) u = adr (decide (x < 0)) (!s) (ri x.natAbs) u := by
    have e0 : (-x).natAbs = x.natAbs := Int.natAbs_neg x
    rw [e0]
    refine adr_abs ?_
    have f1 := fl_sv (n := x) (by omega)
    have f2 := fl_sv (n := -x) (by omega)
    rw [e0] at f2
    rw [f1, f2, sv_not, sv_not, hsv, sv_not, Int.neg_mul, Int.neg_neg]
    omega
  rw [ha]
theorem spread_neg {s s' : Bool} {u n : Nat} (hu : u < 2047 * 2 ^ 52) (hn : 0 < n) (hl : n ≤ 1024) (hm : (sv s u).natAbs ≤ 2 ^ 20 * Un) (hm' : (sv s' u).natAbs ≤ 2 ^ 20 * Un) (hsv : sv s' u = sv (!s) u) : ∀ (l : List Int), (∀ x ∈ l, x.natAbs ≤ 2 ^ 20) → ∀ a : Nat,
    (l.map fl).foldl (fun a x => addF a (partF (D.word s u) (fl n) x)) a = ((l.map (- ·)).map fl).foldl (fun a x => addF a (partF (D.word s' u) (fl n) x)) a
  | [], _, _ => rfl
  | x :: l, hl', a => by
    have hx := hl' x List.mem_cons_self
    have hP : partF (D.word s u) (fl n) (fl x) = partF (D.word s' u) (fl n) (fl (-x)) := by
      rw [(part_eq hu hx hn hl hm).1, (part_eq (x := -x) hu (by omega) hn hl hm').1, prg_neg hx hsv]
    rw [List.map_cons, List.map_cons, List.map_cons, List.foldl_cons, List.foldl_cons, hP, spread_neg hu hn hl hm hm' hsv l (fun y hy => hl' y (List.mem_cons_of_mem _ hy))]
theorem sv_bound {lo hi z : Int} (blo : lo.natAbs ≤ 2 ^ 20) (bhi : hi.natAbs ≤ 2 ^ 20) (h1 : lo * Un ≤ z) (h2 : z ≤ hi * Un) : z.natAbs ≤ 2 ^ 20 * Un := by
  have a2 := Nat.mul_le_mul_right Un blo
  have a3 := Nat.mul_le_mul_right Un bhi
  have a4 : (lo * (Un : Int)).natAbs = lo.natAbs * Un := by rw [Int.natAbs_mul, Int.natAbs_natCast]
  have a5 : (hi * (Un : Int)).natAbs = hi.natAbs * Un := by rw [Int.natAbs_mul, Int.natAbs_natCast]
  omega
theorem sign_flip {S : Int} (hz : S ≠ 0) : decide (-S < 0) = !decide (S < 0) := by
  by_cases h : S < 0
  · have : ¬ -S < 0 := by omega
    simp [h]; omega
  · have : -S < 0 := by omega
    simp [h]; omega
theorem gap_or {lo hi m : Int} (h : lo < hi) (hc : ¬ Un ≤ (lo * Un - m).natAbs * 2) : Un ≤ (hi * Un - m).natAbs * 2 := by
  have hgap : (lo + 1) * (Un : Int) ≤ hi * Un := Int.mul_le_mul_of_nonneg_right (by omega) (by omega)
  rw [Int.add_mul, Int.one_mul] at hgap
  omega
theorem mean_neg {xs : List Int} (hs : ∀ x ∈ xs, x.natAbs ≤ 2 ^ 20) (h0 : xs ≠ []) (hl : xs.length ≤ 1024) {s : Bool} {u : Nat} (hu : u ≤ 2047 * 2 ^ 52) (m1 : meanF (xs.map fl) = D.word s u) :
    ∃ s', meanF ((xs.map (- ·)).map fl) = D.word s' u ∧ sv s' u = sv (!s) u := by
  have hs' : ∀ x ∈ xs.map (- ·), x.natAbs ≤ 2 ^ 20 := fun x hx => by
    obtain ⟨y, hy, rfl⟩ := List.mem_map.1 hx
    rw [Int.natAbs_neg]; exact hs y hy
  obtain ⟨k1, k0⟩ := mean_eq hs h0 hl
  obtain ⟨k2, _⟩ := mean_eq hs' (by simp [h0]) (by rw [List.length_map]; exact hl)
  have hneg := foldl_neg xs 0
  rw [Int.neg_zero] at hneg
  rw [hneg, List.length_map, Int.natAbs_neg] at k2
  have hsu := m1.symm.trans k1
  have hd := dvr_inf (ri (xs.foldl (· + ·) 0).natAbs) (ri xs.length)
  obtain ⟨q, hq⟩ : ∃ q, dvr (ri (xs.foldl (· + ·) 0).natAbs) (ri xs.length) = q := ⟨_, rfl⟩
  rw [hq] at hsu hd k2 k0
  obtain ⟨es, eu⟩ := word_inj hu hd hsu
  subst eu
  refine ⟨_, k2, ?_⟩
  by_cases hz : xs.foldl (· + ·) 0 = 0
  · rw [hz, Int.natAbs_zero, Nat.zero_mul, Nat.zero_mul] at k0
    rw [k0.zero]
    unfold sv; rw [V_zero]; simp
  · rw [es, sign_flip hz]
/-- The mean and the spread of small whole numbers. -/
theorem mean_spread {xs : List Int} (hs : ∀ x ∈ xs, x.natAbs ≤ 2 ^ 20) (h0 : xs ≠ []) (hl : xs.length ≤ 1024) {lo hi : Int} (hlo : lo ∈ xs) (hhi : hi ∈ xs) (hb : ∀ x ∈ xs, lo ≤ x ∧ x ≤ hi) :
    ∃ s u r s', meanF (xs.map fl) = D.word s u ∧ meanF ((xs.map (- ·)).map fl) = D.word s' u ∧ spreadF (xs.map fl) = D.word false r ∧ spreadF ((xs.map (- ·)).map fl) = D.word false r ∧
      u < 2047 * 2 ^ 52 ∧ r < 2047 * 2 ^ 52 ∧ sv s' u = sv (!s) u ∧ lo * Un ≤ sv s u ∧ sv s u ≤ hi * Un ∧ (r = 0 ↔ lo = hi) := by
  have hn : 0 < xs.length := List.length_pos_iff.2 h0
  have blo := hs lo hlo
  have bhi := hs hi hhi
  obtain ⟨s, u, m1, m2, m3, m4, m5⟩ := mean_between hs h0 hl blo bhi hb
  obtain ⟨s', k2, hsv⟩ := mean_neg hs h0 hl (Nat.le_of_lt m2) m1
  have hsvm := sv_bound blo bhi m3 m4
  have hsvm' : (sv s' u).natAbs ≤ 2 ^ 20 * Un := by rw [hsv, sv_not, Int.natAbs_neg]; exact hsvm
  obtain ⟨r, e1, e2, _, e4, e5⟩ := spread_fold (n := xs.length) m2 hn hl hsvm xs 0 0 hs (Nat.mul_pos (by decide) (by decide)) (by rw [V_zero]; exact Nat.zero_le _) (by rw [Nat.zero_add]; exact hl)
  have hsame := spread_neg (n := xs.length) m2 hn hl hsvm hsvm' hsv xs hs (D.word false 0)
  refine ⟨s, u, r, s', m1, k2, ?_, ?_, m2, e2, hsv, m3, m4, ?_⟩
  · unfold spreadF
    rw [m1, List.length_map]
    rw [word_zero] at e1
    exact e1
  · unfold spreadF
    rw [k2, List.length_map, List.length_map]
    rw [hsame, word_zero] at e1
    exact e1
  · constructor
    · intro hr0
      rcases Int.lt_or_le lo hi with h | h
      · exfalso
        rw [hr0] at e4
        by_cases hc : Un ≤ (lo * Un - sv s u).natAbs * 2
        · exact absurd (e4 lo hlo) (Nat.not_le_of_lt ((part_eq (n := xs.length) m2 blo hn hl hsvm).2.2.2.2 hc))
        · exact absurd (e4 hi hhi) (Nat.not_le_of_lt ((part_eq (n := xs.length) m2 bhi hn hl hsvm).2.2.2.2 (gap_or h hc)))
      · exact Int.le_antisymm (hb hi hhi).1 h
    · intro hlh
      refine e5 (fun x hx => ?_) rfl
      have hxe : x = lo := Int.le_antisymm (by rw [hlh]; exact (hb x hx).2) (hb x hx).1
      exact (part_eq (n := xs.length) m2 (hs x hx) hn hl hsvm).2.2.2.1 (by rw [hxe, m5 hlh])

/-- A finite float of at most 'c * 2 ^ j'. -/
def Bd (x c j : Nat) : Prop := ∃ s r, x = D.word s r ∧ r < 2047 * 2 ^ 52 ∧ V r ≤ c * 2 ^ j * Un
theorem Bd.weaken {x c j d k : Nat} (h : Bd x c j) (hle : c * 2 ^ j ≤ d * 2 ^ k) : Bd x d k := by
  obtain ⟨s, r, e, h1, h2⟩ := h
  exact ⟨s, r, e, h1, Nat.le_trans h2 (Nat.mul_le_mul_right _ hle)⟩
theorem big_ex {c j : Nat} (hc : c < 2 ^ 53) (hj : j ≤ 800) : ∃ t, t < 2047 * 2 ^ 52 ∧ V t = c * 2 ^ j * Un := by
  obtain ⟨k, hk, hU⟩ := Un_eq
  have h19 : k ≤ 1074 := by rw [hk]; decide
  clear hk
  obtain ⟨t, h1, h2⟩ := rep_ex (m := c) (j := j + k) hc (by omega)
  exact ⟨t, h1, by rw [h2, Nat.pow_add, ← Nat.mul_assoc, hU]⟩
theorem Near.bd {x y r c j : Nat} (h : Near x y r) (hc : c < 2 ^ 53) (hj : j ≤ 800) (hx : x ≤ c * 2 ^ j * Un * y) : r < 2047 * 2 ^ 52 ∧ V r ≤ c * 2 ^ j * Un := by
  obtain ⟨t, h1, h2⟩ := big_ex hc hj
  have h3 := h.2.1 t (by rw [h2]; exact hx)
  exact ⟨Nat.lt_of_le_of_lt h3 h1, by rw [← h2]; exact V_mono (Nat.le_of_lt h1) h3⟩
theorem sv_abs (s : Bool) (r : Nat) : (sv s r).natAbs = V r := by unfold sv; cases s <;> simp
theorem Bd.add {x y c d j : Nat} (hx : Bd x c j) (hy : Bd y d j) (hc : c + d < 2 ^ 53) (hj : j ≤ 800) : D.add x y = some (addF x y) ∧ Bd (addF x y) (c + d) j := by
  obtain ⟨s, r, rfl, h1, h2⟩ := hx
  obtain ⟨t, q, rfl, h3, h4⟩ := hy
  obtain ⟨e, hN⟩ := add_spec (s := s) (t := t) h1 h3
  have hb := hN.bd (c := c + d) (j := j) hc hj (by
    have a1 := sv_abs s r
    have a2 := sv_abs t q
    rw [Nat.add_mul, Nat.add_mul, Nat.mul_one]
    omega)
  unfold addF
  rw [e, Option.getD_some]
  exact ⟨rfl, _, _, rfl, hb.1, hb.2⟩
theorem Bd.sub {x y c d j : Nat} (hx : Bd x c j) (hy : Bd y d j) (hc : c + d < 2 ^ 53) (hj : j ≤ 800) : D.sub x y = some (subF x y) ∧ Bd (subF x y) (c + d) j := by
  obtain ⟨s, r, rfl, h1, h2⟩ := hx
  obtain ⟨t, q, rfl, h3, h4⟩ := hy
  obtain ⟨e, hN⟩ := sub_spec (s := s) (t := t) h1 h3
  have hb := hN.bd (c := c + d) (j := j) hc hj (by
    have a1 := sv_abs s r
    have a2 := sv_abs (!t) q
    rw [Nat.add_mul, Nat.add_mul, Nat.mul_one]
    omega)
  unfold subF
  rw [e, Option.getD_some]
  exact ⟨rfl, _, _, rfl, hb.1, hb.2⟩
theorem Bd.mul {x y c d j k : Nat} (hx : Bd x c j) (hy : Bd y d k) (hc : c * d < 2 ^ 53) (hj : j + k ≤ 800) : D.mul x y = some (mulF x y) ∧ Bd (mulF x y) (c * d) (j + k) := by
  obtain ⟨s, r, rfl, h1, h2⟩ := hx
  obtain ⟨t, q, rfl, h3, h4⟩ := hy
  obtain ⟨e, hN⟩ := mul_spec (s := s) (t := t) h1 h3
  have hb := hN.bd (c := c * d) (j := j + k) hc hj (by
    refine Nat.le_trans (Nat.mul_le_mul h2 h4) (Nat.le_of_eq ?_)
    rw [Nat.mul_mul_mul_comm, Nat.mul_mul_mul_comm c, ← Nat.pow_add, ← Nat.mul_assoc])
  unfold mulF
  rw [e, Option.getD_some]
  exact ⟨rfl, _, _, rfl, hb.1, hb.2⟩
theorem Bd.div {x c j n : Nat} (hx : Bd x c j) (hn : 0 < n) (hn2 : n < 2 ^ 53) (hc : c < 2 ^ 53) (hj : j ≤ 800) : D.div x (fl n) = some (divF x (fl n)) ∧ Bd (divF x (fl n)) c j := by
  obtain ⟨s, r, rfl, h1, h2⟩ := hx
  have rn := ri_spec hn2
  have hU := Un_pos
  obtain ⟨e, hN⟩ := div_spec (s := s) (t := false) h1 rn.1 (by rw [rn.2]; exact Nat.ne_of_gt (Nat.mul_pos hn hU))
  rw [rn.2] at hN
  have hN' : Near (V r) n (dvr r (ri n)) := Near.scale hU hN
  have hb := hN'.bd (c := c) (j := j) hc hj (Nat.le_trans h2 (Nat.le_mul_of_pos_right _ hn))
  have en : fl n = D.word false (ri n) := by
    rw [fl_eq (n : Int), show decide ((n : Int) < 0) = false by simp, show ((n : Nat) : Int).natAbs = n from rfl]
  unfold divF
  rw [en, e, Option.getD_some]
  exact ⟨rfl, _, _, rfl, hb.1, hb.2⟩
theorem Bd.zero (j : Nat) : Bd 0 0 j := ⟨false, 0, rfl, Nat.mul_pos (by decide) (by decide), by rw [V_zero]; exact Nat.zero_le _⟩
theorem Bd.ofInt {x : Int} (hx : x.natAbs ≤ 2 ^ 63) : Bd (fl x) 1 63 := by
  rw [fl_eq]
  have h := rg_near x.natAbs 0
  obtain ⟨k, hk, hU⟩ := Un_eq
  rw [show ((0 : Int) + 1074).toNat = k by rw [hk]; rfl, show ((-1074 : Int) - 0).toNat = 0 by rfl, Nat.pow_zero, ← hU] at h
  have hb := h.bd (c := 1) (j := 63) (by decide) (by decide) (by
    rw [Nat.mul_one, Nat.one_mul]; exact Nat.mul_le_mul_right _ hx)
  exact ⟨_, _, rfl, hb.1, hb.2⟩
theorem Bd.sum {l : List Nat} (hl : ∀ x ∈ l, Bd x 1 63) : ∀ (n : Nat) (a : Nat) (c : Nat), Bd a c 63 → c + l.length ≤ 2 ^ 20 → Bd (l.foldl addF a) (c + l.length) 63 := by
  induction l with
  | nil => intro n a c h _; exact h
  | cons x l ih =>
    intro n a c h hc
    rw [List.length_cons] at hc ⊢
    rw [List.foldl_cons, show c + (l.length + 1) = (c + 1) + l.length by omega]
    exact ih (fun y hy => hl y (List.mem_cons_of_mem _ hy)) n _ _ (h.add (hl x List.mem_cons_self) (by omega) (by decide)).2 (by omega)
/-- The mean is a finite float. -/
theorem Bd.mean {l : List Nat} (hl : ∀ x ∈ l, Bd x 1 63) (h0 : 0 < l.length) (hn : l.length ≤ 2 ^ 20) : D.div (sumF l) (fl l.length) = some (meanF l) ∧ Bd (meanF l) (2 ^ 20) 63 := by
  have h := Bd.sum hl 0 0 0 (Bd.zero 63) (by omega)
  have h2 := h.weaken (d := 2 ^ 20) (k := 63) (Nat.mul_le_mul_right _ (by omega))
  exact h2.div h0 (by omega) (by decide) (by decide)
/-- So is a part of the spread. -/
theorem Bd.part {m n x : Nat} (hm : Bd m (2 ^ 20) 63) (hx : Bd x 1 63) (hn : 0 < n) (hn2 : n ≤ 2 ^ 20) :
    D.sub x m = some (subF x m) ∧ D.mul (subF x m) (subF x m) = some (mulF (subF x m) (subF x m)) ∧ D.div (mulF (subF x m) (subF x m)) (fl n) = some (partF m (fl n) x) ∧ Bd (partF m (fl n) x) 1 168 := by
  obtain ⟨e1, h1⟩ := hx.sub hm (by decide) (by decide)
  have h2 := h1.weaken (d := 1) (k := 84) (by decide)
  obtain ⟨e3, h3⟩ := h2.mul h2 (by decide) (by decide)
  obtain ⟨e4, h4⟩ := h3.div hn (by omega) (by decide) (by decide)
  exact ⟨e1, e3, e4, h4⟩
end Fl
end Go.Proofs.Ytkdnplebgmmclaa
