/- Read undoes Show, and Show Read: plain laws (no program walked). -/
import Derived.Test.YtlihkmldclocoaaDoorRead1
namespace Go.Proofs.YtlihkmldclocoaaDoor
open Go.RowKit Go.Lib
set_option linter.unusedSimpArgs false
set_option linter.unusedVariables false

theorem dec_pr (u : Nat) : ∀ b ∈ decDigits u, 32 ≤ b.toNat ∧ b.toNat ≤ 126 := by
  induction u using Nat.strongRecOn with
  | _ u ih =>
    intro b hb
    by_cases h : u < 10
    · rw [decDigits, dif_pos h] at hb
      simp only [List.mem_singleton] at hb
      subst hb
      rw [dig_nat u h]; omega
    · rw [decDigits, dif_neg h, List.mem_append] at hb
      rcases hb with hb | hb
      · exact ih (u / 10) (by omega) b hb
      · simp only [List.mem_singleton] at hb
        subst hb
        rw [dig_nat _ (by omega)]; omega
theorem dec_len : ∀ (k u : Nat), u < 10 ^ k → (decDigits u).length ≤ k + 1
  | 0, u, h => by rw [decDigits, dif_pos (by simp at h; omega)]; simp
  | k + 1, u, h => by
    by_cases h1 : u < 10
    · rw [decDigits, dif_pos h1]; simp
    · rw [decDigits, dif_neg h1]
      have := dec_len k (u / 10) (by rw [Nat.pow_succ] at h; omega)
      simp; omega
theorem itoa_pr (n : Int) : ∀ b ∈ itoa n, 32 ≤ b.toNat ∧ b.toNat ≤ 126 := by
  unfold itoa
  split
  · intro b hb
    rw [List.mem_cons] at hb
    rcases hb with rfl | hb
    · simp
    · exact dec_pr _ b hb
  · exact dec_pr _
theorem itoa_len (n : Int) (h : -9223372036854775808 ≤ n ∧ n ≤ 9223372036854775807) : (itoa n).length ≤ 30 := by
  unfold itoa
  split
  · have := dec_len 20 n.natAbs (by omega)
    simp; omega
  · have := dec_len 20 n.toNat (by omega)
    omega
theorem itoa_head (n : Int) : ∃ c r, itoa n = c :: r ∧ c.toNat ≤ 57 ∧ c.toNat ≠ 34 := by
  unfold itoa
  split
  · exact ⟨45, _, rfl, by simp, by simp⟩
  · obtain ⟨d, r, e, hd⟩ := dec_head n.toNat
    exact ⟨_, _, e, by rw [dig_nat d hd]; omega, by rw [dig_nat d hd]; omega⟩
theorem hx_pr (n : Nat) (h : n < 16) : 32 ≤ (hx n).toNat ∧ (hx n).toNat ≤ 126 := by
  rw [hx_nat n h]; split <;> omega
theorem esc_pr (c : UInt8) : ∀ b ∈ esc c, 32 ≤ b.toNat ∧ b.toNat ≤ 126 := by
  have hc := c.toNat_lt
  unfold esc
  by_cases h1 : c.toNat = 10
  · rw [if_pos h1]; intro b hb; simp at hb; rcases hb with rfl | rfl <;> simp
  · rw [if_neg h1]
    by_cases h2 : c.toNat = 34 ∨ c.toNat = 92
    · rw [if_pos h2]; intro b hb; simp at hb
      rcases hb with rfl | rfl
      · simp
      · omega
    · rw [if_neg h2]
      by_cases h3 : 32 ≤ c.toNat ∧ c.toNat ≤ 126
      · rw [if_pos h3]; intro b hb; simp at hb; subst hb; exact h3
      · rw [if_neg h3]; intro b hb
        simp only [List.mem_cons, List.not_mem_nil, or_false] at hb
        rcases hb with rfl | rfl | rfl | rfl
        · simp
        · simp
        · exact hx_pr _ (by omega)
        · exact hx_pr _ (by omega)
theorem quote_pr (t : List UInt8) : ∀ b ∈ quoteL t, 32 ≤ b.toNat ∧ b.toNat ≤ 126 := by
  intro b hb
  unfold quoteL at hb
  simp only [List.mem_cons, List.mem_append, List.mem_flatMap, List.not_mem_nil, or_false] at hb
  rcases hb with rfl | ⟨c, _, hb⟩ | rfl
  · simp
  · exact esc_pr c b hb
  · simp
theorem name_pr {s : ByteArray} (h : nameV s = true) : ∀ b ∈ s.data.toList, 32 ≤ b.toNat ∧ b.toNat ≤ 126 := by
  have h2 : s.data.toList.all (fun b => letterN b.toNat) = true := by
    unfold nameV at h
    simp only [Bool.and_eq_true] at h
    exact h.1.2
  intro b hb
  have := List.all_eq_true.1 h2 b hb
  simp [letterN] at this
  omega

theorem chk_cases (x : V) (h : chk x.k x.n x.s = 0) : x = numV x.n ∨ (x = txtV x.s ∧ x.s.size ≤ 200) := by
  obtain ⟨k, n, s⟩ := x
  unfold chk at h
  by_cases c1 : (k == 1) = true ∧ s.toList.isEmpty = true
  · left
    have hk : k = 1 := by simpa using c1.1
    have hs : s = ⟨#[]⟩ := by
      rw [list_of s []]
      have := c1.2
      rw [List.isEmpty_iff, ByteArray.toList_eq] at this
      exact this
    subst hk hs; rfl
  · rw [if_neg c1] at h
    by_cases c2 : (k == 2) = true ∧ n = 0 ∧ s.size ≤ 200
    · right
      have hk : k = 2 := by simpa using c2.1
      have hn := c2.2.1
      subst hk hn
      exact ⟨rfl, c2.2.2⟩
    · rw [if_neg c2] at h; cases h
theorem show_chk (x : V) (t : ByteArray) (h : showV x = (t, 0)) : chk x.k x.n x.s = 0 := by
  unfold showV at h
  by_cases c : chk x.k x.n x.s ≠ 0
  · rw [if_pos c] at h
    have := congrArg Prod.snd h
    simp at this
  · simpa using c
theorem show_err (x : V) (h : chk x.k x.n x.s ≠ 0) : showV x = (⟨#[]⟩, 10) := by
  unfold showV; rw [if_pos h]
theorem chk_ten (k n : Int) (s : ByteArray) (h : chk k n s ≠ 0) : chk k n s = 10 := by
  unfold chk at h ⊢
  (repeat' split) <;> simp_all

theorem show_ok (x : V) (hx : x.ok) (h : chk x.k x.n x.s = 0) : ∃ t : ByteArray, showV x = (t, 0) ∧ readR t = (x, 0) ∧ 0 < t.size ∧ t.size ≤ 1000 ∧ ∀ b ∈ t.data.toList, 32 ≤ b.toNat ∧ b.toNat ≤ 126 := by
  have hn : -9223372036854775808 ≤ x.n ∧ x.n ≤ 9223372036854775807 := by simpa [Lit.wf, IntKind.min, IntKind.max, IntKind.signed, IntKind.bits] using hx.2.1
  rcases chk_cases x h with e | ⟨e, hs⟩
  · rw [e]
    generalize x.n = n at hn
    refine ⟨_, show_num n, ?_, ?_, ?_, ?_⟩
    · unfold readR
      simp only [List.toList_toArray, numL_itoa n hn]
      rw [if_pos (show_num n)]
    · rw [Lib.size_eq]
      obtain ⟨c, r, e, _⟩ := itoa_head n
      simp [e]
    · rw [Lib.size_eq]
      have := itoa_len n hn
      simp only [List.toList_toArray]; omega
    · simp only [List.toList_toArray]
      exact itoa_pr n
  · rw [e]
    generalize x.s = s at hs
    have hnum : ∀ (m : Int) (t : ByteArray) (c : UInt8) (r : List UInt8), t.data.toList = c :: r → (57 < c.toNat ∨ c.toNat = 34) → showV (numV m) ≠ (t, 0) := fun m t c r e' hc h => by
      rw [show_num] at h
      have h1 := (list_of t _).1 (congrArg Prod.fst h).symm
      obtain ⟨c', r', e2, h3, h4⟩ := itoa_head m
      rw [e', e2] at h1
      injection h1 with h1 h2
      subst h1; omega
    cases hname : nameV s with
    | true =>
      have hsh : showV (txtV s) = (s, 0) := by
        unfold showV
        rw [if_neg (by simp [txtV, chk, hs]), if_neg (show ¬ (txtV s).k = 1 by simp [txtV]), if_pos (show nameV (txtV s).s = true from hname)]
        rfl
      obtain ⟨c, r, ec, h1, h2⟩ := name_first hname
      refine ⟨s, hsh, ?_, ?_, by omega, name_pr hname⟩
      · unfold readR
        rw [if_neg (hnum _ s c r ec (.inl (by omega))), if_pos hsh]
      · rw [Lib.size_eq, ec]; simp
    | false =>
      obtain ⟨t, ht⟩ : ∃ t : ByteArray, (⟨(quoteL s.data.toList).toArray⟩ : ByteArray) = t := ⟨_, rfl⟩
      have hl : t.data.toList = quoteL s.data.toList := (list_of t _).1 ht.symm
      have hsh : showV (txtV s) = (t, 0) := by
        unfold showV
        rw [if_neg (by simp [txtV, chk, hs]), if_neg (show ¬ (txtV s).k = 1 by simp [txtV]), if_neg (show ¬ nameV (txtV s).s = true by rw [show (txtV s).s = s from rfl, hname]; decide)]
        exact congrArg (·, 0) ht
      have hsz : t.size ≤ 1000 ∧ 0 < t.size := by
        rw [Lib.size_eq, hl]
        have := flat_len s.data.toList
        rw [Lib.size_eq] at hs
        simp only [quoteL, List.length_cons, List.length_append, List.length_nil]; omega
      refine ⟨t, hsh, ?_, hsz.2, hsz.1, hl ▸ quote_pr _⟩
      have h1 : showV (numV (numL t.data.toList)) ≠ (t, 0) := hnum _ t 34 _ (by rw [hl]; rfl) (.inr rfl)
      have h2 : showV (txtV t) ≠ (t, 0) := fun h => by
        obtain ⟨_, h | h⟩ := show_txt t t h
        · obtain ⟨c, r, ec, h1, h2⟩ := name_first h.1
          rw [hl] at ec
          injection ec with e1
          subst e1; simp at h1
        · have := (list_of t _).1 h.2
          have h3 := quote_len t.data.toList
          rw [← this] at h3; omega
      have h3 : unqL t = s := by
        unfold unqL
        rw [hl, quote_drop, unq_flat]
      unfold readR
      rw [if_neg h1, if_neg h2, h3, if_pos hsh]
theorem read_cases (s : ByteArray) : (∃ y, readR s = (y, 0) ∧ showV y = (s, 0) ∧ chk y.k y.n y.s = 0) ∨ readR s = (noV, 10) := by
  unfold readR
  split
  · rename_i h; exact .inl ⟨_, rfl, h, show_chk _ _ h⟩
  · split
    · rename_i h; exact .inl ⟨_, rfl, h, show_chk _ _ h⟩
    · split
      · rename_i h; exact .inl ⟨_, rfl, h, show_chk _ _ h⟩
      · exact .inr rfl
end Go.Proofs.YtlihkmldclocoaaDoor
