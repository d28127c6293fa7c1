/- value.Read answers what the document's Read answers: plain law. -/
import Derived.Test.YtlihkmldclocoaaDoorRead0
import Derived.Lib.ParseIntBTie
namespace Go.Proofs.YtlihkmldclocoaaDoor
open Go.RowKit Go.Lib
set_option linter.unusedSimpArgs false
set_option linter.unusedVariables false

theorem show_num (n : Int) : showV (numV n) = (⟨(itoa n).toArray⟩, 0) := by
  unfold showV
  rw [if_neg (by simp [numV, chk, ByteArray.toList_eq]), if_pos (show (numV n).k = 1 from rfl)]
  rfl
theorem show_txt (t s : ByteArray) (h : showV (txtV t) = (s, 0)) : t.size ≤ 200 ∧ ((nameV t = true ∧ s = t) ∨ (nameV t = false ∧ s = ⟨(quoteL t.data.toList).toArray⟩)) := by
  unfold showV at h
  by_cases h1 : t.size ≤ 200
  · rw [if_neg (by simp [txtV, chk, h1]), if_neg (show ¬ (txtV t).k = 1 by simp [txtV])] at h
    by_cases h2 : nameV t = true
    · rw [if_pos (show nameV (txtV t).s = true from h2)] at h
      exact ⟨h1, .inl ⟨h2, (congrArg Prod.fst h).symm⟩⟩
    · rw [if_neg (show ¬ nameV (txtV t).s = true from h2)] at h
      exact ⟨h1, .inr ⟨by simpa using h2, (congrArg Prod.fst h).symm⟩⟩
  · rw [if_pos (by simp [txtV, chk, h1])] at h
    have := congrArg Prod.snd h
    simp at this
theorem parseM_append (M : Nat) : ∀ (l m : List UInt8) (acc a : Nat), parseUintM M acc l = .ok a → parseUintM M acc (l ++ m) = parseUintM M a m
  | [], m, acc, a, h => by simp only [parseUintM] at h; injection h with h; subst h; rfl
  | c :: r, m, acc, a, h => by
    simp only [List.cons_append, parseUintM] at h ⊢
    by_cases h1 : 48 ≤ c.toNat ∧ c.toNat ≤ 57
    · rw [if_pos h1] at h ⊢
      by_cases h2 : 1844674407370955162 ≤ acc
      · rw [if_pos h2] at h; cases h
      · rw [if_neg h2] at h ⊢
        by_cases h3 : M < acc * 10 + (c.toNat - 48)
        · rw [if_pos h3] at h; cases h
        · rw [if_neg h3] at h ⊢
          exact parseM_append M r m _ a h
    · rw [if_neg h1] at h; cases h
theorem parseM_dec (M u : Nat) (hM : M ≤ 18446744073709551615) (h : u ≤ M) : parseUintM M 0 (decDigits u) = .ok u := by
  induction u using Nat.strongRecOn with
  | _ u ih =>
    by_cases h1 : u < 10
    · rw [decDigits, dif_pos h1]
      simp only [parseUintM]
      rw [dig_nat u h1, if_pos (by omega), if_neg (by omega), if_neg (by omega)]
      simp
    · rw [decDigits, dif_neg h1, parseM_append M _ _ 0 (u / 10) (ih (u / 10) (by omega) (by omega))]
      simp only [parseUintM]
      rw [dig_nat _ (by omega), if_pos (by omega), if_neg (by omega), if_neg (by omega)]
      congr 1; omega
theorem parse_itoa (n : Int) (h : -9223372036854775808 ≤ n ∧ n ≤ 9223372036854775807) : parseIntB 64 (itoa n) = .ok n := by
  have ne : ∀ u, decDigits u ≠ [] := fun u e => by obtain ⟨d, r, e', _⟩ := dec_head u; rw [e'] at e; cases e
  have hp : ∀ u, u ≤ 9223372036854775808 → parseUintB 64 (decDigits u) = .ok u := fun u hu => by
    unfold parseUintB
    rw [if_neg (ne u)]
    exact parseM_dec _ u (by decide) (by simp; omega)
  unfold itoa
  by_cases hn : n < 0
  · rw [if_pos hn]
    simp only [parseIntB]
    rw [if_pos (show UInt8.toNat 45 = 43 ∨ UInt8.toNat 45 = 45 from .inr rfl), hp _ (by omega)]
    simp only
    rw [if_neg (by simp), if_neg (by simp; omega), if_pos (by rfl)]
    congr 1; omega
  · rw [if_neg hn]
    obtain ⟨d, r, e, hd⟩ := dec_head n.toNat
    have h2 := hp n.toNat (by omega)
    rw [e] at h2 ⊢
    simp only [parseIntB]
    rw [if_neg (by rw [dig_nat d hd]; omega), h2]
    simp only
    rw [if_neg (by simp; omega), if_neg (by rw [dig_nat d hd]; omega), if_neg (by rw [dig_nat d hd]; omega)]
    congr 1; omega
theorem parse_head (l : List UInt8) (n : Int) (h : parseIntB 64 l = .ok n) : ∃ c r, l = c :: r ∧ (c.toNat = 43 ∨ c.toNat = 45 ∨ (48 ≤ c.toNat ∧ c.toNat ≤ 57)) := by
  match l, h with
  | [], h => simp [parseIntB] at h
  | c :: r, h =>
    refine ⟨c, r, rfl, ?_⟩
    by_cases h1 : c.toNat = 43 ∨ c.toNat = 45
    · rcases h1 with h1 | h1
      · exact .inl h1
      · exact .inr (.inl h1)
    · refine .inr (.inr ?_)
      simp only [parseIntB] at h
      rw [if_neg h1] at h
      unfold parseUintB at h
      rw [if_neg (by simp)] at h
      simp only [parseUintM] at h
      by_cases h2 : 48 ≤ c.toNat ∧ c.toNat ≤ 57
      · exact h2
      · rw [if_neg h2] at h; cases h
theorem list_of (s : ByteArray) (l : List UInt8) : s = ⟨l.toArray⟩ ↔ s.data.toList = l := by
  constructor
  · intro h; subst h; simp
  · intro h; apply WideShapes.bytes_inj; rw [h]
theorem name_first {s : ByteArray} (h : nameV s = true) : ∃ c r, s.data.toList = c :: r ∧ 97 ≤ c.toNat ∧ c.toNat ≤ 122 := by
  simp [nameV] at h
  have h0 : 0 < s.size := h.1.1.1.1
  rw [show s.data[0]?.getD 0 = s[0] from head_at s h0] at h
  cases hl : s.data.toList with
  | nil => rw [Lib.size_eq, hl] at h0; simp at h0
  | cons c r =>
    refine ⟨c, r, rfl, ?_⟩
    have e : s[0] = c := by
      have h' : 0 < s.data.size := h0
      have : s.data.toList[0]? = some s[0] := by rw [Array.getElem?_toList, Array.getElem?_eq_getElem h']; rfl
      rw [hl] at this
      simpa using this.symm
    rw [e] at h
    exact h.1.1.2
theorem quote_len (t : List UInt8) : t.length + 2 ≤ (quoteL t).length := by
  have : ∀ l : List UInt8, l.length ≤ (l.flatMap esc).length := fun l => by
    induction l with
    | nil => simp
    | cons c r ih =>
      rw [List.flatMap_cons, List.length_append, List.length_cons]
      have : 1 ≤ (esc c).length := by rcases esc_cases c with ⟨rfl, e⟩ | ⟨_, e⟩ | ⟨_, e⟩ | e <;> rw [e] <;> simp
      omega
  have := this t
  simp only [quoteL, List.length_cons, List.length_append, List.length_nil]; omega
theorem quote_inQ (t : List UInt8) : inQ (quoteL t) = true := by
  have h := quote_len t
  have e : (quoteL t).getD ((quoteL t).length - 1) 0 = 34 := by
    have : (quoteL t).length - 1 = (34 :: t.flatMap esc).length := by simp [quoteL]
    rw [this, show quoteL t = (34 :: t.flatMap esc) ++ [34] by simp [quoteL]]
    simp [List.getD]
  unfold inQ
  rw [e]
  simp [quoteL]
theorem quote_inner (t : List UInt8) : ((quoteL t).drop 1).take ((quoteL t).length - 2) = t.flatMap esc := by
  simp [quoteL]
theorem quote_drop (t : List UInt8) : (quoteL t).drop 1 = t.flatMap esc ++ [34] := by simp [quoteL]
theorem read_eq (s : ByteArray) (hn : -9223372036854775808 ≤ numL s.data.toList ∧ numL s.data.toList ≤ 9223372036854775807) : readP s = readR s := by
  have hsz : s.size = s.data.toList.length := Lib.size_eq s
  by_cases hA : ∃ m : Int, (-9223372036854775808 ≤ m ∧ m ≤ 9223372036854775807) ∧ s.data.toList = itoa m
  · obtain ⟨m, hm, e⟩ := hA
    have es : s = ⟨(itoa m).toArray⟩ := (list_of s _).2 e
    have h1 : showV (numV m) = (s, 0) := by rw [show_num, es]
    unfold readP readR readC
    rw [e, parse_itoa m hm, numL_itoa m hm]
    simp only [h1, if_true, readS]
  · have hno : ∀ m : Int, (-9223372036854775808 ≤ m ∧ m ≤ 9223372036854775807) → showV (numV m) ≠ (s, 0) := fun m hm h => by
      rw [show_num] at h
      exact hA ⟨m, hm, (list_of s _).1 (congrArg Prod.fst h).symm⟩
    have hR : readR s = if showV (txtV s) = (s, 0) then (txtV s, 0) else if showV (txtV (unqL s)) = (s, 0) then (txtV (unqL s), 0) else (noV, 10) := by
      unfold readR
      rw [if_neg (hno _ hn)]
    -- what a text that is shown as s can be
    have key : ∀ t, showV (txtV t) = (s, 0) → (nameV s = true ∧ t = s) ∨ (s.data.toList = quoteL t.data.toList) := fun t h => by
      obtain ⟨_, h | h⟩ := show_txt t s h
      · exact .inl ⟨h.2 ▸ h.1, h.2.symm⟩
      · exact .inr ((list_of s _).1 h.2)
    have self : s.data.toList ≠ quoteL s.data.toList := fun h => by
      have := quote_len s.data.toList
      rw [← h] at this; omega
    have unq : ∀ t, s.data.toList = quoteL t.data.toList → unqL s = t := fun t h => by
      unfold unqL
      rw [h, quote_drop, unq_flat]
    rw [hR]
    unfold readP readC
    cases hp : parseIntB 64 s.data.toList with
    | ok n =>
      simp only [readS]
      obtain ⟨c, r, ec, hc⟩ := parse_head _ _ hp
      have hb := parseIntB_bounds hp
      rw [if_neg (hno n (by simp at hb; omega))]
      have none : ∀ t, showV (txtV t) ≠ (s, 0) := fun t h => by
        rcases key t h with ⟨h, _⟩ | h
        · obtain ⟨c', r', e', h1, h2⟩ := name_first h
          rw [ec] at e'; injection e' with e1; subst e1; omega
        · rw [ec] at h
          simp only [quoteL] at h
          injection h with e1; subst e1; simp at hc
      rw [if_neg (none _), if_neg (none _)]
    | «syntax» => exact rest s key self unq
    | range => exact rest s key self unq
where
  rest (s : ByteArray) (key : ∀ t : ByteArray, showV (txtV t) = (s, 0) → (nameV s = true ∧ t = s) ∨ (s.data.toList = quoteL t.data.toList)) (self : s.data.toList ≠ quoteL s.data.toList)
      (unq : ∀ t : ByteArray, s.data.toList = quoteL t.data.toList → unqL s = t) :
      readS s (readQ s) =
      if showV (txtV s) = (s, 0) then (txtV s, 0) else if showV (txtV (unqL s)) = (s, 0) then (txtV (unqL s), 0) else (noV, 10) := by
    have hsz : s.size = s.data.toList.length := Lib.size_eq s
    unfold readQ
    have said : ∀ t : ByteArray, s.data.toList = quoteL t.data.toList → saidS ((s.data.toList.drop 1).take (s.size - 2)) = some t.data.toList := fun t h => by
      rw [hsz, h, quote_inner, said_flat]
    by_cases hq : inQ s.data.toList = true
    · rw [if_pos hq]
      have notname : nameV s = false := by
        cases hn : nameV s with
        | false => rfl
        | true =>
          obtain ⟨c, r, e, h1, h2⟩ := name_first hn
          rw [e] at hq
          simp [inQ] at hq
          omega
      have no1 : showV (txtV s) ≠ (s, 0) := fun h => by
        rcases key s h with ⟨h, _⟩ | h
        · rw [notname] at h; cases h
        · exact self h
      rw [if_neg no1]
      have hu : ∀ t, showV (txtV t) = (s, 0) → s.data.toList = quoteL t.data.toList := fun t h => by
        rcases key t h with ⟨h, _⟩ | h
        · rw [notname] at h; cases h
        · exact h
      cases hs : saidS ((s.data.toList.drop 1).take (s.size - 2)) with
      | none =>
        simp only [Option.map_none, readS]
        rw [if_neg fun h => by rw [said _ (hu _ h)] at hs; cases hs]
      | some t =>
        simp only [Option.map_some, readS]
        by_cases ht : showV (txtV ⟨t.toArray⟩) = (s, 0)
        · have := unq _ (hu _ ht)
          rw [if_pos ht, this, if_pos ht]
        · rw [if_neg ht, if_neg fun h => ?_]
          have := said _ (hu _ h)
          rw [hs] at this
          have e : t = (unqL s).data.toList := Option.some.inj this
          apply ht
          rw [show (⟨t.toArray⟩ : ByteArray) = unqL s from ((list_of _ _).2 e.symm).symm]
          exact h
    · rw [if_neg hq]
      simp only [readS]
      by_cases h1 : showV (txtV s) = (s, 0)
      · rw [if_pos h1, if_pos h1]
      · rw [if_neg h1, if_neg h1, if_neg fun h => ?_]
        rcases key _ h with ⟨_, h2⟩ | h2
        · rw [h2] at h; exact h1 h
        · rw [h2] at hq; exact hq (quote_inQ _)
end Go.Proofs.YtlihkmldclocoaaDoor
