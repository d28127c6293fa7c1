/- The value that is written so: plain laws (no program walked). -/
import Derived.Test.YtlihkmldclocoaaDoorShow
import Derived.Lib.ParseIntB
namespace Go.Proofs.YtlihkmldclocoaaDoor
open Go.RowKit Go.Lib
set_option linter.unusedSimpArgs false
set_option linter.unusedVariables false

theorem wr_k (z : Int) : ∃ k : Int, wrap64 z = z + k * 18446744073709551616 := ⟨-((z + 9223372036854775808) / 18446744073709551616), by unfold wrap64; omega⟩
theorem wr_eq {a b : Int} (k : Int) (h : a = b + k * 18446744073709551616) : wrap64 a = wrap64 b := by unfold wrap64; omega
theorem wr_in {z : Int} (h : -9223372036854775808 ≤ z ∧ z ≤ 9223372036854775807) : wrap64 z = z := by unfold wrap64; omega

/-- The document's number, as it goes. -/
def numF : List UInt8 → Int → Int
  | [], n => n
  | c :: r, n => if c.toNat = 45 then numF r n else numF r (wrap64 (wrap64 (wrap64 (10 * n) + c.toNat) - 48))
def numL (l : List UInt8) : Int := if (l.getD 0 0).toNat = 45 then wrap64 (-(numF l 0)) else numF l 0
theorem numF_append : ∀ (l m : List UInt8) (n : Int), numF (l ++ m) n = numF m (numF l n)
  | [], _, _ => rfl
  | c :: r, m, n => by
    simp only [List.cons_append, numF]
    split <;> exact numF_append r m _
theorem dig_nat (d : Nat) (h : d < 10) : (UInt8.ofNat (48 + d)).toNat = 48 + d := by simp; omega
theorem numF_dec (u : Nat) : numF (decDigits u) 0 = wrap64 u := by
  induction u using Nat.strongRecOn with
  | _ u ih =>
    by_cases h : u < 10
    · rw [decDigits, dif_pos h]
      simp only [numF]
      rw [if_neg (by rw [dig_nat u h]; omega), dig_nat u h]
      unfold wrap64; omega
    · rw [decDigits, dif_neg h, numF_append, ih (u / 10) (by omega)]
      simp only [numF]
      rw [if_neg (by rw [dig_nat _ (by omega)]; omega), dig_nat _ (by omega)]
      obtain ⟨k, hk⟩ := wr_k ((u / 10 : Nat) : Int)
      rw [hk]
      unfold wrap64; omega
theorem dec_head (u : Nat) : ∃ d r, decDigits u = UInt8.ofNat (48 + d) :: r ∧ d < 10 := by
  induction u using Nat.strongRecOn with
  | _ u ih =>
    by_cases h : u < 10
    · exact ⟨u, [], by rw [decDigits, dif_pos h], h⟩
    · obtain ⟨d, r, e, hd⟩ := ih (u / 10) (by omega)
      exact ⟨d, r ++ [UInt8.ofNat (48 + u % 10)], by rw [decDigits, dif_neg h, e]; rfl, hd⟩
theorem numL_itoa (n : Int) (h : -9223372036854775808 ≤ n ∧ n ≤ 9223372036854775807) : numL (itoa n) = n := by
  unfold itoa
  by_cases hn : n < 0
  · rw [if_pos hn]
    have e : numF (45 :: decDigits n.natAbs) 0 = wrap64 (n.natAbs : Int) := by
      simp only [numF]
      rw [if_pos (show UInt8.toNat 45 = 45 from rfl), numF_dec]
    unfold numL
    rw [if_pos (show ((45 :: decDigits n.natAbs).getD 0 0).toNat = 45 from rfl), e]
    unfold wrap64; omega
  · rw [if_neg hn]
    obtain ⟨d, r, e, hd⟩ := dec_head n.toNat
    unfold numL
    rw [numF_dec, e, List.getD_cons_zero, if_neg (by rw [dig_nat d hd]; omega)]
    unfold wrap64; omega

/-! ### What stands between quotes -/
def halfN (c : Nat) : Int := if 48 ≤ c ∧ c ≤ 57 then c - 48 else if 97 ≤ c ∧ c ≤ 102 then c - 97 + 10 else -1
def unhex (a b : UInt8) : UInt8 := UInt8.ofNat ((16 * halfN a.toNat + halfN b.toNat) % 256).toNat
/-- The document's, from a place on, the last quote with it. -/
def unqS : List UInt8 → List UInt8
  | [] => []
  | [_] => []
  | c :: d :: r =>
    if c.toNat ≠ 92 then c :: unqS (d :: r)
    else match r with
      | a :: b :: r' => if d.toNat = 120 then unhex a b :: unqS r' else if d.toNat = 110 then 10 :: unqS (a :: b :: r') else d :: unqS (a :: b :: r')
      | r => if d.toNat = 110 then 10 :: unqS r else d :: unqS r
termination_by l => l.length
def hexv (c : UInt8) : Option Nat := if 48 ≤ c.toNat ∧ c.toNat ≤ 57 then some (c.toNat - 48) else if 97 ≤ c.toNat ∧ c.toNat ≤ 102 then some (c.toNat - 87) else if 65 ≤ c.toNat ∧ c.toNat ≤ 70 then some (c.toNat - 55) else none
/-- value.said, from a place on. -/
def saidS : List UInt8 → Option (List UInt8)
  | [] => some []
  | c :: r =>
    if c.toNat ≠ 92 then (saidS r).map (c :: ·)
    else match r with
      | [] => none
      | d :: r2 =>
        if d.toNat = 110 then (saidS r2).map (10 :: ·)
        else if d.toNat ≠ 120 then (saidS r2).map (d :: ·)
        else match r2 with
          | a :: b :: r3 => match hexv a, hexv b with
            | some x, some y => (saidS r3).map (UInt8.ofNat (16 * x + y) :: ·)
            | _, _ => none
          | _ => none
termination_by l => l.length
theorem hx_nat (n : Nat) (h : n < 16) : (hx n).toNat = if n < 10 then 48 + n else 87 + n := by
  unfold hx
  split <;> simp <;> omega
theorem half_hx (n : Nat) (h : n < 16) : halfN (hx n).toNat = n := by
  rw [hx_nat n h]
  unfold halfN
  split <;> (repeat' split) <;> omega
theorem hexv_hx (n : Nat) (h : n < 16) : hexv (hx n) = some n := by
  unfold hexv
  rw [hx_nat n h]
  by_cases h1 : n < 10
  · rw [if_pos h1, if_pos (by omega)]; congr 1; omega
  · rw [if_neg h1, if_neg (by omega), if_pos (by omega)]; congr 1; omega
theorem byte_split (c : UInt8) : UInt8.ofNat (16 * (c.toNat / 16) + c.toNat % 16) = c := by
  rw [show 16 * (c.toNat / 16) + c.toNat % 16 = c.toNat by omega]; simp
theorem unhex_hx (c : UInt8) : unhex (hx (c.toNat / 16)) (hx (c.toNat % 16)) = c := by
  have := c.toNat_lt
  unfold unhex
  rw [half_hx _ (by omega), half_hx _ (by omega), show ((16 * ((c.toNat / 16 : Nat) : Int) + ((c.toNat % 16 : Nat) : Int)) % 256).toNat = c.toNat by omega]
  simp
theorem esc_cases (c : UInt8) : (c = 10 ∧ esc c = [92, 110]) ∨ ((c.toNat = 34 ∨ c.toNat = 92) ∧ esc c = [92, c]) ∨ (c.toNat ≠ 92 ∧ esc c = [c]) ∨ esc c = [92, 120, hx (c.toNat / 16), hx (c.toNat % 16)] := by
  by_cases h1 : c.toNat = 10
  · exact .inl ⟨UInt8.toNat_inj.1 h1, by unfold esc; rw [if_pos h1]⟩
  · by_cases h2 : c.toNat = 34 ∨ c.toNat = 92
    · exact .inr (.inl ⟨h2, by unfold esc; rw [if_neg h1, if_pos h2]⟩)
    · by_cases h3 : 32 ≤ c.toNat ∧ c.toNat ≤ 126
      · exact .inr (.inr (.inl ⟨by omega, by unfold esc; rw [if_neg h1, if_neg h2, if_pos h3]⟩))
      · exact .inr (.inr (.inr (by unfold esc; rw [if_neg h1, if_neg h2, if_neg h3])))
theorem said_flat : ∀ u : List UInt8, saidS (u.flatMap esc) = some u
  | [] => by rw [List.flatMap_nil, saidS]
  | c :: r => by
    have ih := said_flat r
    have hc := c.toNat_lt
    rw [List.flatMap_cons]
    rcases esc_cases c with ⟨rfl, e⟩ | ⟨h, e⟩ | ⟨h, e⟩ | e
    · rw [e, show ([92, 110] : List UInt8) ++ r.flatMap esc = 92 :: 110 :: r.flatMap esc from rfl, saidS.eq_def]
      simp [ih]
    · rw [e, show ([92, c] : List UInt8) ++ r.flatMap esc = 92 :: c :: r.flatMap esc from rfl, saidS.eq_def]
      have h1 : ¬ c.toNat = 110 := by omega
      have h2 : ¬ c.toNat = 120 := by omega
      simp [ih, h1, h2]
    · rw [e, show ([c] : List UInt8) ++ r.flatMap esc = c :: r.flatMap esc from rfl, saidS.eq_def]
      simp [ih, h]
    · rw [e, show ([92, 120, hx (c.toNat / 16), hx (c.toNat % 16)] : List UInt8) ++ r.flatMap esc = 92 :: 120 :: hx (c.toNat / 16) :: hx (c.toNat % 16) :: r.flatMap esc from rfl, saidS.eq_def]
      simp [ih, hexv_hx _ (show c.toNat / 16 < 16 by omega), hexv_hx _ (show c.toNat % 16 < 16 by omega)]
      simpa using byte_split c
theorem unqS_plain (c d : UInt8) (r : List UInt8) (h : c.toNat ≠ 92) : unqS (c :: d :: r) = c :: unqS (d :: r) := by
  rw [unqS.eq_def]
  simp [h]
theorem unqS_two (d : UInt8) (r : List UInt8) (h : d.toNat ≠ 120) : unqS (92 :: d :: r) = (if d.toNat = 110 then 10 else d) :: unqS r := by
  rw [unqS.eq_def]
  cases r with
  | nil => simp; split <;> simp
  | cons a r =>
    cases r with
    | nil => simp; split <;> simp
    | cons b r => simp [h]; split <;> simp
theorem unqS_hex (a b : UInt8) (r : List UInt8) : unqS (92 :: 120 :: a :: b :: r) = unhex a b :: unqS r := by
  rw [unqS.eq_def]
  simp
theorem unq_flat : ∀ u : List UInt8, unqS (u.flatMap esc ++ [34]) = u
  | [] => by rw [List.flatMap_nil, List.nil_append, unqS]
  | c :: r => by
    have ih := unq_flat r
    have hc := c.toNat_lt
    obtain ⟨x, y, e⟩ : ∃ x y, r.flatMap esc ++ [34] = x :: y := by
      cases h : r.flatMap esc with
      | nil => exact ⟨34, [], rfl⟩
      | cons a b => exact ⟨a, b ++ [34], rfl⟩
    rw [List.flatMap_cons, List.append_assoc]
    rcases esc_cases c with ⟨rfl, e'⟩ | ⟨h, e'⟩ | ⟨h, e'⟩ | e'
    · rw [e', show ([92, 110] : List UInt8) ++ (r.flatMap esc ++ [34]) = 92 :: 110 :: (r.flatMap esc ++ [34]) from rfl, unqS_two _ _ (by decide), ih]
      simp
    · rw [e', show ([92, c] : List UInt8) ++ (r.flatMap esc ++ [34]) = 92 :: c :: (r.flatMap esc ++ [34]) from rfl, unqS_two _ _ (by omega), ih, if_neg (by omega)]
    · rw [e', e, show ([c] : List UInt8) ++ x :: y = c :: x :: y from rfl, unqS_plain _ _ _ h, ← e, ih]
    · rw [e', show ([92, 120, hx (c.toNat / 16), hx (c.toNat % 16)] : List UInt8) ++ (r.flatMap esc ++ [34]) = 92 :: 120 :: hx (c.toNat / 16) :: hx (c.toNat % 16) :: (r.flatMap esc ++ [34]) from rfl, unqS_hex, unhex_hx, ih]

/-! ### Both readings -/
def unqL (s : ByteArray) : ByteArray := ⟨(unqS (s.data.toList.drop 1)).toArray⟩
/-- Is it between quotes? -/
def inQ (l : List UInt8) : Bool := decide (2 ≤ l.length) && (l.getD 0 0).toNat == 34 && (l.getD (l.length - 1) 0).toNat == 34
def readR (s : ByteArray) : V × Int :=
  if showV (numV (numL s.data.toList)) = (s, 0) then (numV (numL s.data.toList), 0)
  else if showV (txtV s) = (s, 0) then (txtV s, 0)
  else if showV (txtV (unqL s)) = (s, 0) then (txtV (unqL s), 0)
  else (noV, 10)
/-- What value.Read asks Show of; none: it gives up. -/
def readQ (s : ByteArray) : Option V := if inQ s.data.toList = true then (saidS ((s.data.toList.drop 1).take (s.size - 2))).map fun t => txtV ⟨t.toArray⟩ else some (txtV s)
def readC (s : ByteArray) : Option V :=
  match parseIntB 64 s.data.toList with
  | .ok n => some (numV n)
  | _ => readQ s
def readS (s : ByteArray) : Option V → V × Int
  | none => (noV, 10)
  | some v => if showV v = (s, 0) then (v, 0) else (noV, 10)
def readP (s : ByteArray) : V × Int := readS s (readC s)
end Go.Proofs.YtlihkmldclocoaaDoor
