/- Characters of a text: plain laws (no program in sight). wd: how many bytes the first character has; okc: are these bytes one code point's; chars: the characters. -/
import Derived.Lib.RuneCountTail
import Derived.Laws.RangeAny
namespace Go.Proofs.YtlihkmldclocoaaDoor
open Go.Lib
set_option linter.unusedSimpArgs false
set_option linter.unusedVariables false

def ct (b : UInt8) : Bool := decide (128 ≤ b.toNat ∧ b.toNat < 192)
def okc : List UInt8 → Bool
  | [a] => decide (a.toNat < 128)
  | [a, b] => decide (194 ≤ a.toNat ∧ a.toNat < 224) && ct b
  | [a, b, c] => decide (224 ≤ a.toNat ∧ a.toNat < 240) && ct b && ct c && decide (2048 ≤ a.toNat % 16 * 4096 + b.toNat % 64 * 64 + c.toNat % 64 ∧ (a.toNat % 16 * 4096 + b.toNat % 64 * 64 + c.toNat % 64 < 55296 ∨ 57344 ≤ a.toNat % 16 * 4096 + b.toNat % 64 * 64 + c.toNat % 64))
  | [a, b, c, d] => decide (240 ≤ a.toNat ∧ a.toNat < 248) && ct b && ct c && ct d && decide (65536 ≤ a.toNat % 8 * 262144 + b.toNat % 64 * 4096 + c.toNat % 64 * 64 + d.toNat % 64 ∧ a.toNat % 8 * 262144 + b.toNat % 64 * 4096 + c.toNat % 64 * 64 + d.toNat % 64 ≤ 1114111)
  | _ => false
def wd : List UInt8 → Nat
  | [] => 1
  | [_] => 1
  | [a, b] => if okc [a, b] then 2 else 1
  | [a, b, c] => if okc [a, b] then 2 else if okc [a, b, c] then 3 else 1
  | a :: b :: c :: d :: _ => if okc [a, b] then 2 else if okc [a, b, c] then 3 else if okc [a, b, c, d] then 4 else 1

set_option maxRecDepth 100000 in
set_option maxHeartbeats 4000000 in
theorem wd_decodeN : ∀ l : List UInt8, l ≠ [] → (decodeN l.length (l.getD 0 0).toNat (l.getD 1 0).toNat (l.getD 2 0).toNat (l.getD 3 0).toNat).2 = wd l
  | [], h => absurd rfl h
  | [a], _ => by
    simp only [decodeN, wd, List.length_cons, List.length_nil]
    repeat' split
    all_goals first | rfl | omega
  | [a, b], _ => by
    have ha := a.toNat_lt; have hb := b.toNat_lt
    simp [decodeN, wd, okc, ct]
    repeat' split
    all_goals first | rfl | omega | (exfalso; omega)
  | [a, b, c], _ => by
    have ha := a.toNat_lt; have hb := b.toNat_lt; have hc := c.toNat_lt
    simp [decodeN, wd, okc, ct]
    repeat' split
    all_goals first | rfl | omega | (exfalso; omega)
  | a :: b :: c :: d :: r, _ => by
    have ha := a.toNat_lt; have hb := b.toNat_lt; have hc := c.toNat_lt; have hd := d.toNat_lt
    have h1 : 1 < (a :: b :: c :: d :: r).length := by simp
    have h2 : 2 < (a :: b :: c :: d :: r).length := by simp
    have h3 : 3 < (a :: b :: c :: d :: r).length := by simp
    generalize (a :: b :: c :: d :: r).length = n at h1 h2 h3 ⊢
    simp [decodeN, wd, okc, ct]
    repeat' split
    all_goals first | rfl | omega | (exfalso; omega)
theorem getD_data (s : ByteArray) (i j : Nat) : s.get! (i + j) = (s.data.toList.drop i).getD j 0 := by
  rw [← getD_get!']
  simp [List.getD, List.getElem?_drop]
/-- The model's decoder. -/
theorem decode_wd (s : ByteArray) (i : Nat) (h : i < s.size) : (Utf8.decode s i).2 = wd (s.data.toList.drop i) := by
  have hl : (s.data.toList.drop i).length = s.size - i := by rw [List.length_drop, ← Lib.size_eq]
  have hne : s.data.toList.drop i ≠ [] := fun e => by rw [e] at hl; simp at hl; omega
  have := wd_decodeN _ hne
  rw [hl] at this
  rw [Lib.decode_at, show s.get! i = s.get! (i + 0) from rfl, getD_data, getD_data, getD_data, getD_data]
  exact this

theorem wd_pos (l : List UInt8) : 1 ≤ wd l := by
  unfold wd
  repeat' split
  all_goals omega
theorem wd_le4 (l : List UInt8) : wd l ≤ 4 := by
  unfold wd
  repeat' split
  all_goals omega
theorem wd_le : ∀ (l : List UInt8), l ≠ [] → wd l ≤ l.length
  | [], h => absurd rfl h
  | [a], _ => by simp [wd]
  | [a, b], _ => by simp only [wd, List.length_cons, List.length_nil]; (repeat' split) <;> omega
  | [a, b, c], _ => by simp only [wd, List.length_cons, List.length_nil]; (repeat' split) <;> omega
  | a :: b :: c :: d :: r, _ => by simp only [wd, List.length_cons]; (repeat' split) <;> omega
/-- A code point's bytes at the head are the first character. -/
theorem wd_ok : ∀ (c l : List UInt8), okc c = true → wd (c ++ l) = c.length
  | [], l, h => by simp [okc] at h
  | [a], l, h => by
    have ha : a.toNat < 128 := by simpa [okc] using h
    have h2 : ∀ b, okc [a, b] = false := fun b => by simp [okc]; omega
    have h3 : ∀ b c, okc [a, b, c] = false := fun b c => by simp [okc]; omega
    have h4 : ∀ b c d, okc [a, b, c, d] = false := fun b c d => by simp [okc]; omega
    match l with
    | [] => rfl
    | [b] => simp [wd, h2]
    | [b, c] => simp [wd, h2, h3]
    | b :: c :: d :: r => simp [wd, h2, h3, h4]
  | [a, b], l, h => by
    match l with
    | [] => simp [wd, h]
    | [c] => simp [wd, h]
    | c :: d :: r => simp [wd, h]
  | [a, b, c], l, h => by
    have ha : 224 ≤ a.toNat := by simp [okc] at h; omega
    have h2 : okc [a, b] = false := by simp [okc]; omega
    match l with
    | [] => simp [wd, h, h2]
    | d :: r => simp [wd, h, h2]
  | [a, b, c, d], l, h => by
    have ha : 240 ≤ a.toNat := by simp [okc] at h; omega
    have h2 : okc [a, b] = false := by simp [okc]; omega
    have h3 : okc [a, b, c] = false := by simp [okc]; omega
    simp [wd, h, h2, h3]
  | a :: b :: c :: d :: e :: r, l, h => by simp [okc] at h
theorem okc_len : ∀ (c : List UInt8), okc c = true → 1 ≤ c.length ∧ c.length ≤ 4
  | [], h => by simp [okc] at h
  | [_], _ => by simp
  | [_, _], _ => by simp
  | [_, _, _], _ => by simp
  | [_, _, _, _], _ => by simp
  | _ :: _ :: _ :: _ :: _ :: _, h => by simp [okc] at h
/-- A character of more than one byte is a code point's. -/
theorem wd_big : ∀ (l : List UInt8), wd l ≠ 1 → okc (l.take (wd l)) = true
  | [], h => by simp [wd] at h
  | [a], h => by simp [wd] at h
  | [a, b], h => by
    simp only [wd] at h ⊢
    split
    · simpa
    · rename_i hh; simp [hh] at h
  | [a, b, c], h => by
    simp only [wd] at h ⊢
    split
    · simpa
    · rename_i hh
      split
      · simpa
      · rename_i hh'; simp [hh, hh'] at h
  | a :: b :: c :: d :: r, h => by
    simp only [wd] at h ⊢
    split
    · simpa
    · rename_i hh
      split
      · simpa
      · rename_i hh'
        split
        · simpa
        · rename_i hh''; simp [hh, hh', hh''] at h
/-- A byte behind the first of a character begins none. -/
theorem okc_cont : ∀ (c : List UInt8) (i : Nat) (b : UInt8), okc c = true → c[i]? = some b → 0 < i → ct b = true
  | [], i, b, h, _, _ => by simp [okc] at h
  | [a], i, b, h, hi, h0 => by
    have := (List.getElem?_eq_some_iff.1 hi).1
    simp at this; omega
  | [a, x], i, b, h, hi, h0 => by
    simp [okc] at h
    match i, hi with
    | 1, hi => simp at hi; subst hi; exact h.2
    | i + 2, hi => simp at hi
  | [a, x, y], i, b, h, hi, h0 => by
    simp [okc] at h
    match i, hi with
    | 1, hi => simp at hi; subst hi; exact h.1.1.2
    | 2, hi => simp at hi; subst hi; exact h.1.2
    | i + 3, hi => simp at hi
  | [a, x, y, z], i, b, h, hi, h0 => by
    simp [okc] at h
    match i, hi with
    | 1, hi => simp at hi; subst hi; exact h.1.1.1.2
    | 2, hi => simp at hi; subst hi; exact h.1.1.2
    | 3, hi => simp at hi; subst hi; exact h.1.2
    | i + 4, hi => simp at hi
  | _ :: _ :: _ :: _ :: _ :: _, i, b, h, _, _ => by simp [okc] at h
theorem okc_first : ∀ (c : List UInt8) (b : UInt8), okc c = true → c[0]? = some b → ct b = false
  | [], b, h, _ => by simp [okc] at h
  | [a], b, h, hi => by simp [okc] at h; simp at hi; subst hi; simp [ct]; omega
  | [a, x], b, h, hi => by simp [okc] at h; simp at hi; subst hi; simp [ct]; omega
  | [a, x, y], b, h, hi => by simp [okc] at h; simp at hi; subst hi; simp [ct]; omega
  | [a, x, y, z], b, h, hi => by simp [okc] at h; simp at hi; subst hi; simp [ct]; omega
  | _ :: _ :: _ :: _ :: _ :: _, b, h, _ => by simp [okc] at h
theorem wd_cont (b : UInt8) (l : List UInt8) (h : ct b = true) : wd (b :: l) = 1 := by
  by_cases h1 : wd (b :: l) = 1
  · exact h1
  · have h2 := wd_big _ h1
    have h3 : ((b :: l).take (wd (b :: l)))[0]? = some b := by
      have := wd_pos (b :: l)
      obtain ⟨n, hn⟩ : ∃ n, wd (b :: l) = n + 1 := ⟨wd (b :: l) - 1, by omega⟩
      rw [hn]; simp
    rw [okc_first _ _ h2 h3] at h; cases h

/-- The characters. -/
def chars : List UInt8 → List (List UInt8)
  | [] => []
  | a :: r => (a :: r).take (wd (a :: r)) :: chars ((a :: r).drop (wd (a :: r)))
termination_by l => l.length
decreasing_by
  have := wd_pos (a :: r)
  simp only [List.length_drop, List.length_cons]; omega
theorem chars_nil : chars [] = [] := by unfold chars; rfl
theorem chars_cons (l : List UInt8) (h : l ≠ []) : chars l = l.take (wd l) :: chars (l.drop (wd l)) := by
  match l, h with
  | a :: r, _ => rw [chars]
theorem chars_rec {P : List UInt8 → Prop} (h0 : P []) (h1 : ∀ l, l ≠ [] → P (l.drop (wd l)) → P l) : ∀ l, P l := by
  intro l
  generalize hn : l.length = n
  induction n using Nat.strongRecOn generalizing l with
  | _ n ih =>
    by_cases h : l = []
    · subst h; exact h0
    · refine h1 l h (ih _ ?_ _ rfl)
      have := wd_pos l
      have : l.length ≠ 0 := fun e => h (List.length_eq_zero_iff.1 e)
      simp only [List.length_drop]; omega
theorem chars_flat : ∀ l, (chars l).flatten = l := by
  refine chars_rec (by rw [chars_nil]; rfl) fun l h ih => ?_
  rw [chars_cons l h, List.flatten_cons, ih, List.take_append_drop]
theorem chars_len : ∀ l, (chars l).length ≤ l.length ∧ l.length ≤ 4 * (chars l).length := by
  refine chars_rec (by rw [chars_nil]; simp) fun l h ih => ?_
  rw [chars_cons l h, List.length_cons]
  have h1 := wd_pos l; have h4 := wd_le4 l; have h5 := wd_le l h
  simp only [List.length_drop] at ih
  omega
theorem chars_okc : ∀ (cs : List (List UInt8)), (∀ c ∈ cs, okc c = true) → chars cs.flatten = cs
  | [], _ => by rw [List.flatten_nil, chars_nil]
  | c :: r, h => by
    have hc := h c (by simp)
    have hl := okc_len c hc
    have hne : (c :: r).flatten ≠ [] := by
      intro e
      rw [List.flatten_cons] at e
      have := (List.append_eq_nil_iff.1 e).1
      subst this; simp at hl
    rw [chars_cons _ hne, List.flatten_cons, wd_ok c _ hc, List.take_left', List.drop_left', chars_okc r fun d hd => h d (by simp [hd])]
    · rfl
    · rfl
/-- Is every character a code point's? -/
def points (l : List UInt8) : Bool := (chars l).all okc
/-- The characters turned round. -/
def backL (l : List UInt8) : List UInt8 := (chars l).reverse.flatten
theorem backL_len (l : List UInt8) : (backL l).length = l.length := by
  have : ∀ cs : List (List UInt8), cs.reverse.flatten.length = cs.flatten.length := fun cs => by
    induction cs with
    | nil => rfl
    | cons c r ih => simp only [List.reverse_cons, List.flatten_append, List.length_append, List.flatten_cons, List.flatten_nil, List.append_nil, ih]; omega
  unfold backL
  rw [this, chars_flat]
theorem points_all {l : List UInt8} (h : points l = true) : ∀ c ∈ chars l, okc c = true := List.all_eq_true.1 h
theorem chars_back {l : List UInt8} (h : points l = true) : chars (backL l) = (chars l).reverse :=
  chars_okc _ fun c hc => points_all h c (List.mem_reverse.1 hc)
theorem back_back {l : List UInt8} (h : points l = true) : backL (backL l) = l := by
  show (chars (backL l)).reverse.flatten = l
  rw [chars_back h, List.reverse_reverse, chars_flat]
/-- The bytes that begin a character. -/
def heads (l : List UInt8) : Nat := (l.filter fun b => !ct b).length
theorem okc_heads (c : List UInt8) (h : okc c = true) : heads c = 1 := by
  match c, h with
  | a :: r, h =>
    have h1 := okc_first _ a h rfl
    have h2 : r.filter (fun b => !ct b) = [] := List.filter_eq_nil_iff.2 fun b hb => by
      obtain ⟨i, hi⟩ := List.getElem?_of_mem hb
      have := okc_cont _ (i + 1) b h (by simpa using hi) (by omega)
      simp [this]
    simp [heads, h1, h2]
  | [], h => simp [okc] at h
theorem points_heads {l : List UInt8} (h : points l = true) : heads l = (chars l).length := by
  have : ∀ cs : List (List UInt8), (∀ c ∈ cs, okc c = true) → heads cs.flatten = cs.length := fun cs => by
    induction cs with
    | nil => intro _; rfl
    | cons c r ih =>
      intro hh
      have h1 := okc_heads c (hh c (by simp)); have h2 := ih fun d hd => hh d (by simp [hd])
      unfold heads at h1 h2 ⊢
      rw [List.flatten_cons, List.filter_append, List.length_append, h1, h2, List.length_cons]; omega
  have h2 := this _ (points_all h)
  rwa [chars_flat] at h2
theorem chars_append {l m : List UInt8} (h : points l = true) (k : points m = true) : (chars (l ++ m)).length = (chars l).length + (chars m).length := by
  have : chars (l ++ m) = chars l ++ chars m := by
    have := chars_okc (chars l ++ chars m) fun c hc => (List.mem_append.1 hc).elim (points_all h c) (points_all k c)
    rwa [List.flatten_append, chars_flat, chars_flat] at this
  rw [this, List.length_append]
/-- Bytes that begin none stand alone. -/
theorem chars_conts : ∀ (c l : List UInt8), (∀ b ∈ c, ct b = true) → (chars (c ++ l)).length = c.length + (chars l).length
  | [], l, _ => by simp
  | a :: r, l, h => by
    have h1 := wd_cont a (r ++ l) (h a (by simp))
    rw [List.cons_append, chars_cons _ (by simp), h1]
    have := chars_conts r l fun b hb => h b (by simp [hb])
    simp only [List.drop_succ_cons, List.drop_zero, List.length_cons, this]; omega
theorem chars_more (m : List UInt8) : ∀ l, (chars (l ++ m)).length ≤ (chars l).length + (chars m).length := by
  refine chars_rec (by simp [chars_nil]) fun l h ih => ?_
  have hne : l ++ m ≠ [] := by simp [h]
  have hp := wd_pos (l ++ m)
  by_cases hb : wd (l ++ m) = wd l
  · have hle := wd_le l h
    rw [chars_cons _ hne, chars_cons l h, hb, List.drop_append_of_le_length hle]
    simp only [List.length_cons]; omega
  · -- the first character of both is longer than that of the first text: it ends in the second
    have hbig : wd (l ++ m) ≠ 1 := by
      intro e
      have h1 : wd l ≠ 1 := fun e' => hb (by rw [e, e'])
      have h2 := wd_big l h1
      have h3 := wd_ok _ (l.drop (wd l) ++ m) h2
      rw [← List.append_assoc, List.take_append_drop, List.length_take, Nat.min_eq_left (wd_le l h)] at h3
      exact hb h3
    have hok := wd_big _ hbig
    have hlen : l.length < wd (l ++ m) := by
      refine Nat.lt_of_not_le fun hle => hb ?_
      have h3 := wd_ok ((l ++ m).take (wd (l ++ m))) (l.drop (wd (l ++ m))) hok
      rw [List.take_append_of_le_length hle, List.take_append_drop, List.length_take, Nat.min_eq_left hle] at h3
      exact h3.symm
    have hwl := wd_le _ hne
    rw [List.length_append] at hwl
    have htake : (l ++ m).take (wd (l ++ m)) = l ++ m.take (wd (l ++ m) - l.length) := by
      rw [List.take_append]
      congr 1
      exact List.take_of_length_le (by omega)
    have hdrop : (l ++ m).drop (wd (l ++ m)) = m.drop (wd (l ++ m) - l.length) := by
      rw [List.drop_append, List.drop_of_length_le (by omega)]
      rfl
    rw [chars_cons _ hne, hdrop, List.length_cons]
    rw [htake] at hok
    have hc : ∀ b ∈ m.take (wd (l ++ m) - l.length), ct b = true := fun b hb => by
      obtain ⟨i, hi⟩ := List.getElem?_of_mem hb
      have hl0 : 0 < l.length := List.length_pos_iff.2 h
      exact okc_cont _ (l.length + i) b hok (by rw [List.getElem?_append_right (by omega)]; simpa using hi) (by omega)
    have h5 := chars_conts _ (m.drop (wd (l ++ m) - l.length)) hc
    rw [List.take_append_drop, List.length_take] at h5
    have hl1 : 1 ≤ (chars l).length := by rw [chars_cons l h]; simp
    have hmin : 1 ≤ min (wd (l ++ m) - l.length) m.length := by omega
    omega

/-! ### The document's own decoder, as it goes -/
/-- How many bytes belong to the first, the least code point of that length, the first byte's own bits. -/
def foll (c : Nat) : Int × Int × Int := if c < 128 then (0, 0, c) else if 192 ≤ c ∧ c < 224 then (1, 128, c - 192) else if 224 ≤ c ∧ c < 240 then (2, 2048, c - 224) else if 240 ≤ c ∧ c < 248 then (3, 65536, c - 240) else (-1, 0, 0)
/-- The bytes behind the first, from number k on, so many: the code point; none: one of them is none that follows. -/
def tailP (l : List UInt8) : Nat → Nat → Int → Option Int
  | 0, _, pt => some pt
  | f + 1, k, pt => if ct (l.getD k 0) then tailP l f (k + 1) (pt * 64 + (l.getD k 0).toNat - 128) else none
def inP (least pt : Int) : Bool := !(decide (pt < least) || decide (1114111 < pt) || (decide (55296 ≤ pt) && decide (pt ≤ 57343)))
def charV (l : List UInt8) : Nat × Bool :=
  if (foll (l.getD 0 0).toNat).1 < 0 ∨ (l.length : Int) ≤ (foll (l.getD 0 0).toNat).1 then (1, false)
  else match tailP l (foll (l.getD 0 0).toNat).1.toNat 1 (foll (l.getD 0 0).toNat).2.2 with
    | none => (1, false)
    | some pt => if inP (foll (l.getD 0 0).toNat).2.1 pt then (1 + (foll (l.getD 0 0).toNat).1.toNat, true) else (1, false)
/-- Is it a code point's, as the document goes about it? -/
def okd (a : UInt8) (bs : List UInt8) : Bool :=
  decide ((foll a.toNat).1 = bs.length) && (match tailP (a :: bs) bs.length 1 (foll a.toNat).2.2 with | none => false | some pt => inP (foll a.toNat).2.1 pt)
theorem foll_le (c : Nat) : -1 ≤ (foll c).1 ∧ (foll c).1 ≤ 3 := by
  unfold foll
  repeat' split
  all_goals simp
theorem okd_eq (a : UInt8) : ∀ bs : List UInt8, okd a bs = okc (a :: bs)
  | [] => by
    have ha := a.toNat_lt
    unfold okd foll
    split
    · rename_i h; simp [okc, tailP, inP, h]; omega
    · rename_i h
      have : okc [a] = false := by simp [okc]; omega
      rw [this]
      repeat' split
      all_goals simp
  | [b] => by
    have ha := a.toNat_lt; have hb := b.toNat_lt
    by_cases k : ct b = true
    · have kk : 128 ≤ b.toNat ∧ b.toNat < 192 := by simpa [ct] using k
      by_cases h : 192 ≤ a.toNat ∧ a.toNat < 224
      · have e : foll a.toNat = ((1, 128, (a.toNat : Int) - 192) : Int × Int × Int) := by unfold foll; rw [if_neg (by omega), if_pos h]
        rw [okd, e]
        simp only [List.length_cons, List.length_nil, Nat.zero_add, tailP, List.getD_cons_succ, List.getD_cons_zero, k, if_true, okc, Bool.and_true, Bool.true_and]
        simp [inP]
        rw [Bool.eq_iff_iff]; simp; omega
      · have e : ((foll a.toNat).1 = 1) = False := by unfold foll; (repeat' split) <;> simp <;> omega
        have o : okc [a, b] = false := by simp [okc]; omega
        simp [okd, e, o]
    · have k' : ct b = false := by simpa using k
      simp [okd, okc, k', tailP]
  | [b, c] => by
    have ha := a.toNat_lt; have hb := b.toNat_lt; have hc := c.toNat_lt
    by_cases k : ct b = true ∧ ct c = true
    · have kb : 128 ≤ b.toNat ∧ b.toNat < 192 := by simpa [ct] using k.1
      have kc : 128 ≤ c.toNat ∧ c.toNat < 192 := by simpa [ct] using k.2
      by_cases h : 224 ≤ a.toNat ∧ a.toNat < 240
      · have e : foll a.toNat = ((2, 2048, (a.toNat : Int) - 224) : Int × Int × Int) := by unfold foll; rw [if_neg (by omega), if_neg (by omega), if_pos h]
        rw [okd, e]
        simp only [List.length_cons, List.length_nil, Nat.zero_add, tailP, List.getD_cons_succ, List.getD_cons_zero, k.1, k.2, if_true, okc, Bool.and_true, Bool.true_and]
        simp [inP]
        rw [Bool.eq_iff_iff]; simp; omega
      · have e : ((foll a.toNat).1 = 2) = False := by unfold foll; (repeat' split) <;> simp <;> omega
        have o : okc [a, b, c] = false := by simp [okc]; omega
        simp [okd, e, o]
    · rcases Bool.eq_false_or_eq_true (ct b) with k1 | k1
      · have k2 : ct c = false := by simpa [k1] using k
        simp [okd, okc, k1, k2, tailP]
      · simp [okd, okc, k1, tailP]
  | [b, c, d] => by
    have ha := a.toNat_lt; have hb := b.toNat_lt; have hc := c.toNat_lt; have hd := d.toNat_lt
    by_cases k : ct b = true ∧ ct c = true ∧ ct d = true
    · have kb : 128 ≤ b.toNat ∧ b.toNat < 192 := by simpa [ct] using k.1
      have kc : 128 ≤ c.toNat ∧ c.toNat < 192 := by simpa [ct] using k.2.1
      have kd : 128 ≤ d.toNat ∧ d.toNat < 192 := by simpa [ct] using k.2.2
      by_cases h : 240 ≤ a.toNat ∧ a.toNat < 248
      · have e : foll a.toNat = ((3, 65536, (a.toNat : Int) - 240) : Int × Int × Int) := by unfold foll; rw [if_neg (by omega), if_neg (by omega), if_neg (by omega), if_pos h]
        rw [okd, e]
        simp only [List.length_cons, List.length_nil, Nat.zero_add, tailP, List.getD_cons_succ, List.getD_cons_zero, k.1, k.2.1, k.2.2, if_true, okc, Bool.and_true, Bool.true_and]
        simp [inP]
        rw [Bool.eq_iff_iff]; simp; omega
      · have e : ((foll a.toNat).1 = 3) = False := by unfold foll; (repeat' split) <;> simp <;> omega
        have o : okc [a, b, c, d] = false := by simp [okc]; omega
        simp [okd, e, o]
    · rcases Bool.eq_false_or_eq_true (ct b) with k1 | k1
      · rcases Bool.eq_false_or_eq_true (ct c) with k2 | k2
        · have k3 : ct d = false := by simpa [k1, k2] using k
          simp [okd, okc, k1, k2, k3, tailP]
        · simp [okd, okc, k1, k2, tailP]
      · simp [okd, okc, k1, tailP]
  | b :: c :: d :: e :: r => by
    have := foll_le a.toNat
    have h : ((foll a.toNat).1 = ((b :: c :: d :: e :: r).length : Int)) = False := by simp; omega
    simp only [okd, h, decide_false, Bool.false_and, okc]
theorem tailP_take (l : List UInt8) : ∀ (f k m : Nat) (pt : Int), k + f ≤ m → tailP l f k pt = tailP (l.take m) f k pt
  | 0, _, _, _, _ => rfl
  | f + 1, k, m, pt, h => by
    have e : (l.take m).getD k 0 = l.getD k 0 := by simp [List.getD, List.getElem?_take, show k < m by omega]
    unfold tailP
    rw [e, tailP_take l f (k + 1) m _ (by omega)]
theorem charV_eq (l : List UInt8) (hl : l ≠ []) : charV l = (wd l, okc (l.take (wd l))) := by
  obtain ⟨a, r, rfl⟩ := List.exists_cons_of_ne_nil hl
  have hf := foll_le a.toNat
  have no : (∀ k, k ≤ (a :: r).length → 1 ≤ k → okc ((a :: r).take k) = false) → (wd (a :: r), okc ((a :: r).take (wd (a :: r)))) = (1, false) := fun h => by
    have h1 : wd (a :: r) = 1 := by
      by_cases e : wd (a :: r) = 1
      · exact e
      · have := wd_big _ e
        rw [h _ (wd_le _ hl) (wd_pos _)] at this
        cases this
    rw [h1, h 1 (by simp) (Nat.le_refl _)]
  have key : ∀ k, 1 ≤ k → k ≤ (a :: r).length → okc ((a :: r).take k) = true → (foll a.toNat).1 = (k : Int) - 1 := fun k h1 h2 h => by
    obtain ⟨j, rfl⟩ : ∃ j, k = j + 1 := ⟨k - 1, by omega⟩
    rw [List.take_succ_cons, ← okd_eq] at h
    simp only [okd, Bool.and_eq_true, decide_eq_true_eq, List.length_take] at h
    have := h.1
    simp only [List.length_cons] at h2
    omega
  unfold charV
  simp only [List.getD_cons_zero]
  by_cases hn : (foll a.toNat).1 < 0 ∨ ((a :: r).length : Int) ≤ (foll a.toNat).1
  · rw [if_pos hn]
    refine (no fun k h1 h2 => ?_).symm
    cases h : okc ((a :: r).take k) with
    | false => rfl
    | true => have := key k h2 h1 h; omega
  · rw [if_neg hn]
    obtain ⟨n, hn'⟩ : ∃ n : Nat, (foll a.toNat).1 = n := ⟨(foll a.toNat).1.toNat, by omega⟩
    have hlen : n < (a :: r).length := by omega
    have e1 : okc ((a :: r).take (n + 1)) = (match tailP (a :: r) n 1 (foll a.toNat).2.2 with | none => false | some pt => inP (foll a.toNat).2.1 pt) := by
      rw [List.take_succ_cons, ← okd_eq, okd, List.length_take, Nat.min_eq_left (by simp at hlen; omega), hn', tailP_take (a :: r) n 1 (n + 1) _ (by omega), List.take_succ_cons]
      simp
    rw [hn']
    simp only [Int.toNat_natCast]
    have yes : okc ((a :: r).take (n + 1)) = true → (1 + n, true) = (wd (a :: r), okc ((a :: r).take (wd (a :: r)))) := fun h => by
      have h3 := wd_ok _ ((a :: r).drop (n + 1)) h
      rw [List.take_append_drop, List.length_take, Nat.min_eq_left (by omega)] at h3
      rw [h3, h, Nat.add_comm]
    have nope : okc ((a :: r).take (n + 1)) = false → (1, false) = (wd (a :: r), okc ((a :: r).take (wd (a :: r)))) := fun h => by
      refine (no fun k h1 h2 => ?_).symm
      cases h' : okc ((a :: r).take k) with
      | false => rfl
      | true =>
        have := key k h2 h1 h'
        obtain rfl : k = n + 1 := by omega
        rw [h] at h'; cases h'
    cases htp : tailP (a :: r) n 1 (foll a.toNat).2.2 with
    | none => rw [htp] at e1; exact nope e1
    | some pt =>
      rw [htp] at e1
      simp only at e1 ⊢
      cases hi : inP (foll a.toNat).2.1 pt with
      | true => rw [hi] at e1; rw [if_pos rfl]; exact yes e1
      | false => rw [hi] at e1; rw [if_neg (by simp)]; exact nope e1
end Go.Proofs.YtlihkmldclocoaaDoor
