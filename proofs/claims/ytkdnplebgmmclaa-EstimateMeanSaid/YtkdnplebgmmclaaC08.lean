/- TwinE, Clone, Arith, Divide, Name, Lives, Total0, Ring, Cols0, TupW, Tuples, RTuples, Facts -/
import Derived.Lib.SliceRun
import Derived.Defers
import Derived.Recover
import Derived.Laws.Pointers
import Derived.Lib.LaidTab
import Derived.Lib.LaidU8
import Derived.Lay
import Derived.Test.YtkdnplebgmmclaaC07
/- Copies of lists whose elements hold lists, a mark behind each. Generic; no program. -/
namespace Go.Proofs.Ytkdnplebgmmclaa
open Go.RowKit
set_option linter.unusedSimpArgs false
set_option linter.unusedVariables false

/-- Elements one behind the other, zeros behind them. -/
def cellsAt (css : List (List Value)) (z : List Value) (sz j : Nat) : Value := ((css[j / sz]?).getD z).getD (j % sz) undef
theorem cellsAt_nil (z : List Value) (sz j : Nat) : cellsAt [] z sz j = z.getD (j % sz) undef := rfl
theorem cellsAt_one (css : List (List Value)) (z : List Value) (a : Value) (k j : Nat) (hk : css.length = k) : (if j = k then a else cellsAt css z 1 j) = cellsAt (css ++ [[a]]) z 1 j := by
  unfold cellsAt
  rw [Nat.div_one, Nat.mod_one]
  by_cases h : j = k
  · subst h; subst hk; simp
  · rw [if_neg h]
    rcases Nat.lt_or_ge j k with h' | h'
    · rw [List.getElem?_append_left (by omega)]
    · rw [List.getElem?_eq_none (by omega), List.getElem?_eq_none (by simp; omega)]
theorem cellsAt_two (css : List (List Value)) (z : List Value) (a b : Value) (k j : Nat) (hk : css.length = k) : (if j = k * 2 + 1 then b else if j = k * 2 then a else cellsAt css z 2 j) = cellsAt (css ++ [[a, b]]) z 2 j := by
  unfold cellsAt
  by_cases h : j / 2 = k
  · have e : (css ++ [[a, b]])[j / 2]? = some [a, b] := by rw [h, ← hk]; simp
    rw [e]
    rcases (by omega : j = k * 2 + 1 ∨ j = k * 2) with rfl | rfl
    · rw [if_pos rfl, show (k * 2 + 1) % 2 = 1 by omega]; rfl
    · rw [if_neg (by omega), if_pos rfl, show k * 2 % 2 = 0 by omega]; rfl
  · rw [if_neg (by omega), if_neg (by omega)]
    rcases Nat.lt_or_ge (j / 2) k with h' | h'
    · rw [List.getElem?_append_left (by omega)]
    · rw [List.getElem?_eq_none (by omega), List.getElem?_eq_none (by simp; omega)]
theorem made_one (z : Value) (n j : Nat) (hz : z.oneCell' = true) (hj : j < n) : (madeCells #[z] n).getD j undef = cellsAt [] [z] 1 j := by
  rw [cellsAt_nil]
  simp [madeCells, hj, Nat.mod_one]
theorem made_two (a b : Value) (n j : Nat) (hj : j < n * 2) : (madeCells #[a, b] (n * 2)).getD j undef = cellsAt [] [a, b] 2 j := by
  rw [cellsAt_nil]
  simp only [madeCells]
  simp [hj]
  rcases (by omega : j % 2 = 0 ∨ j % 2 = 1) with h | h <;> rw [h] <;> rfl
theorem cellsAt_get {css : List (List Value)} {z : List Value} {sz i j : Nat} {cs : List Value} {c : Value} (h : css[i]? = some cs) (hj : cs[j]? = some c) (hsz : j < sz) : cellsAt css z sz (i * sz + j) = c := by
  unfold cellsAt
  rw [Nat.mul_comm, Nat.mul_add_div (by omega), Nat.div_eq_of_lt hsz, Nat.add_zero, h, Nat.mul_add_mod, Nat.mod_eq_of_lt hsz]
  simp [List.getD, hj]

def TwinE {α : Type} (sz : Nat) (e : TypeId) (z : List Value) (RE : Nat → World → List Value → α → Prop) (RM : World → List Value → Prop) (B : Nat) (w : World) (v : Value) (xs : List α) : Prop :=
  ∃ (g : Nat) (css : List (List Value)), B ≤ g ∧ v = .slice (some ⟨g, 0, none⟩) xs.length (xs.length + 1) ∧ css.length = xs.length + 1 ∧ BlkF w g e ((xs.length + 1) * sz) (cellsAt css z sz) ∧
    (∀ (i : Nat) (x : α) (cs : List Value), xs[i]? = some x → css[i]? = some cs → cs.length = sz ∧ RE (g + 1) w cs x) ∧ ∀ cs, css[xs.length]? = some cs → cs.length = sz ∧ RM w cs
theorem TwinE.fut {α : Type} {sz : Nat} {e : TypeId} {z : List Value} {RE : Nat → World → List Value → α → Prop} {RM : World → List Value → Prop} {B : Nat} {w w' : World} {v : Value} {xs : List α}
    (hE : ∀ g, Stays (RE g)) (hM : ∀ w w' cs, Fut w w' → RM w cs → RM w' cs) (h : TwinE sz e z RE RM B w v xs) (hf : Fut w w') : TwinE sz e z RE RM B w' v xs := by
  obtain ⟨g, css, h1, h2, h3, h4, h5, h6⟩ := h
  exact ⟨g, css, h1, h2, h3, h4.fut hf, fun i x cs hx hc => ⟨(h5 i x cs hx hc).1, hE _ _ _ _ _ hf (h5 i x cs hx hc).2⟩, fun cs hc => ⟨(h6 cs hc).1, hM _ _ _ hf (h6 cs hc).2⟩⟩
/-- Read as a list. -/
theorem TwinE.rep {α : Type} {sz M : Nat} {e : TypeId} {z : List Value} {RE : Nat → World → List Value → α → Prop} {RM : World → List Value → Prop} {R : World → List Value → α → Prop} {B : Nat} {w : World} {v : Value} {xs : List α}
    (h : TwinE sz e z RE RM B w v xs) (hR : ∀ g cs x, x ∈ xs → RE g w cs x → R w cs x) (hM : xs.length + 1 ≤ M) : SlRep sz M R w v xs := by
  obtain ⟨g, css, h1, rfl, h3, h4, h5, h6⟩ := h
  refine ⟨_, _, rfl, Nat.le_succ _, hM, fun i x hx => ?_⟩
  have hil : i < xs.length := (List.getElem?_eq_some_iff.1 hx).1
  have hc : css[i]? = some (css[i]'(by omega)) := List.getElem?_eq_getElem (by omega)
  obtain ⟨hl, hre⟩ := h5 i x _ hx hc
  refine ⟨g, 0, _, rfl, hl, fun j c hj => ?_, hR _ _ _ (List.mem_of_getElem? hx) hre⟩
  have hjl : j < sz := by rw [← hl]; exact (List.getElem?_eq_some_iff.1 hj).1
  have hlt : i * sz + j < (xs.length + 1) * sz := by
    have : (i + 1) * sz ≤ (xs.length + 1) * sz := Nat.mul_le_mul_right _ (by omega)
    rw [Nat.add_mul] at this; omega
  rw [Nat.zero_add, h4.cell hlt, cellsAt_get hc hj hjl]

/-! ### Pieces of a list -/
theorem SlRep.take {α : Type} {sz M : Nat} {R : World → List Value → α → Prop} {w : World} {A : Option Addr} {n cap : Nat} {xs : List α} (h : SlRep sz M R w (.slice A n cap) xs) (k : Nat) (hk : k ≤ xs.length) : SlRep sz M R w (.slice A k cap) (xs.take k) := by
  obtain ⟨A', cap', hv, h1, h2, h3⟩ := h
  injection hv with e1 e2 e3
  subst e1; subst e3
  refine ⟨A, cap, by rw [List.length_take, Nat.min_eq_left hk], by rw [List.length_take]; omega, h2, fun i x hx => h3 i x ?_⟩
  rw [List.getElem?_take] at hx
  split at hx
  · exact hx
  · cases hx
theorem SlRep.drop {α : Type} {sz M : Nat} {R : World → List Value → α → Prop} {w : World} {b off n cap : Nat} {xs : List α} (h : SlRep sz M R w (.slice (some ⟨b, off, none⟩) n cap) xs) (k : Nat) (hk : k ≤ xs.length) :
    SlRep sz M R w (.slice (some ⟨b, off + k * sz, none⟩) (xs.length - k) (cap - k)) (xs.drop k) := by
  obtain ⟨A', cap', hv, h1, h2, h3⟩ := h
  injection hv with e1 e2 e3
  subst e1; subst e3
  refine ⟨_, _, by rw [List.length_drop], by rw [List.length_drop]; omega, by omega, fun i x hx => ?_⟩
  rw [List.getElem?_drop] at hx
  obtain ⟨b', off', cs, hA, hl, hc, hr⟩ := h3 (k + i) x hx
  injection hA with hA
  injection hA with e4 e5
  subst e4; subst e5
  refine ⟨_, _, cs, rfl, hl, fun j c hj => ?_, hr⟩
  have := hc j c hj
  rwa [show off + k * sz + (i * sz + j) = off + ((k + i) * sz + j) by rw [Nat.add_mul]; omega]
end Go.Proofs.Ytkdnplebgmmclaa
/- slices.Clone, of values, of tuples, of facts: a list of the call's own of the same elements. -/
namespace Go.Proofs.Ytkdnplebgmmclaa
open Go.RowKit
set_option linter.unusedSimpArgs false
set_option linter.unusedVariables false

theorem infoT : (Try.prog.info? 31).map (fun i => (i.zero, i.size, i.bytes)) = some (some (.slice none 0 0), 1, 24) := by kernel_rfl
theorem infoG : (Try.prog.info? 33).map (fun i => (i.zero, i.size, i.bytes)) = some (some (.agg #[.string ⟨#[]⟩, .slice none 0 0]), 2, 40) := by kernel_rfl
theorem SlRep.const {α : Type} {sz M : Nat} {R : World → List Value → α → Prop} {w w' : World} {v : Value} {xs : List α} (h : SlRep sz M R w v xs) (hf : Fut w w') : SlRep sz M (fun _ => R w) w' v xs := by
  obtain ⟨A, cap, hv, h1, h2, h3⟩ := h
  refine ⟨A, cap, hv, h1, h2, fun i x hx => ?_⟩
  obtain ⟨b, off, cs, hA, hl, hc, hr⟩ := h3 i x hx
  exact ⟨b, off, cs, hA, hl, fun j c hj => hf.cell (hc j c hj), hr⟩
theorem own_made {α : Type} {sz B : Nat} {e : TypeId} {R : World → List Value → α → Prop} (w : World) (hB : B ≤ w.heap.size) : OwnL sz B e R (w.alloc (.cells #[] e)) (.slice (some ⟨w.heap.size, 0, none⟩) 0 0) [] :=
  ⟨[], rfl, fun i cs x hi => by simp at hi, World.ownsRow_made w #[] 0 hB (Nat.zero_le _) (by simp)⟩
theorem SlRep.empty {α : Type} {sz M : Nat} {R : World → List Value → α → Prop} {w : World} {n cap : Nat} {xs : List α} (h : SlRep sz M R w (.slice none n cap) xs) : xs = [] := by
  obtain ⟨A, cap', hv, _, _, hx⟩ := h
  cases xs with
  | nil => rfl
  | cons y r =>
    obtain ⟨_, _, _, hA, _⟩ := hx 0 y rfl
    injection hv with e1
    rw [← e1] at hA; cases hA

set_option maxHeartbeats 800000 in
set_option maxRecDepth 100000 in
theorem clone_V (a : Value) (xs : List (V)) (w : World) (ha : SlRep 3 9223372036854775807 RV w a xs) (hb : xs.length ≤ 4398046511104) :
    Calls Try.prog 37 #[a] w fun e w' => ∃ v, e = .returned v ∧ OwnL 3 w.heap.size 29 (fun _ => RV w) w' v xs ∧ Fut w w' := by
  obtain ⟨A, cap, rfl, hl, hm⟩ := SlRep.form ha
  have q22 : ∀ (w : World) (a : Option Addr) (n c n' c' : Nat), (binOp .eql 31 (.slice a n c) (.slice none n' c')).run Try.prog w = .ok (.bool a.isNone) w := fun w a n c n' c' => Lib.run_eql_slice_nil w _ _ a n c n' c' Try.underlying31
  cases A with
  | none =>
    obtain rfl := ha.empty
    clear ha
    go_enter Try.func37, Try.ntmps37
    go_wp2
    go_ret
    exact ⟨_, rfl, OwnL.nil, Fut.refl _⟩
  | some p =>
    have HA := Lib.hid ha
    clear ha
    go_enter Try.func37, Try.ntmps37
    go_wp2_with (at_builtin; go_loud (refine wpList_append_L (R := fun _ => RV w) (B := w.heap.size) (xs := []) (ys := xs) (e := 29) (by go_simp) _ _ 31 rfl Try.underlying31 (.agg #[.int .i8 0, .int .i64 0, .string ⟨#[]⟩]) 32 infoV rfl (by decide) (fun _ => RV.one w) (const_keeps w) rfl rfl (own_made w (Nat.le_refl _)) (HA.out.const (Fut.alloc _ _)) ?l1 ?l2 ?b1 ?k1))
    case l1 => simp [maxLen]; omega
    case l2 => simp; omega
    case b1 => simp
    case k1 =>
    intro v' w' o' g'
    have F' := Lib.hid (Fut.grown (Fut.alloc w (.cells #[] 29)) g' (fun k hk => by simp [Value.ownBlock] at hk; omega))
    have O' := Lib.hid o'
    clear g' o'
    go_wp2
    go_ret
    exact ⟨_, rfl, O'.out, F'.out⟩
set_option maxHeartbeats 800000 in
set_option maxRecDepth 100000 in
theorem clone_G (a : Value) (xs : List (Fc)) (w : World) (ha : SlRep 2 9223372036854775807 RG w a xs) (hb : xs.length ≤ 3298534883328) :
    Calls Try.prog 34 #[a] w fun e w' => ∃ v, e = .returned v ∧ OwnL 2 w.heap.size 33 (fun _ => RG w) w' v xs ∧ Fut w w' := by
  obtain ⟨A, cap, rfl, hl, hm⟩ := SlRep.form ha
  have q22 : ∀ (w : World) (a : Option Addr) (n c n' c' : Nat), (binOp .eql 25 (.slice a n c) (.slice none n' c')).run Try.prog w = .ok (.bool a.isNone) w := fun w a n c n' c' => Lib.run_eql_slice_nil w _ _ a n c n' c' Try.underlying25
  cases A with
  | none =>
    obtain rfl := ha.empty
    clear ha
    go_enter Try.func34, Try.ntmps34
    go_wp2
    go_ret
    exact ⟨_, rfl, OwnL.nil, Fut.refl _⟩
  | some p =>
    have HA := Lib.hid ha
    clear ha
    go_enter Try.func34, Try.ntmps34
    go_wp2_with (at_builtin; go_loud (refine wpList_append_L (R := fun _ => RG w) (B := w.heap.size) (xs := []) (ys := xs) (e := 33) (by go_simp) _ _ 25 rfl Try.underlying25 (.agg #[.string ⟨#[]⟩, .slice none 0 0]) 40 infoG rfl (by decide) (fun _ => RG.one w) (const_keeps w) rfl rfl (own_made w (Nat.le_refl _)) (HA.out.const (Fut.alloc _ _)) ?l1 ?l2 ?b1 ?k1))
    case l1 => simp [maxLen]; omega
    case l2 => simp; omega
    case b1 => simp
    case k1 =>
    intro v' w' o' g'
    have F' := Lib.hid (Fut.grown (Fut.alloc w (.cells #[] 33)) g' (fun k hk => by simp [Value.ownBlock] at hk; omega))
    have O' := Lib.hid o'
    clear g' o'
    go_wp2
    go_ret
    exact ⟨_, rfl, O'.out, F'.out⟩
end Go.Proofs.Ytkdnplebgmmclaa
/- value.Arith, case by case; num, word1, number, text, fits. -/
namespace Go.Proofs.Ytkdnplebgmmclaa
open Go.RowKit
set_option linter.unusedSimpArgs false
set_option linter.unusedVariables false

def numV (n : Int) : V := ⟨1, n, ⟨#[]⟩⟩
def txtV (s : ByteArray) : V := ⟨2, 0, s⟩
def noV : V := ⟨0, 0, ⟨#[]⟩⟩
def pairV (x : V) (b : Bool) : Value := .tuple #[x.val, .bool b]

def good (K : Int) (x : V) : Bool := x.k == K && chk x.k x.n x.s == 0
def fitsV (n : Nat) (K : Int) (xs : List V) : Bool := decide (xs.length = n) && xs.all (good K)

/-! ### What does not fit gives nothing. -/
end Go.Proofs.Ytkdnplebgmmclaa
/- value.divide: a deferred closure that recovers. -/
namespace Go.Proofs.Ytkdnplebgmmclaa
open Go.RowKit
set_option linter.unusedSimpArgs false
set_option linter.unusedVariables false

end Go.Proofs.Ytkdnplebgmmclaa
/- value.name. -/
namespace Go.Proofs.Ytkdnplebgmmclaa
open Go.RowKit
set_option linter.unusedSimpArgs false
set_option linter.unusedVariables false

def letterN (c : Nat) : Bool := (decide (97 ≤ c) && decide (c ≤ 122)) || (decide (65 ≤ c) && decide (c ≤ 90)) || (decide (48 ≤ c) && decide (c ≤ 57)) || c == 95
def keyB (l : List UInt8) : Bool := l == [110, 111, 116] || l == [99, 111, 117, 110, 116] || l == [115, 117, 109] || l == [109, 105, 110] || l == [109, 97, 120] || l == [108, 101, 110] || l == [99, 104, 97, 114, 115] || l == [98, 97, 99, 107]
def nameV (s : ByteArray) : Bool := decide (0 < s.size) && decide (s.size ≤ 120) && (decide (97 ≤ (s.data.getD 0 0).toNat) && decide ((s.data.getD 0 0).toNat ≤ 122)) && s.data.toList.all (fun b => letterN b.toNat) && !keyB s.toList

theorem head_at (s : ByteArray) (h : 0 < s.size) : s.data[0]?.getD 0 = s[0] := by
  have : 0 < s.data.size := h
  rw [Array.getElem?_eq_getElem this]
  rfl

end Go.Proofs.Ytkdnplebgmmclaa
/- lives; value.Show of a name. -/
namespace Go.Proofs.Ytkdnplebgmmclaa
open Go.RowKit
set_option linter.unusedSimpArgs false
set_option linter.unusedVariables false

theorem vals_two (w : World) (x y : V) (hx : x.ok) (hy : y.ok) (e : TypeId) : Vals (w.alloc (.cells #[.int .i8 x.k, .int .i64 x.n, .string x.s, .int .i8 y.k, .int .i64 y.n, .string y.s] e)) (.slice (some ⟨w.heap.size, 0, none⟩) 2 2) [x, y] := by
  refine vals_of_blk (N := 6) (xs := [x, y]) (BlkF.new w e #[.int .i8 x.k, .int .i64 x.n, .string x.s, .int .i8 y.k, .int .i64 y.n, .string y.s]) (by simp) (fun j hj => ?_) (by simp) (by simp) (by simp [hx, hy])
  simp at hj
  rcases (by omega : j = 0 ∨ j = 1 ∨ j = 2 ∨ j = 3 ∨ j = 4 ∨ j = 5) with rfl | rfl | rfl | rfl | rfl | rfl <;> rfl
theorem numV_ok (n : Int) (h : (Lit.int .i64 n).wf = true) : (numV n).ok := ⟨(by decide : (Lit.int .i8 1).wf = true), h, Nat.zero_le _⟩
theorem good_num (n : Int) : good 1 (numV n) = true := by simp [good, numV, chk, ByteArray.toList_eq]
theorem good_txt (s : ByteArray) (h : s.size ≤ 200) : good 2 (txtV s) = true := by simp [good, txtV, chk, h]

def boB : ByteArray := ⟨#[98, 111]⟩
theorem name_bo : nameV boB = true := by unfold nameV keyB; rw [ByteArray.toList_eq]; decide
theorem cmp_31 : cmpV (numV 3) (txtV ⟨#[]⟩) = -1 := by simp [cmpV, firstNZ, cmpI, numV, txtV]
theorem cmp_32 : cmpV (numV 3) (numV 2) = 1 := by simp [cmpV, firstNZ, cmpI, numV]
end Go.Proofs.Ytkdnplebgmmclaa
/- ordered; the table 'takes' out of a row's condition; what Holds answers. -/
namespace Go.Proofs.Ytkdnplebgmmclaa
open Go.RowKit
set_option linter.unusedSimpArgs false
set_option linter.unusedVariables false

end Go.Proofs.Ytkdnplebgmmclaa
/- two, size, ring. -/
namespace Go.Proofs.Ytkdnplebgmmclaa
open Go.RowKit
set_option linter.unusedSimpArgs false
set_option linter.unusedVariables false

theorem noV_eq : (noV = numV 0) = False := by simp [noV, numV]


theorem wf64 (z : Int) : (Lit.int .i64 (wrap64 z)).wf = true := by
  simp [Lit.wf, IntKind.min, IntKind.max, IntKind.signed, IntKind.bits, wrap64]; omega
theorem wf_in {z : Int} (h : (Lit.int .i64 z).wf = true) : -9223372036854775808 ≤ z ∧ z ≤ 9223372036854775807 := by
  simpa [Lit.wf, IntKind.min, IntKind.max, IntKind.signed, IntKind.bits] using h
theorem in_wf {z : Int} (h : -9223372036854775808 ≤ z ∧ z ≤ 9223372036854775807) : (Lit.int .i64 z).wf = true := by
  simpa [Lit.wf, IntKind.min, IntKind.max, IntKind.signed, IntKind.bits] using h
theorem wrap64_k (z : Int) : ∃ k : Int, wrap64 z = z + k * 18446744073709551616 := ⟨-((z + 9223372036854775808) / 18446744073709551616), by unfold wrap64; omega⟩
theorem wrap64_add (z k : Int) : wrap64 (z + k * 18446744073709551616) = wrap64 z := by unfold wrap64; omega
theorem wrap64_in {z : Int} (h : -9223372036854775808 ≤ z ∧ z ≤ 9223372036854775807) : wrap64 z = z := by unfold wrap64; omega
theorem wrap64_mul_l (a b : Int) : wrap64 (wrap64 a * b) = wrap64 (a * b) := by
  obtain ⟨k, hk⟩ := wrap64_k a
  rw [hk, Int.add_mul, show k * 18446744073709551616 * b = (k * b) * 18446744073709551616 by rw [Int.mul_assoc, Int.mul_comm 18446744073709551616 b, ← Int.mul_assoc], wrap64_add]
theorem wrap64_mul_r (a b : Int) : wrap64 (a * wrap64 b) = wrap64 (a * b) := by rw [Int.mul_comm, wrap64_mul_l, Int.mul_comm]
theorem wrap64_add_l (a b : Int) : wrap64 (wrap64 a + b) = wrap64 (a + b) := by unfold wrap64; omega
theorem wrap64_add_r (a b : Int) : wrap64 (a + wrap64 b) = wrap64 (a + b) := by unfold wrap64; omega
theorem wrap64_sub_l (a b : Int) : wrap64 (wrap64 a - b) = wrap64 (a - b) := by unfold wrap64; omega

end Go.Proofs.Ytkdnplebgmmclaa
/- For ValueColumns: append in a walk; SameFact; plain laws of the order of tuples. -/
namespace Go.Proofs.Ytkdnplebgmmclaa
open Go.RowKit
set_option linter.unusedSimpArgs false
set_option linter.unusedVariables false

theorem run_op_append {P : Program} {o : Oper} {a : Act} {w w' : World} {s x : Operand} {t : TypeId} {v u v' : Value} (ho : o.op = .call { callee := .builtin .append, args := #[s, x], argTypes := #[t, t] })
    (hs : a.eval s = v) (hx : a.eval x = u) (hr : (Builtin.append_ #[t, t] o.type #[v, u]).run P w = .ok v' w') : (execOp a.eval o).run P w = .ok (.value v') w' := by
  unfold execOp
  simp only [ho, resolve, invoke, builtin, Sem.run_bind, Sem.run_pure, Result.andThen_ok, List.map_toArray, List.map_cons, List.map_nil, hs, hx, hr]
theorem wpList_append_V {P : Program} {ops : Array Oper} {rest : List Oper} {o : Oper} {a : Act} {Q : Exit → Act → World → Prop} {w : World} (hgd : Region.wanted o (yielded ops a.tmps) = true) (s x : Operand) (t e : TypeId)
    (ho : o.op = .call { callee := .builtin .append, args := #[s, x], argTypes := #[t, t] }) (ht : P.underlying t = some (.slice e))
    (hinfo : (P.info? e).map (fun i => (i.zero, i.size, i.bytes)) = some (some (.agg #[.int .i8 0, .int .i64 0, .string ⟨#[]⟩]), 3, 32))
    (B : Nat) (v u : Value) (xs ys : List V) {M : Nat} (hs : a.eval s = v) (hx : a.eval x = u) (hown : OwnV B e w v xs) (hu : SlRep 3 M RV w u ys) (hlen : xs.length + ys.length ≤ 4398046511104) (hbase : B ≤ w.heap.size)
    (h : ∀ v' w', OwnV B e w' v' (xs ++ ys) → w.grownBy w' v.ownBlock → wpList P ops Q rest (a.put o.dst v') w') : wpList P ops Q (o :: rest) a w := by
  obtain ⟨v', w', hr, h2, h3⟩ := run_append_V (ty := o.type) ht hinfo hown hu hlen hbase
  refine wpList_step fun K hK => ?_
  rw [if_pos hgd]
  unfold Oper.wp
  rw [run_op_append ho hs hx hr]
  exact hK _ _ (h v' w' h2 h3)

/-- A slice literal of one value is a list of the call's own. -/
theorem own_one (w : World) (x : V) (hx : x.ok) (e : TypeId) (B : Nat) (hB : B ≤ w.heap.size) : OwnV B e (w.alloc (.cells #[.int .i8 x.k, .int .i64 x.n, .string x.s] e)) (.slice (some ⟨w.heap.size, 0, none⟩) 1 1) [x] := by
  refine ⟨[x.cells], rfl, fun i cs y hi hy => ?_, by simp [V.cells], .inr ⟨w.heap.size, 1, #[.int .i8 x.k, .int .i64 x.n, .string x.s], rfl, hB, heap_alloc_new w _, Nat.le_refl _, by decide, rfl, by simp [V.cells]⟩⟩
  have h0 : i = 0 := by
    have := (List.getElem?_eq_some_iff.1 hi).1
    simp at this; omega
  subst h0
  simp at hi hy
  subst hi; subst hy
  exact ⟨rfl, rfl, hx⟩

instance : DecidableEq Fc := fun x y =>
  if h : x.p.toList = y.p.toList ∧ x.a = y.a then .isTrue (by obtain ⟨p, a⟩ := x; obtain ⟨q, b⟩ := y; obtain ⟨h1, h2⟩ := h; simp only at h1 h2; rw [ByteArray.toList_eq, ByteArray.toList_eq] at h1; rw [WideShapes.bytes_inj h1, h2])
  else .isFalse (fun e => h (by subst e; exact ⟨rfl, rfl⟩))
theorem Fc.eq_iff (x y : Fc) : x = y ↔ x.p.toList = y.p.toList ∧ x.a = y.a :=
  ⟨fun e => by subst e; exact ⟨rfl, rfl⟩, fun h => by obtain ⟨p, a⟩ := x; obtain ⟨q, b⟩ := y; obtain ⟨h1, h2⟩ := h; simp only at h1 h2; rw [ByteArray.toList_eq, ByteArray.toList_eq] at h1; rw [WideShapes.bytes_inj h1, h2]⟩
theorem facs_three (w : World) (n : Nat) (f g h : Fc) (u v t : Value) (hn : n = w.heap.size) (hu : ValsA w u f.a) (hv : ValsA w v g.a) (ht : ValsA w t h.a) (hp : f.p.size ≤ 140737488351232) (hq : g.p.size ≤ 140737488351232) (hr : h.p.size ≤ 140737488351232) :
    Facs (w.alloc (.cells #[.string f.p, u, .string g.p, v, .string h.p, t] 33)) (.slice (some ⟨n, 0, none⟩) 3 3) [f, g, h] := by
  subst hn
  have hF := Fut.alloc w (.cells #[.string f.p, u, .string g.p, v, .string h.p, t] 33)
  refine ⟨_, 3, rfl, Nat.le_refl _, by omega, fun i x hx => ?_⟩
  have hil : i < 3 := (List.getElem?_eq_some_iff.1 hx).1
  rcases (by omega : i = 0 ∨ i = 1 ∨ i = 2) with rfl | rfl | rfl
  · simp at hx
    subst hx
    refine ⟨_, 0, [.string f.p, u], rfl, rfl, fun j c hj => ?_, u, rfl, hp, hu.fut RV.stays hF⟩
    have hjl : j < 2 := (List.getElem?_eq_some_iff.1 hj).1
    refine (World.cell?_alloc_mark w _ _ (0, 0) _).trans ?_
    rcases (by omega : j = 0 ∨ j = 1) with rfl | rfl <;> simpa using hj
  · simp at hx
    subst hx
    refine ⟨_, 0, [.string g.p, v], rfl, rfl, fun j c hj => ?_, v, rfl, hq, hv.fut RV.stays hF⟩
    have hjl : j < 2 := (List.getElem?_eq_some_iff.1 hj).1
    refine (World.cell?_alloc_mark w _ _ (0, 0) _).trans ?_
    rcases (by omega : j = 0 ∨ j = 1) with rfl | rfl <;> simpa using hj
  · simp at hx
    subst hx
    refine ⟨_, 0, [.string h.p, t], rfl, rfl, fun j c hj => ?_, t, rfl, hr, ht.fut RV.stays hF⟩
    have hjl : j < 2 := (List.getElem?_eq_some_iff.1 hj).1
    refine (World.cell?_alloc_mark w _ _ (0, 0) _).trans ?_
    rcases (by omega : j = 0 ∨ j = 1) with rfl | rfl <;> simpa using hj
theorem cmpT_more (xs : List V) (v : V) : cmpT xs (xs ++ [v]) = -1 := by
  induction xs with
  | nil => rfl
  | cons a r ih => simp only [List.cons_append, cmpT]; rw [ordV.refl a]; simpa using ih
theorem cmpT_ahead (a b c : List V) : cmpT (a ++ b) (a ++ c) = cmpT b c := by
  induction a with
  | nil => rfl
  | cons x r ih => simp only [List.cons_append, cmpT]; rw [ordV.refl x]; simpa using ih
theorem cmpT_first (v u : V) (a b : List V) (h : cmpV v u ≠ 0) : cmpT (v :: a) (u :: b) = cmpV v u := by
  simp only [cmpT]; rw [if_pos h]
end Go.Proofs.Ytkdnplebgmmclaa
/- BeyondTuples, SameTuples, SameFacts; BeyondFacts of lists that results hold. -/
namespace Go.Proofs.Ytkdnplebgmmclaa
open Go.RowKit
set_option linter.unusedSimpArgs false
set_option linter.unusedVariables false

theorem TupsA.small {w : World} {v : Value} {ts : List (List V)} (h : TupsA w v ts) : ∀ t ∈ ts, t.length ≤ 4398046511104 := by
  obtain ⟨A, cap, _, _, _, h3⟩ := h
  intro t ht
  obtain ⟨i, hi⟩ := List.getElem?_of_mem ht
  obtain ⟨_, _, _, _, _, _, u, _, hu⟩ := h3 i t hi
  exact hu.len
theorem take_succ_eqG {α : Type} {xs ys : List α} {k : Nat} (hx : k < xs.length) (hy : k < ys.length) (h : xs.take k = ys.take k) (he : xs[k] = ys[k]) : xs.take (k + 1) = ys.take (k + 1) := by
  rw [List.take_succ_eq_append_getElem hx, List.take_succ_eq_append_getElem hy, h, he]
end Go.Proofs.Ytkdnplebgmmclaa
/- value.Tuples: the tuples in their order, each once, in memory of the call's own. -/
namespace Go.Proofs.Ytkdnplebgmmclaa
open Go.RowKit
set_option linter.unusedSimpArgs false
set_option linter.unusedVariables false

/-- A slice literal of one tuple. -/
theorem tup_one {B : Nat} {ev : TypeId} {w : World} {A : Option Addr} {n c : Nat} {x : List V} (e : TypeId) (h : OwnV B ev w (.slice A n c) x) : SlRep 1 1 (RTo B ev) (w.alloc (.cells #[.slice A n c] e)) (.slice (some ⟨w.heap.size, 0, none⟩) 1 1) [x] := by
  refine ⟨_, 1, rfl, Nat.le_refl _, Nat.le_refl _, fun i y hy => ⟨w.heap.size, 0, [.slice A n c], rfl, rfl, fun j u hj => ?_, ?_⟩⟩
  · have hil : i < 1 := (List.getElem?_eq_some_iff.1 hy).1
    have hjl : j < 1 := (List.getElem?_eq_some_iff.1 hj).1
    obtain rfl : i = 0 := by omega
    obtain rfl : j = 0 := by omega
    refine (World.cell?_alloc_mark w _ _ (0, 0) _).trans ?_
    simpa using hj
  · have hil : i < 1 := (List.getElem?_eq_some_iff.1 hy).1
    obtain rfl : i = 0 := by omega
    simp only [List.getElem?_cons_zero, Option.some.injEq] at hy
    subst hy
    exact ⟨_, rfl, OwnL.fut RV.stays h (Fut.alloc _ _)⟩
theorem RTo.base {B B' : Nat} {ev : TypeId} {w : World} {cs : List Value} {x : List V} (h : RTo B ev w cs x) (hB : B' ≤ B) : RTo B' ev w cs x := by
  obtain ⟨v, h1, h2⟩ := h
  exact ⟨v, h1, h2.base hB⟩
theorem OwnT.base {B B' : Nat} {e ev : TypeId} {w : World} {v : Value} {xs : List (List V)} (h : OwnL 1 B e (RTo B ev) w v xs) (hB : B' ≤ B) : OwnL 1 B' e (RTo B' ev) w v xs :=
  (h.imp fun _ _ hr => hr.base hB).base hB
theorem tyVT : 29 ≠ 31 := by decide

end Go.Proofs.Ytkdnplebgmmclaa
/- The document's Tuples: halved, sorted, joined. -/
namespace Go.Proofs.Ytkdnplebgmmclaa
open Go.RowKit
set_option linter.unusedSimpArgs false
set_option linter.unusedVariables false

theorem sortU_small {α : Type} {c : α → α → Int} : ∀ (l : List α), l.length ≤ 1 → sortU c l = l
  | [], _ => rfl
  | [x], _ => rfl
  | _ :: _ :: _, h => by simp at h

theorem sortU_len {α : Type} {c : α → α → Int} : ∀ l : List α, (sortU c l).length ≤ l.length := fun l => by
  have hi : ∀ (x : α) (m : List α), (insU c x m).length ≤ m.length + 1 := fun x m => by
    induction m with
    | nil => simp [insU]
    | cons y r ih =>
      unfold insU
      split
      · simp
      · split
        · simp
        · simp only [List.length_cons]; omega
  induction l with
  | nil => simp [sortU]
  | cons x r ih =>
    have := hi x (sortU c r)
    show (insU c x (sortU c r)).length ≤ _
    simp only [List.length_cons]; omega
theorem ownT_at {B B' : Nat} {e ev : TypeId} {w : World} {A : Option Addr} {n cap : Nat} {X : List (List V)} (h : OwnL 1 B e (RTo B' ev) w (.slice A n cap) X) {k : Nat} (hk : k < X.length) :
    ∃ b off A' cap', A = some ⟨b, off, none⟩ ∧ w.cell? ⟨b, off + k, none⟩ = some (.slice A' (X[k]).length cap') ∧ OwnV B' ev w (.slice A' (X[k]).length cap') X[k] := by
  obtain ⟨A1, cap1, hv, _, _, h3⟩ := h.rep
  obtain ⟨b, off, cs, hA, hl, hc, u, hr, hu⟩ := h3 k _ (List.getElem?_eq_getElem hk)
  injection hv with hv _ _
  subst hr
  obtain ⟨A', cap', rfl, h4, h5⟩ := SlRep.form hu.vals
  exact ⟨b, off, A', cap', hv.trans hA, by have := hc 0 _ rfl; simpa using this, hu⟩

end Go.Proofs.Ytkdnplebgmmclaa
/- value.Facts: the facts in their order, each once, in memory of the call's own. Printed by facts.py. -/
namespace Go.Proofs.Ytkdnplebgmmclaa
open Go.RowKit
set_option linter.unusedSimpArgs false
set_option linter.unusedVariables false

/-- A slice literal of one fact. -/
theorem fac_one {B : Nat} {ev : TypeId} {w : World} {v : Value} {f : Fc} (e : TypeId) (hp : f.p.size ≤ 140737488351232) (h : OwnV B ev w v f.a) : SlRep 2 1 (RGo B ev) (w.alloc (.cells #[.string f.p, v] e)) (.slice (some ⟨w.heap.size, 0, none⟩) 1 1) [f] := by
  refine ⟨_, 1, rfl, Nat.le_refl _, Nat.le_refl _, fun i y hy => ⟨w.heap.size, 0, [.string f.p, v], rfl, rfl, fun j u hj => ?_, ?_⟩⟩
  · have hil : i < 1 := (List.getElem?_eq_some_iff.1 hy).1
    have hjl : j < 2 := (List.getElem?_eq_some_iff.1 hj).1
    obtain rfl : i = 0 := by omega
    refine (World.cell?_alloc_mark w _ _ (0, 0) _).trans ?_
    rcases (by omega : j = 0 ∨ j = 1) with rfl | rfl <;> simpa using hj
  · have hil : i < 1 := (List.getElem?_eq_some_iff.1 hy).1
    obtain rfl : i = 0 := by omega
    simp only [List.getElem?_cons_zero, Option.some.injEq] at hy
    subst hy
    exact ⟨_, rfl, hp, OwnL.fut RV.stays h (Fut.alloc _ _)⟩
theorem RGo.base {B B' : Nat} {ev : TypeId} {w : World} {cs : List Value} {x : Fc} (h : RGo B ev w cs x) (hB : B' ≤ B) : RGo B' ev w cs x := by
  obtain ⟨v, h1, h2, h3⟩ := h
  exact ⟨v, h1, h2, h3.base hB⟩
theorem OwnG.base {B B' : Nat} {e ev : TypeId} {w : World} {v : Value} {xs : List Fc} (h : OwnL 2 B e (RGo B ev) w v xs) (hB : B' ≤ B) : OwnL 2 B' e (RGo B' ev) w v xs :=
  (h.imp fun _ _ hr => hr.base hB).base hB
theorem tyVG : 29 ≠ 33 := by decide
theorem boxG_at (w : World) (s : ByteArray) (v : Value) (e : TypeId) : (w.alloc (.cells #[.string s, v] e)).cell? ⟨w.heap.size, 0, none⟩ = some (.string s) ∧ (w.alloc (.cells #[.string s, v] e)).cell? ⟨w.heap.size, 1, none⟩ = some v :=
  ⟨by go_simp, by go_simp⟩

set_option maxHeartbeats 2000000 in
set_option maxRecDepth 100000 in
theorem facts_any (a : Value) (ts : List Fc) (w : World) (ha : FacsG w a ts) (hb : ts.length ≤ 1000000000000) (hl : ∀ t ∈ ts, t.a.length ≤ 4398046511104) :
    Calls Try.prog 17 #[a] w fun e w' => ∃ v, e = .returned v ∧ OwnL 2 w.heap.size 33 (RGo w.heap.size 29) w' v (sortU cmpF ts) ∧ Fut w w' := by
  have HL := Lib.hid hl
  have HA := Lib.hid ha
  have HBN := Lib.hid hb
  have HSZ := Lib.hid ha.size
  obtain ⟨A0, cap0, rfl, _, _⟩ := SlRep.form ha
  clear hl ha hb
  go_enter Try.func17, Try.ntmps17
  go_wp2_with fail
  refine (clone_G _ ts _ HA.out (by have := HBN.out; omega)).mono ?_
  rintro e wc ⟨t, rfl, hO, h1⟩
  go_wp2_with fail
  refine (sortF_any w wc h1 t ts hO (by have := HBN.out; omega)).mono ?_
  rintro e wS ⟨rfl, ts', hperm, hsort, hT, h2⟩
  have HU := Lib.hid (sortU_congr (c := cmpF) (ord_tot ordF) (fun x => hperm.mem_iff (a := x)))
  have HL' := Lib.hid (show ∀ t ∈ ts', t.a.length ≤ 4398046511104 from fun t ht => HL.out t (hperm.mem_iff.1 ht))
  have HSZ' := Lib.hid (show ∀ t ∈ ts', t.p.size ≤ 140737488351232 from fun t ht => HSZ.out t (hperm.mem_iff.1 ht))
  have hlen := hperm.length_eq
  have HBN' := Lib.hid (show ts'.length ≤ 1000000000000 by rw [hlen]; exact HBN.out)
  have HS := Lib.hid hsort
  have H2 := Lib.hid h2
  have HT := Lib.hid hT
  obtain ⟨A, cap, rfl, hcl, hcm⟩ := SlRep.form hT
  clear hO h1 hperm hsort h2 hT hlen HA HL HBN HSZ
  go_wp2
  go_loopw [4, 13] (fun o i wr => ∃ (k : Nat) (xs : List Fc), k ≤ ts'.length ∧ i = .int .i64 k ∧ Hid (UpOf cmpF (ts'.take k) xs) ∧ Hid (xs.length ≤ k) ∧ Hid (OwnL 2 wS.heap.size 33 (RGo wS.heap.size 29) wr o xs) ∧ Hid (Fut wS wr)) (fun _ i _ => ts'.length - (intOf i).toNat)
  case atStart => exact ⟨0, [], Nat.zero_le _, rfl, Lib.hid ⟨by simp [Up], by simp⟩, Lib.hid (Nat.le_refl _), Lib.hid OwnL.nil, Lib.hid (Fut.refl _)⟩
  case round =>
    obtain ⟨k, xs, hk, rfl, hU, hxl, hO, hF⟩ := hrel
    by_cases hlt : k < ts'.length
    · obtain ⟨b, off, A', cp, rfl, _, x0, x1, hq1, hq2, hv⟩ := FacsG.at_ (HT.out.fut RG.stays hF.out) hlt
      have HV := Lib.hid hv
      have hlk := Lib.hid (HL'.out _ (List.getElem_mem hlt))
      have hpk := Lib.hid (HSZ'.out _ (List.getElem_mem hlt))
      clear hv
      by_cases hk0 : k = 0
      · subst hk0
        simp only [Nat.zero_mul, Nat.zero_add, Nat.add_zero] at x0 x1
        have hkeep := Lib.hid (UpOf.keep (ord_tot ordF) HS.out hlt hU.out (.inl rfl))
        go_wp2
        obtain ⟨t0, t1⟩ := boxG_at wr (ts'[0]'(by omega)).p (.slice A' (ts'[0]'(by omega)).a.length cp) 33
        have s0 := (Fut.alloc wr (.cells #[.string (ts'[0]'(by omega)).p, .slice A' (ts'[0]'(by omega)).a.length cp] 33)).cell x0
        have s1 := (Fut.alloc wr (.cells #[.string (ts'[0]'(by omega)).p, .slice A' (ts'[0]'(by omega)).a.length cp] 33)).cell x1
        have FWA := Lib.hid (Fut.alloc wr (.cells #[.string (ts'[0]'(by omega)).p, .slice A' (ts'[0]'(by omega)).a.length cp] 33))
        obtain ⟨W, hW⟩ : ∃ W, wr.alloc (.cells #[.string (ts'[0]'(by omega)).p, .slice A' (ts'[0]'(by omega)).a.length cp] 33) = W := ⟨_, rfl⟩
        rw [hW] at t0 t1 s0 s1 FWA ⊢
        have HVW := Lib.hid (HV.out.fut RV.stays FWA.out)
        have hOW := Lib.hid (hO.out.fut RGo.stays FWA.out)
        have FWW := Lib.hid (hF.out.trans FWA.out)
        clear hW
        refine wp_graph 12 [.d, .d, .d, .d, .d, .d, .d, .d, .d, .d, .d, .d] (by kernel_rfl) (by kernel_rfl) (by kernel_rfl) ?_
        simp only [List.take_succ_cons, List.take_zero, List.drop_succ_cons, List.drop_zero, Exs]
        iterate 12 apply Exists.intro
        apply Run.valG (wanted_none rfl _)
        · intro w1 h1 hk
          have hcw := fun b o => Below.cell (p := ⟨b, o, none⟩) h1
          go_simp; rfl
        simp only [Act.put, List.setIfInBounds_toArray, List.set_cons_succ, List.set_cons_zero, List.nil_append, List.cons_append]
        apply Run.valG (wanted_none rfl _)
        · intro w1 h1 hk
          have hcw := fun b o => Below.cell (p := ⟨b, o, none⟩) h1
          go_simp; rfl
        simp only [Act.put, List.setIfInBounds_toArray, List.set_cons_succ, List.set_cons_zero, List.nil_append, List.cons_append]
        apply Run.valG (wanted_none rfl _)
        · intro w1 h1 hk
          have hcw := fun b o => Below.cell (p := ⟨b, o, none⟩) h1
          go_simp; rfl
        simp only [Act.put, List.setIfInBounds_toArray, List.set_cons_succ, List.set_cons_zero, List.nil_append, List.cons_append]
        apply Run.skip (by go_simp)
        simp only [Act.put, List.setIfInBounds_toArray, List.set_cons_succ, List.set_cons_zero, List.nil_append, List.cons_append]
        apply Run.skip (by go_simp)
        simp only [Act.put, List.setIfInBounds_toArray, List.set_cons_succ, List.set_cons_zero, List.nil_append, List.cons_append]
        apply Run.skip (by go_simp)
        simp only [Act.put, List.setIfInBounds_toArray, List.set_cons_succ, List.set_cons_zero, List.nil_append, List.cons_append]
        apply Run.skip (by go_simp)
        simp only [Act.put, List.setIfInBounds_toArray, List.set_cons_succ, List.set_cons_zero, List.nil_append, List.cons_append]
        apply Run.skip (by go_simp)
        simp only [Act.put, List.setIfInBounds_toArray, List.set_cons_succ, List.set_cons_zero, List.nil_append, List.cons_append]
        apply Run.skip (by go_simp)
        simp only [Act.put, List.setIfInBounds_toArray, List.set_cons_succ, List.set_cons_zero, List.nil_append, List.cons_append]
        apply Run.skip (by go_simp)
        simp only [Act.put, List.setIfInBounds_toArray, List.set_cons_succ, List.set_cons_zero, List.nil_append, List.cons_append]
        apply Run.skip (by go_simp)
        simp only [Act.put, List.setIfInBounds_toArray, List.set_cons_succ, List.set_cons_zero, List.nil_append, List.cons_append]
        apply Run.valG (wanted_none rfl _)
        · intro w1 h1 hk
          have hcw := fun b o => Below.cell (p := ⟨b, o, none⟩) h1
          go_simp; rfl
        simp only [Act.put, List.setIfInBounds_toArray, List.set_cons_succ, List.set_cons_zero, List.nil_append, List.cons_append]
        apply Run.done
        intro w4 h4 hk
        clear hk
        replace t0 := h4.cell t0
        replace t1 := h4.cell t1
        replace HVW := Lib.hid (HVW.out.fut RV.stays ((Fut.drew _).trans h4))
        replace hOW := Lib.hid (hOW.out.fut RGo.stays ((Fut.drew _).trans h4))
        replace FWW := Lib.hid (FWW.out.trans ((Fut.drew _).trans h4))
        go_wp2
        refine wp_graph 8 [.d, .d, .d, .d, .d, .r (fun v w => ∃ A c, v = .slice A (ts'[0]'(by omega)).a.length c ∧ OwnV wS.heap.size 29 w v (ts'[0]'(by omega)).a), .r (fun v w => ∃ u, v = .agg #[.string (ts'[0]'(by omega)).p, u] ∧ OwnV wS.heap.size 29 w u (ts'[0]'(by omega)).a), .r (fun v w => SlRep 2 1 (RGo wS.heap.size 29) w v [(ts'[0]'(by omega))])] (by kernel_rfl) (by kernel_rfl) (by kernel_rfl) ?_
        simp only [List.take_succ_cons, List.take_zero, List.drop_succ_cons, List.drop_zero, Exs]
        iterate 5 apply Exists.intro
        apply Run.valG (wanted_none rfl _)
        · intro w1 h1 hk
          have p0 := h1.cell t0; have p1 := h1.cell t1
          have hcw := fun b o => Below.cell (p := ⟨b, o, none⟩) h1
          go_simp; rfl
        simp only [Act.put, List.setIfInBounds_toArray, List.set_cons_succ, List.set_cons_zero, List.nil_append, List.cons_append]
        apply Run.valG (wanted_none rfl _)
        · intro w1 h1 hk
          have p0 := h1.cell t0; have p1 := h1.cell t1
          have hcw := fun b o => Below.cell (p := ⟨b, o, none⟩) h1
          go_simp; rfl
        simp only [Act.put, List.setIfInBounds_toArray, List.set_cons_succ, List.set_cons_zero, List.nil_append, List.cons_append]
        apply Run.valG (wanted_none rfl _)
        · intro w1 h1 hk
          have p0 := h1.cell t0; have p1 := h1.cell t1
          have hcw := fun b o => Below.cell (p := ⟨b, o, none⟩) h1
          go_simp; rfl
        simp only [Act.put, List.setIfInBounds_toArray, List.set_cons_succ, List.set_cons_zero, List.nil_append, List.cons_append]
        apply Run.valG (wanted_none rfl _)
        · intro w1 h1 hk
          have p0 := h1.cell t0; have p1 := h1.cell t1
          have hcw := fun b o => Below.cell (p := ⟨b, o, none⟩) h1
          go_simp; rfl
        simp only [Act.put, List.setIfInBounds_toArray, List.set_cons_succ, List.set_cons_zero, List.nil_append, List.cons_append]
        apply Run.valG (wanted_none rfl _)
        · intro w1 h1 hk
          have p0 := h1.cell t0; have p1 := h1.cell t1
          have hcw := fun b o => Below.cell (p := ⟨b, o, none⟩) h1
          go_simp; rfl
        simp only [Act.put, List.setIfInBounds_toArray, List.set_cons_succ, List.set_cons_zero, List.nil_append, List.cons_append]
        apply Run.callR (wanted_none rfl _) (by intro v w w' hf hs; exact by obtain ⟨A, c, h3, h4⟩ := hs; exact ⟨A, c, h3, h4.fut RV.stays hf⟩) (fun _ _ => by go_simp; exact ⟨rfl, rfl⟩)
        · intro w1 h1 hk
          have p0 := h1.cell t0; have p1 := h1.cell t1
          exact (clone_V _ (ts'[0]'(by omega)).a _ (HVW.out.fut RV.stays ((Fut.drew _).trans h1)) hlk.out).mono fun e w' ⟨v, h3, h4, h6⟩ => by obtain ⟨A6, c6, h7, _, _⟩ := SlRep.form (OwnV.vals h4); exact ⟨v, h3, h6, A6, c6, h7, OwnL.base h4 (((FWW.out.trans (Fut.drew _)).trans h1).size)⟩
        intro v5
        simp only [Act.put, List.setIfInBounds_toArray, List.set_cons_succ, List.set_cons_zero, List.nil_append, List.cons_append]
        apply Run.valR (wanted_none rfl _) (by intro v w w' hf hs; exact by obtain ⟨u, h3, h4⟩ := hs; exact ⟨u, h3, h4.fut RV.stays hf⟩)
        · intro w1 h1 hk
          have f5 := Facts.get hk 0 rfl (by kernel_rfl)
          have p0 := h1.cell t0; have p1 := h1.cell t1
          obtain ⟨A5, c5, rfl, hO5⟩ := f5; go_simp; exact ⟨_, _, ⟨rfl, rfl⟩, Fut.refl _, _, rfl, hO5⟩
        intro v6
        simp only [Act.put, List.setIfInBounds_toArray, List.set_cons_succ, List.set_cons_zero, List.nil_append, List.cons_append]
        apply Run.valR (wanted_none rfl _) (by intro v w w' hf hs; exact hs.fut RGo.stays hf)
        · intro w1 h1 hk
          have f6 := Facts.get hk 1 rfl (by kernel_rfl)
          have p0 := h1.cell t0; have p1 := h1.cell t1
          obtain ⟨u6, rfl, hO6⟩ := f6; go_simp; exact ⟨_, _, ⟨rfl, rfl⟩, Fut.alloc _ _, fac_one _ hpk.out hO6⟩
        intro v7
        simp only [Act.put, List.setIfInBounds_toArray, List.set_cons_succ, List.set_cons_zero, List.nil_append, List.cons_append]
        apply Run.done
        intro w5 h5 hk
        obtain ⟨f5, f6, f7, _⟩ := hk
        have f7' := Lib.hid f7
        have OO := Lib.hid (hOW.out.fut RGo.stays ((Fut.drew _).trans h5))
        have F5 := Lib.hid (FWW.out.trans ((Fut.drew _).trans h5))
        clear f5 f6 f7
        go_wp2_with (at_builtin; refine wpList_append_L (R := RGo wS.heap.size 29) (B := wS.heap.size) (xs := xs) (ys := [(ts'[0]'(by omega))]) (e := 33) (by go_simp) _ _ 25 rfl Try.underlying25 (.agg #[.string ⟨#[]⟩, .slice none 0 0]) 40 infoG rfl (by decide) RGo.one (RGo.keeps tyVG) rfl rfl OO.out f7'.out ?l1 ?l2 ?b1 ?k1)
        case l1 => have := hxl.out; have := HBN'.out; simp [maxLen]; omega
        case l2 => have := hxl.out; have := HBN'.out; simp; omega
        case b1 => have := F5.out.size; simp; omega
        case k1 =>
        intro v' w' o' g'
        have F' := Lib.hid (Fut.grown F5.out g' (fun k hk => (OO.out.block k hk).1))
        have O' := Lib.hid o'
        have X' := Lib.hid (show (xs ++ [(ts'[0]'(by omega))]).length ≤ 0 + 1 by have := hxl.out; rw [List.length_append, List.length_singleton]; omega)
        clear g' o'
        go_wp2
        exact ⟨⟨0 + 1, _, by omega, by go_num, hkeep, X', O', F'⟩, by simp [intOf] <;> omega⟩
      · obtain ⟨m, rfl⟩ : ∃ m, k = m + 1 := ⟨k - 1, by omega⟩
        obtain ⟨b', off', B', cp', he, _, y0, y1, hq3, hq4, hv'⟩ := FacsG.at_ (HT.out.fut RG.stays hF.out) (show m < ts'.length by omega)
        injection he with he
        injection he with he1 he2
        subst he1; subst he2
        have HV' := Lib.hid hv'
        clear hv'
        have e1 : ¬ (m : Int) + 1 = 0 := by omega
        have e2 : IntKind.i64.wrap (m : Int) = m := by have := HBN'.out; rw [IntKind.wrap_i64]; omega
        have e3 : (0 : Int) ≤ m ∧ (m : Int) < ts'.length := by omega
        go_wp2
        obtain ⟨t0, t1⟩ := boxG_at wr (ts'[m + 1]'(by omega)).p (.slice A' (ts'[m + 1]'(by omega)).a.length cp) 33
        have s0 := (Fut.alloc wr (.cells #[.string (ts'[m + 1]'(by omega)).p, .slice A' (ts'[m + 1]'(by omega)).a.length cp] 33)).cell x0
        have s1 := (Fut.alloc wr (.cells #[.string (ts'[m + 1]'(by omega)).p, .slice A' (ts'[m + 1]'(by omega)).a.length cp] 33)).cell x1
        have FWA := Lib.hid (Fut.alloc wr (.cells #[.string (ts'[m + 1]'(by omega)).p, .slice A' (ts'[m + 1]'(by omega)).a.length cp] 33))
        obtain ⟨W, hW⟩ : ∃ W, wr.alloc (.cells #[.string (ts'[m + 1]'(by omega)).p, .slice A' (ts'[m + 1]'(by omega)).a.length cp] 33) = W := ⟨_, rfl⟩
        rw [hW] at t0 t1 s0 s1 FWA ⊢
        have HVW := Lib.hid (HV.out.fut RV.stays FWA.out)
        have hOW := Lib.hid (hO.out.fut RGo.stays FWA.out)
        have FWW := Lib.hid (hF.out.trans FWA.out)
        replace y0 := FWA.out.cell y0
        replace y1 := FWA.out.cell y1
        have HVW' := Lib.hid (HV'.out.fut RV.stays FWA.out)
        clear hW
        by_cases hc : cmpF (ts'[m]'(by omega)) (ts'[m + 1]'(by omega)) = 0
        · have hdrop := Lib.hid (UpOf.drop (ord_tot ordF) hlt hU.out (Nat.succ_pos _) hc)
          have d1 : (cmpF (ts'[m]'(by omega)) (ts'[m + 1]'(by omega)) != 0) = false := by simpa using hc
          have X' := Lib.hid (Nat.le_succ_of_le hxl.out)
          clear hc
          refine wp_graph 12 [.d, .d, .d, .d, .d, .d, .d, .d, .d, .d, .d, .d] (by kernel_rfl) (by kernel_rfl) (by kernel_rfl) ?_
          simp only [List.take_succ_cons, List.take_zero, List.drop_succ_cons, List.drop_zero, Exs]
          iterate 12 apply Exists.intro
          apply Run.valG (wanted_none rfl _)
          · intro w1 h1 hk
            have p0 := h1.cell t0; have p1 := h1.cell t1; have q0 := h1.cell y0; have q1 := h1.cell y1
            have hcw := fun b o => Below.cell (p := ⟨b, o, none⟩) h1
            go_simp; rfl
          simp only [Act.put, List.setIfInBounds_toArray, List.set_cons_succ, List.set_cons_zero, List.nil_append, List.cons_append]
          apply Run.valG (wanted_none rfl _)
          · intro w1 h1 hk
            have p0 := h1.cell t0; have p1 := h1.cell t1; have q0 := h1.cell y0; have q1 := h1.cell y1
            have hcw := fun b o => Below.cell (p := ⟨b, o, none⟩) h1
            go_simp; rfl
          simp only [Act.put, List.setIfInBounds_toArray, List.set_cons_succ, List.set_cons_zero, List.nil_append, List.cons_append]
          apply Run.valG (wanted_none rfl _)
          · intro w1 h1 hk
            have p0 := h1.cell t0; have p1 := h1.cell t1; have q0 := h1.cell y0; have q1 := h1.cell y1
            have hcw := fun b o => Below.cell (p := ⟨b, o, none⟩) h1
            go_simp; rfl
          simp only [Act.put, List.setIfInBounds_toArray, List.set_cons_succ, List.set_cons_zero, List.nil_append, List.cons_append]
          apply Run.valG (by go_simp)
          · intro w1 h1 hk
            have p0 := h1.cell t0; have p1 := h1.cell t1; have q0 := h1.cell y0; have q1 := h1.cell y1
            have hcw := fun b o => Below.cell (p := ⟨b, o, none⟩) h1
            go_simp; rfl
          simp only [Act.put, List.setIfInBounds_toArray, List.set_cons_succ, List.set_cons_zero, List.nil_append, List.cons_append]
          apply Run.valG (by go_simp)
          · intro w1 h1 hk
            have p0 := h1.cell t0; have p1 := h1.cell t1; have q0 := h1.cell y0; have q1 := h1.cell y1
            have hcw := fun b o => Below.cell (p := ⟨b, o, none⟩) h1
            go_simp; rfl
          simp only [Act.put, List.setIfInBounds_toArray, List.set_cons_succ, List.set_cons_zero, List.nil_append, List.cons_append]
          apply Run.valG (by go_simp)
          · intro w1 h1 hk
            have p0 := h1.cell t0; have p1 := h1.cell t1; have q0 := h1.cell y0; have q1 := h1.cell y1
            have hcw := fun b o => Below.cell (p := ⟨b, o, none⟩) h1
            go_simp; rfl
          simp only [Act.put, List.setIfInBounds_toArray, List.set_cons_succ, List.set_cons_zero, List.nil_append, List.cons_append]
          apply Run.valG (by go_simp)
          · intro w1 h1 hk
            have p0 := h1.cell t0; have p1 := h1.cell t1; have q0 := h1.cell y0; have q1 := h1.cell y1
            have hcw := fun b o => Below.cell (p := ⟨b, o, none⟩) h1
            go_simp; rfl
          simp only [Act.put, List.setIfInBounds_toArray, List.set_cons_succ, List.set_cons_zero, List.nil_append, List.cons_append]
          apply Run.valG (by go_simp)
          · intro w1 h1 hk
            have p0 := h1.cell t0; have p1 := h1.cell t1; have q0 := h1.cell y0; have q1 := h1.cell y1
            have hcw := fun b o => Below.cell (p := ⟨b, o, none⟩) h1
            go_simp; rfl
          simp only [Act.put, List.setIfInBounds_toArray, List.set_cons_succ, List.set_cons_zero, List.nil_append, List.cons_append]
          apply Run.valG (by go_simp)
          · intro w1 h1 hk
            have p0 := h1.cell t0; have p1 := h1.cell t1; have q0 := h1.cell y0; have q1 := h1.cell y1
            have hcw := fun b o => Below.cell (p := ⟨b, o, none⟩) h1
            go_simp; rfl
          simp only [Act.put, List.setIfInBounds_toArray, List.set_cons_succ, List.set_cons_zero, List.nil_append, List.cons_append]
          apply Run.call (by go_simp) (fun _ _ => by go_simp; exact ⟨rfl, rfl⟩)
          · intro w1 h1 hk
            have p0 := h1.cell t0; have p1 := h1.cell t1; have q0 := h1.cell y0; have q1 := h1.cell y1
            exact cmpF_any (ts'[m]'(by omega)) (ts'[m + 1]'(by omega)) _ _ _ (HVW'.out.fut RV.stays ((Fut.drew _).trans h1)) (HVW.out.fut RV.stays ((Fut.drew _).trans h1))
          simp only [Act.put, List.setIfInBounds_toArray, List.set_cons_succ, List.set_cons_zero, List.nil_append, List.cons_append]
          apply Run.valG (by go_simp)
          · intro w1 h1 hk
            have p0 := h1.cell t0; have p1 := h1.cell t1; have q0 := h1.cell y0; have q1 := h1.cell y1
            have hcw := fun b o => Below.cell (p := ⟨b, o, none⟩) h1
            go_simp; rfl
          simp only [Act.put, List.setIfInBounds_toArray, List.set_cons_succ, List.set_cons_zero, List.nil_append, List.cons_append]
          apply Run.valG (wanted_none rfl _)
          · intro w1 h1 hk
            have p0 := h1.cell t0; have p1 := h1.cell t1; have q0 := h1.cell y0; have q1 := h1.cell y1
            have hcw := fun b o => Below.cell (p := ⟨b, o, none⟩) h1
            go_simp; rfl
          simp only [Act.put, List.setIfInBounds_toArray, List.set_cons_succ, List.set_cons_zero, List.nil_append, List.cons_append]
          apply Run.done
          intro w4 h4 hk
          clear hk
          go_wp2
          exact ⟨⟨m + 1 + 1, xs, by omega, by go_num, hdrop, X', Lib.hid (hOW.out.fut RGo.stays ((Fut.drew _).trans h4)), Lib.hid (FWW.out.trans ((Fut.drew _).trans h4))⟩, by simp [intOf] <;> omega⟩
        · have hkeep := Lib.hid (UpOf.keep (ord_tot ordF) HS.out hlt hU.out (.inr ⟨by omega, hc⟩))
          have d1 : (cmpF (ts'[m]'(by omega)) (ts'[m + 1]'(by omega)) != 0) = true := by simpa using hc
          clear hc
          refine wp_graph 12 [.d, .d, .d, .d, .d, .d, .d, .d, .d, .d, .d, .d] (by kernel_rfl) (by kernel_rfl) (by kernel_rfl) ?_
          simp only [List.take_succ_cons, List.take_zero, List.drop_succ_cons, List.drop_zero, Exs]
          iterate 12 apply Exists.intro
          apply Run.valG (wanted_none rfl _)
          · intro w1 h1 hk
            have p0 := h1.cell t0; have p1 := h1.cell t1; have q0 := h1.cell y0; have q1 := h1.cell y1
            have hcw := fun b o => Below.cell (p := ⟨b, o, none⟩) h1
            go_simp; rfl
          simp only [Act.put, List.setIfInBounds_toArray, List.set_cons_succ, List.set_cons_zero, List.nil_append, List.cons_append]
          apply Run.valG (wanted_none rfl _)
          · intro w1 h1 hk
            have p0 := h1.cell t0; have p1 := h1.cell t1; have q0 := h1.cell y0; have q1 := h1.cell y1
            have hcw := fun b o => Below.cell (p := ⟨b, o, none⟩) h1
            go_simp; rfl
          simp only [Act.put, List.setIfInBounds_toArray, List.set_cons_succ, List.set_cons_zero, List.nil_append, List.cons_append]
          apply Run.valG (wanted_none rfl _)
          · intro w1 h1 hk
            have p0 := h1.cell t0; have p1 := h1.cell t1; have q0 := h1.cell y0; have q1 := h1.cell y1
            have hcw := fun b o => Below.cell (p := ⟨b, o, none⟩) h1
            go_simp; rfl
          simp only [Act.put, List.setIfInBounds_toArray, List.set_cons_succ, List.set_cons_zero, List.nil_append, List.cons_append]
          apply Run.valG (by go_simp)
          · intro w1 h1 hk
            have p0 := h1.cell t0; have p1 := h1.cell t1; have q0 := h1.cell y0; have q1 := h1.cell y1
            have hcw := fun b o => Below.cell (p := ⟨b, o, none⟩) h1
            go_simp; rfl
          simp only [Act.put, List.setIfInBounds_toArray, List.set_cons_succ, List.set_cons_zero, List.nil_append, List.cons_append]
          apply Run.valG (by go_simp)
          · intro w1 h1 hk
            have p0 := h1.cell t0; have p1 := h1.cell t1; have q0 := h1.cell y0; have q1 := h1.cell y1
            have hcw := fun b o => Below.cell (p := ⟨b, o, none⟩) h1
            go_simp; rfl
          simp only [Act.put, List.setIfInBounds_toArray, List.set_cons_succ, List.set_cons_zero, List.nil_append, List.cons_append]
          apply Run.valG (by go_simp)
          · intro w1 h1 hk
            have p0 := h1.cell t0; have p1 := h1.cell t1; have q0 := h1.cell y0; have q1 := h1.cell y1
            have hcw := fun b o => Below.cell (p := ⟨b, o, none⟩) h1
            go_simp; rfl
          simp only [Act.put, List.setIfInBounds_toArray, List.set_cons_succ, List.set_cons_zero, List.nil_append, List.cons_append]
          apply Run.valG (by go_simp)
          · intro w1 h1 hk
            have p0 := h1.cell t0; have p1 := h1.cell t1; have q0 := h1.cell y0; have q1 := h1.cell y1
            have hcw := fun b o => Below.cell (p := ⟨b, o, none⟩) h1
            go_simp; rfl
          simp only [Act.put, List.setIfInBounds_toArray, List.set_cons_succ, List.set_cons_zero, List.nil_append, List.cons_append]
          apply Run.valG (by go_simp)
          · intro w1 h1 hk
            have p0 := h1.cell t0; have p1 := h1.cell t1; have q0 := h1.cell y0; have q1 := h1.cell y1
            have hcw := fun b o => Below.cell (p := ⟨b, o, none⟩) h1
            go_simp; rfl
          simp only [Act.put, List.setIfInBounds_toArray, List.set_cons_succ, List.set_cons_zero, List.nil_append, List.cons_append]
          apply Run.valG (by go_simp)
          · intro w1 h1 hk
            have p0 := h1.cell t0; have p1 := h1.cell t1; have q0 := h1.cell y0; have q1 := h1.cell y1
            have hcw := fun b o => Below.cell (p := ⟨b, o, none⟩) h1
            go_simp; rfl
          simp only [Act.put, List.setIfInBounds_toArray, List.set_cons_succ, List.set_cons_zero, List.nil_append, List.cons_append]
          apply Run.call (by go_simp) (fun _ _ => by go_simp; exact ⟨rfl, rfl⟩)
          · intro w1 h1 hk
            have p0 := h1.cell t0; have p1 := h1.cell t1; have q0 := h1.cell y0; have q1 := h1.cell y1
            exact cmpF_any (ts'[m]'(by omega)) (ts'[m + 1]'(by omega)) _ _ _ (HVW'.out.fut RV.stays ((Fut.drew _).trans h1)) (HVW.out.fut RV.stays ((Fut.drew _).trans h1))
          simp only [Act.put, List.setIfInBounds_toArray, List.set_cons_succ, List.set_cons_zero, List.nil_append, List.cons_append]
          apply Run.valG (by go_simp)
          · intro w1 h1 hk
            have p0 := h1.cell t0; have p1 := h1.cell t1; have q0 := h1.cell y0; have q1 := h1.cell y1
            have hcw := fun b o => Below.cell (p := ⟨b, o, none⟩) h1
            go_simp; rfl
          simp only [Act.put, List.setIfInBounds_toArray, List.set_cons_succ, List.set_cons_zero, List.nil_append, List.cons_append]
          apply Run.valG (wanted_none rfl _)
          · intro w1 h1 hk
            have p0 := h1.cell t0; have p1 := h1.cell t1; have q0 := h1.cell y0; have q1 := h1.cell y1
            have hcw := fun b o => Below.cell (p := ⟨b, o, none⟩) h1
            go_simp; rfl
          simp only [Act.put, List.setIfInBounds_toArray, List.set_cons_succ, List.set_cons_zero, List.nil_append, List.cons_append]
          apply Run.done
          intro w4 h4 hk
          clear hk
          replace t0 := h4.cell t0
          replace t1 := h4.cell t1
          replace HVW := Lib.hid (HVW.out.fut RV.stays ((Fut.drew _).trans h4))
          replace hOW := Lib.hid (hOW.out.fut RGo.stays ((Fut.drew _).trans h4))
          replace FWW := Lib.hid (FWW.out.trans ((Fut.drew _).trans h4))
          go_wp2
          refine wp_graph 8 [.d, .d, .d, .d, .d, .r (fun v w => ∃ A c, v = .slice A (ts'[m + 1]'(by omega)).a.length c ∧ OwnV wS.heap.size 29 w v (ts'[m + 1]'(by omega)).a), .r (fun v w => ∃ u, v = .agg #[.string (ts'[m + 1]'(by omega)).p, u] ∧ OwnV wS.heap.size 29 w u (ts'[m + 1]'(by omega)).a), .r (fun v w => SlRep 2 1 (RGo wS.heap.size 29) w v [(ts'[m + 1]'(by omega))])] (by kernel_rfl) (by kernel_rfl) (by kernel_rfl) ?_
          simp only [List.take_succ_cons, List.take_zero, List.drop_succ_cons, List.drop_zero, Exs]
          iterate 5 apply Exists.intro
          apply Run.valG (wanted_none rfl _)
          · intro w1 h1 hk
            have p0 := h1.cell t0; have p1 := h1.cell t1
            have hcw := fun b o => Below.cell (p := ⟨b, o, none⟩) h1
            go_simp; rfl
          simp only [Act.put, List.setIfInBounds_toArray, List.set_cons_succ, List.set_cons_zero, List.nil_append, List.cons_append]
          apply Run.valG (wanted_none rfl _)
          · intro w1 h1 hk
            have p0 := h1.cell t0; have p1 := h1.cell t1
            have hcw := fun b o => Below.cell (p := ⟨b, o, none⟩) h1
            go_simp; rfl
          simp only [Act.put, List.setIfInBounds_toArray, List.set_cons_succ, List.set_cons_zero, List.nil_append, List.cons_append]
          apply Run.valG (wanted_none rfl _)
          · intro w1 h1 hk
            have p0 := h1.cell t0; have p1 := h1.cell t1
            have hcw := fun b o => Below.cell (p := ⟨b, o, none⟩) h1
            go_simp; rfl
          simp only [Act.put, List.setIfInBounds_toArray, List.set_cons_succ, List.set_cons_zero, List.nil_append, List.cons_append]
          apply Run.valG (wanted_none rfl _)
          · intro w1 h1 hk
            have p0 := h1.cell t0; have p1 := h1.cell t1
            have hcw := fun b o => Below.cell (p := ⟨b, o, none⟩) h1
            go_simp; rfl
          simp only [Act.put, List.setIfInBounds_toArray, List.set_cons_succ, List.set_cons_zero, List.nil_append, List.cons_append]
          apply Run.valG (wanted_none rfl _)
          · intro w1 h1 hk
            have p0 := h1.cell t0; have p1 := h1.cell t1
            have hcw := fun b o => Below.cell (p := ⟨b, o, none⟩) h1
            go_simp; rfl
          simp only [Act.put, List.setIfInBounds_toArray, List.set_cons_succ, List.set_cons_zero, List.nil_append, List.cons_append]
          apply Run.callR (wanted_none rfl _) (by intro v w w' hf hs; exact by obtain ⟨A, c, h3, h4⟩ := hs; exact ⟨A, c, h3, h4.fut RV.stays hf⟩) (fun _ _ => by go_simp; exact ⟨rfl, rfl⟩)
          · intro w1 h1 hk
            have p0 := h1.cell t0; have p1 := h1.cell t1
            exact (clone_V _ (ts'[m + 1]'(by omega)).a _ (HVW.out.fut RV.stays ((Fut.drew _).trans h1)) hlk.out).mono fun e w' ⟨v, h3, h4, h6⟩ => by obtain ⟨A6, c6, h7, _, _⟩ := SlRep.form (OwnV.vals h4); exact ⟨v, h3, h6, A6, c6, h7, OwnL.base h4 (((FWW.out.trans (Fut.drew _)).trans h1).size)⟩
          intro v5
          simp only [Act.put, List.setIfInBounds_toArray, List.set_cons_succ, List.set_cons_zero, List.nil_append, List.cons_append]
          apply Run.valR (wanted_none rfl _) (by intro v w w' hf hs; exact by obtain ⟨u, h3, h4⟩ := hs; exact ⟨u, h3, h4.fut RV.stays hf⟩)
          · intro w1 h1 hk
            have f5 := Facts.get hk 0 rfl (by kernel_rfl)
            have p0 := h1.cell t0; have p1 := h1.cell t1
            obtain ⟨A5, c5, rfl, hO5⟩ := f5; go_simp; exact ⟨_, _, ⟨rfl, rfl⟩, Fut.refl _, _, rfl, hO5⟩
          intro v6
          simp only [Act.put, List.setIfInBounds_toArray, List.set_cons_succ, List.set_cons_zero, List.nil_append, List.cons_append]
          apply Run.valR (wanted_none rfl _) (by intro v w w' hf hs; exact hs.fut RGo.stays hf)
          · intro w1 h1 hk
            have f6 := Facts.get hk 1 rfl (by kernel_rfl)
            have p0 := h1.cell t0; have p1 := h1.cell t1
            obtain ⟨u6, rfl, hO6⟩ := f6; go_simp; exact ⟨_, _, ⟨rfl, rfl⟩, Fut.alloc _ _, fac_one _ hpk.out hO6⟩
          intro v7
          simp only [Act.put, List.setIfInBounds_toArray, List.set_cons_succ, List.set_cons_zero, List.nil_append, List.cons_append]
          apply Run.done
          intro w5 h5 hk
          obtain ⟨f5, f6, f7, _⟩ := hk
          have f7' := Lib.hid f7
          have OO := Lib.hid (hOW.out.fut RGo.stays ((Fut.drew _).trans h5))
          have F5 := Lib.hid (FWW.out.trans ((Fut.drew _).trans h5))
          clear f5 f6 f7
          go_wp2_with (at_builtin; refine wpList_append_L (R := RGo wS.heap.size 29) (B := wS.heap.size) (xs := xs) (ys := [(ts'[m + 1]'(by omega))]) (e := 33) (by go_simp) _ _ 25 rfl Try.underlying25 (.agg #[.string ⟨#[]⟩, .slice none 0 0]) 40 infoG rfl (by decide) RGo.one (RGo.keeps tyVG) rfl rfl OO.out f7'.out ?l1 ?l2 ?b1 ?k1)
          case l1 => have := hxl.out; have := HBN'.out; simp [maxLen]; omega
          case l2 => have := hxl.out; have := HBN'.out; simp; omega
          case b1 => have := F5.out.size; simp; omega
          case k1 =>
          intro v' w' o' g'
          have F' := Lib.hid (Fut.grown F5.out g' (fun k hk => (OO.out.block k hk).1))
          have O' := Lib.hid o'
          have X' := Lib.hid (show (xs ++ [(ts'[m + 1]'(by omega))]).length ≤ m + 1 + 1 by have := hxl.out; rw [List.length_append, List.length_singleton]; omega)
          clear g' o'
          go_wp2
          exact ⟨⟨m + 1 + 1, _, by omega, by go_num, hkeep, X', O', F'⟩, by simp [intOf] <;> omega⟩
    · obtain rfl : k = ts'.length := by omega
      have hR := Lib.hid (show sortU cmpF ts = xs by
        have h3 := hU.out
        rw [List.take_length] at h3
        rw [← HU.out]; exact (h3.eq (ord_tot ordF)).symm)
      go_wp2
      go_ret
      exact ⟨_, rfl, by rw [hR.out]; exact OwnG.base hO.out H2.out.size, H2.out.trans hF.out⟩
end Go.Proofs.Ytkdnplebgmmclaa
