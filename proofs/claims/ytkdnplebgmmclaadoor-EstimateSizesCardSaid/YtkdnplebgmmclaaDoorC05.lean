/- Vals, KeyV, Row, Range -/
import Derived.Deep.QuietTactic
import Derived.BigQuiet
import Derived.DeepKeys4
import Derived.WideKeyArr2
import Derived.Maps.Keyed
import Derived.Laws.StructEq
import Derived.Laws.Rows
import Derived.RangeFuncNested
import Derived.RangeFuncLeaves
import Derived.Test.YtkdnplebgmmclaaDoorC04
/- Lists of values: SameValues, TwinValues, LeftValues; the order of tuples, of the program and of the reference. -/
namespace Go.Proofs.YtkdnplebgmmclaaDoor
open Go.RowKit
set_option linter.unusedSimpArgs false
set_option linter.unusedVariables false

instance : DecidableEq V := fun x y =>
  if h : x.k = y.k ∧ x.n = y.n ∧ x.s.toList = y.s.toList then
    .isTrue (by obtain ⟨k, n, s⟩ := x; obtain ⟨k', n', s'⟩ := y; simp only at h; obtain ⟨rfl, rfl, h⟩ := h; rw [ByteArray.toList_eq, ByteArray.toList_eq] at h; rw [WideShapes.bytes_inj h])
  else .isFalse (fun e => h (by subst e; exact ⟨rfl, rfl, rfl⟩))
theorem V.eq_iff (x y : V) : x = y ↔ x.k = y.k ∧ x.n = y.n ∧ x.s.toList = y.s.toList :=
  ⟨fun e => by subst e; exact ⟨rfl, rfl, rfl⟩, fun h => by obtain ⟨k, n, s⟩ := x; obtain ⟨k', n', s'⟩ := y; simp only at h; obtain ⟨rfl, rfl, h⟩ := h; rw [ByteArray.toList_eq, ByteArray.toList_eq] at h; rw [WideShapes.bytes_inj h]⟩

/-- Two structs held against each other. -/
theorem exec_eqV {o : Oper} {a : Act} {X Y : Operand} (ho : o.op = .binOp .eql 52 X Y 52) (x y : V) (hx : a.eval X = x.val) (hy : a.eval Y = y.val) (w : World) :
    (execOp a.eval o).run Tryd.prog w = .ok (.value (.bool (decide (x = y)))) w := by
  obtain ⟨k, n, s⟩ := x
  obtain ⟨k', n', s'⟩ := y
  unfold execOp
  rw [ho]
  simp only [hx, hy, V.val]
  by_cases h1 : k = k'
  · by_cases h2 : n = n'
    · by_cases h3 : s.toList = s'.toList
      · have hd : decide ((⟨k, n, s⟩ : V) = ⟨k', n', s'⟩) = true := decide_eq_true ((V.eq_iff _ _).2 ⟨h1, h2, h3⟩)
        rw [hd]
        go_simp
      · have hd : decide ((⟨k, n, s⟩ : V) = ⟨k', n', s'⟩) = false := decide_eq_false fun e => h3 ((V.eq_iff _ _).1 e).2.2
        rw [hd]
        go_simp
    · have hd : decide ((⟨k, n, s⟩ : V) = ⟨k', n', s'⟩) = false := decide_eq_false fun e => h2 ((V.eq_iff _ _).1 e).2.1
      have h2' : (n == n') = false := by simpa using h2
      rw [hd]
      go_simp
  · have hd : decide ((⟨k, n, s⟩ : V) = ⟨k', n', s'⟩) = false := decide_eq_false fun e => h1 ((V.eq_iff _ _).1 e).1
    have h1' : (k == k') = false := by simpa using h1
    rw [hd]
    go_simp
theorem exec_neV {o : Oper} {a : Act} {X Y : Operand} (ho : o.op = .binOp .neq 52 X Y 52) (x y : V) (hx : a.eval X = x.val) (hy : a.eval Y = y.val) (w : World) :
    (execOp a.eval o).run Tryd.prog w = .ok (.value (.bool (!decide (x = y)))) w := by
  obtain ⟨k, n, s⟩ := x
  obtain ⟨k', n', s'⟩ := y
  unfold execOp
  rw [ho]
  simp only [hx, hy, V.val]
  by_cases h1 : k = k'
  · by_cases h2 : n = n'
    · by_cases h3 : s.toList = s'.toList
      · have hd : decide ((⟨k, n, s⟩ : V) = ⟨k', n', s'⟩) = true := decide_eq_true ((V.eq_iff _ _).2 ⟨h1, h2, h3⟩)
        rw [hd]
        go_simp
      · have hd : decide ((⟨k, n, s⟩ : V) = ⟨k', n', s'⟩) = false := decide_eq_false fun e => h3 ((V.eq_iff _ _).1 e).2.2
        rw [hd]
        go_simp
    · have hd : decide ((⟨k, n, s⟩ : V) = ⟨k', n', s'⟩) = false := decide_eq_false fun e => h2 ((V.eq_iff _ _).1 e).2.1
      have h2' : (n == n') = false := by simpa using h2
      rw [hd]
      go_simp
  · have hd : decide ((⟨k, n, s⟩ : V) = ⟨k', n', s'⟩) = false := decide_eq_false fun e => h1 ((V.eq_iff _ _).1 e).1
    have h1' : (k == k') = false := by simpa using h1
    rw [hd]
    go_simp

theorem Vals.at_ {w : World} {A : Option Addr} {n cap : Nat} {xs : List V} (h : Vals w (.slice A n cap) xs) {k : Nat} (hk : k < xs.length) :
    ∃ b off, A = some ⟨b, off, none⟩ ∧ (xs[k]).ok ∧ w.cell? ⟨b, off + k * 3, none⟩ = some (.int .i8 (xs[k]).k) ∧ w.cell? ⟨b, off + k * 3 + 1, none⟩ = some (.int .i64 (xs[k]).n) ∧ w.cell? ⟨b, off + k * 3 + 2, none⟩ = some (.string (xs[k]).s) := by
  obtain ⟨A', cap', hv, _, _, h3⟩ := h
  obtain ⟨b, off, cs, hA, hl, hc, hr, hok⟩ := h3 k _ (List.getElem?_eq_getElem hk)
  injection hv with hv _ _
  subst hr
  exact ⟨b, off, hv.trans hA, hok, hc 0 _ rfl, hc 1 _ rfl, hc 2 _ rfl⟩

theorem take_succ_eq {xs ys : List V} {k : Nat} (hx : k < xs.length) (hy : k < ys.length) (h : xs.take k = ys.take k) (he : xs[k] = ys[k]) : xs.take (k + 1) = ys.take (k + 1) := by
  rw [List.take_succ_eq_append_getElem hx, List.take_succ_eq_append_getElem hy, h, he]

set_option maxHeartbeats 400000 in
theorem same_any (a b : Value) (xs ys : List V) (w : World) (ha : Vals w a xs) (hb : Vals w b ys) :
    Calls Tryd.prog 50 #[a, b] w fun e w' => e = .returned (.bool (decide (xs = ys))) ∧ Fut w w' := by
  obtain ⟨A, cap, rfl, hl, hm⟩ := SlRep.form ha
  obtain ⟨B, cap', rfl, hl', hm'⟩ := SlRep.form hb
  by_cases hn : xs.length = ys.length
  · have hne : (((xs.length : Nat) : Int) != (ys.length : Nat)) = false := by rw [hn, bne_self_eq_false]
    have HN := Lib.hid hn
    have hle : xs.length ≤ ys.length := by omega
    clear hn
    go_enter Tryd.func50, Tryd.ntmps50
    go_wp2
    go_loopw [5] (fun i wr => ∃ k : Nat, k ≤ xs.length ∧ i = .int .i64 k ∧ Hid (xs.take k = ys.take k) ∧ Hid (Fut w wr)) (fun i _ => xs.length - (intOf i).toNat)
    case atStart => exact ⟨0, Nat.zero_le _, rfl, rfl, Fut.refl w⟩
    case round =>
      obtain ⟨k, hk, rfl, ht, hf⟩ := hrel
      by_cases hlt : k < xs.length
      · have hlt' : k < ys.length := by omega
        obtain ⟨b, off, rfl, _, x0, x1, x2⟩ := Vals.at_ (ha.fut RV.stays hf.out) hlt
        obtain ⟨b', off', rfl, _, y0, y1, y2⟩ := Vals.at_ (hb.fut RV.stays hf.out) hlt'
        by_cases he : xs[k] = ys[k]
        · have hd : decide (xs[k] = ys[k]) = true := decide_eq_true he
          have HE := Lib.hid he
          clear he
          go_wp2
          refine wp_graph 9 [.d, .d, .d, .d, .d, .d, .d, .d, .d] (by kernel_rfl) (by kernel_rfl) (by kernel_rfl) ?_
          simp only [List.take_succ_cons, List.take_zero, List.drop_succ_cons, List.drop_zero, Exs]
          iterate 9 apply Exists.intro
          apply Run.valG (wanted_none rfl _)
          · intro w1 h1 hk
            have q0 := h1.cell x0; have q1 := h1.cell x1; have q2 := h1.cell x2; have r0 := h1.cell y0; have r1 := h1.cell y1; have r2 := h1.cell y2
            have hcw := fun b o => Below.cell (p := ⟨b, o, none⟩) h1
            go_simp; rfl
          simp only [Act.put, List.setIfInBounds_toArray, List.set_cons_succ, List.set_cons_zero, List.nil_append, List.cons_append]
          apply Run.valG (wanted_none rfl _)
          · intro w1 h1 hk
            have q0 := h1.cell x0; have q1 := h1.cell x1; have q2 := h1.cell x2; have r0 := h1.cell y0; have r1 := h1.cell y1; have r2 := h1.cell y2
            have hcw := fun b o => Below.cell (p := ⟨b, o, none⟩) h1
            go_simp; rfl
          simp only [Act.put, List.setIfInBounds_toArray, List.set_cons_succ, List.set_cons_zero, List.nil_append, List.cons_append]
          apply Run.valG (wanted_none rfl _)
          · intro w1 h1 hk
            have q0 := h1.cell x0; have q1 := h1.cell x1; have q2 := h1.cell x2; have r0 := h1.cell y0; have r1 := h1.cell y1; have r2 := h1.cell y2
            have hcw := fun b o => Below.cell (p := ⟨b, o, none⟩) h1
            go_simp; rfl
          simp only [Act.put, List.setIfInBounds_toArray, List.set_cons_succ, List.set_cons_zero, List.nil_append, List.cons_append]
          apply Run.valG (wanted_none rfl _)
          · intro w1 h1 hk
            have q0 := h1.cell x0; have q1 := h1.cell x1; have q2 := h1.cell x2; have r0 := h1.cell y0; have r1 := h1.cell y1; have r2 := h1.cell y2
            have hcw := fun b o => Below.cell (p := ⟨b, o, none⟩) h1
            go_simp; rfl
          simp only [Act.put, List.setIfInBounds_toArray, List.set_cons_succ, List.set_cons_zero, List.nil_append, List.cons_append]
          apply Run.valG (wanted_none rfl _)
          · intro w1 h1 hk
            have q0 := h1.cell x0; have q1 := h1.cell x1; have q2 := h1.cell x2; have r0 := h1.cell y0; have r1 := h1.cell y1; have r2 := h1.cell y2
            have hcw := fun b o => Below.cell (p := ⟨b, o, none⟩) h1
            go_simp; rfl
          simp only [Act.put, List.setIfInBounds_toArray, List.set_cons_succ, List.set_cons_zero, List.nil_append, List.cons_append]
          apply Run.valG (wanted_none rfl _)
          · intro w1 h1 hk
            have q0 := h1.cell x0; have q1 := h1.cell x1; have q2 := h1.cell x2; have r0 := h1.cell y0; have r1 := h1.cell y1; have r2 := h1.cell y2
            have hcw := fun b o => Below.cell (p := ⟨b, o, none⟩) h1
            go_simp; rfl
          simp only [Act.put, List.setIfInBounds_toArray, List.set_cons_succ, List.set_cons_zero, List.nil_append, List.cons_append]
          apply Run.valG (wanted_none rfl _)
          · intro w1 h1 hk
            have q0 := h1.cell x0; have q1 := h1.cell x1; have q2 := h1.cell x2; have r0 := h1.cell y0; have r1 := h1.cell y1; have r2 := h1.cell y2
            have hcw := fun b o => Below.cell (p := ⟨b, o, none⟩) h1
            go_simp; rfl
          simp only [Act.put, List.setIfInBounds_toArray, List.set_cons_succ, List.set_cons_zero, List.nil_append, List.cons_append]
          apply Run.valG (wanted_none rfl _)
          · intro w1 h1 hk
            have q0 := h1.cell x0; have q1 := h1.cell x1; have q2 := h1.cell x2; have r0 := h1.cell y0; have r1 := h1.cell y1; have r2 := h1.cell y2
            have hcw := fun b o => Below.cell (p := ⟨b, o, none⟩) h1
            go_simp; rfl
          simp only [Act.put, List.setIfInBounds_toArray, List.set_cons_succ, List.set_cons_zero, List.nil_append, List.cons_append]
          apply Run.valG (wanted_none rfl _)
          · intro w1 h1 hk
            have q0 := h1.cell x0; have q1 := h1.cell x1; have q2 := h1.cell x2; have r0 := h1.cell y0; have r1 := h1.cell y1; have r2 := h1.cell y2
            have hcw := fun b o => Below.cell (p := ⟨b, o, none⟩) h1
            exact (exec_neV rfl xs[k] ys[k] rfl rfl w1).trans (by rw [hd, Bool.not_true])
          simp only [Act.put, List.setIfInBounds_toArray, List.set_cons_succ, List.set_cons_zero, List.nil_append, List.cons_append]
          apply Run.done
          intro w2 h2 hk
          clear hk
          go_wp2
          go_roundw
          case rel => exact ⟨k + 1, by omega, by go_num, take_succ_eq hlt hlt' ht.out HE.out, hf.out.trans ((Fut.drew _).trans h2)⟩
          case measure => simp [intOf]; omega
        · have hd : decide (xs[k] = ys[k]) = false := decide_eq_false he
          have HE := Lib.hid he
          clear he
          go_wp2
          refine wp_graph 9 [.d, .d, .d, .d, .d, .d, .d, .d, .d] (by kernel_rfl) (by kernel_rfl) (by kernel_rfl) ?_
          simp only [List.take_succ_cons, List.take_zero, List.drop_succ_cons, List.drop_zero, Exs]
          iterate 9 apply Exists.intro
          apply Run.valG (wanted_none rfl _)
          · intro w1 h1 hk
            have q0 := h1.cell x0; have q1 := h1.cell x1; have q2 := h1.cell x2; have r0 := h1.cell y0; have r1 := h1.cell y1; have r2 := h1.cell y2
            have hcw := fun b o => Below.cell (p := ⟨b, o, none⟩) h1
            go_simp; rfl
          simp only [Act.put, List.setIfInBounds_toArray, List.set_cons_succ, List.set_cons_zero, List.nil_append, List.cons_append]
          apply Run.valG (wanted_none rfl _)
          · intro w1 h1 hk
            have q0 := h1.cell x0; have q1 := h1.cell x1; have q2 := h1.cell x2; have r0 := h1.cell y0; have r1 := h1.cell y1; have r2 := h1.cell y2
            have hcw := fun b o => Below.cell (p := ⟨b, o, none⟩) h1
            go_simp; rfl
          simp only [Act.put, List.setIfInBounds_toArray, List.set_cons_succ, List.set_cons_zero, List.nil_append, List.cons_append]
          apply Run.valG (wanted_none rfl _)
          · intro w1 h1 hk
            have q0 := h1.cell x0; have q1 := h1.cell x1; have q2 := h1.cell x2; have r0 := h1.cell y0; have r1 := h1.cell y1; have r2 := h1.cell y2
            have hcw := fun b o => Below.cell (p := ⟨b, o, none⟩) h1
            go_simp; rfl
          simp only [Act.put, List.setIfInBounds_toArray, List.set_cons_succ, List.set_cons_zero, List.nil_append, List.cons_append]
          apply Run.valG (wanted_none rfl _)
          · intro w1 h1 hk
            have q0 := h1.cell x0; have q1 := h1.cell x1; have q2 := h1.cell x2; have r0 := h1.cell y0; have r1 := h1.cell y1; have r2 := h1.cell y2
            have hcw := fun b o => Below.cell (p := ⟨b, o, none⟩) h1
            go_simp; rfl
          simp only [Act.put, List.setIfInBounds_toArray, List.set_cons_succ, List.set_cons_zero, List.nil_append, List.cons_append]
          apply Run.valG (wanted_none rfl _)
          · intro w1 h1 hk
            have q0 := h1.cell x0; have q1 := h1.cell x1; have q2 := h1.cell x2; have r0 := h1.cell y0; have r1 := h1.cell y1; have r2 := h1.cell y2
            have hcw := fun b o => Below.cell (p := ⟨b, o, none⟩) h1
            go_simp; rfl
          simp only [Act.put, List.setIfInBounds_toArray, List.set_cons_succ, List.set_cons_zero, List.nil_append, List.cons_append]
          apply Run.valG (wanted_none rfl _)
          · intro w1 h1 hk
            have q0 := h1.cell x0; have q1 := h1.cell x1; have q2 := h1.cell x2; have r0 := h1.cell y0; have r1 := h1.cell y1; have r2 := h1.cell y2
            have hcw := fun b o => Below.cell (p := ⟨b, o, none⟩) h1
            go_simp; rfl
          simp only [Act.put, List.setIfInBounds_toArray, List.set_cons_succ, List.set_cons_zero, List.nil_append, List.cons_append]
          apply Run.valG (wanted_none rfl _)
          · intro w1 h1 hk
            have q0 := h1.cell x0; have q1 := h1.cell x1; have q2 := h1.cell x2; have r0 := h1.cell y0; have r1 := h1.cell y1; have r2 := h1.cell y2
            have hcw := fun b o => Below.cell (p := ⟨b, o, none⟩) h1
            go_simp; rfl
          simp only [Act.put, List.setIfInBounds_toArray, List.set_cons_succ, List.set_cons_zero, List.nil_append, List.cons_append]
          apply Run.valG (wanted_none rfl _)
          · intro w1 h1 hk
            have q0 := h1.cell x0; have q1 := h1.cell x1; have q2 := h1.cell x2; have r0 := h1.cell y0; have r1 := h1.cell y1; have r2 := h1.cell y2
            have hcw := fun b o => Below.cell (p := ⟨b, o, none⟩) h1
            go_simp; rfl
          simp only [Act.put, List.setIfInBounds_toArray, List.set_cons_succ, List.set_cons_zero, List.nil_append, List.cons_append]
          apply Run.valG (wanted_none rfl _)
          · intro w1 h1 hk
            have q0 := h1.cell x0; have q1 := h1.cell x1; have q2 := h1.cell x2; have r0 := h1.cell y0; have r1 := h1.cell y1; have r2 := h1.cell y2
            have hcw := fun b o => Below.cell (p := ⟨b, o, none⟩) h1
            exact (exec_neV rfl xs[k] ys[k] rfl rfl w1).trans (by rw [hd, Bool.not_false])
          simp only [Act.put, List.setIfInBounds_toArray, List.set_cons_succ, List.set_cons_zero, List.nil_append, List.cons_append]
          apply Run.done
          intro w2 h2 hk
          clear hk
          go_wp2
          go_ret
          refine ⟨?_, hf.out.trans ((Fut.drew _).trans h2)⟩
          rw [decide_eq_false (fun e => HE.out (by subst e; rfl))]
          rfl
      · obtain rfl : k = xs.length := by omega
        go_wp2
        go_ret
        refine ⟨?_, hf.out⟩
        rw [decide_eq_true (by have := ht.out; rwa [List.take_length, HN.out, List.take_length] at this)]
        rfl
  · have hne : (((xs.length : Nat) : Int) != (ys.length : Nat)) = true := by simp only [bne_iff_ne, ne_eq]; omega
    have HN := Lib.hid hn
    clear hn
    go_enter Tryd.func50, Tryd.ntmps50
    go_wp2
    go_ret
    refine ⟨?_, Fut.refl w⟩
    rw [decide_eq_false (fun e => HN.out (by rw [e]))]
    rfl

/-! ### The order of tuples -/
def cmpT : List V → List V → Int
  | [], [] => 0
  | [], _ :: _ => -1
  | _ :: _, [] => 1
  | x :: r, y :: q => if cmpV x y ≠ 0 then cmpV x y else cmpT r q
theorem cmpT_drop : ∀ (k : Nat) (xs ys : List V), k ≤ xs.length → k ≤ ys.length → (∀ i (hi : i < k) (hx : i < xs.length) (hy : i < ys.length), cmpV xs[i] ys[i] = 0) → cmpT xs ys = cmpT (xs.drop k) (ys.drop k)
  | 0, _, _, _, _, _ => rfl
  | k + 1, [], _, h, _, _ => by simp at h
  | k + 1, _ :: _, [], _, h, _ => by simp at h
  | k + 1, x :: r, y :: q, h, h', hz => by
    have h0 : cmpV x y = 0 := hz 0 (by omega) (by simp) (by simp)
    rw [cmpT, if_neg (by rw [h0]; simp), List.drop_succ_cons, List.drop_succ_cons]
    refine cmpT_drop k r q (by simpa using h) (by simpa using h') fun i hi hx hy => ?_
    have := hz (i + 1) (by omega) (by simp; omega) (by simp; omega)
    simpa using this
theorem cmpT_step {xs ys : List V} {k : Nat} (hx : k < xs.length) (hy : k < ys.length) (hz : ∀ i (_ : i < k) (hx : i < xs.length) (hy : i < ys.length), cmpV xs[i] ys[i] = 0) (h : cmpV xs[k] ys[k] ≠ 0) : cmpT xs ys = cmpV xs[k] ys[k] := by
  rw [cmpT_drop k xs ys (by omega) (by omega) hz, List.drop_eq_getElem_cons hx, List.drop_eq_getElem_cons hy, cmpT, if_pos h]
theorem cmpT_end {xs ys : List V} {k : Nat} (hk : k = xs.length ∨ k = ys.length) (hx : k ≤ xs.length) (hy : k ≤ ys.length) (hz : ∀ i (_ : i < k) (hx : i < xs.length) (hy : i < ys.length), cmpV xs[i] ys[i] = 0) :
    cmpT xs ys = if xs.length < ys.length then -1 else if ys.length < xs.length then 1 else 0 := by
  rw [cmpT_drop k xs ys hx hy hz]
  rcases hk with rfl | rfl
  · rw [List.drop_length]
    rcases Nat.lt_or_ge xs.length ys.length with h | h
    · rw [if_pos h, List.drop_eq_getElem_cons h]; rfl
    · rw [if_neg (by omega), if_neg (by omega), List.drop_eq_nil_of_le h]; rfl
  · rw [List.drop_length]
    rcases Nat.lt_or_ge ys.length xs.length with h | h
    · rw [if_neg (by omega), if_pos h, List.drop_eq_getElem_cons h]; rfl
    · rw [if_neg (by omega), if_neg (by omega), List.drop_eq_nil_of_le h]; rfl

set_option maxHeartbeats 800000 in
theorem rcmpT_any (a b : Value) (xs ys : List V) (w : World) (ha : Vals w a xs) (hb : Vals w b ys) :
    Calls Tryd.prog 41 #[a, b] w fun e w' => e = .returned (.int .i64 (cmpT xs ys)) ∧ Fut w w' := by
  obtain ⟨A, cap, rfl, hl, hm⟩ := SlRep.form ha
  obtain ⟨B, cap', rfl, hl', hm'⟩ := SlRep.form hb
  go_enter Tryd.func41, Tryd.ntmps41
  go_wp2
  go_loopw [5] (fun i wr => ∃ k : Nat, k ≤ xs.length ∧ k ≤ ys.length ∧ i = .int .i64 k ∧ Hid (∀ i (_ : i < k) (hx : i < xs.length) (hy : i < ys.length), cmpV xs[i] ys[i] = 0) ∧ Hid (Fut w wr)) (fun i _ => xs.length - (intOf i).toNat)
  case atStart => exact ⟨0, Nat.zero_le _, Nat.zero_le _, rfl, fun i hi => absurd hi (by omega), Fut.refl w⟩
  case round =>
    obtain ⟨k, hk, hk', rfl, hz, hf⟩ := hrel
    by_cases hlt : k < xs.length
    · by_cases hlt' : k < ys.length
      · obtain ⟨b, off, rfl, _, x0, x1, x2⟩ := Vals.at_ (ha.fut RV.stays hf.out) hlt
        obtain ⟨b', off', rfl, _, y0, y1, y2⟩ := Vals.at_ (hb.fut RV.stays hf.out) hlt'
        by_cases he : cmpV xs[k] ys[k] = 0
        · have hd : (cmpV xs[k] ys[k] != 0) = false := by simpa using he
          have HE := Lib.hid he
          clear he
          go_wp2
          refine wp_graph 10 [.d, .d, .d, .d, .d, .d, .d, .d, .d, .d] (by kernel_rfl) (by kernel_rfl) (by kernel_rfl) ?_
          simp only [List.take_succ_cons, List.take_zero, List.drop_succ_cons, List.drop_zero, Exs]
          iterate 10 apply Exists.intro
          apply Run.valG (wanted_none rfl _)
          · intro w1 h1 hk
            have q0 := h1.cell x0; have q1 := h1.cell x1; have q2 := h1.cell x2; have r0 := h1.cell y0; have r1 := h1.cell y1; have r2 := h1.cell y2
            have hcw := fun b o => Below.cell (p := ⟨b, o, none⟩) h1
            go_simp; rfl
          simp only [Act.put, List.setIfInBounds_toArray, List.set_cons_succ, List.set_cons_zero, List.nil_append, List.cons_append]
          apply Run.valG (wanted_none rfl _)
          · intro w1 h1 hk
            have q0 := h1.cell x0; have q1 := h1.cell x1; have q2 := h1.cell x2; have r0 := h1.cell y0; have r1 := h1.cell y1; have r2 := h1.cell y2
            have hcw := fun b o => Below.cell (p := ⟨b, o, none⟩) h1
            go_simp; rfl
          simp only [Act.put, List.setIfInBounds_toArray, List.set_cons_succ, List.set_cons_zero, List.nil_append, List.cons_append]
          apply Run.valG (wanted_none rfl _)
          · intro w1 h1 hk
            have q0 := h1.cell x0; have q1 := h1.cell x1; have q2 := h1.cell x2; have r0 := h1.cell y0; have r1 := h1.cell y1; have r2 := h1.cell y2
            have hcw := fun b o => Below.cell (p := ⟨b, o, none⟩) h1
            go_simp; rfl
          simp only [Act.put, List.setIfInBounds_toArray, List.set_cons_succ, List.set_cons_zero, List.nil_append, List.cons_append]
          apply Run.valG (wanted_none rfl _)
          · intro w1 h1 hk
            have q0 := h1.cell x0; have q1 := h1.cell x1; have q2 := h1.cell x2; have r0 := h1.cell y0; have r1 := h1.cell y1; have r2 := h1.cell y2
            have hcw := fun b o => Below.cell (p := ⟨b, o, none⟩) h1
            go_simp; rfl
          simp only [Act.put, List.setIfInBounds_toArray, List.set_cons_succ, List.set_cons_zero, List.nil_append, List.cons_append]
          apply Run.valG (wanted_none rfl _)
          · intro w1 h1 hk
            have q0 := h1.cell x0; have q1 := h1.cell x1; have q2 := h1.cell x2; have r0 := h1.cell y0; have r1 := h1.cell y1; have r2 := h1.cell y2
            have hcw := fun b o => Below.cell (p := ⟨b, o, none⟩) h1
            go_simp; rfl
          simp only [Act.put, List.setIfInBounds_toArray, List.set_cons_succ, List.set_cons_zero, List.nil_append, List.cons_append]
          apply Run.valG (wanted_none rfl _)
          · intro w1 h1 hk
            have q0 := h1.cell x0; have q1 := h1.cell x1; have q2 := h1.cell x2; have r0 := h1.cell y0; have r1 := h1.cell y1; have r2 := h1.cell y2
            have hcw := fun b o => Below.cell (p := ⟨b, o, none⟩) h1
            go_simp; rfl
          simp only [Act.put, List.setIfInBounds_toArray, List.set_cons_succ, List.set_cons_zero, List.nil_append, List.cons_append]
          apply Run.valG (wanted_none rfl _)
          · intro w1 h1 hk
            have q0 := h1.cell x0; have q1 := h1.cell x1; have q2 := h1.cell x2; have r0 := h1.cell y0; have r1 := h1.cell y1; have r2 := h1.cell y2
            have hcw := fun b o => Below.cell (p := ⟨b, o, none⟩) h1
            go_simp; rfl
          simp only [Act.put, List.setIfInBounds_toArray, List.set_cons_succ, List.set_cons_zero, List.nil_append, List.cons_append]
          apply Run.valG (wanted_none rfl _)
          · intro w1 h1 hk
            have q0 := h1.cell x0; have q1 := h1.cell x1; have q2 := h1.cell x2; have r0 := h1.cell y0; have r1 := h1.cell y1; have r2 := h1.cell y2
            have hcw := fun b o => Below.cell (p := ⟨b, o, none⟩) h1
            go_simp; rfl
          simp only [Act.put, List.setIfInBounds_toArray, List.set_cons_succ, List.set_cons_zero, List.nil_append, List.cons_append]
          apply Run.call (wanted_none rfl _) (fun _ _ => by go_simp; exact ⟨rfl, rfl⟩)
          · intro w1 h1 hk
            have q0 := h1.cell x0; have q1 := h1.cell x1; have q2 := h1.cell x2; have r0 := h1.cell y0; have r1 := h1.cell y1; have r2 := h1.cell y2
            exact rcompare_any xs[k] ys[k] _
          simp only [Act.put, List.setIfInBounds_toArray, List.set_cons_succ, List.set_cons_zero, List.nil_append, List.cons_append]
          apply Run.valG (wanted_none rfl _)
          · intro w1 h1 hk
            have q0 := h1.cell x0; have q1 := h1.cell x1; have q2 := h1.cell x2; have r0 := h1.cell y0; have r1 := h1.cell y1; have r2 := h1.cell y2
            have hcw := fun b o => Below.cell (p := ⟨b, o, none⟩) h1
            go_simp; rfl
          simp only [Act.put, List.setIfInBounds_toArray, List.set_cons_succ, List.set_cons_zero, List.nil_append, List.cons_append]
          apply Run.done
          intro w2 h2 hk
          clear hk
          go_wp2
          go_roundw
          case rel => exact ⟨k + 1, by omega, by omega, by go_num, fun i hi hx hy => by
            rcases Nat.lt_or_ge i k with h' | h'
            · exact hz.out i h' hx hy
            · obtain rfl : i = k := by omega
              exact HE.out, hf.out.trans ((Fut.drew _).trans h2)⟩
          case measure => simp [intOf]; omega
        · have hd : (cmpV xs[k] ys[k] != 0) = true := by simpa using he
          have HE := Lib.hid he
          clear he
          go_wp2
          refine wp_graph 10 [.d, .d, .d, .d, .d, .d, .d, .d, .d, .d] (by kernel_rfl) (by kernel_rfl) (by kernel_rfl) ?_
          simp only [List.take_succ_cons, List.take_zero, List.drop_succ_cons, List.drop_zero, Exs]
          iterate 10 apply Exists.intro
          apply Run.valG (wanted_none rfl _)
          · intro w1 h1 hk
            have q0 := h1.cell x0; have q1 := h1.cell x1; have q2 := h1.cell x2; have r0 := h1.cell y0; have r1 := h1.cell y1; have r2 := h1.cell y2
            have hcw := fun b o => Below.cell (p := ⟨b, o, none⟩) h1
            go_simp; rfl
          simp only [Act.put, List.setIfInBounds_toArray, List.set_cons_succ, List.set_cons_zero, List.nil_append, List.cons_append]
          apply Run.valG (wanted_none rfl _)
          · intro w1 h1 hk
            have q0 := h1.cell x0; have q1 := h1.cell x1; have q2 := h1.cell x2; have r0 := h1.cell y0; have r1 := h1.cell y1; have r2 := h1.cell y2
            have hcw := fun b o => Below.cell (p := ⟨b, o, none⟩) h1
            go_simp; rfl
          simp only [Act.put, List.setIfInBounds_toArray, List.set_cons_succ, List.set_cons_zero, List.nil_append, List.cons_append]
          apply Run.valG (wanted_none rfl _)
          · intro w1 h1 hk
            have q0 := h1.cell x0; have q1 := h1.cell x1; have q2 := h1.cell x2; have r0 := h1.cell y0; have r1 := h1.cell y1; have r2 := h1.cell y2
            have hcw := fun b o => Below.cell (p := ⟨b, o, none⟩) h1
            go_simp; rfl
          simp only [Act.put, List.setIfInBounds_toArray, List.set_cons_succ, List.set_cons_zero, List.nil_append, List.cons_append]
          apply Run.valG (wanted_none rfl _)
          · intro w1 h1 hk
            have q0 := h1.cell x0; have q1 := h1.cell x1; have q2 := h1.cell x2; have r0 := h1.cell y0; have r1 := h1.cell y1; have r2 := h1.cell y2
            have hcw := fun b o => Below.cell (p := ⟨b, o, none⟩) h1
            go_simp; rfl
          simp only [Act.put, List.setIfInBounds_toArray, List.set_cons_succ, List.set_cons_zero, List.nil_append, List.cons_append]
          apply Run.valG (wanted_none rfl _)
          · intro w1 h1 hk
            have q0 := h1.cell x0; have q1 := h1.cell x1; have q2 := h1.cell x2; have r0 := h1.cell y0; have r1 := h1.cell y1; have r2 := h1.cell y2
            have hcw := fun b o => Below.cell (p := ⟨b, o, none⟩) h1
            go_simp; rfl
          simp only [Act.put, List.setIfInBounds_toArray, List.set_cons_succ, List.set_cons_zero, List.nil_append, List.cons_append]
          apply Run.valG (wanted_none rfl _)
          · intro w1 h1 hk
            have q0 := h1.cell x0; have q1 := h1.cell x1; have q2 := h1.cell x2; have r0 := h1.cell y0; have r1 := h1.cell y1; have r2 := h1.cell y2
            have hcw := fun b o => Below.cell (p := ⟨b, o, none⟩) h1
            go_simp; rfl
          simp only [Act.put, List.setIfInBounds_toArray, List.set_cons_succ, List.set_cons_zero, List.nil_append, List.cons_append]
          apply Run.valG (wanted_none rfl _)
          · intro w1 h1 hk
            have q0 := h1.cell x0; have q1 := h1.cell x1; have q2 := h1.cell x2; have r0 := h1.cell y0; have r1 := h1.cell y1; have r2 := h1.cell y2
            have hcw := fun b o => Below.cell (p := ⟨b, o, none⟩) h1
            go_simp; rfl
          simp only [Act.put, List.setIfInBounds_toArray, List.set_cons_succ, List.set_cons_zero, List.nil_append, List.cons_append]
          apply Run.valG (wanted_none rfl _)
          · intro w1 h1 hk
            have q0 := h1.cell x0; have q1 := h1.cell x1; have q2 := h1.cell x2; have r0 := h1.cell y0; have r1 := h1.cell y1; have r2 := h1.cell y2
            have hcw := fun b o => Below.cell (p := ⟨b, o, none⟩) h1
            go_simp; rfl
          simp only [Act.put, List.setIfInBounds_toArray, List.set_cons_succ, List.set_cons_zero, List.nil_append, List.cons_append]
          apply Run.call (wanted_none rfl _) (fun _ _ => by go_simp; exact ⟨rfl, rfl⟩)
          · intro w1 h1 hk
            have q0 := h1.cell x0; have q1 := h1.cell x1; have q2 := h1.cell x2; have r0 := h1.cell y0; have r1 := h1.cell y1; have r2 := h1.cell y2
            exact rcompare_any xs[k] ys[k] _
          simp only [Act.put, List.setIfInBounds_toArray, List.set_cons_succ, List.set_cons_zero, List.nil_append, List.cons_append]
          apply Run.valG (wanted_none rfl _)
          · intro w1 h1 hk
            have q0 := h1.cell x0; have q1 := h1.cell x1; have q2 := h1.cell x2; have r0 := h1.cell y0; have r1 := h1.cell y1; have r2 := h1.cell y2
            have hcw := fun b o => Below.cell (p := ⟨b, o, none⟩) h1
            go_simp; rfl
          simp only [Act.put, List.setIfInBounds_toArray, List.set_cons_succ, List.set_cons_zero, List.nil_append, List.cons_append]
          apply Run.done
          intro w2 h2 hk
          clear hk
          go_wp2
          go_ret
          refine ⟨?_, hf.out.trans ((Fut.drew _).trans h2)⟩
          rw [cmpT_step hlt hlt' hz.out HE.out]
          rfl
      · have hkl := Lib.hid (cmpT_end (k := k) (xs := xs) (ys := ys) (.inr (by omega)) hk hk' hz.out)
        go_wp2
        all_goals go_ret
        all_goals refine ⟨?_, hf.out⟩
        all_goals first | (rw [hkl.out, if_pos (by omega)]; rfl) | (rw [hkl.out, if_neg (by omega), if_pos (by omega)]; rfl) | (rw [hkl.out, if_neg (by omega), if_neg (by omega)]; rfl)
    · have hkl := Lib.hid (cmpT_end (k := k) (xs := xs) (ys := ys) (.inl (by omega)) hk hk' hz.out)
      go_wp2
      all_goals go_ret
      all_goals refine ⟨?_, hf.out⟩
      all_goals first | (rw [hkl.out, if_pos (by omega)]; rfl) | (rw [hkl.out, if_neg (by omega), if_pos (by omega)]; rfl) | (rw [hkl.out, if_neg (by omega), if_neg (by omega)]; rfl)

set_option maxHeartbeats 800000 in
theorem cmpFunc_any (a b : Value) (xs ys : List V) (w : World) (ha : Vals w a xs) (hb : Vals w b ys) :
    Calls Tryd.prog 65 #[a, b, .func (.func 66) #[] #[]] w fun e w' => e = .returned (.int .i64 (cmpT xs ys)) ∧ Fut w w' := by
  obtain ⟨A, cap, rfl, hl, hm⟩ := SlRep.form ha
  obtain ⟨B, cap', rfl, hl', hm'⟩ := SlRep.form hb
  go_enter Tryd.func65, Tryd.ntmps65
  go_wp2
  go_loopw [13] (fun i wr => ∃ k : Nat, k ≤ xs.length ∧ k ≤ ys.length ∧ i = .int .i64 k ∧ Hid (∀ i (_ : i < k) (hx : i < xs.length) (hy : i < ys.length), cmpV xs[i] ys[i] = 0) ∧ Hid (Fut w wr)) (fun i _ => xs.length - (intOf i).toNat)
  case atStart => exact ⟨0, Nat.zero_le _, Nat.zero_le _, rfl, fun i hi => absurd hi (by omega), Fut.refl w⟩
  case round =>
    obtain ⟨k, hk, hk', rfl, hz, hf⟩ := hrel
    by_cases hlt : k < xs.length
    · obtain ⟨b, off, rfl, _, x0, x1, x2⟩ := Vals.at_ (ha.fut RV.stays hf.out) hlt
      by_cases hlt' : k < ys.length
      · obtain ⟨b', off', rfl, _, y0, y1, y2⟩ := Vals.at_ (hb.fut RV.stays hf.out) hlt'
        have hb0 := lt_of_cell x0
        have hb0' := lt_of_cell y0
        simp only at hb0 hb0'
        by_cases he : cmpV xs[k] ys[k] = 0
        · have hd : (cmpV xs[k] ys[k] != 0) = false := by simpa using he
          have HE := Lib.hid he
          clear he
          go_wp2_with fail
          refine (compare_any xs[k] ys[k] _).mono ?_
          rintro e w1 ⟨rfl, h1⟩
          go_wp2
          go_roundw
          case rel => exact ⟨k + 1, by omega, by omega, by go_num, fun i hi hx hy => by
            rcases Nat.lt_or_ge i k with h' | h'
            · exact hz.out i h' hx hy
            · obtain rfl : i = k := by omega
              exact HE.out, hf.out.trans (((Fut.alloc _ _).trans (Fut.alloc _ _)).trans h1)⟩
          case measure => simp [intOf]; omega
        · have hd : (cmpV xs[k] ys[k] != 0) = true := by simpa using he
          have HE := Lib.hid he
          clear he
          go_wp2_with fail
          refine (compare_any xs[k] ys[k] _).mono ?_
          rintro e w1 ⟨rfl, h1⟩
          go_wp2
          go_ret
          refine ⟨?_, hf.out.trans (((Fut.alloc _ _).trans (Fut.alloc _ _)).trans h1)⟩
          rw [cmpT_step hlt hlt' hz.out HE.out]
          rfl
      · have hkl := Lib.hid (cmpT_end (k := k) (xs := xs) (ys := ys) (.inr (by omega)) hk hk' hz.out)
        go_wp2
        go_ret
        refine ⟨?_, hf.out.trans (Fut.alloc _ _)⟩
        rw [hkl.out, if_neg (by omega), if_pos (by omega)]
        rfl
    · have hkl := Lib.hid (cmpT_end (k := k) (xs := xs) (ys := ys) (.inl (by omega)) hk hk' hz.out)
      go_wp2
      all_goals go_ret
      all_goals refine ⟨?_, hf.out⟩
      all_goals first | (rw [hkl.out, if_pos (by omega)]; rfl) | (rw [hkl.out, if_neg (by omega), if_pos (by omega)]; rfl) | (rw [hkl.out, if_neg (by omega), if_neg (by omega)]; rfl)
set_option maxHeartbeats 400000 in
theorem cmpT_any (a b : Value) (xs ys : List V) (w : World) (ha : Vals w a xs) (hb : Vals w b ys) :
    Calls Tryd.prog 47 #[a, b] w fun e w' => e = .returned (.int .i64 (cmpT xs ys)) ∧ Fut w w' := by
  go_enter Tryd.func47, Tryd.ntmps47
  go_wp2_with fail
  refine (cmpFunc_any a b xs ys _ ha hb).mono ?_
  rintro e w1 ⟨rfl, h1⟩
  go_wp2
  go_ret
  exact ⟨rfl, h1⟩

end Go.Proofs.YtkdnplebgmmclaaDoor
/- Values (api.Value) and texts as keys of maps. -/
namespace Go.Proofs.YtkdnplebgmmclaaDoor
open Go.RowKit Go.WideMaps Go.Maps
set_option linter.unusedSimpArgs false
set_option linter.unusedVariables false

def strV (s : ByteArray) : Value := .string s
theorem keyStr : KeyOn Tryd.prog 9 strV (fun s => s.size ≤ maxLen) where
  law := string_keyed Tryd.underlying9
  lit x hx := ⟨.string x.data.toList, by simp [keyOf, Tryd.underlying9, strV, mapKey, hx]⟩
  inj x y h := by injection h
theorem typesV : ∃ m, Tryd.prog.types.size = m + 1 := ⟨Tryd.prog.types.size - 1, by kernel_rfl⟩
theorem keyTypeV : Tryd.prog.keyType 52 = true := by kernel_rfl
theorem laidV : laidOutB Tryd.prog = true := by kernel_rfl
theorem lawV : KeyLaw Tryd.prog 52 :=
  deep_law_laid laidV (m := 2) (by omega) (of_decide_eq_true (by kernel_rfl)) (by kernel_rfl) (by rw [Tryd.underlying52])
theorem keyOf_V3 {P : Program} {k : TypeId} {f0 f1 f2 : Field} (hu : P.underlying k = some (.struct #[f0, f1, f2])) (hkt : P.keyType k = true) (hsz : ∃ m, P.types.size = m + 1) (hC : P.cellsOf k = 3)
    (n0 : (f0.name != "_") = true) (n1 : (f1.name != "_") = true) (n2 : (f2.name != "_") = true) (u0 : P.underlying f0.type = some (.int .i8)) (u1 : P.underlying f1.type = some (.int .i64)) (u2 : P.underlying f2.type = some .string)
    (o0 : f0.offset = 0) (o1 : f1.offset = 1) (o2 : f2.offset = 2) (c0 : P.cellsOf f0.type = 1) (c1 : P.cellsOf f1.type = 1) (c2 : P.cellsOf f2.type = 1) (x : V) (hx : x.ok) :
    keyOf P k x.val = some (.string (keyBytes [Lit.int .i8 x.k, Lit.int .i64 x.n, Lit.string x.s.data.toList])) := by
  obtain ⟨m0, hm0⟩ := hsz
  have h0 := hx.1
  have h1 := hx.2.1
  have h2 : x.s.size ≤ maxLen := Nat.le_trans hx.2.2 (by unfold maxLen; omega)
  unfold keyOf V.val
  simp [hu, hkt, Value.formed, Value.cells, hm0, Program.keyLits, hC, c0, c1, c2, u0, u1, u2, o0, o1, o2, n0, n1, n2, h0, h1, h2]
theorem keyV_lit (x : V) (hx : x.ok) : ∃ l, keyOf Tryd.prog 52 x.val = some l :=
  ⟨_, keyOf_V3 Tryd.underlying52 keyTypeV typesV (by kernel_rfl) (by decide) (by decide) (by decide) Tryd.underlying50 Tryd.underlying2 Tryd.underlying9 rfl rfl rfl (by kernel_rfl) (by kernel_rfl) (by kernel_rfl) x hx⟩
theorem keyV : KeyOn Tryd.prog 52 V.val V.ok where
  law := Keyed.of_law lawV
  lit := keyV_lit
  inj x y h := by
    obtain ⟨a, b, c⟩ := x
    obtain ⟨a', b', c'⟩ := y
    simp [V.val] at h
    obtain ⟨rfl, rfl, rfl⟩ := h
    rfl
end Go.Proofs.YtkdnplebgmmclaaDoor
/- Rows of 24 numbers: as values, as keys; are two the same?; a map from rows to numbers. No program. -/
namespace Go.Proofs.YtkdnplebgmmclaaDoor
open Go.RowKit Go.WideMaps Go.Maps
open Go.ChangeMaps (setBlock heap_setBlock_same heap_setBlock_other)
set_option linter.unusedSimpArgs false
set_option linter.unusedVariables false

abbrev Rw := List Int
def Rw.ok (x : Rw) : Prop := x.length = 24 ∧ ∀ a ∈ x, (Lit.int .i32 a).wf = true
def Rw.cells (x : Rw) : List Value := x.map (Value.int .i32)
def Rw.val (x : Rw) : Value := .agg (Rw.cells x).toArray
def RR (_ : World) (cs : List Value) (x : Rw) : Prop := cs = Rw.cells x ∧ Rw.ok x
theorem RR.stays : Stays RR := fun _ _ _ _ _ h => h
theorem RR.one : ∀ (w : World) cs x, RR w cs x → ∀ u ∈ cs, u.oneCell' = true := fun w cs x h u hu => by
  obtain ⟨rfl, _⟩ := h
  simp only [Rw.cells, List.mem_map] at hu
  obtain ⟨a, _, rfl⟩ := hu
  rfl
theorem Rw.cells_len {x : Rw} (h : Rw.ok x) : (Rw.cells x).length = 24 := by simp [Rw.cells, h.1]
theorem ints_inj : ∀ {x y : List Int}, x.map (Value.int .i32) = y.map (Value.int .i32) → x = y
  | [], [], _ => rfl
  | [], _ :: _, h => by simp at h
  | _ :: _, [], h => by simp at h
  | a :: x, b :: y, h => by
    simp only [List.map_cons, List.cons.injEq, Value.int.injEq, true_and] at h
    rw [h.1, ints_inj h.2]
theorem Rw.val_inj {x y : Rw} (h : Rw.val x = Rw.val y) : x = y := by
  unfold Rw.val Rw.cells at h
  injection h with h
  exact ints_inj (congrArg Array.toList h)

theorem mapM_all {β : Type} {f : Nat → Option β} {g : Nat → β} : ∀ L : List Nat, (∀ i ∈ L, f i = some (g i)) → L.mapM f = some (L.map g)
  | [], _ => rfl
  | i :: L, h => by
    rw [List.mapM_cons, h i (by simp), mapM_all L fun j hj => h j (by simp [hj])]
    rfl

section
variable {P : Program} {k e : TypeId}
theorem keyOf_row (A : ArrKey P k e 24) (he : P.underlying e = some (.int .i32)) (hsz : ∃ m, P.types.size = m + 1) {x : Rw} (hx : Rw.ok x) : ∃ l, keyOf P k (Rw.val x) = some l := by
  have hkt := A.keyType hsz
  obtain ⟨m0, hm0⟩ := hsz
  have hl := Rw.cells_len hx
  refine ⟨.string (keyBytes ((List.range 24).map fun i => [Lit.int .i32 (x.getD i 0)]).flatten), ?_⟩
  unfold keyOf Rw.val
  simp only [A.hu]
  rw [if_pos (by simp [hkt, Value.formed, A.hu, A.size, hl]), hm0]
  unfold Program.keyLits
  simp only [A.hu, Value.cells]
  rw [if_pos (by rw [A.size]; exact hl), mapM_all (g := fun i => [Lit.int .i32 (x.getD i 0)])]
  · rfl
  · intro i hi
    have hi24 : i < 24 := List.mem_range.1 hi
    have hix : i < x.length := by rw [hx.1]; exact hi24
    rw [A.one, Nat.mul_one]
    have h1 : ((Rw.cells x).drop i).take 1 = [.int .i32 (x.getD i 0)] := by
      rw [List.drop_eq_getElem_cons (by rw [hl]; exact hi24)]
      simp [Rw.cells, List.getD, hix]
    rw [h1]
    have hw : (Lit.int .i32 (x.getD i 0)).wf = true := hx.2 _ (by simp [List.getD, hix])
    simp only [Program.keyLits, he]
    rw [if_pos ⟨trivial, hw⟩]

/-- The key's law. -/
theorem row_keyed (A : ArrKey P k e 24) : Keyed P k := Keyed.of_law A.law

theorem run_equal_row (A : ArrKey P k e 24) (he : P.underlying e = some (.int .i32)) (hsz : ∃ m, P.types.size = m + 1) {x y : Rw} (hx : Rw.ok x) (hy : Rw.ok y) (w : World) :
    (Op.equal k (Rw.val x) (Rw.val y)).run P w = .ok (decide (x = y)) w := by
  obtain ⟨lx, h1⟩ := keyOf_row A he hsz hx
  obtain ⟨ly, h2⟩ := keyOf_row A he hsz hy
  obtain ⟨r, hr, hiff⟩ := run_equal_deep (P := P) w (m := 2) (by omega) (A.at 0) A.wide h1 h2
  rw [hr]
  congr 1
  cases hxy : decide (x = y) with
  | true =>
    have e1 : x = y := of_decide_eq_true hxy
    subst e1
    rw [h1] at h2
    exact hiff.2 (Option.some.inj h2)
  | false =>
    cases r with
    | false => rfl
    | true =>
      have e1 := hiff.1 rfl
      subst e1
      exact absurd (Rw.val_inj ((row_keyed A).inj h1 h2)) (of_decide_eq_false hxy)
theorem run_eql_row (A : ArrKey P k e 24) (he : P.underlying e = some (.int .i32)) (hsz : ∃ m, P.types.size = m + 1) {x y : Rw} (hx : Rw.ok x) (hy : Rw.ok y) (w : World) :
    (binOp .eql k (Rw.val x) (Rw.val y)).run P w = .ok (.bool (decide (x = y))) w := by
  have h := run_equal_row A he hsz hx hy w
  unfold Rw.val at h ⊢
  simp only [binOp]
  simp [h]
theorem run_neq_row (A : ArrKey P k e 24) (he : P.underlying e = some (.int .i32)) (hsz : ∃ m, P.types.size = m + 1) {x y : Rw} (hx : Rw.ok x) (hy : Rw.ok y) (w : World) :
    (binOp .neq k (Rw.val x) (Rw.val y)).run P w = .ok (.bool (!decide (x = y))) w := by
  have h := run_equal_row A he hsz hx hy w
  unfold Rw.val at h ⊢
  simp only [binOp]
  simp [h]

/-- Block b is a map that has the number f x at the row x. -/
def MapR (w : World) (b : Nat) (f : Rw → Option Int) : Prop :=
  ∃ es clock, w.heap[b]? = some (.map es clock) ∧ (∀ e ∈ es.toList, ∃ x v, Rw.ok x ∧ e.key = Rw.val x ∧ e.val = .int .i64 v ∧ f x = some v) ∧ (∀ x v, f x = some v → ∃ e ∈ es.toList, e.key = Rw.val x)
theorem MapR.new (w : World) : MapR (w.alloc (.map #[] 0)) w.heap.size (fun _ => none) :=
  ⟨#[], 0, heap_alloc_new w _, fun e he => by simp at he, fun x v h => by cases h⟩
theorem MapR.lt {w : World} {b : Nat} {f : Rw → Option Int} (h : MapR w b f) : b < w.heap.size := by
  obtain ⟨es, c, h1, _⟩ := h
  exact (Array.getElem?_eq_some_iff.1 h1).1
theorem MapR.kept {w w' : World} {b : Nat} {f : Rw → Option Int} (h : MapR w b f) (hs : w'.heap[b]? = w.heap[b]?) : MapR w' b f := by
  obtain ⟨es, c, h1, h2⟩ := h
  exact ⟨es, c, hs.trans h1, h2⟩
theorem MapR.find {w : World} {b : Nat} {f : Rw → Option Int} {es : Array MapEntry} (A : ArrKey P k e 24) (he : P.underlying e = some (.int .i32)) (hsz : ∃ m, P.types.size = m + 1)
    (h1 : ∀ e ∈ es.toList, ∃ x v, Rw.ok x ∧ e.key = Rw.val x ∧ e.val = .int .i64 v ∧ f x = some v) (h2 : ∀ x v, f x = some v → ∃ e ∈ es.toList, e.key = Rw.val x) {x : Rw} (hx : Rw.ok x) :
    (f x = none ∧ (Instr.findKey k (Rw.val x) es.toList).run P w = .ok none w) ∨ ∃ v j, f x = some v ∧ (Instr.findKey k (Rw.val x) es.toList).run P w = .ok (some (j, .int .i64 v)) w := by
  obtain ⟨lx, hlx⟩ := keyOf_row A he hsz hx
  rcases (row_keyed A).find w hlx es.toList (fun y hy => by
    obtain ⟨z, v, hz, hk, _⟩ := h1 y hy
    rw [hk]
    exact keyOf_row A he hsz hz) with ⟨h3, h4⟩ | ⟨j, y, h3, h4, h5⟩
  · refine .inl ⟨?_, h3⟩
    cases hf : f x with
    | none => rfl
    | some v =>
      obtain ⟨y, hy, hk⟩ := h2 x v hf
      exact absurd hk (h4 y hy)
  · obtain ⟨z, v, hz, hk, hv, hf⟩ := h1 y (List.mem_of_getElem? h4)
    have e1 : z = x := Rw.val_inj (hk.symm.trans h5)
    subst e1
    exact .inr ⟨v, j, hf, by rw [h3, hv]⟩
theorem MapR.lookup {w : World} {b : Nat} {f : Rw → Option Int} {t ev : TypeId} (h : MapR w b f) (A : ArrKey P k e 24) (he : P.underlying e = some (.int .i32)) (hsz : ∃ m, P.types.size = m + 1) (ht : P.underlying t = some (.map k ev))
    (hz : ∀ w, (zeroValue ev).run P w = .ok (.int .i64 0) w) {x : Rw} (hx : Rw.ok x) :
    (Instr.lookup t (.map (some b)) (Rw.val x) true).run P w = .ok (.tuple #[.int .i64 ((f x).getD 0), .bool (f x).isSome]) w := by
  obtain ⟨es, c, hb, h1, h2⟩ := h
  obtain ⟨lx, hlx⟩ := keyOf_row A he hsz hx
  rcases MapR.find (w := w) (b := b) A he hsz h1 h2 hx with ⟨h3, h4⟩ | ⟨v, j, h3, h4⟩
  · simp [Instr.lookup, run_underlying ht, MapKept.run_getObj_map hb, (row_keyed A).check w _ hlx, h4, h3, hz, Result.andThen]
  · simp [Instr.lookup, run_underlying ht, MapKept.run_getObj_map hb, (row_keyed A).check w _ hlx, h4, h3, Result.andThen]
theorem MapR.push {w : World} {b : Nat} {f : Rw → Option Int} {t ev : TypeId} (h : MapR w b f) (A : ArrKey P k e 24) (he : P.underlying e = some (.int .i32)) (hsz : ∃ m, P.types.size = m + 1) (ht : P.underlying t = some (.map k ev))
    {x : Rw} (hx : Rw.ok x) (hn : f x = none) (v : Int) :
    ∃ w', (Instr.mapUpdate t (.map (some b)) (Rw.val x) (.int .i64 v)).run P w = .ok () w' ∧ MapR w' b (fun y => if y = x then some v else f y) ∧ w.grownBy w' (some b) := by
  obtain ⟨es, c, hb, h1, h2⟩ := h
  obtain ⟨lx, hlx⟩ := keyOf_row A he hsz hx
  rcases MapR.find (w := w) (b := b) A he hsz h1 h2 hx with ⟨_, h4⟩ | ⟨v, j, h3, h4⟩
  · refine ⟨setBlock w b (.map (es.push { key := Rw.val x, val := .int .i64 v, born := c }) (c + 1)), ?_, ⟨_, _, heap_setBlock_same hb _, ?_, ?_⟩, ⟨rfl, rfl, rfl, by simp [setBlock], fun i _ hi => heap_setBlock_other hb _ (fun e => hi (by rw [e]))⟩⟩
    · simp [Instr.mapUpdate, run_underlying ht, MapKept.run_getObj_map hb, (row_keyed A).check w _ hlx, h4, MapKept.run_setObj_map _ hb, Result.andThen, setBlock]
    · intro e he
      simp only [Array.toList_push, List.mem_append, List.mem_singleton] at he
      rcases he with he | rfl
      · obtain ⟨y, u, hy, hk, hv, hf⟩ := h1 e he
        exact ⟨y, u, hy, hk, hv, by show (if y = x then some v else f y) = some u; rw [if_neg (fun e => by subst e; rw [hn] at hf; cases hf)]; exact hf⟩
      · exact ⟨x, v, hx, rfl, rfl, if_pos rfl⟩
    · intro y u hf
      replace hf : (if y = x then some v else f y) = some u := hf
      by_cases hyx : y = x
      · subst hyx
        exact ⟨{ key := Rw.val y, val := .int .i64 v, born := c }, by rw [Array.toList_push]; exact List.mem_append_right _ (by simp), rfl⟩
      · rw [if_neg hyx] at hf
        obtain ⟨e, he, hk⟩ := h2 y u hf
        exact ⟨e, by simp [he], hk⟩
  · rw [hn] at h3; cases h3
theorem MapR.clear {w : World} {b : Nat} {f : Rw → Option Int} {t ev : TypeId} (h : MapR w b f) (ht : P.underlying t = some (.map k ev)) (ty : TypeId) :
    ∃ w', (Builtin.clear_ #[t] ty #[.map (some b)]).run P w = .ok (.tuple #[]) w' ∧ MapR w' b (fun _ => none) ∧ w.grownBy w' (some b) := by
  obtain ⟨es, c, hb, h1, h2⟩ := h
  refine ⟨setBlock w b (.map #[] c), ?_, ⟨_, _, heap_setBlock_same hb _, fun e he => by simp at he, fun x v h => by cases h⟩, ⟨rfl, rfl, rfl, by simp [setBlock], fun i _ hi => heap_setBlock_other hb _ (fun e => hi (by rw [e]))⟩⟩
  simp [Builtin.clear_, run_underlying ht, MapKept.run_getObj_map hb, MapKept.run_setObj_map _ hb, Result.andThen, setBlock]
end
end Go.Proofs.YtkdnplebgmmclaaDoor
/- A range over a function: what an iterator promises, round by round; the statement's law. No program. -/
namespace Go.Proofs.YtkdnplebgmmclaaDoor
open Go.RowKit
set_option linter.unusedSimpArgs false
set_option linter.unusedVariables false

/-- What lay from block a to block b lies there still. -/
def Mid (a b : Nat) (W W' : World) : Prop := W.heap.size ≤ W'.heap.size ∧ ∀ k, a ≤ k → k < b → W'.heap[k]? = W.heap[k]?
theorem Mid.refl (a b : Nat) (W : World) : Mid a b W W := ⟨Nat.le_refl _, fun _ _ _ => rfl⟩
theorem Mid.trans {a b : Nat} {A B C : World} (h : Mid a b A B) (k : Mid a b B C) : Mid a b A C := ⟨Nat.le_trans h.1 k.1, fun i h1 h2 => (k.2 i h1 h2).trans (h.2 i h1 h2)⟩
theorem Mid.of_fut {a b : Nat} {W W' : World} (h : Fut W W') (hb : b ≤ W.heap.size) : Mid a b W W' := ⟨h.size, fun k _ h2 => Below.block h k (by omega)⟩
theorem Mid.less {a b a' b' : Nat} {W W' : World} (h : Mid a b W W') (h1 : a ≤ a') (h2 : b' ≤ b) : Mid a' b' W W' := ⟨h.1, fun k h3 h4 => h.2 k (by omega) (by omega)⟩
theorem Mid.grown {a b : Nat} {W W' : World} {row : Option Nat} (hg : W.grownBy W' row) (hb : b ≤ W.heap.size) (hr : ∀ k, row = some k → k < a ∨ b ≤ k) : Mid a b W W' :=
  ⟨hg.size, fun k h1 h2 => hg.block k (by omega) (fun e => by have := hr k e.symm; omega)⟩

/-- An iterator: it asks for the rounds 0, 1, .., N - 1, round k with 'args k'; it makes memory of its own and turns nothing else; of its own memory it wants each round to keep what was made ahead of the first one. -/
def IterAt (P : Program) (gf : Nat) (lb : Array Value) (N : Nat) (args : Nat → Array Value) (w : World) : Prop :=
  ∀ (l : Nat) (J : Nat → Nat → World → Prop) (Jx : Nat → World → Prop),
    (∀ w1, Fut w w1 → J w1.heap.size 0 w1) → (∀ s k W W', Fut W W' → J s k W → J s k W') →
    (∀ s k W, w.heap.size ≤ s → s ≤ W.heap.size → k < N → J s k W → YieldAt Fence.wide 2 P l (args k) W fun e W' =>
      (e = .returned (.bool true) ∧ J s (k + 1) W' ∧ Mid w.heap.size s W W') ∨ (e = .returned (.bool false) ∧ Jx s W')) →
    Calls P gf (#[.func (.yield l) #[] #[]] ++ lb) w fun e W' => (∃ v, e = .returned v) ∧ ((∃ s, J s N W') ∨ ∃ s, Jx s W')

/-- How a round's body may be left. -/
def roundOut (a s : Nat) (I : World → Prop) (Ix : Code → World → Prop) (W : World) : Exit → Act → World → Prop
  | .normal, _, W' => Mid a s W W' ∧ I W'
  | .ret, _, W' => Mid a s W W' ∧ Ix .ret W'
  | .exit id, _, W' => Mid a s W W' ∧ Ix (.exit id) W'
  | .goto t, _, W' => Mid a s W W' ∧ Ix (.goto t) W'
  | .panic _, _, _ => False
  | .outgrown, _, _ => False

theorem wp_range {P : Program} {g : Operand} {ps : Array Tmp} {assign body : Code} {Q : Exit → Act → World → Prop} {a : Act} {w : World} {gf : Nat} {lb : Array Value}
    (hg : a.eval g = .func (.func gf) #[] lb) (eg : ∀ args w, (callFunc gf args).run P w = .ok (.enter gf args) w) {N : Nat} {args : Nat → Array Value}
    (hit : ∀ w1, Fut w w1 → IterAt P gf lb N args w1) (hps : ∀ k, k < N → (args k).size = ps.size)
    (I : Nat → Nat → World → Prop) (Ix : Code → Nat → World → Prop)
    (hIf : ∀ s k W W', Fut W W' → I s k W → I s k W') (hI : ∀ s k W l o, w.heap.size ≤ l → l < w.heap.size + 2 → w.heap.size + 2 ≤ s → I s k W → I s k (W.putObj l o)) (hIx : ∀ c s W l o, w.heap.size ≤ l → l < w.heap.size + 2 → w.heap.size + 2 ≤ s → Ix c s W → Ix c s (W.putObj l o))
    (h0 : ∀ w1, Fut w w1 → w.heap.size + 2 ≤ w1.heap.size → I w1.heap.size 0 w1)
    (hbody : ∀ l s k W, w.heap.size ≤ l → l < w.heap.size + 2 → w.heap.size + 2 ≤ s → s ≤ W.heap.size → k < N → I s k W → (∃ r, W.heap[l]? = some (.loop r)) →
      assign.wpIn (Fence.wide.inRound l) 2 P (Exit.then (fun a₁ W₁ => Mid w.heap.size s W W₁ ∧ ∀ o, body.wpIn (Fence.wide.inRound l) 2 P (roundOut w.heap.size s (I s (k + 1)) (fun c => Ix c s) (W₁.putObj l o)) a₁ (W₁.putObj l o)) (fun _ _ _ => False))
        { tmps := (ps.zip (args k)).foldl (fun t (p, v) => t.setIfInBounds p v) a.tmps, defers := [] } W)
    (hdone : ∀ s W, w.heap.size + 2 ≤ s → I s N W → W.heap[w.heap.size]? = some (.deferred (some [])) → Q .normal { a with defers := { target := .collected w.heap.size, args := #[] } :: a.defers } W)
    (hstop : ∀ s c W, w.heap.size + 2 ≤ s → Ix c s W → W.heap[w.heap.size]? = some (.deferred (some [])) → c.wp P Q { a with defers := { target := .collected w.heap.size, args := #[] } :: a.defers } W) :
    (Code.rangeFunc g ps assign body).wp P Q a w := by
  refine (wpIn_wide (n := 3)).1 (wpIn_rangeFunc ?_)
  intro fn hfn
  obtain ⟨rec, hrec⟩ : ∃ rec : LoopState → Option Code → Loop, rec = fun st pe => { state := st, pending := pe, fn, tmps := a.tmps, params := ps, assign, body, defers := w.heap.size } := ⟨_, rfl⟩
  obtain ⟨W1, hW1⟩ : ∃ W1, (w.alloc (.deferred (some []))).alloc (.loop (rec .ready none)) = W1 := ⟨_, rfl⟩
  have hL1 : W1.heap[w.heap.size + 1]? = some (.loop (rec .ready none)) := by
    rw [← hW1]; have := World.alloc_heap_new (w.alloc (.deferred (some []))) (.loop (rec .ready none)); rwa [World.size_alloc] at this
  have hK1 : W1.heap[w.heap.size]? = some (.deferred (some [])) := by
    rw [← hW1]; exact (Below.heap_alloc _ _ _ (by simp)).trans (World.alloc_heap_new w _)
  have hf1 : Fut w W1 := by rw [← hW1]; exact (Fut.alloc _ _).trans (Fut.alloc _ _)
  have hs1 : W1.heap.size = w.heap.size + 2 := by rw [← hW1]; simp
  refine ⟨w.heap.size + 1, [{ target := .collected w.heap.size, args := #[] }], W1, { target := .fn (.func gf) lb, args := #[.func (.yield (w.heap.size + 1)) #[] #[]] }, W1, gf,
    #[.func (.yield (w.heap.size + 1)) #[] #[]] ++ lb, W1, ?_, ?_, ?_, ?_, fun h => by simp [Fence.wide] at h, ?_⟩
  · rw [← hW1, hrec]; exact run_enterLoop_outer _ _ _ _ _
  · simp only [resolve, hg]
    simp [go_sem]
  · intro f' hf'; trivial
  · simp [invoke, go_sem, eg]
  · refine callsIn_wide.2 ?_
    refine (hit W1 hf1 (w.heap.size + 1)
      (fun s k W => I (max s (w.heap.size + 2)) k W ∧ W.heap[w.heap.size + 1]? = some (.loop (rec .ready none)) ∧ W.heap[w.heap.size]? = some (.deferred (some [])))
      (fun s W => ∃ c, Ix c (max s (w.heap.size + 2)) W ∧ W.heap[w.heap.size + 1]? = some (.loop (rec .done (some c))) ∧ W.heap[w.heap.size]? = some (.deferred (some []))) ?_ (fun s k W W' hf hj => ⟨hIf _ _ _ _ hf hj.1, hf.block hj.2.1, hf.block hj.2.2⟩) ?_).mono ?_
    · intro w1 hf
      have hsz := hf.size
      refine ⟨?_, hf.block hL1, hf.block hK1⟩
      rw [Nat.max_eq_left (by omega)]
      exact h0 w1 (hf1.trans hf) (by omega)
    · rintro s k W hs hsW hk ⟨hi, hl, hd⟩
      rw [hs1] at hs
      rw [Nat.max_eq_left hs] at hi
      have hlt : w.heap.size + 1 < W.heap.size := (Array.getElem?_eq_some_iff.1 hl).1
      have hy := run_yield (P := P) (args := args k) hl (by rw [hrec]; exact hps k hk)
      rw [hrec] at hy
      refine ⟨fn, _, assign, body, hy, roundIn_of_wpIn hfn ?_⟩
      clear hy
      refine wpIn_mono (hbody (w.heap.size + 1) s k W (by omega) (by omega) hs hsW hk hi ⟨_, hl⟩) ?_
      intro e a1 Wa hp
      cases e with
      | normal =>
        obtain ⟨hm, hp⟩ := hp
        have hla : Wa.heap[w.heap.size + 1]? = some (.loop (rec .ready none)) := (hm.2 _ (by omega) (by omega)).trans hl
        have hda : Wa.heap[w.heap.size]? = some (.deferred (some [])) := (hm.2 _ (by omega) (by omega)).trans hd
        have hlta : w.heap.size + 1 < Wa.heap.size := (Array.getElem?_eq_some_iff.1 hla).1
        refine ⟨_, run_beginRound hla (by rw [hrec]), ?_⟩
        have hl2 : (Wa.putObj (w.heap.size + 1) (.loop { rec .ready none with state := .busy })).heap[w.heap.size + 1]? = some (.loop { rec .ready none with state := .busy }) := World.putObj_heap_same hlta
        have hd2 : (Wa.putObj (w.heap.size + 1) (.loop { rec .ready none with state := .busy })).heap[w.heap.size]? = some (.deferred (some [])) := (World.putObj_heap_other (by omega)).trans hda
        refine wpIn_mono (hp _) ?_
        have fin : ∀ (jump : Option Code) (W3 : World), Mid w.heap.size s (Wa.putObj (w.heap.size + 1) (.loop { rec .ready none with state := .busy })) W3 →
            (Instr.endRound (w.heap.size + 1) jump).run P W3 = .ok (.bool jump.isNone) (W3.putObj (w.heap.size + 1) (.loop (rec (if jump.isNone then .ready else .done) jump))) ∧
            (W3.putObj (w.heap.size + 1) (.loop (rec (if jump.isNone then .ready else .done) jump))).heap[w.heap.size + 1]? = some (.loop (rec (if jump.isNone then .ready else .done) jump)) ∧
            (W3.putObj (w.heap.size + 1) (.loop (rec (if jump.isNone then .ready else .done) jump))).heap[w.heap.size]? = some (.deferred (some [])) := fun jump W3 hk3 => by
          have hl3 := (hk3.2 (w.heap.size + 1) (by omega) (by omega)).trans hl2
          have hd3 := (hk3.2 w.heap.size (by omega) (by omega)).trans hd2
          have := run_endRound (P := P) jump hl3
          rw [hrec] at this ⊢
          exact ⟨this, World.putObj_heap_same (Array.getElem?_eq_some_iff.1 hl3).1, (World.putObj_heap_other (by omega)).trans hd3⟩
        rintro e a3 W3 hp
        have hput : ∀ o o' : Obj, Mid w.heap.size s (Wa.putObj (w.heap.size + 1) o) W3 → Mid W1.heap.size s W (W3.putObj (w.heap.size + 1) o') := fun o o' hm3 =>
          ⟨by rw [World.putObj_size]; have h1 := hm3.1; rw [World.putObj_size] at h1; exact Nat.le_trans hm.1 h1, fun j h1 h2 => by
            rw [hs1] at h1
            rw [World.putObj_heap_other (by omega), hm3.2 j (by omega) h2, World.putObj_heap_other (by omega), hm.2 j (by omega) h2]⟩
        cases e with
        | normal =>
          obtain ⟨hm3, hi3⟩ := hp
          obtain ⟨hr, hl4, hd4⟩ := fin none W3 hm3
          exact ⟨_, _, hr, .inl ⟨rfl, ⟨by rw [Nat.max_eq_left hs]; exact hI s _ _ _ _ (by omega) (by omega) hs hi3, hl4, hd4⟩, hput _ _ hm3⟩⟩
        | ret =>
          obtain ⟨hm3, hi3⟩ := hp
          obtain ⟨hr, hl4, hd4⟩ := fin (some .ret) W3 hm3
          exact ⟨_, _, hr, .inr ⟨rfl, .ret, by rw [Nat.max_eq_left hs]; exact hIx _ s _ _ _ (by omega) (by omega) hs hi3, hl4, hd4⟩⟩
        | exit id =>
          obtain ⟨hm3, hi3⟩ := hp
          obtain ⟨hr, hl4, hd4⟩ := fin (some (.exit id)) W3 hm3
          exact ⟨_, _, hr, .inr ⟨rfl, .exit id, by rw [Nat.max_eq_left hs]; exact hIx _ s _ _ _ (by omega) (by omega) hs hi3, hl4, hd4⟩⟩
        | goto t =>
          obtain ⟨hm3, hi3⟩ := hp
          obtain ⟨hr, hl4, hd4⟩ := fin (some (.goto t)) W3 hm3
          exact ⟨_, _, hr, .inr ⟨rfl, .goto t, by rw [Nat.max_eq_left hs]; exact hIx _ s _ _ _ (by omega) (by omega) hs hi3, hl4, hd4⟩⟩
        | panic ch => exact hp.elim
        | outgrown => exact hp.elim
      | ret => exact hp.elim
      | exit id => exact hp.elim
      | goto t => exact hp.elim
      | panic ch => exact hp.elim
      | outgrown => exact hp.elim
    · rintro e W2 ⟨⟨v, rfl⟩, (⟨s, hi, hl, hd⟩ | ⟨s, c, hi, hl, hd⟩)⟩
      · exact ⟨none, _, by have := run_endLoop (P := P) hl (by rw [hrec]; simp); rw [hrec] at this; exact this, hdone _ _ (Nat.le_max_right _ _) (hI _ _ _ _ _ (by omega) (by omega) (Nat.le_max_right _ _) hi) ((World.putObj_heap_other (by omega)).trans hd)⟩
      · exact ⟨some c, _, by have := run_endLoop (P := P) hl (by rw [hrec]; simp); rw [hrec] at this; exact this, (wpIn_wide (n := 3)).2 (hstop _ c _ (Nat.le_max_right _ _) (hIx _ _ _ _ _ (by omega) (by omega) (Nat.le_max_right _ _) hi) ((World.putObj_heap_other (by omega)).trans hd))⟩
end Go.Proofs.YtkdnplebgmmclaaDoor
