/- Lists of values: SameValues, TwinValues, LeftValues; the order of tuples, of the program and of the reference. -/
import Derived.Test.YtlihkmldclocoaaDoorCmp
import Derived.Deep.QuietTactic
import Derived.BigQuiet
namespace Go.Proofs.YtlihkmldclocoaaDoor
open Go.RowKit
set_option linter.unusedSimpArgs false
set_option linter.unusedVariables false

instance : DecidableEq V := fun x y =>
  if h : x.k = y.k ∧ x.n = y.n ∧ x.s.toList = y.s.toList then
    .isTrue (by obtain ⟨k, n, s⟩ := x; obtain ⟨k', n', s'⟩ := y; simp only at h; obtain ⟨rfl, rfl, h⟩ := h; rw [ByteArray.toList_eq, ByteArray.toList_eq] at h; rw [WideShapes.bytes_inj h])
  else .isFalse (fun e => h (by subst e; exact ⟨rfl, rfl, rfl⟩))
theorem V.eq_iff (x y : V) : x = y ↔ x.k = y.k ∧ x.n = y.n ∧ x.s.toList = y.s.toList :=
  ⟨fun e => by subst e; exact ⟨rfl, rfl, rfl⟩, fun h => by obtain ⟨k, n, s⟩ := x; obtain ⟨k', n', s'⟩ := y; simp only at h; obtain ⟨rfl, rfl, h⟩ := h; rw [ByteArray.toList_eq, ByteArray.toList_eq] at h; rw [WideShapes.bytes_inj h]⟩

/-- Two structs held against each other. -/
theorem exec_eqV {o : Oper} {a : Act} {X Y : Operand} (ho : o.op = .binOp .eql 27 X Y 27) (x y : V) (hx : a.eval X = x.val) (hy : a.eval Y = y.val) (w : World) :
    (execOp a.eval o).run Tryd.prog w = .ok (.value (.bool (decide (x = y)))) w := by
  obtain ⟨k, n, s⟩ := x
  obtain ⟨k', n', s'⟩ := y
  unfold execOp
  rw [ho]
  simp only [hx, hy, V.val]
  by_cases h1 : k = k'
  · by_cases h2 : n = n'
    · by_cases h3 : s.toList = s'.toList
      · have hd : decide ((⟨k, n, s⟩ : V) = ⟨k', n', s'⟩) = true := decide_eq_true ((V.eq_iff _ _).2 ⟨h1, h2, h3⟩)
        rw [hd]
        go_simp
      · have hd : decide ((⟨k, n, s⟩ : V) = ⟨k', n', s'⟩) = false := decide_eq_false fun e => h3 ((V.eq_iff _ _).1 e).2.2
        rw [hd]
        go_simp
    · have hd : decide ((⟨k, n, s⟩ : V) = ⟨k', n', s'⟩) = false := decide_eq_false fun e => h2 ((V.eq_iff _ _).1 e).2.1
      have h2' : (n == n') = false := by simpa using h2
      rw [hd]
      go_simp
  · have hd : decide ((⟨k, n, s⟩ : V) = ⟨k', n', s'⟩) = false := decide_eq_false fun e => h1 ((V.eq_iff _ _).1 e).1
    have h1' : (k == k') = false := by simpa using h1
    rw [hd]
    go_simp
theorem exec_neV {o : Oper} {a : Act} {X Y : Operand} (ho : o.op = .binOp .neq 27 X Y 27) (x y : V) (hx : a.eval X = x.val) (hy : a.eval Y = y.val) (w : World) :
    (execOp a.eval o).run Tryd.prog w = .ok (.value (.bool (!decide (x = y)))) w := by
  obtain ⟨k, n, s⟩ := x
  obtain ⟨k', n', s'⟩ := y
  unfold execOp
  rw [ho]
  simp only [hx, hy, V.val]
  by_cases h1 : k = k'
  · by_cases h2 : n = n'
    · by_cases h3 : s.toList = s'.toList
      · have hd : decide ((⟨k, n, s⟩ : V) = ⟨k', n', s'⟩) = true := decide_eq_true ((V.eq_iff _ _).2 ⟨h1, h2, h3⟩)
        rw [hd]
        go_simp
      · have hd : decide ((⟨k, n, s⟩ : V) = ⟨k', n', s'⟩) = false := decide_eq_false fun e => h3 ((V.eq_iff _ _).1 e).2.2
        rw [hd]
        go_simp
    · have hd : decide ((⟨k, n, s⟩ : V) = ⟨k', n', s'⟩) = false := decide_eq_false fun e => h2 ((V.eq_iff _ _).1 e).2.1
      have h2' : (n == n') = false := by simpa using h2
      rw [hd]
      go_simp
  · have hd : decide ((⟨k, n, s⟩ : V) = ⟨k', n', s'⟩) = false := decide_eq_false fun e => h1 ((V.eq_iff _ _).1 e).1
    have h1' : (k == k') = false := by simpa using h1
    rw [hd]
    go_simp

theorem Vals.at_ {w : World} {A : Option Addr} {n cap : Nat} {xs : List V} (h : Vals w (.slice A n cap) xs) {k : Nat} (hk : k < xs.length) :
    ∃ b off, A = some ⟨b, off, none⟩ ∧ (xs[k]).ok ∧ w.cell? ⟨b, off + k * 3, none⟩ = some (.int .i8 (xs[k]).k) ∧ w.cell? ⟨b, off + k * 3 + 1, none⟩ = some (.int .i64 (xs[k]).n) ∧ w.cell? ⟨b, off + k * 3 + 2, none⟩ = some (.string (xs[k]).s) := by
  obtain ⟨A', cap', hv, _, _, h3⟩ := h
  obtain ⟨b, off, cs, hA, hl, hc, hr, hok⟩ := h3 k _ (List.getElem?_eq_getElem hk)
  injection hv with hv _ _
  subst hr
  exact ⟨b, off, hv.trans hA, hok, hc 0 _ rfl, hc 1 _ rfl, hc 2 _ rfl⟩

theorem take_succ_eq {xs ys : List V} {k : Nat} (hx : k < xs.length) (hy : k < ys.length) (h : xs.take k = ys.take k) (he : xs[k] = ys[k]) : xs.take (k + 1) = ys.take (k + 1) := by
  rw [List.take_succ_eq_append_getElem hx, List.take_succ_eq_append_getElem hy, h, he]

set_option maxHeartbeats 400000 in
theorem same_any (a b : Value) (xs ys : List V) (w : World) (ha : Vals w a xs) (hb : Vals w b ys) :
    Calls Tryd.prog 32 #[a, b] w fun e w' => e = .returned (.bool (decide (xs = ys))) ∧ Fut w w' := by
  obtain ⟨A, cap, rfl, hl, hm⟩ := SlRep.form ha
  obtain ⟨B, cap', rfl, hl', hm'⟩ := SlRep.form hb
  by_cases hn : xs.length = ys.length
  · have hne : (((xs.length : Nat) : Int) != (ys.length : Nat)) = false := by rw [hn, bne_self_eq_false]
    have HN := Lib.hid hn
    have hle : xs.length ≤ ys.length := by omega
    clear hn
    go_enter Tryd.func32, Tryd.ntmps32
    go_wp2
    go_loopw [5] (fun i wr => ∃ k : Nat, k ≤ xs.length ∧ i = .int .i64 k ∧ Hid (xs.take k = ys.take k) ∧ Hid (Fut w wr)) (fun i _ => xs.length - (intOf i).toNat)
    case atStart => exact ⟨0, Nat.zero_le _, rfl, rfl, Fut.refl w⟩
    case round =>
      obtain ⟨k, hk, rfl, ht, hf⟩ := hrel
      by_cases hlt : k < xs.length
      · have hlt' : k < ys.length := by omega
        obtain ⟨b, off, rfl, _, x0, x1, x2⟩ := Vals.at_ (ha.fut RV.stays hf.out) hlt
        obtain ⟨b', off', rfl, _, y0, y1, y2⟩ := Vals.at_ (hb.fut RV.stays hf.out) hlt'
        by_cases he : xs[k] = ys[k]
        · have hd : decide (xs[k] = ys[k]) = true := decide_eq_true he
          have HE := Lib.hid he
          clear he
          go_wp2
          refine wp_graph 9 [.d, .d, .d, .d, .d, .d, .d, .d, .d] (by kernel_rfl) (by kernel_rfl) (by kernel_rfl) ?_
          simp only [List.take_succ_cons, List.take_zero, List.drop_succ_cons, List.drop_zero, Exs]
          iterate 9 apply Exists.intro
          apply Run.valG (wanted_none rfl _)
          · intro w1 h1 hk
            have q0 := h1.cell x0; have q1 := h1.cell x1; have q2 := h1.cell x2; have r0 := h1.cell y0; have r1 := h1.cell y1; have r2 := h1.cell y2
            have hcw := fun b o => Below.cell (p := ⟨b, o, none⟩) h1
            go_simp; rfl
          simp only [Act.put, List.setIfInBounds_toArray, List.set_cons_succ, List.set_cons_zero, List.nil_append, List.cons_append]
          apply Run.valG (wanted_none rfl _)
          · intro w1 h1 hk
            have q0 := h1.cell x0; have q1 := h1.cell x1; have q2 := h1.cell x2; have r0 := h1.cell y0; have r1 := h1.cell y1; have r2 := h1.cell y2
            have hcw := fun b o => Below.cell (p := ⟨b, o, none⟩) h1
            go_simp; rfl
          simp only [Act.put, List.setIfInBounds_toArray, List.set_cons_succ, List.set_cons_zero, List.nil_append, List.cons_append]
          apply Run.valG (wanted_none rfl _)
          · intro w1 h1 hk
            have q0 := h1.cell x0; have q1 := h1.cell x1; have q2 := h1.cell x2; have r0 := h1.cell y0; have r1 := h1.cell y1; have r2 := h1.cell y2
            have hcw := fun b o => Below.cell (p := ⟨b, o, none⟩) h1
            go_simp; rfl
          simp only [Act.put, List.setIfInBounds_toArray, List.set_cons_succ, List.set_cons_zero, List.nil_append, List.cons_append]
          apply Run.valG (wanted_none rfl _)
          · intro w1 h1 hk
            have q0 := h1.cell x0; have q1 := h1.cell x1; have q2 := h1.cell x2; have r0 := h1.cell y0; have r1 := h1.cell y1; have r2 := h1.cell y2
            have hcw := fun b o => Below.cell (p := ⟨b, o, none⟩) h1
            go_simp; rfl
          simp only [Act.put, List.setIfInBounds_toArray, List.set_cons_succ, List.set_cons_zero, List.nil_append, List.cons_append]
          apply Run.valG (wanted_none rfl _)
          · intro w1 h1 hk
            have q0 := h1.cell x0; have q1 := h1.cell x1; have q2 := h1.cell x2; have r0 := h1.cell y0; have r1 := h1.cell y1; have r2 := h1.cell y2
            have hcw := fun b o => Below.cell (p := ⟨b, o, none⟩) h1
            go_simp; rfl
          simp only [Act.put, List.setIfInBounds_toArray, List.set_cons_succ, List.set_cons_zero, List.nil_append, List.cons_append]
          apply Run.valG (wanted_none rfl _)
          · intro w1 h1 hk
            have q0 := h1.cell x0; have q1 := h1.cell x1; have q2 := h1.cell x2; have r0 := h1.cell y0; have r1 := h1.cell y1; have r2 := h1.cell y2
            have hcw := fun b o => Below.cell (p := ⟨b, o, none⟩) h1
            go_simp; rfl
          simp only [Act.put, List.setIfInBounds_toArray, List.set_cons_succ, List.set_cons_zero, List.nil_append, List.cons_append]
          apply Run.valG (wanted_none rfl _)
          · intro w1 h1 hk
            have q0 := h1.cell x0; have q1 := h1.cell x1; have q2 := h1.cell x2; have r0 := h1.cell y0; have r1 := h1.cell y1; have r2 := h1.cell y2
            have hcw := fun b o => Below.cell (p := ⟨b, o, none⟩) h1
            go_simp; rfl
          simp only [Act.put, List.setIfInBounds_toArray, List.set_cons_succ, List.set_cons_zero, List.nil_append, List.cons_append]
          apply Run.valG (wanted_none rfl _)
          · intro w1 h1 hk
            have q0 := h1.cell x0; have q1 := h1.cell x1; have q2 := h1.cell x2; have r0 := h1.cell y0; have r1 := h1.cell y1; have r2 := h1.cell y2
            have hcw := fun b o => Below.cell (p := ⟨b, o, none⟩) h1
            go_simp; rfl
          simp only [Act.put, List.setIfInBounds_toArray, List.set_cons_succ, List.set_cons_zero, List.nil_append, List.cons_append]
          apply Run.valG (wanted_none rfl _)
          · intro w1 h1 hk
            have q0 := h1.cell x0; have q1 := h1.cell x1; have q2 := h1.cell x2; have r0 := h1.cell y0; have r1 := h1.cell y1; have r2 := h1.cell y2
            have hcw := fun b o => Below.cell (p := ⟨b, o, none⟩) h1
            exact (exec_neV rfl xs[k] ys[k] rfl rfl w1).trans (by rw [hd, Bool.not_true])
          simp only [Act.put, List.setIfInBounds_toArray, List.set_cons_succ, List.set_cons_zero, List.nil_append, List.cons_append]
          apply Run.done
          intro w2 h2 hk
          clear hk
          go_wp2
          go_roundw
          case rel => exact ⟨k + 1, by omega, by go_num, take_succ_eq hlt hlt' ht.out HE.out, hf.out.trans ((Fut.drew _).trans h2)⟩
          case measure => simp [intOf]; omega
        · have hd : decide (xs[k] = ys[k]) = false := decide_eq_false he
          have HE := Lib.hid he
          clear he
          go_wp2
          refine wp_graph 9 [.d, .d, .d, .d, .d, .d, .d, .d, .d] (by kernel_rfl) (by kernel_rfl) (by kernel_rfl) ?_
          simp only [List.take_succ_cons, List.take_zero, List.drop_succ_cons, List.drop_zero, Exs]
          iterate 9 apply Exists.intro
          apply Run.valG (wanted_none rfl _)
          · intro w1 h1 hk
            have q0 := h1.cell x0; have q1 := h1.cell x1; have q2 := h1.cell x2; have r0 := h1.cell y0; have r1 := h1.cell y1; have r2 := h1.cell y2
            have hcw := fun b o => Below.cell (p := ⟨b, o, none⟩) h1
            go_simp; rfl
          simp only [Act.put, List.setIfInBounds_toArray, List.set_cons_succ, List.set_cons_zero, List.nil_append, List.cons_append]
          apply Run.valG (wanted_none rfl _)
          · intro w1 h1 hk
            have q0 := h1.cell x0; have q1 := h1.cell x1; have q2 := h1.cell x2; have r0 := h1.cell y0; have r1 := h1.cell y1; have r2 := h1.cell y2
            have hcw := fun b o => Below.cell (p := ⟨b, o, none⟩) h1
            go_simp; rfl
          simp only [Act.put, List.setIfInBounds_toArray, List.set_cons_succ, List.set_cons_zero, List.nil_append, List.cons_append]
          apply Run.valG (wanted_none rfl _)
          · intro w1 h1 hk
            have q0 := h1.cell x0; have q1 := h1.cell x1; have q2 := h1.cell x2; have r0 := h1.cell y0; have r1 := h1.cell y1; have r2 := h1.cell y2
            have hcw := fun b o => Below.cell (p := ⟨b, o, none⟩) h1
            go_simp; rfl
          simp only [Act.put, List.setIfInBounds_toArray, List.set_cons_succ, List.set_cons_zero, List.nil_append, List.cons_append]
          apply Run.valG (wanted_none rfl _)
          · intro w1 h1 hk
            have q0 := h1.cell x0; have q1 := h1.cell x1; have q2 := h1.cell x2; have r0 := h1.cell y0; have r1 := h1.cell y1; have r2 := h1.cell y2
            have hcw := fun b o => Below.cell (p := ⟨b, o, none⟩) h1
            go_simp; rfl
          simp only [Act.put, List.setIfInBounds_toArray, List.set_cons_succ, List.set_cons_zero, List.nil_append, List.cons_append]
          apply Run.valG (wanted_none rfl _)
          · intro w1 h1 hk
            have q0 := h1.cell x0; have q1 := h1.cell x1; have q2 := h1.cell x2; have r0 := h1.cell y0; have r1 := h1.cell y1; have r2 := h1.cell y2
            have hcw := fun b o => Below.cell (p := ⟨b, o, none⟩) h1
            go_simp; rfl
          simp only [Act.put, List.setIfInBounds_toArray, List.set_cons_succ, List.set_cons_zero, List.nil_append, List.cons_append]
          apply Run.valG (wanted_none rfl _)
          · intro w1 h1 hk
            have q0 := h1.cell x0; have q1 := h1.cell x1; have q2 := h1.cell x2; have r0 := h1.cell y0; have r1 := h1.cell y1; have r2 := h1.cell y2
            have hcw := fun b o => Below.cell (p := ⟨b, o, none⟩) h1
            go_simp; rfl
          simp only [Act.put, List.setIfInBounds_toArray, List.set_cons_succ, List.set_cons_zero, List.nil_append, List.cons_append]
          apply Run.valG (wanted_none rfl _)
          · intro w1 h1 hk
            have q0 := h1.cell x0; have q1 := h1.cell x1; have q2 := h1.cell x2; have r0 := h1.cell y0; have r1 := h1.cell y1; have r2 := h1.cell y2
            have hcw := fun b o => Below.cell (p := ⟨b, o, none⟩) h1
            go_simp; rfl
          simp only [Act.put, List.setIfInBounds_toArray, List.set_cons_succ, List.set_cons_zero, List.nil_append, List.cons_append]
          apply Run.valG (wanted_none rfl _)
          · intro w1 h1 hk
            have q0 := h1.cell x0; have q1 := h1.cell x1; have q2 := h1.cell x2; have r0 := h1.cell y0; have r1 := h1.cell y1; have r2 := h1.cell y2
            have hcw := fun b o => Below.cell (p := ⟨b, o, none⟩) h1
            go_simp; rfl
          simp only [Act.put, List.setIfInBounds_toArray, List.set_cons_succ, List.set_cons_zero, List.nil_append, List.cons_append]
          apply Run.valG (wanted_none rfl _)
          · intro w1 h1 hk
            have q0 := h1.cell x0; have q1 := h1.cell x1; have q2 := h1.cell x2; have r0 := h1.cell y0; have r1 := h1.cell y1; have r2 := h1.cell y2
            have hcw := fun b o => Below.cell (p := ⟨b, o, none⟩) h1
            exact (exec_neV rfl xs[k] ys[k] rfl rfl w1).trans (by rw [hd, Bool.not_false])
          simp only [Act.put, List.setIfInBounds_toArray, List.set_cons_succ, List.set_cons_zero, List.nil_append, List.cons_append]
          apply Run.done
          intro w2 h2 hk
          clear hk
          go_wp2
          go_ret
          refine ⟨?_, hf.out.trans ((Fut.drew _).trans h2)⟩
          rw [decide_eq_false (fun e => HE.out (by subst e; rfl))]
          rfl
      · obtain rfl : k = xs.length := by omega
        go_wp2
        go_ret
        refine ⟨?_, hf.out⟩
        rw [decide_eq_true (by have := ht.out; rwa [List.take_length, HN.out, List.take_length] at this)]
        rfl
  · have hne : (((xs.length : Nat) : Int) != (ys.length : Nat)) = true := by simp only [bne_iff_ne, ne_eq]; omega
    have HN := Lib.hid hn
    clear hn
    go_enter Tryd.func32, Tryd.ntmps32
    go_wp2
    go_ret
    refine ⟨?_, Fut.refl w⟩
    rw [decide_eq_false (fun e => HN.out (by rw [e]))]
    rfl

/-! ### The order of tuples -/
def cmpT : List V → List V → Int
  | [], [] => 0
  | [], _ :: _ => -1
  | _ :: _, [] => 1
  | x :: r, y :: q => if cmpV x y ≠ 0 then cmpV x y else cmpT r q
theorem cmpT_drop : ∀ (k : Nat) (xs ys : List V), k ≤ xs.length → k ≤ ys.length → (∀ i (hi : i < k) (hx : i < xs.length) (hy : i < ys.length), cmpV xs[i] ys[i] = 0) → cmpT xs ys = cmpT (xs.drop k) (ys.drop k)
  | 0, _, _, _, _, _ => rfl
  | k + 1, [], _, h, _, _ => by simp at h
  | k + 1, _ :: _, [], _, h, _ => by simp at h
  | k + 1, x :: r, y :: q, h, h', hz => by
    have h0 : cmpV x y = 0 := hz 0 (by omega) (by simp) (by simp)
    rw [cmpT, if_neg (by rw [h0]; simp), List.drop_succ_cons, List.drop_succ_cons]
    refine cmpT_drop k r q (by simpa using h) (by simpa using h') fun i hi hx hy => ?_
    have := hz (i + 1) (by omega) (by simp; omega) (by simp; omega)
    simpa using this
theorem cmpT_step {xs ys : List V} {k : Nat} (hx : k < xs.length) (hy : k < ys.length) (hz : ∀ i (_ : i < k) (hx : i < xs.length) (hy : i < ys.length), cmpV xs[i] ys[i] = 0) (h : cmpV xs[k] ys[k] ≠ 0) : cmpT xs ys = cmpV xs[k] ys[k] := by
  rw [cmpT_drop k xs ys (by omega) (by omega) hz, List.drop_eq_getElem_cons hx, List.drop_eq_getElem_cons hy, cmpT, if_pos h]
theorem cmpT_end {xs ys : List V} {k : Nat} (hk : k = xs.length ∨ k = ys.length) (hx : k ≤ xs.length) (hy : k ≤ ys.length) (hz : ∀ i (_ : i < k) (hx : i < xs.length) (hy : i < ys.length), cmpV xs[i] ys[i] = 0) :
    cmpT xs ys = if xs.length < ys.length then -1 else if ys.length < xs.length then 1 else 0 := by
  rw [cmpT_drop k xs ys hx hy hz]
  rcases hk with rfl | rfl
  · rw [List.drop_length]
    rcases Nat.lt_or_ge xs.length ys.length with h | h
    · rw [if_pos h, List.drop_eq_getElem_cons h]; rfl
    · rw [if_neg (by omega), if_neg (by omega), List.drop_eq_nil_of_le h]; rfl
  · rw [List.drop_length]
    rcases Nat.lt_or_ge ys.length xs.length with h | h
    · rw [if_neg (by omega), if_pos h, List.drop_eq_getElem_cons h]; rfl
    · rw [if_neg (by omega), if_neg (by omega), List.drop_eq_nil_of_le h]; rfl

set_option maxHeartbeats 800000 in
theorem rcmpT_any (a b : Value) (xs ys : List V) (w : World) (ha : Vals w a xs) (hb : Vals w b ys) :
    Calls Tryd.prog 54 #[a, b] w fun e w' => e = .returned (.int .i64 (cmpT xs ys)) ∧ Fut w w' := by
  obtain ⟨A, cap, rfl, hl, hm⟩ := SlRep.form ha
  obtain ⟨B, cap', rfl, hl', hm'⟩ := SlRep.form hb
  go_enter Tryd.func54, Tryd.ntmps54
  go_wp2
  go_loopw [5] (fun i wr => ∃ k : Nat, k ≤ xs.length ∧ k ≤ ys.length ∧ i = .int .i64 k ∧ Hid (∀ i (_ : i < k) (hx : i < xs.length) (hy : i < ys.length), cmpV xs[i] ys[i] = 0) ∧ Hid (Fut w wr)) (fun i _ => xs.length - (intOf i).toNat)
  case atStart => exact ⟨0, Nat.zero_le _, Nat.zero_le _, rfl, fun i hi => absurd hi (by omega), Fut.refl w⟩
  case round =>
    obtain ⟨k, hk, hk', rfl, hz, hf⟩ := hrel
    by_cases hlt : k < xs.length
    · by_cases hlt' : k < ys.length
      · obtain ⟨b, off, rfl, _, x0, x1, x2⟩ := Vals.at_ (ha.fut RV.stays hf.out) hlt
        obtain ⟨b', off', rfl, _, y0, y1, y2⟩ := Vals.at_ (hb.fut RV.stays hf.out) hlt'
        by_cases he : cmpV xs[k] ys[k] = 0
        · have hd : (cmpV xs[k] ys[k] != 0) = false := by simpa using he
          have HE := Lib.hid he
          clear he
          go_wp2
          refine wp_graph 10 [.d, .d, .d, .d, .d, .d, .d, .d, .d, .d] (by kernel_rfl) (by kernel_rfl) (by kernel_rfl) ?_
          simp only [List.take_succ_cons, List.take_zero, List.drop_succ_cons, List.drop_zero, Exs]
          iterate 10 apply Exists.intro
          apply Run.valG (wanted_none rfl _)
          · intro w1 h1 hk
            have q0 := h1.cell x0; have q1 := h1.cell x1; have q2 := h1.cell x2; have r0 := h1.cell y0; have r1 := h1.cell y1; have r2 := h1.cell y2
            have hcw := fun b o => Below.cell (p := ⟨b, o, none⟩) h1
            go_simp; rfl
          simp only [Act.put, List.setIfInBounds_toArray, List.set_cons_succ, List.set_cons_zero, List.nil_append, List.cons_append]
          apply Run.valG (wanted_none rfl _)
          · intro w1 h1 hk
            have q0 := h1.cell x0; have q1 := h1.cell x1; have q2 := h1.cell x2; have r0 := h1.cell y0; have r1 := h1.cell y1; have r2 := h1.cell y2
            have hcw := fun b o => Below.cell (p := ⟨b, o, none⟩) h1
            go_simp; rfl
          simp only [Act.put, List.setIfInBounds_toArray, List.set_cons_succ, List.set_cons_zero, List.nil_append, List.cons_append]
          apply Run.valG (wanted_none rfl _)
          · intro w1 h1 hk
            have q0 := h1.cell x0; have q1 := h1.cell x1; have q2 := h1.cell x2; have r0 := h1.cell y0; have r1 := h1.cell y1; have r2 := h1.cell y2
            have hcw := fun b o => Below.cell (p := ⟨b, o, none⟩) h1
            go_simp; rfl
          simp only [Act.put, List.setIfInBounds_toArray, List.set_cons_succ, List.set_cons_zero, List.nil_append, List.cons_append]
          apply Run.valG (wanted_none rfl _)
          · intro w1 h1 hk
            have q0 := h1.cell x0; have q1 := h1.cell x1; have q2 := h1.cell x2; have r0 := h1.cell y0; have r1 := h1.cell y1; have r2 := h1.cell y2
            have hcw := fun b o => Below.cell (p := ⟨b, o, none⟩) h1
            go_simp; rfl
          simp only [Act.put, List.setIfInBounds_toArray, List.set_cons_succ, List.set_cons_zero, List.nil_append, List.cons_append]
          apply Run.valG (wanted_none rfl _)
          · intro w1 h1 hk
            have q0 := h1.cell x0; have q1 := h1.cell x1; have q2 := h1.cell x2; have r0 := h1.cell y0; have r1 := h1.cell y1; have r2 := h1.cell y2
            have hcw := fun b o => Below.cell (p := ⟨b, o, none⟩) h1
            go_simp; rfl
          simp only [Act.put, List.setIfInBounds_toArray, List.set_cons_succ, List.set_cons_zero, List.nil_append, List.cons_append]
          apply Run.valG (wanted_none rfl _)
          · intro w1 h1 hk
            have q0 := h1.cell x0; have q1 := h1.cell x1; have q2 := h1.cell x2; have r0 := h1.cell y0; have r1 := h1.cell y1; have r2 := h1.cell y2
            have hcw := fun b o => Below.cell (p := ⟨b, o, none⟩) h1
            go_simp; rfl
          simp only [Act.put, List.setIfInBounds_toArray, List.set_cons_succ, List.set_cons_zero, List.nil_append, List.cons_append]
          apply Run.valG (wanted_none rfl _)
          · intro w1 h1 hk
            have q0 := h1.cell x0; have q1 := h1.cell x1; have q2 := h1.cell x2; have r0 := h1.cell y0; have r1 := h1.cell y1; have r2 := h1.cell y2
            have hcw := fun b o => Below.cell (p := ⟨b, o, none⟩) h1
            go_simp; rfl
          simp only [Act.put, List.setIfInBounds_toArray, List.set_cons_succ, List.set_cons_zero, List.nil_append, List.cons_append]
          apply Run.valG (wanted_none rfl _)
          · intro w1 h1 hk
            have q0 := h1.cell x0; have q1 := h1.cell x1; have q2 := h1.cell x2; have r0 := h1.cell y0; have r1 := h1.cell y1; have r2 := h1.cell y2
            have hcw := fun b o => Below.cell (p := ⟨b, o, none⟩) h1
            go_simp; rfl
          simp only [Act.put, List.setIfInBounds_toArray, List.set_cons_succ, List.set_cons_zero, List.nil_append, List.cons_append]
          apply Run.call (wanted_none rfl _) (fun _ _ => by go_simp; exact ⟨rfl, rfl⟩)
          · intro w1 h1 hk
            have q0 := h1.cell x0; have q1 := h1.cell x1; have q2 := h1.cell x2; have r0 := h1.cell y0; have r1 := h1.cell y1; have r2 := h1.cell y2
            exact rcompare_any xs[k] ys[k] _
          simp only [Act.put, List.setIfInBounds_toArray, List.set_cons_succ, List.set_cons_zero, List.nil_append, List.cons_append]
          apply Run.valG (wanted_none rfl _)
          · intro w1 h1 hk
            have q0 := h1.cell x0; have q1 := h1.cell x1; have q2 := h1.cell x2; have r0 := h1.cell y0; have r1 := h1.cell y1; have r2 := h1.cell y2
            have hcw := fun b o => Below.cell (p := ⟨b, o, none⟩) h1
            go_simp; rfl
          simp only [Act.put, List.setIfInBounds_toArray, List.set_cons_succ, List.set_cons_zero, List.nil_append, List.cons_append]
          apply Run.done
          intro w2 h2 hk
          clear hk
          go_wp2
          go_roundw
          case rel => exact ⟨k + 1, by omega, by omega, by go_num, fun i hi hx hy => by
            rcases Nat.lt_or_ge i k with h' | h'
            · exact hz.out i h' hx hy
            · obtain rfl : i = k := by omega
              exact HE.out, hf.out.trans ((Fut.drew _).trans h2)⟩
          case measure => simp [intOf]; omega
        · have hd : (cmpV xs[k] ys[k] != 0) = true := by simpa using he
          have HE := Lib.hid he
          clear he
          go_wp2
          refine wp_graph 10 [.d, .d, .d, .d, .d, .d, .d, .d, .d, .d] (by kernel_rfl) (by kernel_rfl) (by kernel_rfl) ?_
          simp only [List.take_succ_cons, List.take_zero, List.drop_succ_cons, List.drop_zero, Exs]
          iterate 10 apply Exists.intro
          apply Run.valG (wanted_none rfl _)
          · intro w1 h1 hk
            have q0 := h1.cell x0; have q1 := h1.cell x1; have q2 := h1.cell x2; have r0 := h1.cell y0; have r1 := h1.cell y1; have r2 := h1.cell y2
            have hcw := fun b o => Below.cell (p := ⟨b, o, none⟩) h1
            go_simp; rfl
          simp only [Act.put, List.setIfInBounds_toArray, List.set_cons_succ, List.set_cons_zero, List.nil_append, List.cons_append]
          apply Run.valG (wanted_none rfl _)
          · intro w1 h1 hk
            have q0 := h1.cell x0; have q1 := h1.cell x1; have q2 := h1.cell x2; have r0 := h1.cell y0; have r1 := h1.cell y1; have r2 := h1.cell y2
            have hcw := fun b o => Below.cell (p := ⟨b, o, none⟩) h1
            go_simp; rfl
          simp only [Act.put, List.setIfInBounds_toArray, List.set_cons_succ, List.set_cons_zero, List.nil_append, List.cons_append]
          apply Run.valG (wanted_none rfl _)
          · intro w1 h1 hk
            have q0 := h1.cell x0; have q1 := h1.cell x1; have q2 := h1.cell x2; have r0 := h1.cell y0; have r1 := h1.cell y1; have r2 := h1.cell y2
            have hcw := fun b o => Below.cell (p := ⟨b, o, none⟩) h1
            go_simp; rfl
          simp only [Act.put, List.setIfInBounds_toArray, List.set_cons_succ, List.set_cons_zero, List.nil_append, List.cons_append]
          apply Run.valG (wanted_none rfl _)
          · intro w1 h1 hk
            have q0 := h1.cell x0; have q1 := h1.cell x1; have q2 := h1.cell x2; have r0 := h1.cell y0; have r1 := h1.cell y1; have r2 := h1.cell y2
            have hcw := fun b o => Below.cell (p := ⟨b, o, none⟩) h1
            go_simp; rfl
          simp only [Act.put, List.setIfInBounds_toArray, List.set_cons_succ, List.set_cons_zero, List.nil_append, List.cons_append]
          apply Run.valG (wanted_none rfl _)
          · intro w1 h1 hk
            have q0 := h1.cell x0; have q1 := h1.cell x1; have q2 := h1.cell x2; have r0 := h1.cell y0; have r1 := h1.cell y1; have r2 := h1.cell y2
            have hcw := fun b o => Below.cell (p := ⟨b, o, none⟩) h1
            go_simp; rfl
          simp only [Act.put, List.setIfInBounds_toArray, List.set_cons_succ, List.set_cons_zero, List.nil_append, List.cons_append]
          apply Run.valG (wanted_none rfl _)
          · intro w1 h1 hk
            have q0 := h1.cell x0; have q1 := h1.cell x1; have q2 := h1.cell x2; have r0 := h1.cell y0; have r1 := h1.cell y1; have r2 := h1.cell y2
            have hcw := fun b o => Below.cell (p := ⟨b, o, none⟩) h1
            go_simp; rfl
          simp only [Act.put, List.setIfInBounds_toArray, List.set_cons_succ, List.set_cons_zero, List.nil_append, List.cons_append]
          apply Run.valG (wanted_none rfl _)
          · intro w1 h1 hk
            have q0 := h1.cell x0; have q1 := h1.cell x1; have q2 := h1.cell x2; have r0 := h1.cell y0; have r1 := h1.cell y1; have r2 := h1.cell y2
            have hcw := fun b o => Below.cell (p := ⟨b, o, none⟩) h1
            go_simp; rfl
          simp only [Act.put, List.setIfInBounds_toArray, List.set_cons_succ, List.set_cons_zero, List.nil_append, List.cons_append]
          apply Run.valG (wanted_none rfl _)
          · intro w1 h1 hk
            have q0 := h1.cell x0; have q1 := h1.cell x1; have q2 := h1.cell x2; have r0 := h1.cell y0; have r1 := h1.cell y1; have r2 := h1.cell y2
            have hcw := fun b o => Below.cell (p := ⟨b, o, none⟩) h1
            go_simp; rfl
          simp only [Act.put, List.setIfInBounds_toArray, List.set_cons_succ, List.set_cons_zero, List.nil_append, List.cons_append]
          apply Run.call (wanted_none rfl _) (fun _ _ => by go_simp; exact ⟨rfl, rfl⟩)
          · intro w1 h1 hk
            have q0 := h1.cell x0; have q1 := h1.cell x1; have q2 := h1.cell x2; have r0 := h1.cell y0; have r1 := h1.cell y1; have r2 := h1.cell y2
            exact rcompare_any xs[k] ys[k] _
          simp only [Act.put, List.setIfInBounds_toArray, List.set_cons_succ, List.set_cons_zero, List.nil_append, List.cons_append]
          apply Run.valG (wanted_none rfl _)
          · intro w1 h1 hk
            have q0 := h1.cell x0; have q1 := h1.cell x1; have q2 := h1.cell x2; have r0 := h1.cell y0; have r1 := h1.cell y1; have r2 := h1.cell y2
            have hcw := fun b o => Below.cell (p := ⟨b, o, none⟩) h1
            go_simp; rfl
          simp only [Act.put, List.setIfInBounds_toArray, List.set_cons_succ, List.set_cons_zero, List.nil_append, List.cons_append]
          apply Run.done
          intro w2 h2 hk
          clear hk
          go_wp2
          go_ret
          refine ⟨?_, hf.out.trans ((Fut.drew _).trans h2)⟩
          rw [cmpT_step hlt hlt' hz.out HE.out]
          rfl
      · have hkl := Lib.hid (cmpT_end (k := k) (xs := xs) (ys := ys) (.inr (by omega)) hk hk' hz.out)
        go_wp2
        all_goals go_ret
        all_goals refine ⟨?_, hf.out⟩
        all_goals first | (rw [hkl.out, if_pos (by omega)]; rfl) | (rw [hkl.out, if_neg (by omega), if_pos (by omega)]; rfl) | (rw [hkl.out, if_neg (by omega), if_neg (by omega)]; rfl)
    · have hkl := Lib.hid (cmpT_end (k := k) (xs := xs) (ys := ys) (.inl (by omega)) hk hk' hz.out)
      go_wp2
      all_goals go_ret
      all_goals refine ⟨?_, hf.out⟩
      all_goals first | (rw [hkl.out, if_pos (by omega)]; rfl) | (rw [hkl.out, if_neg (by omega), if_pos (by omega)]; rfl) | (rw [hkl.out, if_neg (by omega), if_neg (by omega)]; rfl)

set_option maxHeartbeats 800000 in
theorem cmpFunc_any (a b : Value) (xs ys : List V) (w : World) (ha : Vals w a xs) (hb : Vals w b ys) :
    Calls Tryd.prog 92 #[a, b, .func (.func 50) #[] #[]] w fun e w' => e = .returned (.int .i64 (cmpT xs ys)) ∧ Fut w w' := by
  obtain ⟨A, cap, rfl, hl, hm⟩ := SlRep.form ha
  obtain ⟨B, cap', rfl, hl', hm'⟩ := SlRep.form hb
  go_enter Tryd.func92, Tryd.ntmps92
  go_wp2
  go_loopw [13] (fun i wr => ∃ k : Nat, k ≤ xs.length ∧ k ≤ ys.length ∧ i = .int .i64 k ∧ Hid (∀ i (_ : i < k) (hx : i < xs.length) (hy : i < ys.length), cmpV xs[i] ys[i] = 0) ∧ Hid (Fut w wr)) (fun i _ => xs.length - (intOf i).toNat)
  case atStart => exact ⟨0, Nat.zero_le _, Nat.zero_le _, rfl, fun i hi => absurd hi (by omega), Fut.refl w⟩
  case round =>
    obtain ⟨k, hk, hk', rfl, hz, hf⟩ := hrel
    by_cases hlt : k < xs.length
    · obtain ⟨b, off, rfl, _, x0, x1, x2⟩ := Vals.at_ (ha.fut RV.stays hf.out) hlt
      by_cases hlt' : k < ys.length
      · obtain ⟨b', off', rfl, _, y0, y1, y2⟩ := Vals.at_ (hb.fut RV.stays hf.out) hlt'
        have hb0 := lt_of_cell x0
        have hb0' := lt_of_cell y0
        simp only at hb0 hb0'
        by_cases he : cmpV xs[k] ys[k] = 0
        · have hd : (cmpV xs[k] ys[k] != 0) = false := by simpa using he
          have HE := Lib.hid he
          clear he
          go_wp2_with fail
          refine (compare_any xs[k] ys[k] _).mono ?_
          rintro e w1 ⟨rfl, h1⟩
          go_wp2
          go_roundw
          case rel => exact ⟨k + 1, by omega, by omega, by go_num, fun i hi hx hy => by
            rcases Nat.lt_or_ge i k with h' | h'
            · exact hz.out i h' hx hy
            · obtain rfl : i = k := by omega
              exact HE.out, hf.out.trans (((Fut.alloc _ _).trans (Fut.alloc _ _)).trans h1)⟩
          case measure => simp [intOf]; omega
        · have hd : (cmpV xs[k] ys[k] != 0) = true := by simpa using he
          have HE := Lib.hid he
          clear he
          go_wp2_with fail
          refine (compare_any xs[k] ys[k] _).mono ?_
          rintro e w1 ⟨rfl, h1⟩
          go_wp2
          go_ret
          refine ⟨?_, hf.out.trans (((Fut.alloc _ _).trans (Fut.alloc _ _)).trans h1)⟩
          rw [cmpT_step hlt hlt' hz.out HE.out]
          rfl
      · have hkl := Lib.hid (cmpT_end (k := k) (xs := xs) (ys := ys) (.inr (by omega)) hk hk' hz.out)
        go_wp2
        go_ret
        refine ⟨?_, hf.out.trans (Fut.alloc _ _)⟩
        rw [hkl.out, if_neg (by omega), if_pos (by omega)]
        rfl
    · have hkl := Lib.hid (cmpT_end (k := k) (xs := xs) (ys := ys) (.inl (by omega)) hk hk' hz.out)
      go_wp2
      all_goals go_ret
      all_goals refine ⟨?_, hf.out⟩
      all_goals first | (rw [hkl.out, if_pos (by omega)]; rfl) | (rw [hkl.out, if_neg (by omega), if_pos (by omega)]; rfl) | (rw [hkl.out, if_neg (by omega), if_neg (by omega)]; rfl)
set_option maxHeartbeats 400000 in
theorem cmpT_any (a b : Value) (xs ys : List V) (w : World) (ha : Vals w a xs) (hb : Vals w b ys) :
    Calls Tryd.prog 61 #[a, b] w fun e w' => e = .returned (.int .i64 (cmpT xs ys)) ∧ Fut w w' := by
  go_enter Tryd.func61, Tryd.ntmps61
  go_wp2_with fail
  refine (cmpFunc_any a b xs ys _ ha hb).mono ?_
  rintro e w1 ⟨rfl, h1⟩
  go_wp2
  go_ret
  exact ⟨rfl, h1⟩

end Go.Proofs.YtlihkmldclocoaaDoor
